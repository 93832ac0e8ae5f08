/- Part 3 of what the law's proof needs: words, walks of functions and plain facts. -/
import Derived.Test.YtlmglnobdcgbeaaGreatG01
import Derived.Test.YtlmglnobdcgbeaaGreatG02
set_option linter.unusedVariables false
set_option linter.unusedSimpArgs false
namespace Go.Proofs.YtlmglnobdcgbeaaGreat.P
open Go.RowKit Go.Proofs.YtlmglnobdcgbeaaGreatW.PrintWords Go.Proofs.YtlmglnobdcgbeaaGreatW.PrintLast Go.Proofs.YtlmglnobdcgbeaaGreatW.PrintMore
attribute [local go_sem] max2_int min2_int max_two min_two max_three min_three max_four min_four
def aB2.f (k : Nat) (aC : List (S67)) (aD : List Int) (a1 : Int) (a2 : Int) : Option (Int) := if 0 ≤ a1 then (if a1 < (aC.length : Int) then (if 0 ≤ a2 then (if a2 < (aC.length : Int) then ((aB3.f k aC aD a1).bind fun bO => ((aB3.f k aC aD a2).bind fun cE => (if 0 ≤ ((aA4 aC a1).f0) then (if ((aA4 aC a1).f0) < (aD.length : Int) then (if 0 ≤ ((aA4 aC a2).f0) then (if ((aA4 aC a2).f0) < (aD.length : Int) then ((aB9.f k (([wrap64 (((aA4 aC a1).f1) - ((aA4 aC a2).f1)), wrap64 (bO - cE), wrap64 ((rd aD ((aA4 aC a1).f0)) - (rd aD ((aA4 aC a2).f0))), wrap64 (a1 - a2)] : List Int))).bind fun iJ => (some iJ)) else (none)) else (none)) else (none)) else (none)))) else (none)) else (none)) else (none)) else (none)
theorem aB2.mono : ∀ a0 a1 a2 a3 k, LeO (aB2.f k a0 a1 a2 a3) (aB2.f (k + 1) a0 a1 a2 a3) := by
 intro a0 a1 a2 a3 k
 unfold aB2.f
 repeat' first
   | (with_reducible exact aB9.mono _ _)
   | (with_reducible exact aB3.mono _ _ _ _)
   | (with_reducible exact LeO.refl _)
   | (with_reducible exact LeO.none _)
   | (with_reducible refine LeO.ite ?_ ?_)
   | (with_reducible refine LeO.bind ?_ (fun _ => ?_))
   | exact aB9.mono _ _
   | exact aB3.mono _ _ _ _
   | exact LeO.none _
   | refine LeO.ite ?_ ?_
   | refine LeO.bind ?_ (fun _ => ?_)
def aB2.T1 : Bool × List (List Nat × List Nat) := (true, [([], []), ([0], [0]), ([1], [1]), ([], []), ([2, 3], [2, 3]), ([4], [4]), ([], []), ([6], [6]), ([7], [7]), ([], []), ([8, 9], [8, 9]), ([10], [10]), ([], []), ([], []), ([12, 5, 0, 1, 2, 3, 4, 5, 12, 13], [5, 12]), ([13, 11, 14, 0, 1, 2, 3, 4, 5, 6, 7, 8, 9, 10, 11, 12, 13, 14], [11, 13])])
def aB2.B1 : List Nat := [0, 1, 3, 0, 15, 31, 0, 64, 192, 0, 960, 1984, 0, 0, 12351, 32767]
theorem aB2.tab1 : rtab .any (opsOf Tryz.f80 1) = aB2.T1 := by kernel_rfl
theorem aB2.bits1 : waitsOk aB2.T1.2 aB2.B1 = true := by kernel_rfl
def aB2.T2 : Bool × List (List Nat × List Nat) := (true, [([], []), ([0], [0]), ([], []), ([2], [2]), ([1, 3], [1, 3]), ([], []), ([], []), ([5, 6], [5, 6]), ([], []), ([], []), ([8, 9, 7], [8, 9]), ([7, 10], [7, 10]), ([], []), ([12], [12]), ([13], [13]), ([], []), ([15], [15]), ([14, 16], [14, 16]), ([17], [17]), ([], []), ([19], [19]), ([20], [20]), ([], []), ([22], [22]), ([21, 23], [21, 23]), ([24], [24]), ([18, 25], [18, 25]), ([], []), ([], []), ([27, 28], [27, 28]), ([4, 11, 26, 29], [4, 11, 26, 29]), ([30, 10], [30]), ([31, 31, 0, 1, 2, 3, 4, 5, 6, 7, 8, 9, 10, 11, 12, 13, 14, 15, 16, 17, 18, 19, 20, 21, 22, 23, 24, 25, 26, 27, 28, 29, 30, 31], [31])])
def aB2.B2 : List Nat := [0, 1, 0, 4, 15, 0, 0, 96, 0, 0, 992, 2016, 0, 4096, 12288, 0, 32768, 126976, 258048, 0, 524288, 1572864, 0, 4194304, 16252928, 33030144, 67104768, 0, 0, 402653184, 1073741823, 2147483647, 4294967295]
theorem aB2.tab2 : rtab .any (opsOf Tryz.f80 2) = aB2.T2 := by kernel_rfl
theorem aB2.bits2 : waitsOk aB2.T2.2 aB2.B2 = true := by kernel_rfl
set_option maxHeartbeats 8000000 in
set_option maxRecDepth 100000 in
theorem aB2.calls (k : Nat) (aX : Option Addr) (aN : Nat) (aC : List (S67)) (aT : Option Addr) (aQ : Nat) (aD : List Int) (a1 : Int) (a2 : Int) (r : Int) (w : World) (hr0_0 : Kd.C k67 w aX aC.length aC) (dI : aC.length ≤ aN) (hr0_1 : Kd.C (Kd.int .i64) w aT aD.length aD) (dJ : aD.length ≤ aQ) (h : aB2.f k aC aD a1 a2 = some r) :
  Calls Tryz.prog 80 #[.agg #[.slice aX aC.length aN, .slice aT aD.length aQ], .int .i64 a1, .int .i64 a2] w fun e w' => e = .returned (.int .i64 r) ∧ Below w.heap.size w w' := by
 have hu99 := Tryz.underlying99
 have hu67 := Tryz.underlying67
 have dA := aM hr0_0
 have dK := aM dI
 clear hr0_0 dI
 have dB := aM hr0_1
 have dL := aM dJ
 clear hr0_1 dJ
 have HB := aM (Below.refl w.heap.size w)
 have H : (if 0 ≤ a1 then (if a1 < (aC.length : Int) then (if 0 ≤ a2 then (if a2 < (aC.length : Int) then ((aB3.f k aC aD a1).bind fun bO => ((aB3.f k aC aD a2).bind fun cE => (if 0 ≤ ((aA4 aC a1).f0) then (if ((aA4 aC a1).f0) < (aD.length : Int) then (if 0 ≤ ((aA4 aC a2).f0) then (if ((aA4 aC a2).f0) < (aD.length : Int) then ((aB9.f k (([wrap64 (((aA4 aC a1).f1) - ((aA4 aC a2).f1)), wrap64 (bO - cE), wrap64 ((rd aD ((aA4 aC a1).f0)) - (rd aD ((aA4 aC a2).f0))), wrap64 (a1 - a2)] : List Int))).bind fun iJ => (some iJ)) else (none)) else (none)) else (none)) else (none)))) else (none)) else (none)) else (none)) else (none)) = some r := h
 clear h
 by_cases c4 : 0 ≤ a1
 rotate_left
 ·rw [if_neg c4] at H
  exact absurd H (by simp)
 rw [if_pos c4] at H
 have gG : decide (0 ≤ a1) = true := decide_eq_true c4
 clear c4
 by_cases c5 : a1 < (aC.length : Int)
 rotate_left
 ·rw [if_neg c5] at H
  exact absurd H (by simp)
 rw [if_pos c5] at H
 have gN : decide (a1 < (aC.length : Int)) = true := decide_eq_true c5
 clear c5
 by_cases c6 : 0 ≤ a2
 rotate_left
 ·rw [if_neg c6] at H
  exact absurd H (by simp)
 rw [if_pos c6] at H
 have jR : decide (0 ≤ a2) = true := decide_eq_true c6
 clear c6
 by_cases c7 : a2 < (aC.length : Int)
 rotate_left
 ·rw [if_neg c7] at H
  exact absurd H (by simp)
 rw [if_pos c7] at H
 have gP : decide (a2 < (aC.length : Int)) = true := decide_eq_true c7
 clear c7
 obtain ⟨bO, A8, H⟩ := bi H
 obtain ⟨cE, A9, H⟩ := bi H
 by_cases c10 : 0 ≤ ((aA4 aC a1).f0)
 rotate_left
 ·rw [if_neg c10] at H
  exact absurd H (by simp)
 rw [if_pos c10] at H
 have lE : decide (0 ≤ ((aA4 aC a1).f0)) = true := decide_eq_true c10
 clear c10
 by_cases c11 : ((aA4 aC a1).f0) < (aD.length : Int)
 rotate_left
 ·rw [if_neg c11] at H
  exact absurd H (by simp)
 rw [if_pos c11] at H
 have jD : decide (((aA4 aC a1).f0) < (aD.length : Int)) = true := decide_eq_true c11
 clear c11
 by_cases c12 : 0 ≤ ((aA4 aC a2).f0)
 rotate_left
 ·rw [if_neg c12] at H
  exact absurd H (by simp)
 rw [if_pos c12] at H
 have jE : decide (0 ≤ ((aA4 aC a2).f0)) = true := decide_eq_true c12
 clear c12
 by_cases c13 : ((aA4 aC a2).f0) < (aD.length : Int)
 rotate_left
 ·rw [if_neg c13] at H
  exact absurd H (by simp)
 rw [if_pos c13] at H
 have pU : decide (((aA4 aC a2).f0) < (aD.length : Int)) = true := decide_eq_true c13
 clear c13
 obtain ⟨bN, fS⟩ : ∃ y_ : List Int, y_ = (([wrap64 (((aA4 aC a1).f1) - ((aA4 aC a2).f1)), wrap64 (bO - cE), wrap64 ((rd aD ((aA4 aC a1).f0)) - (rd aD ((aA4 aC a2).f0))), wrap64 (a1 - a2)] : List Int)) := ⟨_, rfl⟩
 replace H : Option.bind (aB9.f k bN) _ = some r := yy fS H
 have fT := aM fS
 clear fS
 obtain ⟨iJ, rN, H⟩ := bi H
 obtain rfl := Option.some.inj H
 go_enter Tryz.func80, Tryz.ntmps80
 try go_wp2_with (first | ((with_reducible refine gate_dst (N := 3) rfl ?_); refine bx 3 #[.slice aX aC.length aN, .slice aT aD.length aQ] 99 ?_; intro aI hg w15 hbox hb; have aA := hbox; have aY := gs HB hg; have eO := gs HB hg; replace HB := bs HB hb; clear hb hbox hg))
 replace aA := aM (blk_drew aA.out)
 replace HB := aM (below_drew1 HB.out)
 have gH : 0 ≤ (a1 : Int) := dT
 have gI : a1 < (aC.length : Int) := dT
 obtain ⟨aK, jS, dW, fJ, fK, fL⟩ := aD4 dA.out a1 gH gI
 have eD := fL
 have eE := fK
 have eF := fJ
 have eG := dW
 cases jS
 replace dW := cut_ HB dW
 replace fJ := cut_ HB fJ
 replace fK := cut_ HB fK
 replace fL := cut_ HB fL
 replace gH := eq_true gH
 replace gI := eq_true gI
 have jT : 0 ≤ (a2 : Int) := dT
 have jU : a2 < (aC.length : Int) := dT
 obtain ⟨lF, oG, fM, fN, fO, fP⟩ := aD4 dA.out a2 jT jU
 have eH := fP
 have eI := fO
 have eJ := fN
 have eK := fM
 obtain rfl : aK = lF := (by injection oG)
 replace fM := cut_ HB fM
 replace fN := cut_ HB fN
 replace fO := cut_ HB fO
 replace fP := cut_ HB fP
 replace jT := eq_true jT
 replace jU := eq_true jU
 refine start_ (n := 16) (S := fun w' => w'.cell? ⟨aI, 0, none⟩ = some (.slice (some aK) aC.length aN) ∧ w'.cell? ⟨aI, 1, none⟩ = some (.slice aT aD.length aQ) ∧ w'.cell? (aK.add ((a1).toNat * 4)) = some (.int .i64 ((aA4 aC a1).f0)) ∧ w'.cell? ⟨(aK.add ((a1).toNat * 4)).block, (aK.add ((a1).toNat * 4)).off + 1, none⟩ = some (.int .i64 ((aA4 aC a1).f1)) ∧ w'.cell? ⟨(aK.add ((a1).toNat * 4)).block, (aK.add ((a1).toNat * 4)).off + 2, none⟩ = some (.int .i64 ((aA4 aC a1).f2.f0)) ∧ w'.cell? ⟨(aK.add ((a1).toNat * 4)).block, (aK.add ((a1).toNat * 4)).off + 3, none⟩ = some (.int .i64 ((aA4 aC a1).f2.f1)) ∧ w'.cell? (aK.add ((a2).toNat * 4)) = some (.int .i64 ((aA4 aC a2).f0)) ∧ w'.cell? ⟨(aK.add ((a2).toNat * 4)).block, (aK.add ((a2).toNat * 4)).off + 1, none⟩ = some (.int .i64 ((aA4 aC a2).f1)) ∧ w'.cell? ⟨(aK.add ((a2).toNat * 4)).block, (aK.add ((a2).toNat * 4)).off + 2, none⟩ = some (.int .i64 ((aA4 aC a2).f2.f0)) ∧ w'.cell? ⟨(aK.add ((a2).toNat * 4)).block, (aK.add ((a2).toNat * 4)).off + 3, none⟩ = some (.int .i64 ((aA4 aC a2).f2.f1))) (ds := []) #[false, false, false, false, false, false, false, false, false, false, false, false, false, false, false, false] (by kernel_rfl) rfl rfl ⟨(blk_cell aA.out 0).trans rfl, (blk_cell aA.out 1).trans rfl, (cB HB eG), (cB HB eF), (cB HB eE), (cB HB eD), (cB HB eK), (cB HB eJ), (cB HB eI), (cB HB eH)⟩ (fun aG => ?_); refine with_tabW aB2.tab1 aB2.bits1 (fun HT_ HW_ => ?_)
 generalize w15.drew = w16 at aA HB dW fJ fK fL fM fN fO fP aG ⊢
 refine pu 0 9 ?_
 refine pu 1 10 ?_
 refine pu 3 12 ?_
 refine pu 6 15 ?_
 refine pu 7 16 ?_
 refine pu 9 18 ?_
 refine tk 2 11 aG ?_
 refine pu 4 13 ?_
 refine tk 5 14 aG ?_
 refine tk 8 17 aG ?_
 refine pu 10 19 ?_
 refine tk 11 20 aG ?_
 refine join_ (σ := Nat × Nat) 2 #[true, true, true, true, true, true, true, true, true, true, true, true, true, true, false, false] (fun s_ => [(7, .pointer (some ⟨s_.1, 0, none⟩)), (8, .pointer (some ⟨s_.2, 0, none⟩))]) (fun s_ w' => (w'.cell? ⟨aI, 0, none⟩ = some (.slice (some aK) aC.length aN) ∧ w'.cell? ⟨aI, 1, none⟩ = some (.slice aT aD.length aQ) ∧ w'.cell? (aK.add ((a1).toNat * 4)) = some (.int .i64 ((aA4 aC a1).f0)) ∧ w'.cell? ⟨(aK.add ((a1).toNat * 4)).block, (aK.add ((a1).toNat * 4)).off + 1, none⟩ = some (.int .i64 ((aA4 aC a1).f1)) ∧ w'.cell? ⟨(aK.add ((a1).toNat * 4)).block, (aK.add ((a1).toNat * 4)).off + 2, none⟩ = some (.int .i64 ((aA4 aC a1).f2.f0)) ∧ w'.cell? ⟨(aK.add ((a1).toNat * 4)).block, (aK.add ((a1).toNat * 4)).off + 3, none⟩ = some (.int .i64 ((aA4 aC a1).f2.f1)) ∧ w'.cell? (aK.add ((a2).toNat * 4)) = some (.int .i64 ((aA4 aC a2).f0)) ∧ w'.cell? ⟨(aK.add ((a2).toNat * 4)).block, (aK.add ((a2).toNat * 4)).off + 1, none⟩ = some (.int .i64 ((aA4 aC a2).f1)) ∧ w'.cell? ⟨(aK.add ((a2).toNat * 4)).block, (aK.add ((a2).toNat * 4)).off + 2, none⟩ = some (.int .i64 ((aA4 aC a2).f2.f0)) ∧ w'.cell? ⟨(aK.add ((a2).toNat * 4)).block, (aK.add ((a2).toNat * 4)).off + 3, none⟩ = some (.int .i64 ((aA4 aC a2).f2.f1))) ∧ (w'.heap[aI]? = some (.cells #[.slice (some aK) aC.length aN, .slice aT aD.length aQ] 99 (0, 0))) ∧ (w'.heap[s_.1]? = some (.cells #[.int .i64 0, .int .i64 0, .int .i64 0, .int .i64 0] 67 (0, 0))) ∧ (w'.heap[s_.2]? = some (.cells #[.int .i64 0, .int .i64 0, .int .i64 0, .int .i64 0] 67 (0, 0))) ∧ (w.heap.size ≤ s_.1) ∧ (w.heap.size ≤ s_.1) ∧ (aI ≠ s_.1) ∧ (s_.1 ≠ aI) ∧ (s_.2 ≠ s_.1) ∧ (s_.1 ≠ s_.2) ∧ (w.heap.size ≤ s_.2) ∧ (w.heap.size ≤ s_.2) ∧ (aI ≠ s_.2) ∧ (s_.2 ≠ aI) ∧ (Below w.heap.size w w')) ?_ ?_
 rotate_left
 ·intro hCont
  refine two_ (i := 12) (j := 13) (Ni := some 7) (Nj := some 8) #[true, true, true, true, true, true, true, true, true, true, true, true, true, false, false, false] #[true, true, true, true, true, true, true, true, true, true, true, true, false, true, false, false] rfl rfl rfl rfl (two_of HT_.out (by kernel_rfl)) (by decide) (by decide) (fun K hK => ?_) (fun K hK => ?_)
  ·skip
   refine box_step ?hg (N := 7) ?hd (cs := #[.int .i64 0, .int .i64 0, .int .i64 0, .int .i64 0]) (t := 67) ?hr ?_; (case hd => rfl); (case hg => rfl); (case hr => first | (go_simp; done) | (go_simp; rfl))
   intro bH hg w17 hbox hb
   have aV := aM (hbox)
   have eP := gs HB hg
   have gT := gs HB hg
   replace HB := bs HB hb
   have cG := nl aA hg
   have cX := nr aA hg
   replace aA := bb aA hb
   clear hb hbox hg
   refine hK.out _ _ ⟨(blk_cell aA.out 0).trans rfl, (blk_cell aA.out 1).trans rfl, (cB HB eG), (cB HB eF), (cB HB eE), (cB HB eD), (cB HB eK), (cB HB eJ), (cB HB eI), (cB HB eH)⟩ (fun aG => ?_)
   clear hK K
   refine norm_ (a' := ?_) ?_ ?_
   rotate_left
   ·show Act.put _ (some 7) _ = _
    simp only [Act.put, List.setIfInBounds_toArray, List.set_cons_zero, List.set_cons_succ, i64_w, i32_w]
    rfl
   refine on 13 (fun K hK => ?_)
   refine box_step ?hg (N := 8) ?hd (cs := #[.int .i64 0, .int .i64 0, .int .i64 0, .int .i64 0]) (t := 67) ?hr ?_; (case hd => rfl); (case hg => rfl); (case hr => first | (go_simp; done) | (go_simp; rfl))
   intro bI hg w18 hbox hb
   have aW := aM (hbox)
   have eQ := gs HB hg
   have gU := gs HB hg
   replace HB := bs HB hb
   have cH := nl aA hg
   have cY := nr aA hg
   replace aA := bb aA hb
   have bK := nl aV hg
   have bL := nr aV hg
   replace aV := bb aV hb
   clear hb hbox hg
   refine hK.out _ _ ⟨(blk_cell aA.out 0).trans rfl, (blk_cell aA.out 1).trans rfl, (cB HB eG), (cB HB eF), (cB HB eE), (cB HB eD), (cB HB eK), (cB HB eJ), (cB HB eI), (cB HB eH)⟩ (fun aG => ?_)
   clear hK K
   refine norm_ (a' := ?_) ?_ ?_
   rotate_left
   ·show Act.put _ (some 8) _ = _
    simp only [Act.put, List.setIfInBounds_toArray, List.set_cons_zero, List.set_cons_succ, i64_w, i32_w]
    rfl
   exact norm_ (by simp only [putAll, Act.put, List.setIfInBounds_toArray, List.set_cons_zero, List.set_cons_succ]) (hCont (bH, bI) _ ⟨aG, (pB aA.out), (pB aV.out), (pB aW.out), eP.out, gT.out, cG.out, cX.out, bL.out, bK.out, eQ.out, gU.out, cH.out, cY.out, (pE HB)⟩)
  ·skip
   refine box_step ?hg (N := 8) ?hd (cs := #[.int .i64 0, .int .i64 0, .int .i64 0, .int .i64 0]) (t := 67) ?hr ?_; (case hd => rfl); (case hg => rfl); (case hr => first | (go_simp; done) | (go_simp; rfl))
   intro bI hg w17 hbox hb
   have aW := aM (hbox)
   have eQ := gs HB hg
   have gU := gs HB hg
   replace HB := bs HB hb
   have cH := nl aA hg
   have cY := nr aA hg
   replace aA := bb aA hb
   clear hb hbox hg
   refine hK.out _ _ ⟨(blk_cell aA.out 0).trans rfl, (blk_cell aA.out 1).trans rfl, (cB HB eG), (cB HB eF), (cB HB eE), (cB HB eD), (cB HB eK), (cB HB eJ), (cB HB eI), (cB HB eH)⟩ (fun aG => ?_)
   clear hK K
   refine norm_ (a' := ?_) ?_ ?_
   rotate_left
   ·show Act.put _ (some 8) _ = _
    simp only [Act.put, List.setIfInBounds_toArray, List.set_cons_zero, List.set_cons_succ, i64_w, i32_w]
    rfl
   refine on 12 (fun K hK => ?_)
   refine box_step ?hg (N := 7) ?hd (cs := #[.int .i64 0, .int .i64 0, .int .i64 0, .int .i64 0]) (t := 67) ?hr ?_; (case hd => rfl); (case hg => rfl); (case hr => first | (go_simp; done) | (go_simp; rfl))
   intro bH hg w18 hbox hb
   have aV := aM (hbox)
   have eP := gs HB hg
   have gT := gs HB hg
   replace HB := bs HB hb
   have cG := nl aA hg
   have cX := nr aA hg
   replace aA := bb aA hb
   have bL := nl aW hg
   have bK := nr aW hg
   replace aW := bb aW hb
   clear hb hbox hg
   refine hK.out _ _ ⟨(blk_cell aA.out 0).trans rfl, (blk_cell aA.out 1).trans rfl, (cB HB eG), (cB HB eF), (cB HB eE), (cB HB eD), (cB HB eK), (cB HB eJ), (cB HB eI), (cB HB eH)⟩ (fun aG => ?_)
   clear hK K
   refine norm_ (a' := ?_) ?_ ?_
   rotate_left
   ·show Act.put _ (some 7) _ = _
    simp only [Act.put, List.setIfInBounds_toArray, List.set_cons_zero, List.set_cons_succ, i64_w, i32_w]
    rfl
   exact norm_ (by simp only [putAll, Act.put, List.setIfInBounds_toArray, List.set_cons_zero, List.set_cons_succ]) (hCont (bH, bI) _ ⟨aG, (pB aA.out), (pB aV.out), (pB aW.out), eP.out, gT.out, cG.out, cX.out, bL.out, bK.out, eQ.out, gU.out, cH.out, cY.out, (pE HB)⟩)
 rintro ⟨bH, bI⟩ w19 ⟨hS_, h0_, h1_, h2_, h3_, h4_, h5_, h6_, h7_, h8_, h9_, h10_, h11_, h12_, h13_⟩
 have n0_ : Aside0 (w19.heap[aI]? = some (.cells #[.slice (some aK) aC.length aN, .slice aT aD.length aQ] 99 (0, 0))) := ⟨h0_⟩
 have n1_ : Aside0 (w19.heap[bH]? = some (.cells #[.int .i64 0, .int .i64 0, .int .i64 0, .int .i64 0] 67 (0, 0))) := ⟨h1_⟩
 have n2_ : Aside0 (w19.heap[bI]? = some (.cells #[.int .i64 0, .int .i64 0, .int .i64 0, .int .i64 0] 67 (0, 0))) := ⟨h2_⟩
 have n3_ : Aside0 (w.heap.size ≤ bH) := ⟨h3_⟩
 have n4_ : Aside0 (w.heap.size ≤ bH) := ⟨h4_⟩
 have n5_ : Aside0 (aI ≠ bH) := ⟨h5_⟩
 have n6_ : Aside0 (bH ≠ aI) := ⟨h6_⟩
 have n7_ : Aside0 (bI ≠ bH) := ⟨h7_⟩
 have n8_ : Aside0 (bH ≠ bI) := ⟨h8_⟩
 have n9_ : Aside0 (w.heap.size ≤ bI) := ⟨h9_⟩
 have n10_ : Aside0 (w.heap.size ≤ bI) := ⟨h10_⟩
 have n11_ : Aside0 (aI ≠ bI) := ⟨h11_⟩
 have n12_ : Aside0 (bI ≠ aI) := ⟨h12_⟩
 have n13_ : Aside0 (Below w.heap.size w w19) := ⟨h13_⟩
 clear aA HB h0_ h1_ h2_ h3_ h4_ h5_ h6_ h7_ h8_ h9_ h10_ h11_ h12_ h13_
 have aA := n0_
 have aV := n1_
 have aW := n2_
 have eP := n3_
 have gT := n4_
 have cG := n5_
 have cX := n6_
 have bL := n7_
 have bK := n8_
 have eQ := n9_
 have gU := n10_
 have cH := n11_
 have cY := n12_
 have HB := n13_
 clear n0_ n1_ n2_ n3_ n4_ n5_ n6_ n7_ n8_ n9_ n10_ n11_ n12_ n13_
 have aG : w19.cell? ⟨aI, 0, none⟩ = some (.slice (some aK) aC.length aN) ∧ w19.cell? ⟨aI, 1, none⟩ = some (.slice aT aD.length aQ) ∧ w19.cell? (aK.add ((a1).toNat * 4)) = some (.int .i64 ((aA4 aC a1).f0)) ∧ w19.cell? ⟨(aK.add ((a1).toNat * 4)).block, (aK.add ((a1).toNat * 4)).off + 1, none⟩ = some (.int .i64 ((aA4 aC a1).f1)) ∧ w19.cell? ⟨(aK.add ((a1).toNat * 4)).block, (aK.add ((a1).toNat * 4)).off + 2, none⟩ = some (.int .i64 ((aA4 aC a1).f2.f0)) ∧ w19.cell? ⟨(aK.add ((a1).toNat * 4)).block, (aK.add ((a1).toNat * 4)).off + 3, none⟩ = some (.int .i64 ((aA4 aC a1).f2.f1)) ∧ w19.cell? (aK.add ((a2).toNat * 4)) = some (.int .i64 ((aA4 aC a2).f0)) ∧ w19.cell? ⟨(aK.add ((a2).toNat * 4)).block, (aK.add ((a2).toNat * 4)).off + 1, none⟩ = some (.int .i64 ((aA4 aC a2).f1)) ∧ w19.cell? ⟨(aK.add ((a2).toNat * 4)).block, (aK.add ((a2).toNat * 4)).off + 2, none⟩ = some (.int .i64 ((aA4 aC a2).f2.f0)) ∧ w19.cell? ⟨(aK.add ((a2).toNat * 4)).block, (aK.add ((a2).toNat * 4)).off + 3, none⟩ = some (.int .i64 ((aA4 aC a2).f2.f1)) := hS_
 refine norm_ (a' := ?_) ?_ ?_
 rotate_left
 ·simp only [putAll, Act.put, List.setIfInBounds_toArray, List.set_cons_zero, List.set_cons_succ]
  rfl
 refine on 14 (fun K hK => ?_)
 have hs20 : w19.cell? ⟨bH, 0, none⟩ = some (.int .i64 0) := (blk_cell aV.out 0).trans rfl
 have hfs20 := blk_frozen aV.out 0
 have mY := cG.out
 have mZ := bL.out
 have nA := cX.out
 have nB := bK.out
 have hs21 : w19.cell? ⟨bH, 1, none⟩ = some (.int .i64 0) := (blk_cell aV.out 1).trans rfl
 have hfs21 := blk_frozen aV.out 1
 have nC := cG.out
 have nD := bL.out
 have nE := cX.out
 have nG := bK.out
 have hs22 : w19.cell? ⟨bH, 2, none⟩ = some (.int .i64 0) := (blk_cell aV.out 2).trans rfl
 have hfs22 := blk_frozen aV.out 2
 have nH := cG.out
 have nI := bL.out
 have nJ := cX.out
 have nK := bK.out
 have hs23 : w19.cell? ⟨bH, 3, none⟩ = some (.int .i64 0) := (blk_cell aV.out 3).trans rfl
 have hfs23 := blk_frozen aV.out 3
 have nL := cG.out
 have nM := bL.out
 have nN := cX.out
 have nO := bK.out
 refine skip_ (w1 := ?_) (by rfl) rfl ?_ ?_
 rotate_left
 ·go_simp
  rfl
 refine hK.out _ _ ⟨(cq cG.out aG.1), (cq cG.out aG.2.1), (cq (nF eG eP) aG.2.2.1), (cq (nF eF eP) aG.2.2.2.1), (cq (nF eE eP) aG.2.2.2.2.1), (cq (nF eD eP) aG.2.2.2.2.2.1), (cq (nF eK eP) aG.2.2.2.2.2.2.1), (cq (nF eJ eP) aG.2.2.2.2.2.2.2.1), (cq (nF eI eP) aG.2.2.2.2.2.2.2.2.1), (cq (nF eH eP) aG.2.2.2.2.2.2.2.2.2)⟩ (fun aG => ?_)
 clear hK K
 refine on 15 (fun K hK => ?_)
 have hs24 : w19.cell? ⟨bI, 0, none⟩ = some (.int .i64 0) := (blk_cell aW.out 0).trans rfl
 have hfs24 := blk_frozen aW.out 0
 have nP := cH.out
 have nQ := bK.out
 have nR := cY.out
 have nS := bL.out
 have hs25 : w19.cell? ⟨bI, 1, none⟩ = some (.int .i64 0) := (blk_cell aW.out 1).trans rfl
 have hfs25 := blk_frozen aW.out 1
 have nT := cH.out
 have nU := bK.out
 have nV := cY.out
 have nW := bL.out
 have hs26 : w19.cell? ⟨bI, 2, none⟩ = some (.int .i64 0) := (blk_cell aW.out 2).trans rfl
 have hfs26 := blk_frozen aW.out 2
 have nX := cH.out
 have nY := bK.out
 have nZ := cY.out
 have oA := bL.out
 have hs27 : w19.cell? ⟨bI, 3, none⟩ = some (.int .i64 0) := (blk_cell aW.out 3).trans rfl
 have hfs27 := blk_frozen aW.out 3
 have oB := cH.out
 have oC := bK.out
 have oD := cY.out
 have oE := bL.out
 refine skip_ (w1 := ?_) (by rfl) rfl ?_ ?_
 rotate_left
 ·go_simp
  rfl
 refine hK.out _ _ ⟨(cq cH.out aG.1), (cq cH.out aG.2.1), (cq (nF eG eQ) aG.2.2.1), (cq (nF eF eQ) aG.2.2.2.1), (cq (nF eE eQ) aG.2.2.2.2.1), (cq (nF eD eQ) aG.2.2.2.2.2.1), (cq (nF eK eQ) aG.2.2.2.2.2.2.1), (cq (nF eJ eQ) aG.2.2.2.2.2.2.2.1), (cq (nF eI eQ) aG.2.2.2.2.2.2.2.2.1), (cq (nF eH eQ) aG.2.2.2.2.2.2.2.2.2)⟩ (fun aG => ?_)
 clear hK K
 refine done_ (done_of HT_.out (by kernel_rfl)) ?_
 try go_wp2
 have n0_ : Aside0 (((((((((w19.setCell ⟨bH, 0, none⟩ (.int .i64 ((aA4 aC a1).f0))).setCell ⟨bH, 1, none⟩ (.int .i64 ((aA4 aC a1).f1))).setCell ⟨bH, 2, none⟩ (.int .i64 ((aA4 aC a1).f2.f0))).setCell ⟨bH, 3, none⟩ (.int .i64 ((aA4 aC a1).f2.f1))).setCell ⟨bI, 0, none⟩ (.int .i64 ((aA4 aC a2).f0))).setCell ⟨bI, 1, none⟩ (.int .i64 ((aA4 aC a2).f1))).setCell ⟨bI, 2, none⟩ (.int .i64 ((aA4 aC a2).f2.f0))).setCell ⟨bI, 3, none⟩ (.int .i64 ((aA4 aC a2).f2.f1))).heap[aI]? = some (.cells #[.slice (some aK) aC.length aN, .slice aT aD.length aQ] 99 (0, 0))) := ⟨pF aA⟩
 have n1_ : Aside0 (((((((((w19.setCell ⟨bH, 0, none⟩ (.int .i64 ((aA4 aC a1).f0))).setCell ⟨bH, 1, none⟩ (.int .i64 ((aA4 aC a1).f1))).setCell ⟨bH, 2, none⟩ (.int .i64 ((aA4 aC a1).f2.f0))).setCell ⟨bH, 3, none⟩ (.int .i64 ((aA4 aC a1).f2.f1))).setCell ⟨bI, 0, none⟩ (.int .i64 ((aA4 aC a2).f0))).setCell ⟨bI, 1, none⟩ (.int .i64 ((aA4 aC a2).f1))).setCell ⟨bI, 2, none⟩ (.int .i64 ((aA4 aC a2).f2.f0))).setCell ⟨bI, 3, none⟩ (.int .i64 ((aA4 aC a2).f2.f1))).heap[bH]? = some (.cells #[.int .i64 ((aA4 aC a1).f0), .int .i64 ((aA4 aC a1).f1), .int .i64 ((aA4 aC a1).f2.f0), .int .i64 ((aA4 aC a1).f2.f1)] 67 (0, 0))) := ⟨by refine pB ?_; refine blk_far ?_ bK.out _; refine pB ?_; refine blk_far ?_ bK.out _; refine pB ?_; refine blk_far ?_ bK.out _; refine pB ?_; refine blk_far ?_ bK.out _; refine pB ?_; refine blk_put (cs := #[.int .i64 ((aA4 aC a1).f0), .int .i64 ((aA4 aC a1).f1), .int .i64 ((aA4 aC a1).f2.f0), .int .i64 0]) ?_ 3 _ rfl; refine pB ?_; refine blk_put (cs := #[.int .i64 ((aA4 aC a1).f0), .int .i64 ((aA4 aC a1).f1), .int .i64 0, .int .i64 0]) ?_ 2 _ rfl; refine pB ?_; refine blk_put (cs := #[.int .i64 ((aA4 aC a1).f0), .int .i64 0, .int .i64 0, .int .i64 0]) ?_ 1 _ rfl; refine pB ?_; refine blk_put (cs := #[.int .i64 0, .int .i64 0, .int .i64 0, .int .i64 0]) ?_ 0 _ rfl; exact pB aV.out⟩
 have n2_ : Aside0 (((((((((w19.setCell ⟨bH, 0, none⟩ (.int .i64 ((aA4 aC a1).f0))).setCell ⟨bH, 1, none⟩ (.int .i64 ((aA4 aC a1).f1))).setCell ⟨bH, 2, none⟩ (.int .i64 ((aA4 aC a1).f2.f0))).setCell ⟨bH, 3, none⟩ (.int .i64 ((aA4 aC a1).f2.f1))).setCell ⟨bI, 0, none⟩ (.int .i64 ((aA4 aC a2).f0))).setCell ⟨bI, 1, none⟩ (.int .i64 ((aA4 aC a2).f1))).setCell ⟨bI, 2, none⟩ (.int .i64 ((aA4 aC a2).f2.f0))).setCell ⟨bI, 3, none⟩ (.int .i64 ((aA4 aC a2).f2.f1))).heap[bI]? = some (.cells #[.int .i64 ((aA4 aC a2).f0), .int .i64 ((aA4 aC a2).f1), .int .i64 ((aA4 aC a2).f2.f0), .int .i64 ((aA4 aC a2).f2.f1)] 67 (0, 0))) := ⟨by refine pB ?_; refine blk_put (cs := #[.int .i64 ((aA4 aC a2).f0), .int .i64 ((aA4 aC a2).f1), .int .i64 ((aA4 aC a2).f2.f0), .int .i64 0]) ?_ 3 _ rfl; refine pB ?_; refine blk_put (cs := #[.int .i64 ((aA4 aC a2).f0), .int .i64 ((aA4 aC a2).f1), .int .i64 0, .int .i64 0]) ?_ 2 _ rfl; refine pB ?_; refine blk_put (cs := #[.int .i64 ((aA4 aC a2).f0), .int .i64 0, .int .i64 0, .int .i64 0]) ?_ 1 _ rfl; refine pB ?_; refine blk_put (cs := #[.int .i64 0, .int .i64 0, .int .i64 0, .int .i64 0]) ?_ 0 _ rfl; refine pB ?_; refine blk_far ?_ bL.out _; refine pB ?_; refine blk_far ?_ bL.out _; refine pB ?_; refine blk_far ?_ bL.out _; refine pB ?_; refine blk_far ?_ bL.out _; exact pB aW.out⟩
 have n3_ : Aside0 (Below w.heap.size w ((((((((w19.setCell ⟨bH, 0, none⟩ (.int .i64 ((aA4 aC a1).f0))).setCell ⟨bH, 1, none⟩ (.int .i64 ((aA4 aC a1).f1))).setCell ⟨bH, 2, none⟩ (.int .i64 ((aA4 aC a1).f2.f0))).setCell ⟨bH, 3, none⟩ (.int .i64 ((aA4 aC a1).f2.f1))).setCell ⟨bI, 0, none⟩ (.int .i64 ((aA4 aC a2).f0))).setCell ⟨bI, 1, none⟩ (.int .i64 ((aA4 aC a2).f1))).setCell ⟨bI, 2, none⟩ (.int .i64 ((aA4 aC a2).f2.f0))).setCell ⟨bI, 3, none⟩ (.int .i64 ((aA4 aC a2).f2.f1)))) := ⟨pE HB⟩
 (try clear aA)
 (try clear aV)
 (try clear aW)
 (try clear HB)
 generalize ((((((((w19.setCell ⟨bH, 0, none⟩ (.int .i64 ((aA4 aC a1).f0))).setCell ⟨bH, 1, none⟩ (.int .i64 ((aA4 aC a1).f1))).setCell ⟨bH, 2, none⟩ (.int .i64 ((aA4 aC a1).f2.f0))).setCell ⟨bH, 3, none⟩ (.int .i64 ((aA4 aC a1).f2.f1))).setCell ⟨bI, 0, none⟩ (.int .i64 ((aA4 aC a2).f0))).setCell ⟨bI, 1, none⟩ (.int .i64 ((aA4 aC a2).f1))).setCell ⟨bI, 2, none⟩ (.int .i64 ((aA4 aC a2).f2.f0))).setCell ⟨bI, 3, none⟩ (.int .i64 ((aA4 aC a2).f2.f1))) = w28 at n0_ n1_ n2_ n3_ ⊢
 have aA := n0_
 have aV := n1_
 have aW := n2_
 have HB := n3_
 clear n0_ n1_ n2_ n3_
 replace aA := aM (blk_drew aA.out)
 replace aV := aM (blk_drew aV.out)
 replace aW := aM (blk_drew aW.out)
 replace HB := aM (below_drew1 HB.out)
 have jV : 0 ≤ (((aA4 aC a1).f0) : Int) := dT
 have jW : ((aA4 aC a1).f0) < (aD.length : Int) := dT
 obtain ⟨gC, oH, fQ⟩ := Kd.at_int dB.out ((aA4 aC a1).f0) jV jW
 have fB := fQ
 cases oH
 replace fQ := cut_ HB fQ
 replace jV := eq_true jV
 replace jW := eq_true jW
 have jX : 0 ≤ (((aA4 aC a2).f0) : Int) := dT
 have jY : ((aA4 aC a2).f0) < (aD.length : Int) := dT
 obtain ⟨lG, oI, fR⟩ := Kd.at_int dB.out ((aA4 aC a2).f0) jX jY
 have fC := fR
 obtain rfl : gC = lG := (by injection oI)
 replace fR := cut_ HB fR
 replace jX := eq_true jX
 replace jY := eq_true jY
 refine start_ (n := 33) (S := fun w' => w'.cell? ⟨bH, 0, none⟩ = some (.int .i64 ((aA4 aC a1).f0)) ∧ w'.cell? ⟨bH, 1, none⟩ = some (.int .i64 ((aA4 aC a1).f1)) ∧ w'.cell? ⟨bH, 2, none⟩ = some (.int .i64 ((aA4 aC a1).f2.f0)) ∧ w'.cell? ⟨bH, 3, none⟩ = some (.int .i64 ((aA4 aC a1).f2.f1)) ∧ w'.cell? ⟨bI, 0, none⟩ = some (.int .i64 ((aA4 aC a2).f0)) ∧ w'.cell? ⟨bI, 1, none⟩ = some (.int .i64 ((aA4 aC a2).f1)) ∧ w'.cell? ⟨bI, 2, none⟩ = some (.int .i64 ((aA4 aC a2).f2.f0)) ∧ w'.cell? ⟨bI, 3, none⟩ = some (.int .i64 ((aA4 aC a2).f2.f1)) ∧ w'.cell? ⟨aI, 0, none⟩ = some (.slice (some aK) aC.length aN) ∧ w'.cell? ⟨aI, 1, none⟩ = some (.slice (some gC) aD.length aQ) ∧ w'.cell? (gC.add (((aA4 aC a1).f0)).toNat) = some (.int .i64 (rd aD ((aA4 aC a1).f0))) ∧ w'.cell? (gC.add (((aA4 aC a2).f0)).toNat) = some (.int .i64 (rd aD ((aA4 aC a2).f0)))) (ds := []) #[false, false, false, false, false, false, false, false, false, false, false, false, false, false, false, false, false, false, false, false, false, false, false, false, false, false, false, false, false, false, false, false, false] (by kernel_rfl) rfl rfl ⟨(blk_cell aV.out 0).trans rfl, (blk_cell aV.out 1).trans rfl, (blk_cell aV.out 2).trans rfl, (blk_cell aV.out 3).trans rfl, (blk_cell aW.out 0).trans rfl, (blk_cell aW.out 1).trans rfl, (blk_cell aW.out 2).trans rfl, (blk_cell aW.out 3).trans rfl, (blk_cell aA.out 0).trans rfl, (blk_cell aA.out 1).trans rfl, (cB HB fB), (cB HB fC)⟩ (fun aG => ?_); refine with_tabW aB2.tab2 aB2.bits2 (fun HT_ HW_ => ?_)
 generalize w28.drew = w29 at aA aV aW HB fQ fR aG ⊢
 refine pu 0 21 ?_
 refine pu 2 23 ?_
 refine pu 6 27 ?_
 refine pu 9 30 ?_
 refine pu 12 33 ?_
 refine pu 13 34 ?_
 refine pu 15 36 ?_
 refine pu 19 40 ?_
 refine pu 20 41 ?_
 refine pu 22 43 ?_
 refine pu 27 48 ?_
 refine pu 28 49 ?_
 refine pu 29 50 ?_
 refine tk 1 22 aG ?_
 refine tk 3 24 aG ?_
 refine pu 4 25 ?_
 refine tk 5 26 aG ?_
 refine tk 8 29 aG ?_
 refine tk 14 35 aG ?_
 refine tk 16 37 aG ?_
 refine pu 17 38 ?_
 refine tk 18 39 aG ?_
 refine tk 21 42 aG ?_
 refine tk 23 44 aG ?_
 refine pu 24 45 ?_
 refine tk 25 46 aG ?_
 refine pu 26 47 ?_
 refine on 7 (fun K hK => ?_)
 refine gO Tryz.func110 #[.agg #[.slice (some aK) aC.length aN, .slice (some gC) aD.length aQ], .int .i64 a1] ?_
 with_reducible refine (aB3.calls k _ _ aC _ _ aD a1 bO _ ?bF ?bG ?cN ?cO A8.out).mono ?_
 (case bF => exact pC (Kd.C_below dA.out HB.out))
 (case bG => exact dK.out)
 (case cN => exact pC (Kd.C_below dB.out HB.out))
 (case cO => exact dL.out)
 rintro e w30 ⟨rfl, hb⟩
 refine ⟨_, rfl, ?_⟩
 replace aA := bb aA hb
 replace aV := bb aV hb
 replace aW := bb aW hb
 replace HB := bs HB hb
 (try clear hb)
 (try clear hb2)
 (try clear hk)
 (try clear hi)
 refine hK.out _ _ ⟨(blk_cell aV.out 0).trans rfl, (blk_cell aV.out 1).trans rfl, (blk_cell aV.out 2).trans rfl, (blk_cell aV.out 3).trans rfl, (blk_cell aW.out 0).trans rfl, (blk_cell aW.out 1).trans rfl, (blk_cell aW.out 2).trans rfl, (blk_cell aW.out 3).trans rfl, (blk_cell aA.out 0).trans rfl, (blk_cell aA.out 1).trans rfl, (cB HB fB), (cB HB fC)⟩ (fun aG => ?_)
 clear hK K
 refine norm_ (a' := ?_) ?_ ?_
 rotate_left
 ·show Act.put _ (some 28) _ = _
  simp only [Act.put, List.setIfInBounds_toArray, List.set_cons_zero, List.set_cons_succ, i64_w, i32_w]
  rfl
 refine on 10 (fun K hK => ?_)
 refine gO Tryz.func110 #[.agg #[.slice (some aK) aC.length aN, .slice (some gC) aD.length aQ], .int .i64 a2] ?_
 with_reducible refine (aB3.calls k _ _ aC _ _ aD a2 cE _ ?bF ?bG ?cN ?cO A9.out).mono ?_
 (case bF => exact pC (Kd.C_below dA.out HB.out))
 (case bG => exact dK.out)
 (case cN => exact pC (Kd.C_below dB.out HB.out))
 (case cO => exact dL.out)
 rintro e w31 ⟨rfl, hb⟩
 refine ⟨_, rfl, ?_⟩
 replace aA := bb aA hb
 replace aV := bb aV hb
 replace aW := bb aW hb
 replace HB := bs HB hb
 (try clear hb)
 (try clear hb2)
 (try clear hk)
 (try clear hi)
 refine hK.out _ _ ⟨(blk_cell aV.out 0).trans rfl, (blk_cell aV.out 1).trans rfl, (blk_cell aV.out 2).trans rfl, (blk_cell aV.out 3).trans rfl, (blk_cell aW.out 0).trans rfl, (blk_cell aW.out 1).trans rfl, (blk_cell aW.out 2).trans rfl, (blk_cell aW.out 3).trans rfl, (blk_cell aA.out 0).trans rfl, (blk_cell aA.out 1).trans rfl, (cB HB fB), (cB HB fC)⟩ (fun aG => ?_)
 clear hK K
 refine norm_ (a' := ?_) ?_ ?_
 rotate_left
 ·show Act.put _ (some 31) _ = _
  simp only [Act.put, List.setIfInBounds_toArray, List.set_cons_zero, List.set_cons_succ, i64_w, i32_w]
  rfl
 refine pu 11 32 ?_
 refine on 30 (fun K hK => ?_)
 refine Kd.R_lit_step (Kd.int .i64) _ 3 ?hg (N := 51) ?hd (xs := ([wrap64 (((aA4 aC a1).f1) - ((aA4 aC a2).f1)), wrap64 (bO - cE), wrap64 ((rd aD ((aA4 aC a1).f0)) - (rd aD ((aA4 aC a2).f0))), wrap64 (a1 - a2)] : List Int)) (inner := [.int .i64 (wrap64 (((aA4 aC a1).f1) - ((aA4 aC a2).f1))), .int .i64 (wrap64 (bO - cE)), .int .i64 (wrap64 ((rd aD ((aA4 aC a1).f0)) - (rd aD ((aA4 aC a2).f0)))), .int .i64 (wrap64 (a1 - a2))]) (ok := fun _ => True) (okp := fun _ => True) ?hr ?hp (fun _ hk => hk) trivial (Below.refl _ _) (Nat.le_refl _) (by simp) ?_; (case hd => rfl); (case hg => rfl); (case hr => first | (go_simp; done) | (go_simp; rfl)); (case hp => exact (Reps.one (show Kd.M (Kd.int .i64) _ _ _ (wrap64 (((aA4 aC a1).f1) - ((aA4 aC a2).f1))) [.int .i64 (wrap64 (((aA4 aC a1).f1) - ((aA4 aC a2).f1)))] from rfl) (Reps.one (show Kd.M (Kd.int .i64) _ _ _ (wrap64 (bO - cE)) [.int .i64 (wrap64 (bO - cE))] from rfl) (Reps.one (show Kd.M (Kd.int .i64) _ _ _ (wrap64 ((rd aD ((aA4 aC a1).f0)) - (rd aD ((aA4 aC a2).f0)))) [.int .i64 (wrap64 ((rd aD ((aA4 aC a1).f0)) - (rd aD ((aA4 aC a2).f0))))] from rfl) (Reps.one (show Kd.M (Kd.int .i64) _ _ _ (wrap64 (a1 - a2)) [.int .i64 (wrap64 (a1 - a2))] from rfl) (Reps.none _ _))))))
 intro lH w32 iK hb hg_ hnew_
 clear hg_ hnew_
 (first | rw [← fT.out] at iK | (simp only [Int.reduceToNat] at iK; rw [← fT.out] at iK))
 have bM := rl iK HB
 replace aA := bb aA hb
 replace aV := bb aV hb
 replace aW := bb aW hb
 replace HB := bs HB hb
 clear hb iK
 obtain ⟨oJ, oK, lI⟩ := Kd.R_slice bM.out
 (first | subst lI | (injection lI with f1_ f2_ f3_; have f4_ := f1_.symm; have f5_ := f3_.symm; clear f1_ f2_ f3_; subst f4_; subst f5_))
 refine hK.out _ _ ⟨(blk_cell aV.out 0).trans rfl, (blk_cell aV.out 1).trans rfl, (blk_cell aV.out 2).trans rfl, (blk_cell aV.out 3).trans rfl, (blk_cell aW.out 0).trans rfl, (blk_cell aW.out 1).trans rfl, (blk_cell aW.out 2).trans rfl, (blk_cell aW.out 3).trans rfl, (blk_cell aA.out 0).trans rfl, (blk_cell aA.out 1).trans rfl, (cB HB fB), (cB HB fC)⟩ (fun aG => ?_)
 clear hK K
 refine norm_ (a' := ?_) ?_ ?_
 rotate_left
 ·show Act.put _ (some 51) _ = _
  simp only [Act.put, List.setIfInBounds_toArray, List.set_cons_zero, List.set_cons_succ, i64_w, i32_w]
  rfl
 refine on 31 (fun K hK => ?_)
 refine gO Tryz.func109 #[.slice oJ bN.length oK] ?_
 with_reducible refine (aB9.calls k _ _ bN iJ _ ?bF ?bG rN.out).mono ?_
 (case bF => exact pC (Kd.R_reads' bM.out).2.2)
 (case bG => exact (Kd.R_reads' bM.out).2.1)
 rintro e w' ⟨rfl, ⟨nd, rfl⟩⟩
 refine ⟨_, rfl, ?_⟩
 refine hK.out _ _ ⟨(blk_cell aV.out 0).trans rfl, (blk_cell aV.out 1).trans rfl, (blk_cell aV.out 2).trans rfl, (blk_cell aV.out 3).trans rfl, (blk_cell aW.out 0).trans rfl, (blk_cell aW.out 1).trans rfl, (blk_cell aW.out 2).trans rfl, (blk_cell aW.out 3).trans rfl, (blk_cell aA.out 0).trans rfl, (blk_cell aA.out 1).trans rfl, (cB HB fB), (cB HB fC)⟩ (fun aG => ?_)
 clear hK K
 refine norm_ (a' := ?_) ?_ ?_
 rotate_left
 ·show Act.put _ (some 52) _ = _
  simp only [Act.put, List.setIfInBounds_toArray, List.set_cons_zero, List.set_cons_succ, i64_w, i32_w]
  rfl
 refine pu 32 6 ?_
 refine done_ (done_of HT_.out (by kernel_rfl)) ?_
 try go_wp2
 go_ret
 exact ⟨eT, pE HB⟩
mutual
def aA0.l0 : Nat → List Int → Int → Int → Int → List (S67) → List Int → Option (List Int)
 | 0, _, _, _, _, _, _ => none
 | k + 1, x0, x1, x2, x8, eU, eV => if x8 < x2 then (aA0.l1 k x0 x1 x2 x8 x8 eU eV) else (some x0)
def aA0.l1 : Nat → List Int → Int → Int → Int → Int → List (S67) → List Int → Option (List Int)
 | 0, _, _, _, _, _, _, _ => none
 | k + 1, x0, x1, x2, x8, x9, eU, eV => if x9 > x1 then (if 0 ≤ x9 then (if x9 < (x0.length : Int) then (if 0 ≤ (wrap64 (x9 - 1)) then (if (wrap64 (x9 - 1)) < (x0.length : Int) then ((aB2.f k eU eV (rd x0 x9) (rd x0 (wrap64 (x9 - 1)))).bind fun bS => (aA0.j2 k x0 x1 x2 x8 x9 (decide (bS < 0)) eU eV)) else (none)) else (none)) else (none)) else (none)) else (aA0.j2 k x0 x1 x2 x8 x9 false eU eV)
def aA0.j2 : Nat → List Int → Int → Int → Int → Int → Bool → List (S67) → List Int → Option (List Int)
 | 0, _, _, _, _, _, _, _, _ => none
 | k + 1, x0, x1, x2, x8, x9, x34, eU, eV => if x34 = true then (if 0 ≤ (wrap64 (x9 - 1)) then (if (wrap64 (x9 - 1)) < (x0.length : Int) then (if 0 ≤ x9 then (if x9 < (x0.length : Int) then (aA0.l1 k ((x0.set (x9 : Int).toNat (rd x0 (wrap64 (x9 - 1)))).set ((wrap64 (x9 - 1)) : Int).toNat (rd x0 x9)) x1 x2 x8 (wrap64 (x9 - 1)) eU eV) else (none)) else (none)) else (none)) else (none)) else (aA0.l0 k x0 x1 x2 (wrap64 (x8 + 1)) eU eV)
end
def aA0.f (k : Nat) (l0 : List Int) (a1 : Int) (a2 : Int) (eR : List (S67)) (eS : List Int) : Option (List Int) := aA0.l0 k l0 a1 a2 (wrap64 (a1 + 1)) eR eS
theorem aA0.mono_l : ∀ k, (∀ y0 y1 y2 y3 y4 y5, LeO (aA0.l0 k y0 y1 y2 y3 y4 y5) (aA0.l0 (k + 1) y0 y1 y2 y3 y4 y5)) ∧ (∀ y0 y1 y2 y3 y4 y5 y6, LeO (aA0.l1 k y0 y1 y2 y3 y4 y5 y6) (aA0.l1 (k + 1) y0 y1 y2 y3 y4 y5 y6)) ∧ (∀ y0 y1 y2 y3 y4 y5 y6 y7, LeO (aA0.j2 k y0 y1 y2 y3 y4 y5 y6 y7) (aA0.j2 (k + 1) y0 y1 y2 y3 y4 y5 y6 y7))
 | 0 => ⟨fun _ _ _ _ _ _ r h => by simp [aA0.l0] at h, fun _ _ _ _ _ _ _ r h => by simp [aA0.l1] at h, fun _ _ _ _ _ _ _ _ r h => by simp [aA0.j2] at h⟩
 | k + 1 => by
  obtain ⟨ih0, ih1, ih2⟩ := aA0.mono_l k
  refine ⟨?_, ?_, ?_⟩
  ·intro y0 y1 y2 y3 y4 y5
   unfold aA0.l0
   repeat' first
   | (with_reducible exact ih0 _ _ _ _ _ _)
   | (with_reducible exact ih1 _ _ _ _ _ _ _)
   | (with_reducible exact ih2 _ _ _ _ _ _ _ _)
   | (with_reducible exact aB2.mono _ _ _ _ _)
   | (with_reducible exact LeO.refl _)
   | (with_reducible exact LeO.none _)
   | (with_reducible refine LeO.ite ?_ ?_)
   | (with_reducible refine LeO.bind ?_ (fun _ => ?_))
   | exact ih0 _ _ _ _ _ _
   | exact ih1 _ _ _ _ _ _ _
   | exact ih2 _ _ _ _ _ _ _ _
   | exact aB2.mono _ _ _ _ _
   | exact LeO.none _
   | refine LeO.ite ?_ ?_
   | refine LeO.bind ?_ (fun _ => ?_)
  ·intro y0 y1 y2 y3 y4 y5 y6
   unfold aA0.l1
   repeat' first
   | (with_reducible exact ih0 _ _ _ _ _ _)
   | (with_reducible exact ih1 _ _ _ _ _ _ _)
   | (with_reducible exact ih2 _ _ _ _ _ _ _ _)
   | (with_reducible exact aB2.mono _ _ _ _ _)
   | (with_reducible exact LeO.refl _)
   | (with_reducible exact LeO.none _)
   | (with_reducible refine LeO.ite ?_ ?_)
   | (with_reducible refine LeO.bind ?_ (fun _ => ?_))
   | exact ih0 _ _ _ _ _ _
   | exact ih1 _ _ _ _ _ _ _
   | exact ih2 _ _ _ _ _ _ _ _
   | exact aB2.mono _ _ _ _ _
   | exact LeO.none _
   | refine LeO.ite ?_ ?_
   | refine LeO.bind ?_ (fun _ => ?_)
  ·intro y0 y1 y2 y3 y4 y5 y6 y7
   unfold aA0.j2
   repeat' first
   | (with_reducible exact ih0 _ _ _ _ _ _)
   | (with_reducible exact ih1 _ _ _ _ _ _ _)
   | (with_reducible exact ih2 _ _ _ _ _ _ _ _)
   | (with_reducible exact aB2.mono _ _ _ _ _)
   | (with_reducible exact LeO.refl _)
   | (with_reducible exact LeO.none _)
   | (with_reducible refine LeO.ite ?_ ?_)
   | (with_reducible refine LeO.bind ?_ (fun _ => ?_))
   | exact ih0 _ _ _ _ _ _
   | exact ih1 _ _ _ _ _ _ _
   | exact ih2 _ _ _ _ _ _ _ _
   | exact aB2.mono _ _ _ _ _
   | exact LeO.none _
   | refine LeO.ite ?_ ?_
   | refine LeO.bind ?_ (fun _ => ?_)
theorem aA0.mono : ∀ a0 a1 a2 a3 a4 k, LeO (aA0.f k a0 a1 a2 a3 a4) (aA0.f (k + 1) a0 a1 a2 a3 a4) := by
 intro a0 a1 a2 a3 a4 k
 obtain ⟨ih0, ih1, ih2⟩ := aA0.mono_l k
 unfold aA0.f
 repeat' first
   | (with_reducible exact ih0 _ _ _ _ _ _)
   | (with_reducible exact ih1 _ _ _ _ _ _ _)
   | (with_reducible exact ih2 _ _ _ _ _ _ _ _)
   | (with_reducible exact aB2.mono _ _ _ _ _)
   | (with_reducible exact LeO.refl _)
   | (with_reducible exact LeO.none _)
   | (with_reducible refine LeO.ite ?_ ?_)
   | (with_reducible refine LeO.bind ?_ (fun _ => ?_))
   | exact ih0 _ _ _ _ _ _
   | exact ih1 _ _ _ _ _ _ _
   | exact ih2 _ _ _ _ _ _ _ _
   | exact aB2.mono _ _ _ _ _
   | exact LeO.none _
   | refine LeO.ite ?_ ?_
   | refine LeO.bind ?_ (fun _ => ?_)
def aA0.T4 : Bool × List (List Nat × List Nat) := (true, [([], []), ([], []), ([0, 1], [0, 1]), ([2], [2]), ([3], [3]), ([3], [3]), ([3], [3]), ([5, 6, 3], [3, 5, 6]), ([7, 3], [3, 7]), ([3], [3]), ([3], [3]), ([10, 3], [3, 10]), ([9, 11, 3], [3, 9, 11]), ([12, 3], [3, 12]), ([4, 8, 13, 3, 3], [3, 4, 8, 13]), ([14, 3], [3, 14]), ([3, 15], [3, 15])])
def aA0.B4 : List Nat := [0, 0, 3, 7, 15, 15, 15, 111, 239, 15, 15, 1039, 3599, 7695, 16383, 32767, 65535]
theorem aA0.tab4 : rtab .any (opsOf Tryz.f125 4) = aA0.T4 := by kernel_rfl
theorem aA0.bits4 : waitsOk aA0.T4.2 aA0.B4 = true := by kernel_rfl
def aA0.T6 : Bool × List (List Nat × List Nat) := (true, [([], []), ([], []), ([], []), ([], []), ([3], [3]), ([], []), ([], []), ([6], [6]), ([5, 7], [5, 7]), ([8], [8]), ([], []), ([], []), ([10, 11], [10, 11]), ([12], [12]), ([0, 1, 0, 1, 5, 6, 7, 8, 9, 13], [0, 1]), ([14, 9, 0, 1, 5, 6, 7, 8, 9, 13], [9, 14]), ([2, 4, 0, 1, 2, 3, 4, 5, 6, 7, 8, 9, 10, 11, 12, 13, 14, 15], [2, 4]), ([16, 13, 15, 0, 1, 2, 3, 4, 5, 6, 7, 8, 9, 10, 11, 12, 13, 14, 15], [13, 16])])
def aA0.B6 : List Nat := [0, 0, 0, 0, 8, 0, 0, 64, 224, 480, 0, 0, 3072, 7168, 16355, 32739, 65535, 131071]
theorem aA0.tab6 : rtab .any (opsOf Tryz.f125 6) = aA0.T6 := by kernel_rfl
theorem aA0.bits6 : waitsOk aA0.T6.2 aA0.B6 = true := by kernel_rfl
set_option maxHeartbeats 8000000 in
set_option maxRecDepth 100000 in
theorem aA0.calls (k : Nat) (P0_ : Nat → Prop) (u9000_ : Value) (l0 : List Int) (a1 : Int) (a2 : Int) (jZ : Option Addr) (kA : Nat) (eR : List (S67)) (kB : Option Addr) (kC : Nat) (eS : List Int) (r : List Int) (w0 w : World) (hB : Below w0.heap.size w0 w) (cP : Kd.R (Kd.int .i64) 3 w w0.heap.size P0_ u9000_ l0) (hr3_0 : ∀ W_, Kept w W_ (fun k_ => P0_ k_) → Kd.C k67 W_ jZ eR.length eR) (jF : eR.length ≤ kA) (hr3_1 : ∀ W_, Kept w W_ (fun k_ => P0_ k_) → Kd.C (Kd.int .i64) W_ kB eS.length eS) (jG : eS.length ≤ kC) (h : aA0.f k l0 a1 a2 eR eS = some r) :
  Calls Tryz.prog 125 #[u9000_, .int .i64 a1, .int .i64 a2, .func (.func 80) #[.agg #[.slice jZ eR.length kA, .slice kB eS.length kC]] #[]] w fun e w' => e = .returned (.tuple #[]) ∧ Kd.R (Kd.int .i64) 3 w' w0.heap.size (fun k_ => (P0_ k_ ∨ w.heap.size ≤ k_)) u9000_ r ∧ Below w0.heap.size w0 w' ∧ Kept w w' (fun k_ => P0_ k_) := by
 have iH := aM (show Kd.R (Kd.int .i64) 3 w w0.heap.size (fun k_ => (P0_ k_ ∨ w.heap.size ≤ k_)) u9000_ l0 from Kd.R_mono cP (fun k_ hk => (.inl hk)))
 have lJ := aM hr3_0
 have lK := aM jF
 clear hr3_0 jF
 have lL := aM hr3_1
 have lM := aM jG
 clear hr3_1 jG
 have HK := aM (Kept.refl w (fun k_ => P0_ k_))
 have HW0 := aM hB.size
 have HB := aM hB
 clear hB
 have H : (aA0.l0 k l0 a1 a2 (wrap64 (a1 + 1)) eR eS) = some r := h
 clear h
 have H' := aM H
 clear H
 go_enter Tryz.func125, Tryz.ntmps125
 go_wp2
 (try simp only [Act.put, List.setIfInBounds_toArray, List.set_cons_zero, List.set_cons_succ])
 go_loopg [8] k (fun kq v8 w' => ∃ (fI : List Int) (dM : Int), v8 = .int .i64 dM ∧ Aside0 (aA0.l0 kq fI a1 a2 dM eR eS = some r) ∧ Aside0 (kq ≤ k) ∧ Aside0 (Kd.R (Kd.int .i64) 3 w' w0.heap.size (fun k_ => (P0_ k_ ∨ w.heap.size ≤ k_)) u9000_ fI) ∧ Aside0 (Kept w w' (fun k_ => P0_ k_)) ∧ Aside0 (Below w0.heap.size w0 w'))
 case atStart => exact ⟨(l0), (wrap64 (a1 + 1)), (by first | rfl | (simp; done) | (simp [*]; done)), H', ⟨Nat.le_refl _⟩, ⟨pR iH.out⟩, ⟨by repeat (first | (with_reducible first | exact HK.out | apply Kept.alloc | apply Kept.drewN | apply Kept.drew) | exact HK.out)⟩, ⟨pE HB⟩⟩
 case round =>
  clear H'
  try clear p2
  try clear c3
  obtain ⟨fI, dM, rfl, HA, fA, cJ, HK, HB⟩ := hrel
  cases gk with
  | zero => exact absurd HA.out (by simp [aA0.l0])
  | succ k1 =>
   have H := HA.out
   clear HA
   simp only [aA0.l0] at H
   by_cases c5 : dM < a2
   rotate_left
   ·rw [if_neg c5] at H
    have gN : decide (dM < a2) = false := decide_eq_false c5
    clear c5
    obtain rfl := Option.some.inj H
    go_wp2
    first | go_end0 | ((try simp only [Exit.inBlock, Exit.then]); refine bodyPost_ret (results_none rfl _ _ _) rfl ?_)
    exact ⟨eT, pR cJ.out, pE HB, by repeat (first | (with_reducible first | exact HK.out | apply Kept.alloc | apply Kept.drewN | apply Kept.drew) | exact HK.out)⟩
   rw [if_pos c5] at H
   have gN : decide (dM < a2) = true := decide_eq_true c5
   clear c5
   have H' := aM H
   clear H
   go_wp2
   (try simp only [Act.put, List.setIfInBounds_toArray, List.set_cons_zero, List.set_cons_succ])
   go_loopg [9] k1 (fun kq v9 w' => ∃ (bZ : List Int) (bW : Int), v9 = .int .i64 bW ∧ Aside0 (aA0.l1 kq bZ a1 a2 dM bW eR eS = some r) ∧ Aside0 (kq ≤ k1) ∧ Aside0 (Kd.R (Kd.int .i64) 3 w' w0.heap.size (fun k_ => (P0_ k_ ∨ w.heap.size ≤ k_)) u9000_ bZ) ∧ Aside0 (Kept w w' (fun k_ => P0_ k_)) ∧ Aside0 (Below w0.heap.size w0 w'))
   case atStart => exact ⟨(fI), (dM), (by first | rfl | (simp; done) | (simp [*]; done)), H', ⟨Nat.le_refl _⟩, ⟨pR cJ.out⟩, ⟨by repeat (first | (with_reducible first | exact HK.out | apply Kept.alloc | apply Kept.drewN | apply Kept.drew) | exact HK.out)⟩, ⟨pE HB⟩⟩
   case round =>
    clear H'
    try clear p2
    try clear c3
    try clear c5
    try clear gN
    try clear p2
    obtain ⟨bZ, bW, rfl, HA, lD, cJ, HK, HB⟩ := hrel
    cases gk with
    | zero => exact absurd HA.out (by simp [aA0.l1])
    | succ k2 =>
     have H := HA.out
     clear HA
     simp only [aA0.l1] at H
     have oL := aM H
     clear H
     go_upto_region 4 with (fail)
     go_cut [34] (fun rO wc => ∃ (kq : Nat) (gV : Bool), rO = .bool gV ∧ Aside0 (aA0.j2 kq bZ a1 a2 dM bW gV eR eS = some r) ∧ Aside0 (kq ≤ k2) ∧ Aside0 (Kd.R (Kd.int .i64) 3 wc w0.heap.size (fun k_ => (P0_ k_ ∨ w.heap.size ≤ k_)) u9000_ bZ) ∧ Aside0 (Kept w wc (fun k_ => P0_ k_)) ∧ Aside0 (Below w0.heap.size w0 wc))
     case first =>
      have H := oL.out
      clear oL
      by_cases c7 : bW > a1
      rotate_left
      ·rw [if_neg c7] at H
       have gP : decide (a1 < bW) = false := decide_eq_false c7
       clear c7
       (first | rw [gP] | (simp only [i64_w, i32_w]; rw [gP]) | skip)
       have H' := aM H
       clear H
       try go_wp2
       replace cJ := aM (Kd.R_drew cJ.out)
       replace HK := aM (Kept.drew HK.out)
       replace HB := aM (below_drew1 HB.out)
       refine start_ (n := 17) (S := fun w' => True) (ds := []) #[false, false, false, false, false, false, false, false, false, false, false, false, false, false, false, false, false] (by kernel_rfl) rfl rfl trivial (fun aG => ?_); refine with_tabW aA0.tab4 aA0.bits4 (fun HT_ HW_ => ?_)
       generalize wr.drew = w17 at cJ HK HB aG ⊢
       refine pu 0 18 ?_
       refine pu 1 19 ?_
       refine pu 2 20 ?_
       refine pu 3 21 ?_
       refine pd 4 22 ?_
       refine pd 5 23 ?_
       refine pd 6 24 ?_
       refine pd 7 25 ?_
       refine pd 8 26 ?_
       refine pd 9 27 ?_
       refine pd 10 28 ?_
       refine pd 11 29 ?_
       refine pd 12 30 ?_
       refine pd 13 31 ?_
       refine pd 14 32 ?_
       refine pd 15 33 ?_
       refine pu 16 34 ?_
       refine done_ (done_of HT_.out (by kernel_rfl)) ?_
       try go_wp2
       go_meet
       case rel => exact ⟨_, (false), (by first | rfl | (simp; done) | (simp [*]; done)), H', ⟨by have := fA.out; have := lD.out; first | omega | exact Nat.le_refl _⟩, ⟨pR cJ.out⟩, ⟨by repeat (first | (with_reducible first | exact HK.out | apply Kept.alloc | apply Kept.drewN | apply Kept.drew) | exact HK.out)⟩, ⟨pE HB⟩⟩
      rw [if_pos c7] at H
      have gP : decide (a1 < bW) = true := decide_eq_true c7
      clear c7
      (first | rw [gP] | (simp only [i64_w, i32_w]; rw [gP]) | skip)
      by_cases c8 : 0 ≤ bW
      rotate_left
      ·rw [if_neg c8] at H
       exact absurd H (by simp)
      rw [if_pos c8] at H
      have oM : decide (0 ≤ bW) = true := decide_eq_true c8
      clear c8
      by_cases c9 : bW < (bZ.length : Int)
      rotate_left
      ·rw [if_neg c9] at H
       exact absurd H (by simp)
      rw [if_pos c9] at H
      have oN : decide (bW < (bZ.length : Int)) = true := decide_eq_true c9
      clear c9
      obtain ⟨eZ, gW⟩ : ∃ j_ : Int, (wrap64 (bW - 1)) = j_ := ⟨_, rfl⟩
      replace H : (if 0 ≤ (eZ) then (if (eZ) < (bZ.length : Int) then ((aB2.f k2 eR eS (rd bZ bW) (rd bZ (eZ))).bind fun bS => (aA0.j2 k2 bZ a1 a2 dM bW (decide (bS < 0)) eR eS)) else (none)) else (none)) = some r := by first | (rw [gW] at H; exact H) | (simp only [gW] at H ⊢; exact H)
      have hji10w : (IntKind.i64.wrap (bW - 1)) = eZ := (i64_w _).trans gW
      by_cases c11 : 0 ≤ (eZ)
      rotate_left
      ·rw [if_neg c11] at H
       exact absurd H (by simp)
      rw [if_pos c11] at H
      have jD : decide (0 ≤ (eZ)) = true := decide_eq_true c11
      clear c11
      by_cases c12 : (eZ) < (bZ.length : Int)
      rotate_left
      ·rw [if_neg c12] at H
       exact absurd H (by simp)
      rw [if_pos c12] at H
      have jE : decide ((eZ) < (bZ.length : Int)) = true := decide_eq_true c12
      clear c12
      obtain ⟨bS, rP, H⟩ := bi H
      have H' := aM H
      clear H
      try go_wp2
      replace cJ := aM (Kd.R_drew cJ.out)
      replace HK := aM (Kept.drew HK.out)
      replace HB := aM (below_drew1 HB.out)
      obtain ⟨bD, bE, iA⟩ := Kd.R_slice cJ.out
      (first | subst iA | (injection iA with f1_ f2_ f3_; have f4_ := f1_.symm; have f5_ := f3_.symm; clear f1_ f2_ f3_; subst f4_; subst f5_))
      have iX : 0 ≤ (bW : Int) := dT
      have iY : bW < (bZ.length : Int) := dT
      obtain ⟨iL, oO, gD⟩ := Kd.at_int (Kd.R_reads' cJ.out).2.2 bW iX iY
      cases oO
      replace iX := eq_true iX
      replace iY := eq_true iY
      have gH : 0 ≤ ((eZ) : Int) := dT
      have gI : (eZ) < (bZ.length : Int) := dT
      obtain ⟨aK, jS, dW⟩ := Kd.at_int (Kd.R_reads' cJ.out).2.2 (eZ) gH gI
      obtain rfl : iL = aK := (by injection jS)
      replace gH := eq_true gH
      replace gI := eq_true gI
      refine start_ (n := 17) (S := fun w' => w'.cell? (iL.add (bW).toNat) = some (.int .i64 (rd bZ bW)) ∧ w'.cell? (iL.add ((eZ)).toNat) = some (.int .i64 (rd bZ (eZ)))) (ds := []) #[false, false, false, false, false, false, false, false, false, false, false, false, false, false, false, false, false] (by kernel_rfl) rfl rfl ⟨gD, dW⟩ (fun aG => ?_); refine with_tabW aA0.tab4 aA0.bits4 (fun HT_ HW_ => ?_)
      generalize wr.drew = w14 at cJ HK HB gD dW aG ⊢
      refine pu 0 18 ?_
      refine pu 1 19 ?_
      refine pu 2 20 ?_
      refine pu 3 21 ?_
      refine pu 4 22 ?_
      refine pu 5 23 ?_
      refine pu 6 24 ?_
      refine pu 7 25 ?_
      refine pu 9 27 ?_
      refine pu 10 28 ?_
      refine pu 11 29 ?_
      refine pu 12 30 ?_
      refine tk 8 26 aG ?_
      refine tk 13 31 aG ?_
      refine on 14 (fun K hK => ?_)
      refine goesW_ Tryz.func80 (by kernel_rfl) rfl #[.agg #[.slice jZ eR.length kA, .slice kB eS.length kC], .int .i64 (rd bZ bW), .int .i64 (rd bZ (eZ))] (by rfl) rfl rfl rfl (by (try simp only [List.map_toArray, List.map_cons, List.map_nil]); first | done | (simp only [gW]; rfl) | rfl | (simp only [List.length_drop, List.length_take]; rfl)) ?_
      with_reducible refine (aB2.calls k2 _ _ eR _ _ eS (rd bZ bW) (rd bZ (eZ)) bS _ ?bF ?bG ?cN ?cO rP.out).mono ?_
      (case bF => exact Kd.C_kept_now lJ.out (by repeat (first | (with_reducible first | exact HK.out | apply Kept.alloc | apply Kept.drewN | apply Kept.drew) | exact HK.out)))
      (case bG => exact lK.out)
      (case cN => exact Kd.C_kept_now lL.out (by repeat (first | (with_reducible first | exact HK.out | apply Kept.alloc | apply Kept.drewN | apply Kept.drew) | exact HK.out)))
      (case cO => exact lM.out)
      rintro e w16 ⟨rfl, hb⟩
      have oP := (hb.cell (World.block_lt_of_cell? _ _ (aG.1))).trans (aG.1)
      have oQ := (hb.cell (World.block_lt_of_cell? _ _ (aG.2))).trans (aG.2)
      refine ⟨_, rfl, ?_⟩
      replace cJ := rb cJ hb
      replace HK := aM (Kept.below (S := (fun k_ => P0_ k_)) (by repeat (first | (with_reducible first | exact HK.out | apply Kept.alloc | apply Kept.drewN | apply Kept.drew) | exact HK.out)) hb)
      replace HB := bs HB hb
      (try clear hb)
      (try clear hb2)
      (try clear hk)
      (try clear hi)
      refine hK.out _ _ ⟨oP, oQ⟩ (fun aG => ?_)
      clear hK K
      refine norm_ (a' := ?_) ?_ ?_
      rotate_left
      ·show Act.put _ (some 32) _ = _
       simp only [Act.put, List.setIfInBounds_toArray, List.set_cons_zero, List.set_cons_succ, i64_w, i32_w]
       rfl
      refine pu 15 33 ?_
      refine pu 16 34 ?_
      refine done_ (done_of HT_.out (by kernel_rfl)) ?_
      try go_wp2
      go_meet
      case rel => exact ⟨_, (decide (bS < 0)), (by first | rfl | (simp; done) | (simp [*]; done)), H', ⟨by have := fA.out; have := lD.out; first | omega | exact Nat.le_refl _⟩, ⟨pR cJ.out⟩, ⟨by repeat (first | (with_reducible first | exact HK.out | apply Kept.alloc | apply Kept.drewN | apply Kept.drew) | exact HK.out)⟩, ⟨pE HB⟩⟩
     case rest =>
      clear oL
      try clear c1
      try clear p1
      try clear q1
      try clear hx1
      try clear p2
      try clear c3
      try clear c5
      try clear gN
      try clear p6
      try clear c7
      try clear gP
      try clear c8
      try clear oM
      try clear c9
      try clear oN
      try clear p10
      try clear q10
      try clear hx10
      try clear c11
      try clear jD
      try clear c12
      try clear jE
      try clear gD
      try clear dW
      try clear iX
      try clear gH
      try clear p2
      try clear iY
      try clear gI
      obtain ⟨kq, gV, rfl, HA, oF, cJ, HK, HB⟩ := hcut
      cases kq with
      | zero => exact absurd HA.out (by simp [aA0.j2])
      | succ kj5 =>
       have H := HA.out
       clear HA
       simp only [aA0.j2] at H
       by_cases c18 : gV = true
       rotate_left
       ·replace c18 := Bool.eq_false_iff.mpr c18
        subst c18
        rw [if_neg (show ¬ (false = true) by decide)] at H
        have H' := aM H
        clear H
        go_wp2
        go_roundg kj5
        case measure => have := fA.out; have := lD.out; have := oF.out; omega
        case rel => exact ⟨(bZ), (wrap64 (dM + 1)), (by first | rfl | (simp; done) | (simp [*]; done)), H', ⟨by have := fA.out; have := lD.out; have := oF.out; omega⟩, ⟨pR cJ.out⟩, ⟨by repeat (first | (with_reducible first | exact HK.out | apply Kept.alloc | apply Kept.drewN | apply Kept.drew) | exact HK.out)⟩, ⟨pE HB⟩⟩
       subst c18
       rw [if_pos rfl] at H
       obtain ⟨dN, gX⟩ : ∃ j_ : Int, (wrap64 (bW - 1)) = j_ := ⟨_, rfl⟩
       replace H : (if 0 ≤ (dN) then (if (dN) < (bZ.length : Int) then (if 0 ≤ bW then (if bW < (bZ.length : Int) then (aA0.l1 kj5 ((bZ.set (bW : Int).toNat (rd bZ (dN))).set ((dN) : Int).toNat (rd bZ bW)) a1 a2 dM dN eR eS) else (none)) else (none)) else (none)) else (none)) = some r := by first | (rw [gX] at H; exact H) | (simp only [gX] at H ⊢; exact H)
       have hji19w : (IntKind.i64.wrap (bW - 1)) = dN := (i64_w _).trans gX
       by_cases c20 : 0 ≤ (dN)
       rotate_left
       ·rw [if_neg c20] at H
        exact absurd H (by simp)
       rw [if_pos c20] at H
       have pW : decide (0 ≤ (dN)) = true := decide_eq_true c20
       clear c20
       by_cases c21 : (dN) < (bZ.length : Int)
       rotate_left
       ·rw [if_neg c21] at H
        exact absurd H (by simp)
       rw [if_pos c21] at H
       have pX : decide ((dN) < (bZ.length : Int)) = true := decide_eq_true c21
       clear c21
       by_cases c22 : 0 ≤ bW
       rotate_left
       ·rw [if_neg c22] at H
        exact absurd H (by simp)
       rw [if_pos c22] at H
       have pY : decide (0 ≤ bW) = true := decide_eq_true c22
       clear c22
       by_cases c23 : bW < (bZ.length : Int)
       rotate_left
       ·rw [if_neg c23] at H
        exact absurd H (by simp)
       rw [if_pos c23] at H
       have pZ : decide (bW < (bZ.length : Int)) = true := decide_eq_true c23
       clear c23
       obtain ⟨lN, iM⟩ : ∃ y_ : List Int, y_ = (bZ.set (bW : Int).toNat (rd bZ (dN))) := ⟨_, rfl⟩
       replace H : (aA0.l1 kj5 (lN.set ((dN) : Int).toNat (rd bZ bW)) a1 a2 dM dN eR eS) = some r := yy iM H
       have lO := aM iM
       clear iM
       obtain ⟨lP, iN⟩ : ∃ y_ : List Int, y_ = (lN.set ((dN) : Int).toNat (rd bZ bW)) := ⟨_, rfl⟩
       replace H : (aA0.l1 kj5 lP a1 a2 dM dN eR eS) = some r := yy iN H
       have lQ := aM iN
       clear iN
       have H' := aM H
       clear H
       try go_wp2
       replace cJ := aM (Kd.R_drew cJ.out)
       replace HK := aM (Kept.drew HK.out)
       replace HB := aM (below_drew1 HB.out)
       obtain ⟨rQ, rR, lR⟩ := Kd.R_slice cJ.out
       (first | subst lR | (injection lR with f1_ f2_ f3_; have f4_ := f1_.symm; have f5_ := f3_.symm; clear f1_ f2_ f3_; subst f4_; subst f5_))
       have kD : 0 ≤ ((dN) : Int) := dT
       have kE : (dN) < (bZ.length : Int) := dT
       obtain ⟨lS, oR, gE⟩ := Kd.at_int (Kd.R_reads' cJ.out).2.2 (dN) kD kE
       cases oR
       replace kD := eq_true kD
       replace kE := eq_true kE
       have kF : 0 ≤ (bW : Int) := dT
       have kG : bW < (bZ.length : Int) := dT
       obtain ⟨lT, oS, gF⟩ := Kd.at_int (Kd.R_reads' cJ.out).2.2 bW kF kG
       obtain rfl : lS = lT := (by injection oS)
       replace kF := eq_true kF
       replace kG := eq_true kG
       have p24 : 0 ≤ (bW : Int) := dT
       have q24 : (bW : Int) < ((bZ.length : Int) : Int) := dT
       obtain ⟨iZ, rS, lU, lV, gl24, cl24, HG24⟩ := Kd.R_form cJ.out (by omega)
       (first | cases lU | (injection lU with ea_ en_ ec_; (first | subst ea_ | (injection ea_ with ea_; subst ea_)); subst ec_; clear en_))
       have rT := aM lV
       have oT := aM HG24
       clear lV gl24 HG24
       have HMgo24 := aM (show (P0_ iZ ∨ w.heap.size ≤ iZ) from (cJ.out.1 _ rfl))
       (first | simp only [add_plain] at gE | skip)
       (first | simp only [add_plain] at gF | skip)
       obtain ⟨kH, kI⟩ := Kd.R_celln 0 cJ.out (bW : Int) p24 q24
       replace p24 := eq_true p24
       replace q24 := eq_true q24
       have HP28 := Kd.R_putn cJ.out (bW : Int) (rd bZ (dN))
       rw [← lO.out] at HP28
       have HQ28 := aM HP28
       clear HP28
       have p25 : 0 ≤ ((dN) : Int) := dT
       have q25 : ((dN) : Int) < ((bZ.length : Int) : Int) := dT
       obtain ⟨kJ, kK⟩ := Kd.R_celln 0 HQ28.out ((dN) : Int) p25 q25
       replace p25 := eq_true p25
       replace q25 := eq_true q25
       have HP29 := Kd.R_putn HQ28.out ((dN) : Int) (rd bZ bW)
       rw [← lQ.out] at HP29
       have HQ29 := aM HP29
       clear HP29
       refine start_ (n := 18) (S := fun w' => w'.cell? ⟨iZ, ((dN)).toNat, none⟩ = some (.int .i64 (rd bZ (dN))) ∧ w'.cell? ⟨iZ, (bW).toNat, none⟩ = some (.int .i64 (rd bZ bW))) (ds := [15, 17]) #[false, false, false, false, false, false, false, false, false, false, false, false, false, false, false, false, false, false] (by kernel_rfl) rfl rfl ⟨gE, gF⟩ (fun aG => ?_); refine with_tabW aA0.tab6 aA0.bits6 (fun HT_ HW_ => ?_)
       generalize wc.drew = w26 at cJ HK HB oT HQ28 HQ29 kI kK gE gF kH kJ aG ⊢
       refine pu 0 37 ?_
       refine pu 1 38 ?_
       refine pu 2 39 ?_
       refine pu 3 40 ?_
       refine pu 4 41 ?_
       refine pu 5 42 ?_
       refine pu 6 43 ?_
       refine pu 7 44 ?_
       refine pu 8 45 ?_
       refine pu 10 47 ?_
       refine pu 11 48 ?_
       refine pu 12 49 ?_
       refine tk 9 46 aG ?_
       refine tk 13 50 aG ?_
       refine pu 14 51 ?_
       refine last_ (i := 15) (N := none) #[true, true, true, true, true, true, true, true, true, true, true, true, true, true, true, true, false, false] rfl rfl (one_of HT_.out (by kernel_rfl)) (by decide) (fun K hK => ?_)
       refine skip_ (w1 := ?_) (by rfl) rfl ?_ ?_
       rotate_left
       ·go_simp
        rfl
       refine hK.out _ _ ?_
       clear hK K
       refine pu 16 52 ?_
       refine last_ (i := 17) (N := none) #[true, true, true, true, true, true, true, true, true, true, true, true, true, true, true, true, true, true] rfl rfl (one_of HT_.out (by kernel_rfl)) (by decide) (fun K hK => ?_)
       refine skip_ (w1 := ?_) (by rfl) rfl ?_ ?_
       rotate_left
       ·go_simp
        rfl
       refine hK.out _ _ ?_
       clear hK K
       refine done_ (done_of HT_.out (by kernel_rfl)) ?_
       try go_wp2
       go_roundg kj5
       case measure => have := fA.out; have := lD.out; have := oF.out; omega
       case rel => exact ⟨(lP), (dN), (by first | rfl | (simp; done) | (simp only [← gX] <;> (first | rfl | simp)) | (simp [*]; done)), H', ⟨by have := fA.out; have := lD.out; have := oF.out; omega⟩, ⟨pR HQ29.out⟩, ⟨by repeat (first | (with_reducible first | exact HK.out | apply Kept.alloc | apply Kept.drewN | apply Kept.drew | refine Kept.setCell ?_ HMgo24.out _ | refine Kept.setCell ?_ HMgo24.out _) | exact HK.out)⟩, ⟨pE HB⟩⟩
def aA5.l0 : Nat → List Int → Int → Int → Int → Bool → List (S67) → List Int → Option (List Int)
 | 0, _, _, _, _, _, _, _ => none
 | k + 1, x0, x1, x2, x3, x10, kL, kM => if (wrap64 (x2 - x1)) ≤ 12 then ((aA0.f k x0 x1 x2 kL kM).bind fun fU => (some fU)) else (if x3 = 0 then (none) else (if x10 = true then (none) else (none)))
def aA5.f (k : Nat) (l0 : List Int) (a1 : Int) (a2 : Int) (a3 : Int) (fV : List (S67)) (fW : List Int) : Option (List Int) := aA5.l0 k l0 a1 a2 a3 true fV fW
theorem aA5.mono_l : ∀ k, (∀ y0 y1 y2 y3 y4 y5 y6, LeO (aA5.l0 k y0 y1 y2 y3 y4 y5 y6) (aA5.l0 (k + 1) y0 y1 y2 y3 y4 y5 y6))
 | 0 => fun _ _ _ _ _ _ _ r h => by simp [aA5.l0] at h
 | k + 1 => by
  have ih0 := aA5.mono_l k
  ·intro y0 y1 y2 y3 y4 y5 y6
   unfold aA5.l0
   repeat' first
   | (with_reducible exact ih0 _ _ _ _ _ _ _)
   | (with_reducible exact aA0.mono _ _ _ _ _ _)
   | (with_reducible exact LeO.refl _)
   | (with_reducible exact LeO.none _)
   | (with_reducible refine LeO.ite ?_ ?_)
   | (with_reducible refine LeO.bind ?_ (fun _ => ?_))
   | exact ih0 _ _ _ _ _ _ _
   | exact aA0.mono _ _ _ _ _ _
   | exact LeO.none _
   | refine LeO.ite ?_ ?_
   | refine LeO.bind ?_ (fun _ => ?_)
theorem aA5.mono : ∀ a0 a1 a2 a3 a4 a5 k, LeO (aA5.f k a0 a1 a2 a3 a4 a5) (aA5.f (k + 1) a0 a1 a2 a3 a4 a5) := by
 intro a0 a1 a2 a3 a4 a5 k
 have ih0 := aA5.mono_l k
 unfold aA5.f
 repeat' first
   | (with_reducible exact ih0 _ _ _ _ _ _ _)
   | (with_reducible exact aA0.mono _ _ _ _ _ _)
   | (with_reducible exact LeO.refl _)
   | (with_reducible exact LeO.none _)
   | (with_reducible refine LeO.ite ?_ ?_)
   | (with_reducible refine LeO.bind ?_ (fun _ => ?_))
   | exact ih0 _ _ _ _ _ _ _
   | exact aA0.mono _ _ _ _ _ _
   | exact LeO.none _
   | refine LeO.ite ?_ ?_
   | refine LeO.bind ?_ (fun _ => ?_)
set_option maxHeartbeats 8000000 in
set_option maxRecDepth 100000 in
theorem aA5.calls (k : Nat) (P0_ : Nat → Prop) (u9000_ : Value) (l0 : List Int) (a1 : Int) (a2 : Int) (a3 : Int) (kN : Option Addr) (kO : Nat) (fV : List (S67)) (kP : Option Addr) (kQ : Nat) (fW : List Int) (r : List Int) (w0 w : World) (hB : Below w0.heap.size w0 w) (cP : Kd.R (Kd.int .i64) 3 w w0.heap.size P0_ u9000_ l0) (hr4_0 : ∀ W_, Kept w W_ (fun k_ => P0_ k_) → Kd.C k67 W_ kN fV.length fV) (jH : fV.length ≤ kO) (hr4_1 : ∀ W_, Kept w W_ (fun k_ => P0_ k_) → Kd.C (Kd.int .i64) W_ kP fW.length fW) (jI : fW.length ≤ kQ) (h : aA5.f k l0 a1 a2 a3 fV fW = some r) :
  Calls Tryz.prog 119 #[u9000_, .int .i64 a1, .int .i64 a2, .int .i64 a3, .func (.func 80) #[.agg #[.slice kN fV.length kO, .slice kP fW.length kQ]] #[]] w fun e w' => e = .returned (.tuple #[]) ∧ Kd.R (Kd.int .i64) 3 w' w0.heap.size (fun k_ => (P0_ k_ ∨ w.heap.size ≤ k_)) u9000_ r ∧ Below w0.heap.size w0 w' ∧ Kept w w' (fun k_ => P0_ k_) := by
 have iH := aM (show Kd.R (Kd.int .i64) 3 w w0.heap.size (fun k_ => (P0_ k_ ∨ w.heap.size ≤ k_)) u9000_ l0 from Kd.R_mono cP (fun k_ hk => (.inl hk)))
 have lW := aM hr4_0
 have lX := aM jH
 clear hr4_0 jH
 have lY := aM hr4_1
 have lZ := aM jI
 clear hr4_1 jI
 have HK := aM (Kept.refl w (fun k_ => P0_ k_))
 have HW0 := aM hB.size
 have HB := aM hB
 clear hB
 have H : (aA5.l0 k l0 a1 a2 a3 true fV fW) = some r := h
 clear h
 have H' := aM H
 clear H
 go_enter Tryz.func119, Tryz.ntmps119
 go_wp2
 (try simp only [Act.put, List.setIfInBounds_toArray, List.set_cons_zero, List.set_cons_succ])
 go_loopg [1, 2, 3, 10] k (fun kq v1 v2 v3 rU w' => ∃ (fI : List Int) (gJ : Int) (eM : Int) (iB : Int) (gY : Bool), v1 = .int .i64 gJ ∧ v2 = .int .i64 eM ∧ v3 = .int .i64 iB ∧ rU = .bool gY ∧ Aside0 (aA5.l0 kq fI gJ eM iB gY fV fW = some r) ∧ Aside0 (kq ≤ k) ∧ Aside0 (Kd.R (Kd.int .i64) 3 w' w0.heap.size (fun k_ => (P0_ k_ ∨ w.heap.size ≤ k_)) u9000_ fI) ∧ Aside0 (Kept w w' (fun k_ => P0_ k_)) ∧ Aside0 (Below w0.heap.size w0 w'))
 case atStart => exact ⟨(l0), (a1), (a2), (a3), (true), (by first | rfl | (simp; done) | (simp [*]; done)), (by first | rfl | (simp; done) | (simp [*]; done)), (by first | rfl | (simp; done) | (simp [*]; done)), (by first | rfl | (simp; done) | (simp [*]; done)), H', ⟨Nat.le_refl _⟩, ⟨pR iH.out⟩, ⟨by repeat (first | (with_reducible first | exact HK.out | apply Kept.alloc | apply Kept.drewN | apply Kept.drew) | exact HK.out)⟩, ⟨pE HB⟩⟩
 case round =>
  clear H'
  try clear p2
  try clear c4
  obtain ⟨fI, gJ, eM, iB, gY, rfl, rfl, rfl, rfl, HA, fA, cJ, HK, HB⟩ := hrel
  cases gk with
  | zero => exact absurd HA.out (by simp [aA5.l0])
  | succ k1 =>
   have H := HA.out
   clear HA
   simp only [aA5.l0] at H
   by_cases c6 : (wrap64 (eM - gJ)) ≤ 12
   rotate_left
   ·rw [if_neg c6] at H
    have jR : decide ((wrap64 (eM - gJ)) ≤ 12) = false := decide_eq_false c6
    clear c6
    by_cases c10 : iB = 0
    ·rw [if_pos c10] at H
     exact absurd H (by simp)
    ·rw [if_neg c10] at H
     have lE : (iB == 0) = false := beq_eq_false_iff_ne.mpr c10
     have qA : (iB != 0) = true := bne_iff_ne.mpr c10
     by_cases c11 : gY = true
     ·subst c11
      rw [if_pos rfl] at H
      exact absurd H (by simp)
     ·replace c11 := Bool.eq_false_iff.mpr c11
      subst c11
      rw [if_neg (show ¬ (false = true) by decide)] at H
      exact absurd H (by simp)
   rw [if_pos c6] at H
   have jR : decide ((wrap64 (eM - gJ)) ≤ 12) = true := decide_eq_true c6
   clear c6
   obtain ⟨fU, A7, H⟩ := bi H
   obtain rfl := Option.some.inj H
   obtain ⟨oU, oV, rV⟩ := Kd.R_slice cJ.out
   subst rV
   go_wp2_with (first | ((with_reducible refine gc 125 rfl ?_); refine gL 30 Tryz.func125 #[.slice oU fI.length oV, .int .i64 gJ, .int .i64 eM, .func (.func 80) #[.agg #[.slice kN fV.length kO, .slice kP fW.length kQ]] #[]] ?_; (with_reducible refine (aA0.calls k1 (fun k_ => some k_ = (.slice oU fI.length oV : Value).ownBlock) (.slice oU fI.length oV) fI gJ eM _ _ fV _ _ fW fU w0 _ ?bF ?bG ?cN ?cO ?gK ?gM A7.out).mono ?_); (case bF => repeat (first | (with_reducible first | exact HB.out | apply below_alloc | apply pw_below_drewN | apply below_drew1) | exact HB.out)); (case bG => exact Kd.R_tight rfl cJ.out); (case cN => exact Kd.C_kept_call lW.out (by repeat (first | (with_reducible first | exact HK.out | apply Kept.alloc | apply Kept.drewN | apply Kept.drew) | exact HK.out)) (fun k_ hs_ => (fun e_ => (cJ.out.1 k_ e_.symm)) hs_)); (case cO => exact lX.out); (case gK => exact Kd.C_kept_call lY.out (by repeat (first | (with_reducible first | exact HK.out | apply Kept.alloc | apply Kept.drewN | apply Kept.drew) | exact HK.out)) (fun k_ hs_ => (fun e_ => (cJ.out.1 k_ e_.symm)) hs_)); (case gM => exact lZ.out); rintro e w9 ⟨rfl, jJ, hb, hkp⟩; refine ⟨_, rfl, ?_⟩; replace HK := aM (Kept.then_ (S := (fun k_ => P0_ k_)) (by repeat (first | (with_reducible first | exact HK.out | apply Kept.alloc | apply Kept.drewN | apply Kept.drew) | exact HK.out)) hkp (fun k_ hs_ => (fun e_ => (cJ.out.1 k_ e_.symm)) hs_)); replace cJ := aM (Kd.R_reok rfl jJ (fun k_ e_ => cJ.out.1 k_ e_)); replace HB := aM (hb); clear hb hkp jJ))
   first | go_end0 | ((try simp only [Exit.inBlock, Exit.then]); refine bodyPost_ret (results_none rfl _ _ _) rfl ?_)
   exact ⟨eT, pR cJ.out, pE HB, by repeat (first | (with_reducible first | exact HK.out | apply Kept.alloc | apply Kept.drewN | apply Kept.drew) | exact HK.out)⟩
def aB0.f (k : Nat) (l0 : List Int) (fY : List (S67)) (fZ : List Int) : Option (List Int) := (aD2.f k (IntKind.u64.wrap ((l0.length : Int)))).bind fun fU => ((aA5.f k l0 0 (l0.length : Int) fU fY fZ).bind fun bB => (some bB))
theorem aB0.mono : ∀ a0 a1 a2 k, LeO (aB0.f k a0 a1 a2) (aB0.f (k + 1) a0 a1 a2) := by
 intro a0 a1 a2 k
 unfold aB0.f
 repeat' first
   | (with_reducible exact aD2.mono _ _)
   | (with_reducible exact aA5.mono _ _ _ _ _ _ _)
   | (with_reducible exact LeO.refl _)
   | (with_reducible exact LeO.none _)
   | (with_reducible refine LeO.ite ?_ ?_)
   | (with_reducible refine LeO.bind ?_ (fun _ => ?_))
   | exact aD2.mono _ _
   | exact aA5.mono _ _ _ _ _ _ _
   | exact LeO.none _
   | refine LeO.ite ?_ ?_
   | refine LeO.bind ?_ (fun _ => ?_)
set_option maxHeartbeats 8000000 in
set_option maxRecDepth 100000 in
theorem aB0.calls (k : Nat) (P0_ : Nat → Prop) (u9000_ : Value) (l0 : List Int) (kR : Option Addr) (kS : Nat) (fY : List (S67)) (kT : Option Addr) (kU : Nat) (fZ : List Int) (r : List Int) (w0 w : World) (hB : Below w0.heap.size w0 w) (cP : Kd.R (Kd.int .i64) 3 w w0.heap.size P0_ u9000_ l0) (hr1_0 : ∀ W_, Kept w W_ (fun k_ => P0_ k_) → Kd.C k67 W_ kR fY.length fY) (jK : fY.length ≤ kS) (hr1_1 : ∀ W_, Kept w W_ (fun k_ => P0_ k_) → Kd.C (Kd.int .i64) W_ kT fZ.length fZ) (jL : fZ.length ≤ kU) (h : aB0.f k l0 fY fZ = some r) :
  Calls Tryz.prog 97 #[u9000_, .func (.func 80) #[.agg #[.slice kR fY.length kS, .slice kT fZ.length kU]] #[]] w fun e w' => e = .returned (.tuple #[]) ∧ Kd.R (Kd.int .i64) 3 w' w0.heap.size (fun k_ => (P0_ k_ ∨ w.heap.size ≤ k_)) u9000_ r ∧ Below w0.heap.size w0 w' ∧ Kept w w' (fun k_ => P0_ k_) := by
 have iH := aM (show Kd.R (Kd.int .i64) 3 w w0.heap.size (fun k_ => (P0_ k_ ∨ w.heap.size ≤ k_)) u9000_ l0 from Kd.R_mono cP (fun k_ hk => (.inl hk)))
 have mA := aM hr1_0
 have mB := aM jK
 clear hr1_0 jK
 have mC := aM hr1_1
 have mD := aM jL
 clear hr1_1 jL
 have HK := aM (Kept.refl w (fun k_ => P0_ k_))
 have HW0 := aM hB.size
 have HB := aM hB
 clear hB
 have H : ((aD2.f k (IntKind.u64.wrap ((l0.length : Int)))).bind fun fU => ((aA5.f k l0 0 (l0.length : Int) fU fY fZ).bind fun bB => (some bB))) = some r := h
 clear h
 obtain ⟨fU, A3, H⟩ := bi H
 obtain ⟨bB, A4, H⟩ := bi H
 obtain rfl := Option.some.inj H
 obtain ⟨oW, oX, rW⟩ := Kd.R_slice iH.out
 subst rW
 go_enter Tryz.func97, Tryz.ntmps97
 go_wp2_with (first | ((with_reducible refine gc 120 rfl ?_); refine gL 11 Tryz.func120 #[.int .u64 (IntKind.u64.wrap ((l0.length : Int)))] ?_; (with_reducible refine (aD2.calls k (IntKind.u64.wrap ((l0.length : Int))) fU _ A3.out).mono ?_); rintro e w' ⟨rfl, ⟨nd, rfl⟩⟩; refine ⟨_, rfl, ?_⟩) | ((with_reducible refine gc 119 rfl ?_); refine gL 13 Tryz.func119 #[.slice oW l0.length oX, .int .i64 0, .int .i64 (l0.length : Int), .int .i64 fU, .func (.func 80) #[.agg #[.slice kR fY.length kS, .slice kT fZ.length kU]] #[]] ?_; (with_reducible refine (aA5.calls k (fun k_ => some k_ = (.slice oW l0.length oX : Value).ownBlock) (.slice oW l0.length oX) l0 0 (l0.length : Int) fU _ _ fY _ _ fZ bB w0 _ ?bF ?bG ?cN ?cO ?gK ?gM A4.out).mono ?_); (case bF => repeat (first | (with_reducible first | exact HB.out | apply below_alloc | apply pw_below_drewN | apply below_drew1) | exact HB.out)); (case bG => exact Kd.R_tight rfl iH.out); (case cN => exact Kd.C_kept_call mA.out (by repeat (first | (with_reducible first | exact HK.out | apply Kept.alloc | apply Kept.drewN | apply Kept.drew) | exact HK.out)) (fun k_ hs_ => (fun e_ => (iH.out.1 k_ e_.symm)) hs_)); (case cO => exact mB.out); (case gK => exact Kd.C_kept_call mC.out (by repeat (first | (with_reducible first | exact HK.out | apply Kept.alloc | apply Kept.drewN | apply Kept.drew) | exact HK.out)) (fun k_ hs_ => (fun e_ => (iH.out.1 k_ e_.symm)) hs_)); (case gM => exact mD.out); rintro e w6 ⟨rfl, jJ, hb, hkp⟩; refine ⟨_, rfl, ?_⟩; replace HK := aM (Kept.then_ (S := (fun k_ => P0_ k_)) (by repeat (first | (with_reducible first | exact HK.out | apply Kept.alloc | apply Kept.drewN | apply Kept.drew) | exact HK.out)) hkp (fun k_ hs_ => (fun e_ => (iH.out.1 k_ e_.symm)) hs_)); replace iH := aM (Kd.R_reok rfl jJ (fun k_ e_ => iH.out.1 k_ e_)); replace HB := aM (hb); clear hb hkp jJ))
 first | go_end0 | ((try simp only [Exit.inBlock, Exit.then]); refine bodyPost_ret (results_none rfl _ _ _) rfl ?_)
 exact ⟨eT, pR iH.out, pE HB, by repeat (first | (with_reducible first | exact HK.out | apply Kept.alloc | apply Kept.drewN | apply Kept.drew) | exact HK.out)⟩
def aB1.l0 : Nat → List Int → Int → Int → List (S67) → List Int → Option (List Int)
 | 0, _, _, _, _, _ => none
 | k + 1, x2, x7, x8, gZ, hU => if x8 < x7 then (if x2.length < 17592186044416 then (aB1.l0 k (x2 ++ [x8]) x7 (wrap64 (x8 + 1)) gZ hU) else (none)) else ((aB0.f k x2 gZ hU).bind fun bO => (some bO))
def aB1.f (k : Nat) (aC : List (S67)) (aD : List Int) : Option (List Int) := aB1.l0 k ([] : List Int) (aC.length : Int) 0 aC aD
theorem aB1.mono_l : ∀ k, (∀ y0 y1 y2 y3 y4, LeO (aB1.l0 k y0 y1 y2 y3 y4) (aB1.l0 (k + 1) y0 y1 y2 y3 y4))
 | 0 => fun _ _ _ _ _ r h => by simp [aB1.l0] at h
 | k + 1 => by
  have ih0 := aB1.mono_l k
  ·intro y0 y1 y2 y3 y4
   unfold aB1.l0
   repeat' first
   | (with_reducible exact ih0 _ _ _ _ _)
   | (with_reducible exact aB0.mono _ _ _ _)
   | (with_reducible exact LeO.refl _)
   | (with_reducible exact LeO.none _)
   | (with_reducible refine LeO.ite ?_ ?_)
   | (with_reducible refine LeO.bind ?_ (fun _ => ?_))
   | exact ih0 _ _ _ _ _
   | exact aB0.mono _ _ _ _
   | exact LeO.none _
   | refine LeO.ite ?_ ?_
   | refine LeO.bind ?_ (fun _ => ?_)
theorem aB1.mono : ∀ a0 a1 k, LeO (aB1.f k a0 a1) (aB1.f (k + 1) a0 a1) := by
 intro a0 a1 k
 have ih0 := aB1.mono_l k
 unfold aB1.f
 repeat' first
   | (with_reducible exact ih0 _ _ _ _ _)
   | (with_reducible exact aB0.mono _ _ _ _)
   | (with_reducible exact LeO.refl _)
   | (with_reducible exact LeO.none _)
   | (with_reducible refine LeO.ite ?_ ?_)
   | (with_reducible refine LeO.bind ?_ (fun _ => ?_))
   | exact ih0 _ _ _ _ _
   | exact aB0.mono _ _ _ _
   | exact LeO.none _
   | refine LeO.ite ?_ ?_
   | refine LeO.bind ?_ (fun _ => ?_)
set_option maxHeartbeats 8000000 in
set_option maxRecDepth 100000 in
theorem aB1.calls (k : Nat) (aX : Option Addr) (aN : Nat) (aC : List (S67)) (aT : Option Addr) (aQ : Nat) (aD : List Int) (r : List Int) (w : World) (hr0_0 : Kd.C k67 w aX aC.length aC) (dI : aC.length ≤ aN) (hr0_1 : Kd.C (Kd.int .i64) w aT aD.length aD) (dJ : aD.length ≤ aQ) (h : aB1.f k aC aD = some r) :
  Calls Tryz.prog 63 #[.agg #[.slice aX aC.length aN, .slice aT aD.length aQ]] w fun e w' => ∃ v0_ : Value, e = .returned (v0_) ∧ Kd.R (Kd.int .i64) 3 w' w.heap.size (fun _ => True) v0_ r ∧ Below w.heap.size w w' := by
 have hu99 := Tryz.underlying99
 have dA := aM hr0_0
 have dK := aM dI
 clear hr0_0 dI
 have dB := aM hr0_1
 have dL := aM dJ
 clear hr0_1 dJ
 have HB := aM (Below.refl w.heap.size w)
 have H : (aB1.l0 k ([] : List Int) (aC.length : Int) 0 aC aD) = some r := h
 clear h
 have H' := aM H
 clear H
 go_enter Tryz.func63, Tryz.ntmps63
 go_wp2_with (first | ((with_reducible refine gate_dst (N := 1) rfl ?_); refine bx 1 #[.slice aX aC.length aN, .slice aT aD.length aQ] 99 ?_; intro aI hg w2 hbox hb; have aA := hbox; have aY := gs HB hg; have eO := gs HB hg; replace HB := bs HB hb; clear hb hbox hg; obtain ⟨kV, kW, kX, kY⟩ := cf2 aA))
 go_loopg [2, 8] k (fun kq v2 v8 w' => ∃ (eM : List Int) (dM : Int), v8 = .int .i64 dM ∧ Aside0 (aB1.l0 kq eM (aC.length : Int) dM aC aD = some r) ∧ Aside0 (kq ≤ k) ∧ Aside0 (Kd.R (Kd.int .i64) 3 w' w.heap.size (fun _ => True) v2 eM) ∧ Aside0 (w'.heap[aI]? = some (.cells #[(.slice aX aC.length aN), (.slice aT aD.length aQ)] 99 (0, 0))) ∧ Aside0 (Below w.heap.size w w'))
 case atStart => exact ⟨(([] : List Int)), (0), (by first | rfl | (simp; done) | (simp [*]; done)), H', ⟨Nat.le_refl _⟩, ⟨by first | exact Kd.R_nil _ _ _ _ _ | exact Kd.N_nil _ _ _ _ _ | exact Kd.V_nil _ _ _ _ _ | exact Kd.Q_nil _ _ _ _ _ | exact Kd.S_nil _ _ _ _ _⟩, ⟨pB aA.out⟩, ⟨pE HB⟩⟩
 case round =>
  clear H'
  try clear p2
  try clear kV
  try clear kW
  try clear kX
  try clear kY
  obtain ⟨eM, dM, rfl, HA, fA, fX, aA, HB⟩ := hrel
  cases gk with
  | zero => exact absurd HA.out (by simp [aB1.l0])
  | succ k1 =>
   have H := HA.out
   clear HA
   simp only [aB1.l0] at H
   by_cases c4 : dM < (aC.length : Int)
   rotate_left
   ·rw [if_neg c4] at H
    have gG : decide (dM < (aC.length : Int)) = false := decide_eq_false c4
    clear c4
    obtain ⟨bO, A7, H⟩ := bi H
    obtain rfl := Option.some.inj H
    obtain ⟨_, _, _, _⟩ := cf2 aA
    obtain ⟨iO, iI, oY⟩ := Kd.R_slice fX.out
    subst oY
    go_wp2_with (first | ((with_reducible refine gc 97 rfl ?_); refine gL 19 Tryz.func97 #[.slice iO eM.length iI, .func (.func 80) #[.agg #[.slice aX aC.length aN, .slice aT aD.length aQ]] #[]] ?_; (with_reducible refine (aB0.calls k1 (fun k_ => some k_ = (.slice iO eM.length iI : Value).ownBlock) (.slice iO eM.length iI) eM _ _ aC _ _ aD bO w _ ?bF ?bG ?cN ?cO ?gK ?gM A7.out).mono ?_); (case bF => repeat (first | (with_reducible first | exact HB.out | apply below_alloc | apply pw_below_drewN | apply below_drew1 | refine below_set ?_ eO.out) | exact HB.out)); (case bG => exact Kd.R_tight rfl fX.out); (case cN => exact Kd.C_kept_came k67_heap dA.out (pE HB) (fun k_ hs_ => (fun e_ => Kd.R_base fX.out k_ e_.symm) hs_)); (case cO => exact dK.out); (case gK => exact Kd.C_kept_came (Kd.heap_int .i64) dB.out (pE HB) (fun k_ hs_ => (fun e_ => Kd.R_base fX.out k_ e_.symm) hs_)); (case gM => exact dL.out); rintro e w10 ⟨rfl, jJ, hb, hkp⟩; refine ⟨_, rfl, ?_⟩; replace aA := aM (blk_kept (pB aA.out) hkp (fun hs_ => (fun e_ => (Kd.R_ne fX.out aA.out (by decide)) e_) hs_)); replace fX := aM (Kd.R_reok rfl jJ (fun k_ e_ => fX.out.1 k_ e_)); replace HB := aM (hb); clear hb hkp jJ))
    go_ret
    exact ⟨_, eT, pR fX.out, pE HB⟩
   rw [if_pos c4] at H
   have gG : decide (dM < (aC.length : Int)) = true := decide_eq_true c4
   clear c4
   by_cases c5 : eM.length < 17592186044416
   rotate_left
   ·rw [if_neg c5] at H
    exact absurd H (by simp)
   rw [if_pos c5] at H
   have oZ := aM c5
   clear c5
   obtain ⟨mE, iP⟩ : ∃ y_ : List Int, y_ = (eM ++ [dM]) := ⟨_, rfl⟩
   replace H : (aB1.l0 k1 mE (aC.length : Int) (wrap64 (dM + 1)) aC aD) = some r := yy iP H
   have mF := aM iP
   clear iP
   have H' := aM H
   clear H
   go_wp2_with (first | ((with_reducible refine gate_builtin (b := .append) (xs := #[.tmp 11, .tmp 13]) rfl ?_); at_builtin; refine Kd.R_append (Kd.int .i64) (w0 := w) w.heap.size rfl (.tmp 11) (.tmp 13) 23 3 (.int .i64 0) 8 rfl Tryz.underlying23 info3 rfl (by decide) (by omega) u2 eM dM [.int .i64 dM] (fun _ => True) (fun _ => False) rfl rfl ?aP (fun _ hk => hk.elim) ?aF ?aO ?aB ?aS ?aL ?_; (case aP => exact rfl); (case aB => exact (pE HB)); (case aF => exact (fun _ _ => trivial)); (case aO => exact (pR fX.out)); (case aS => exact (below_size (pE HB))); (case aL => have := oZ.out; omega); intro jA w6 ho hb hg hat; rw [← mF.out] at ho; replace aA := aM (blk_grown (g := aI) (o := .cells #[.slice aX aC.length aN, .slice aT aD.length aQ] 99 (0, 0)) (pB aA.out) hg (Kd.R_ne fX.out aA.out (by decide))); replace HB := aM (hb); have aU := aM (ho); clear fX; clear ho hb hg hat))
   go_roundg k1
   case measure => have := fA.out; omega
   case rel => exact ⟨(mE), (wrap64 (dM + 1)), (by first | rfl | (simp; done) | (simp [*]; done)), H', ⟨by have := fA.out; omega⟩, ⟨pR aU.out⟩, ⟨pB aA.out⟩, ⟨pE HB⟩⟩
end Go.Proofs.YtlmglnobdcgbeaaGreat.P
namespace Go.Proofs.YtlmglnobdcgbeaaGreat.P
open Go.RowKit Go.Shelf Go.Proofs.YtlmglnobdcgbeaaGreatW.PrintWords Go.Proofs.YtlmglnobdcgbeaaGreatW.PrintLast Go.Proofs.YtlmglnobdcgbeaaGreatW.PrintMore Go.Proofs.YtlmglnobdcgbeaaGreat.R
def worstW (a : Int × Int) (t : Int × Int) : Int × Int := if t.2 > a.2 then t else a
theorem marks_q {P : Program} {F : Fence} {n : Nat} {f : FuncId} {fn : Func} {c : Code} {args : Array Value} {w : World} {R : Ending → World → Prop}
    (hf : P.funcs[f]? = some fn) (hb : fn.body = some c) (hF : F.fn f)
    (h : ∀ Q : Exit → Act → World → Prop, (∀ c a a' w, a.defers = a'.defers → Q (.panic c) a w → Q (.panic c) a' w) → (∀ e a w, (∀ c, e = .panic c → False) → bodyPostM F n P fn R e a w → Q e a w) → c.wpIn F n P Q { tmps := args ++ Array.replicate (fn.ntmps - args.size) undef, defers := [] } w) (hro : F.round = none := by rfl) : CallsIn F n P f args w R := by
  let Q : Exit → Act → World → Prop := fun e a w => match e with | .panic _ => False | e => bodyPostM F n P fn R e a w
  refine callsIn_of_wp_marks hf hb hF (Code.wpIn_mono (Q := Q) (fun e a w hq => ?_) (h Q (fun c a a' w e h => h) (fun e a w hn hb => ?_))) hro
  · cases e with
    | panic c => exact hq.elim
    | _ => exact hq
  · cases e with
    | panic c => exact (hn c rfl).elim
    | _ => exact hb
theorem results_cct {fn : Func} {tmps : Array Value} {w : World} {p q u : Tmp} {g1 g2 : Nat} {x y : Int} {z : Value} (h : fn.results = #[.cell p 3, .cell q 3, .tmp u]) (hp : tmps.getD p undef = .pointer (some ⟨g1, 0, none⟩)) (hq : tmps.getD q undef = .pointer (some ⟨g2, 0, none⟩)) (hz : tmps.getD u undef = z)
    (b1 : w.heap[g1]? = some (.cells #[.int .i64 x] 3 (0, 0))) (b2 : w.heap[g2]? = some (.cells #[.int .i64 y] 3 (0, 0))) (hu : Tryz.prog.underlying 3 = some (.int .i64)) : (results fn tmps).run Tryz.prog w = .ok (.tuple #[.int .i64 x, .int .i64 y, z]) w := by
  have c1 : w.cell? ⟨g1, 0, none⟩ = some (.int .i64 x) := (blk_cell b1 0).trans rfl
  have c2 : w.cell? ⟨g2, 0, none⟩ = some (.int .i64 y) := (blk_cell b2 0).trans rfl
  unfold results
  rw [h]
  simp only [Array.getD_eq_getD_getElem?] at hp hq hz
  simp [go_sem, hp, hq, hz, c1, c2]
def waitsO (cl : List S67) (ord : List Int) (m : Int) : Option (Int × Int) := if okT cl ord m = true then some ((waitsL cl ord m).foldl worstW (0, -1)) else none
theorem waitsO_spec {cl : List S67} {ord : List Int} {m : Int} {z : Int × Int} (h : waitsO cl ord m = some z) : okT cl ord m = true ∧ (waitsL cl ord m).foldl worstW (0, -1) = z := by
  unfold waitsO at h
  split at h
  · exact ⟨by assumption, Option.some.inj h⟩
  · cases h
def aC1.f (k : Nat) (aC : List (S67)) (aD : List Int) (a1 : Int) : Option (Int × Int × Int) := (aB5.f k aC aD a1 0).bind fun bt104 => (if bt104.2.2 = 0 then (if (bt104.1.length : Int) = 0 then (some (0, 0, 7)) else ((aB1.f k bt104.1 bt104.2.1).bind fun gA => ((waitsO bt104.1 gA a1).bind fun dD => (some (dD.1, dD.2, 0))))) else (some (0, 0, bt104.2.2)))
theorem aC1.mono : ∀ a0 a1 a2 k, LeO (aC1.f k a0 a1 a2) (aC1.f (k + 1) a0 a1 a2) := by
  intro a0 a1 a2 k
  unfold aC1.f
  repeat' first
      | (with_reducible exact aB1.mono _ _ _)
      | (with_reducible exact aB5.mono _ _ _ _ _)
      | (with_reducible exact LeO.refl _)
      | (with_reducible exact LeO.none _)
      | (with_reducible refine LeO.ite ?_ ?_)
      | (with_reducible refine LeO.bind ?_ (fun _ => ?_))
      | exact aB1.mono _ _ _
      | exact aB5.mono _ _ _ _ _
      | exact LeO.none _
      | refine LeO.ite ?_ ?_
      | refine LeO.bind ?_ (fun _ => ?_)
set_option maxHeartbeats 8000000 in
set_option maxRecDepth 100000 in
theorem aC1.calls (k : Nat) (aX : Option Addr) (aN : Nat) (aC : List (S67)) (aT : Option Addr) (aQ : Nat) (aD : List Int) (a1 : Int) (r1 : Int) (r2 : Int) (r3 : Int) (w : World) (hr0_0 : Kd.C k67 w aX aC.length aC) (dI : aC.length ≤ aN) (hr0_1 : Kd.C (Kd.int .i64) w aT aD.length aD) (dJ : aD.length ≤ aQ) (h : aC1.f k aC aD a1 = some (r1, r2, r3)) :
    Calls Tryz.prog 26 #[.agg #[.slice aX aC.length aN, .slice aT aD.length aQ], .int .i64 a1] w fun e w' => e = .returned (.tuple #[.int .i64 r1, .int .i64 r2, .int .i64 r3]) ∧ Below w.heap.size w w' := by
  have hu25 := Tryz.underlying25
  have hu99 := Tryz.underlying99
  have dA := aM hr0_0
  have dK := aM dI
  clear hr0_0 dI
  have dB := aM hr0_1
  have dL := aM dJ
  clear hr0_1 dJ
  have HB := aM (Below.refl w.heap.size w)
  have H : ((aB5.f k aC aD a1 0).bind fun bt104 => (if bt104.2.2 = 0 then (if (bt104.1.length : Int) = 0 then (some (0, 0, 7)) else ((aB1.f k bt104.1 bt104.2.1).bind fun gA => ((waitsO bt104.1 gA a1).bind fun dD => (some (dD.1, dD.2, 0))))) else (some (0, 0, bt104.2.2)))) = some (r1, r2, r3) := h
  clear h
  obtain ⟨⟨cK, cE, eN⟩, A3, H⟩ := bi H
  by_cases c4 : eN = 0
  · rw [if_pos c4] at H
    have gG : (eN == 0) = true := beq_iff_eq.mpr c4
    have iQ : (eN != 0) = false := bne_eq_false_iff_eq.mpr c4
    clear c4
    by_cases c5 : (cK.length : Int) = 0
    · rw [if_pos c5] at H
      have gN : ((cK.length : Int) == 0) = true := beq_iff_eq.mpr c5
      have mG : ((cK.length : Int) != 0) = false := bne_eq_false_iff_eq.mpr c5
      clear c5
      simp only [Option.some.injEq, Prod.mk.injEq] at H
      obtain ⟨rfl, rfl, rfl⟩ := H
      go_enter Tryz.func26, Tryz.ntmps26
      go_wp2_with (first | ((with_reducible refine gate_dst (N := 2) rfl ?_); refine bx 2 #[.slice aX aC.length aN, .slice aT aD.length aQ] 25 ?_; intro aI hg w6 hbox hb; have aA := hbox; have aY := gs HB hg; have eO := gs HB hg; replace HB := bs HB hb; clear hb hbox hg) | ((with_reducible refine gate_dst (N := 4) rfl ?_); refine bx 4 #[.int .i64 0] 3 ?_; intro aE hg w7 hbox hb; have aH := hbox; have cC := gs HB hg; have hX := gs HB hg; replace HB := bs HB hb; have cI := nl aA hg; have cQ := nr aA hg; replace aA := bb aA hb; clear hb hbox hg) | ((with_reducible refine gate_dst (N := 5) rfl ?_); refine bx 5 #[.int .i64 0] 3 ?_; intro aJ hg w8 hbox hb; have bC := hbox; have dS := gs HB hg; have jM := gs HB hg; replace HB := bs HB hb; have dX := nl aA hg; have dY := nr aA hg; replace aA := bb aA hb; have cZ := nl aH hg; have cR := nr aH hg; replace aH := bb aH hb; clear hb hbox hg; have rX := cI.out; have rY := cQ.out; have mH := dX.out; have mI := dY.out; obtain ⟨_, _, _, _⟩ := cf2 aA) | ((with_reducible refine gc 62 rfl ?_); refine gL 13 Tryz.func62 #[.agg #[.slice aX aC.length aN, .slice aT aD.length aQ], .int .i64 a1, .int .i64 0] ?_; (with_reducible refine (aB5.calls k (fun k_ => k_ < w.heap.size) _ _ aC (fun k_ => k_ < w.heap.size) _ _ aD a1 0 cK cE eN _ ?bF ?bG A3.out).mono ?_); (case bF => exact Kd.V_mk dK.out (Kd.F_below (Kd.C_F k67_heap dA.out) (pE HB))); (case bG => exact Kd.V_mk dL.out (Kd.F_below (Kd.C_F (Kd.heap_int .i64) dB.out) (pE HB))); rintro e w12 ⟨mJ, mK, rfl, cP, fF, hb⟩; refine ⟨_, rfl, ?_⟩; have cL := aM (Kd.V_lower (Kd.V_mono (ok' := fun k_ => k_ ≠ aI ∧ k_ ≠ aE ∧ k_ ≠ aJ) cP (fun k_ hk_ => ⟨Or.elim hk_ (fun hs_ => Or.elim hs_ (fun hs_ => fun e_ => Nat.not_le.2 hs_ (by rw [e_]; exact aY.out)) (fun hs_ => fun e_ => Nat.not_le.2 hs_ (by rw [e_]; exact aY.out))) (fun hn_ => (Kd.freshB (g := aI) (o := .cells #[.slice aX aC.length aN, .slice aT aD.length aQ] 25 (0, 0)) (pB aA.out) k_ hn_)), Or.elim hk_ (fun hs_ => Or.elim hs_ (fun hs_ => fun e_ => Nat.not_le.2 hs_ (by rw [e_]; exact cC.out)) (fun hs_ => fun e_ => Nat.not_le.2 hs_ (by rw [e_]; exact cC.out))) (fun hn_ => (Kd.freshB (g := aE) (o := .cells #[.int .i64 0] 3 (0, 0)) (pB aH.out) k_ hn_)), Or.elim hk_ (fun hs_ => Or.elim hs_ (fun hs_ => fun e_ => Nat.not_le.2 hs_ (by rw [e_]; exact dS.out)) (fun hs_ => fun e_ => Nat.not_le.2 hs_ (by rw [e_]; exact dS.out))) (fun hn_ => (Kd.freshB (g := aJ) (o := .cells #[.int .i64 0] 3 (0, 0)) (pB bC.out) k_ hn_))⟩)) (below_size (pE HB))); have cM := aM (Kd.V_lower (Kd.V_mono (ok' := fun k_ => k_ ≠ aI ∧ k_ ≠ aE ∧ k_ ≠ aJ) fF (fun k_ hk_ => ⟨Or.elim hk_ (fun hs_ => Or.elim hs_ (fun hs_ => fun e_ => Nat.not_le.2 hs_ (by rw [e_]; exact aY.out)) (fun hs_ => fun e_ => Nat.not_le.2 hs_ (by rw [e_]; exact aY.out))) (fun hn_ => (Kd.freshB (g := aI) (o := .cells #[.slice aX aC.length aN, .slice aT aD.length aQ] 25 (0, 0)) (pB aA.out) k_ hn_)), Or.elim hk_ (fun hs_ => Or.elim hs_ (fun hs_ => fun e_ => Nat.not_le.2 hs_ (by rw [e_]; exact cC.out)) (fun hs_ => fun e_ => Nat.not_le.2 hs_ (by rw [e_]; exact cC.out))) (fun hn_ => (Kd.freshB (g := aE) (o := .cells #[.int .i64 0] 3 (0, 0)) (pB aH.out) k_ hn_)), Or.elim hk_ (fun hs_ => Or.elim hs_ (fun hs_ => fun e_ => Nat.not_le.2 hs_ (by rw [e_]; exact dS.out)) (fun hs_ => fun e_ => Nat.not_le.2 hs_ (by rw [e_]; exact dS.out))) (fun hn_ => (Kd.freshB (g := aJ) (o := .cells #[.int .i64 0] 3 (0, 0)) (pB bC.out) k_ hn_))⟩)) (below_size (pE HB))); replace aA := bb aA hb; replace aH := bb aH hb; replace bC := bb bC hb; replace HB := bs HB hb; clear hb cP fF) | ((with_reducible refine gate_dst (N := 7) rfl ?_); refine bx 7 #[.slice none 0 0, .slice none 0 0] 99 ?_; intro bR hg w13 hbox hb; replace cL := ve cL hg hb; replace cM := ve cM hg hb; have cW := hbox; have jN := gs HB hg; have jO := gs HB hg; replace HB := bs HB hb; have dZ := nl aA hg; have eA := nr aA hg; replace aA := bb aA hb; have cS := nl aH hg; have eB := nr aH hg; replace aH := bb aH hb; have cD := nl bC hg; have dR := nr bC hg; replace bC := bb bC hb; clear hb hbox hg; obtain ⟨rZ, sA, pA⟩ := Kd.V_slice cL.out; subst pA; have qB := eA.out; have qC := dZ.out; have jP := eB.out; have jQ := cS.out; have mL := dR.out; have mM := cD.out; obtain ⟨_, _, _, _⟩ := cf2 cW; obtain ⟨cT, cU, kZ⟩ := Kd.V_slice cM.out; subst kZ; have qD := cZ.out; have qE := cR.out; obtain ⟨_, _⟩ := cf1 aH; obtain ⟨_, _⟩ := cf1 bC))
      refine bodyPost_ret (results_cct (p := 4) (q := 5) (u := 6) (g1 := aE) (g2 := aJ) (x := 0) (y := 0) rfl rfl rfl rfl (by refine pB ?_; refine blk_far ?_ cZ.out _; refine pB ?_; refine blk_put (cs := #[.int .i64 0]) ?_ 0 _ rfl; refine pB ?_; refine blk_far ?_ cS.out _; refine pB ?_; refine blk_far ?_ cS.out _; exact pB aH.out) (by refine pB ?_; refine blk_put (cs := #[.int .i64 0]) ?_ 0 _ rfl; refine pB ?_; refine blk_far ?_ cR.out _; refine pB ?_; refine blk_far ?_ cD.out _; refine pB ?_; refine blk_far ?_ cD.out _; exact pB bC.out) Tryz.underlying3) rfl ?_
      exact ⟨eT, pE HB⟩
    · rw [if_neg c5] at H
      have gN : ((cK.length : Int) == 0) = false := beq_eq_false_iff_ne.mpr c5
      have mG : ((cK.length : Int) != 0) = true := bne_iff_ne.mpr c5
      have sB : ¬ (cK = []) := fun h_ => c5 (by rw [h_]; rfl)
      obtain ⟨gA, sC, H⟩ := bi H
      obtain ⟨dD, sD, H⟩ := bi H
      simp only [Option.some.injEq, Prod.mk.injEq] at H
      obtain ⟨rfl, rfl, rfl⟩ := H
      refine (callsIn_wide (n := 5)).1 (marks_q Tryz.func26 rfl trivial (fun Qf_ hqp_ hqf_ => ?_) rfl)
      have HQP := aM hqp_
      have HQF := aM hqf_
      clear hqp_ hqf_
      simp only [Tryz.ntmps26, List.size_toArray, List.length_cons, List.length_nil, Nat.reduceAdd, Nat.reduceSub, Array.replicate_succ, Array.replicate_zero, List.push_toArray, List.append_toArray, List.nil_append, List.cons_append]
      go_wp2_with (first | ((with_reducible refine gate_dst (N := 2) rfl ?_); refine bx 2 #[.slice aX aC.length aN, .slice aT aD.length aQ] 25 ?_; intro aI hg w25 hbox hb; have aA := hbox; have aY := gs HB hg; have eO := gs HB hg; replace HB := bs HB hb; clear hb hbox hg) | ((with_reducible refine gate_dst (N := 4) rfl ?_); refine bx 4 #[.int .i64 0] 3 ?_; intro aE hg w26 hbox hb; have aH := hbox; have cC := gs HB hg; have hX := gs HB hg; replace HB := bs HB hb; have cI := nl aA hg; have cQ := nr aA hg; replace aA := bb aA hb; clear hb hbox hg) | ((with_reducible refine gate_dst (N := 5) rfl ?_); refine bx 5 #[.int .i64 0] 3 ?_; intro aJ hg w27 hbox hb; have bC := hbox; have dS := gs HB hg; have jM := gs HB hg; replace HB := bs HB hb; have dX := nl aA hg; have dY := nr aA hg; replace aA := bb aA hb; have cZ := nl aH hg; have cR := nr aH hg; replace aH := bb aH hb; clear hb hbox hg; have qF := cI.out; have qG := cQ.out; have qH := dX.out; have qI := dY.out; obtain ⟨_, _, _, _⟩ := cf2 aA) | ((with_reducible refine gc 62 rfl ?_); refine gL 13 Tryz.func62 #[.agg #[.slice aX aC.length aN, .slice aT aD.length aQ], .int .i64 a1, .int .i64 0] ?_; (with_reducible refine (aB5.calls k (fun k_ => k_ < w.heap.size) _ _ aC (fun k_ => k_ < w.heap.size) _ _ aD a1 0 cK cE eN _ ?bF ?bG A3.out).mono ?_); (case bF => exact Kd.V_mk dK.out (Kd.F_below (Kd.C_F k67_heap dA.out) (pE HB))); (case bG => exact Kd.V_mk dL.out (Kd.F_below (Kd.C_F (Kd.heap_int .i64) dB.out) (pE HB))); rintro e w31 ⟨mJ, mK, rfl, cP, fF, hb⟩; refine ⟨_, rfl, ?_⟩; have cL := aM (Kd.V_lower (Kd.V_mono (ok' := fun k_ => k_ ≠ aI ∧ k_ ≠ aE ∧ k_ ≠ aJ) cP (fun k_ hk_ => ⟨Or.elim hk_ (fun hs_ => Or.elim hs_ (fun hs_ => fun e_ => Nat.not_le.2 hs_ (by rw [e_]; exact aY.out)) (fun hs_ => fun e_ => Nat.not_le.2 hs_ (by rw [e_]; exact aY.out))) (fun hn_ => (Kd.freshB (g := aI) (o := .cells #[.slice aX aC.length aN, .slice aT aD.length aQ] 25 (0, 0)) (pB aA.out) k_ hn_)), Or.elim hk_ (fun hs_ => Or.elim hs_ (fun hs_ => fun e_ => Nat.not_le.2 hs_ (by rw [e_]; exact cC.out)) (fun hs_ => fun e_ => Nat.not_le.2 hs_ (by rw [e_]; exact cC.out))) (fun hn_ => (Kd.freshB (g := aE) (o := .cells #[.int .i64 0] 3 (0, 0)) (pB aH.out) k_ hn_)), Or.elim hk_ (fun hs_ => Or.elim hs_ (fun hs_ => fun e_ => Nat.not_le.2 hs_ (by rw [e_]; exact dS.out)) (fun hs_ => fun e_ => Nat.not_le.2 hs_ (by rw [e_]; exact dS.out))) (fun hn_ => (Kd.freshB (g := aJ) (o := .cells #[.int .i64 0] 3 (0, 0)) (pB bC.out) k_ hn_))⟩)) (below_size (pE HB))); have cM := aM (Kd.V_lower (Kd.V_mono (ok' := fun k_ => k_ ≠ aI ∧ k_ ≠ aE ∧ k_ ≠ aJ) fF (fun k_ hk_ => ⟨Or.elim hk_ (fun hs_ => Or.elim hs_ (fun hs_ => fun e_ => Nat.not_le.2 hs_ (by rw [e_]; exact aY.out)) (fun hs_ => fun e_ => Nat.not_le.2 hs_ (by rw [e_]; exact aY.out))) (fun hn_ => (Kd.freshB (g := aI) (o := .cells #[.slice aX aC.length aN, .slice aT aD.length aQ] 25 (0, 0)) (pB aA.out) k_ hn_)), Or.elim hk_ (fun hs_ => Or.elim hs_ (fun hs_ => fun e_ => Nat.not_le.2 hs_ (by rw [e_]; exact cC.out)) (fun hs_ => fun e_ => Nat.not_le.2 hs_ (by rw [e_]; exact cC.out))) (fun hn_ => (Kd.freshB (g := aE) (o := .cells #[.int .i64 0] 3 (0, 0)) (pB aH.out) k_ hn_)), Or.elim hk_ (fun hs_ => Or.elim hs_ (fun hs_ => fun e_ => Nat.not_le.2 hs_ (by rw [e_]; exact dS.out)) (fun hs_ => fun e_ => Nat.not_le.2 hs_ (by rw [e_]; exact dS.out))) (fun hn_ => (Kd.freshB (g := aJ) (o := .cells #[.int .i64 0] 3 (0, 0)) (pB bC.out) k_ hn_))⟩)) (below_size (pE HB))); replace aA := bb aA hb; replace aH := bb aH hb; replace bC := bb bC hb; replace HB := bs HB hb; clear hb cP fF) | ((with_reducible refine gate_dst (N := 7) rfl ?_); refine bx 7 #[.slice none 0 0, .slice none 0 0] 99 ?_; intro bR hg w32 hbox hb; replace cL := ve cL hg hb; replace cM := ve cM hg hb; have cW := hbox; have jN := gs HB hg; have jO := gs HB hg; replace HB := bs HB hb; have dZ := nl aA hg; have eA := nr aA hg; replace aA := bb aA hb; have cS := nl aH hg; have eB := nr aH hg; replace aH := bb aH hb; have cD := nl bC hg; have dR := nr bC hg; replace bC := bb bC hb; clear hb hbox hg; obtain ⟨dP, dQ, pD⟩ := Kd.V_slice cL.out; subst pD; have mN := eA.out; have mO := dZ.out; have qJ := eB.out; have qK := cS.out; have qL := dR.out; have qM := cD.out; obtain ⟨_, _, _, _⟩ := cf2 cW; obtain ⟨dU, dV, lA⟩ := Kd.V_slice cM.out; subst lA; have mP := cR.out; have mQ := cZ.out; obtain ⟨_, _⟩ := cf1 bC) | (with_reducible refine regW_lit_ ?_) | gi_step)
      have n0_ : Aside0 (Kd.V k67 67 (((w32.setCell ⟨bR, 0, none⟩ (.slice dP cK.length dQ)).setCell ⟨bR, 1, none⟩ (.slice dU cE.length dV)).setCell ⟨aJ, 0, none⟩ (.int .i64 (-1))) w.heap.size (fun k_ => k_ ≠ aI ∧ k_ ≠ aE ∧ k_ ≠ aJ ∧ k_ ≠ bR) (.slice dP cK.length dQ) cK) := ⟨by (with_reducible repeat (first | apply Kd.V_alloc | apply Kd.V_drewN | apply Kd.V_drew)); exact Kd.V_mono (Kd.V_far (p := ⟨aJ, 0, none⟩) (Kd.V_far (p := ⟨bR, 1, none⟩) (Kd.V_far (p := ⟨bR, 0, none⟩) (Kd.V_mono (Kd.V_mono cL.out (fun k_ hk => (⟨hk, hk.2⟩ : _ ∧ k_ ≠ bR))) (fun k_ hk => (⟨hk, hk.1.1.2.2⟩ : _ ∧ k_ ≠ aJ))) (fun _ hk => hk.1.2) (.slice dP cK.length dQ)) (fun _ hk => hk.1.2) (.slice dU cE.length dV)) (fun _ hk => hk.2) (.int .i64 (-1))) (fun _ hk => ⟨hk.1.1.1.1, ⟨hk.1.1.1.2.1, ⟨hk.1.1.1.2.2, hk.1.1.2⟩⟩⟩)⟩
      have n1_ : Aside0 (Kd.V (Kd.int .i64) 3 (((w32.setCell ⟨bR, 0, none⟩ (.slice dP cK.length dQ)).setCell ⟨bR, 1, none⟩ (.slice dU cE.length dV)).setCell ⟨aJ, 0, none⟩ (.int .i64 (-1))) w.heap.size (fun k_ => k_ ≠ aI ∧ k_ ≠ aE ∧ k_ ≠ aJ ∧ k_ ≠ bR) (.slice dU cE.length dV) cE) := ⟨by (with_reducible repeat (first | apply Kd.V_alloc | apply Kd.V_drewN | apply Kd.V_drew)); exact Kd.V_mono (Kd.V_far (p := ⟨aJ, 0, none⟩) (Kd.V_far (p := ⟨bR, 1, none⟩) (Kd.V_far (p := ⟨bR, 0, none⟩) (Kd.V_mono (Kd.V_mono cM.out (fun k_ hk => (⟨hk, hk.2⟩ : _ ∧ k_ ≠ bR))) (fun k_ hk => (⟨hk, hk.1.1.2.2⟩ : _ ∧ k_ ≠ aJ))) (fun _ hk => hk.1.2) (.slice dP cK.length dQ)) (fun _ hk => hk.1.2) (.slice dU cE.length dV)) (fun _ hk => hk.2) (.int .i64 (-1))) (fun _ hk => ⟨hk.1.1.1.1, ⟨hk.1.1.1.2.1, ⟨hk.1.1.1.2.2, hk.1.1.2⟩⟩⟩)⟩
      have n2_ : Aside0 ((((w32.setCell ⟨bR, 0, none⟩ (.slice dP cK.length dQ)).setCell ⟨bR, 1, none⟩ (.slice dU cE.length dV)).setCell ⟨aJ, 0, none⟩ (.int .i64 (-1))).heap[aI]? = some (.cells #[.slice aX aC.length aN, .slice aT aD.length aQ] 25 (0, 0))) := ⟨pF aA⟩
      have n3_ : Aside0 ((((w32.setCell ⟨bR, 0, none⟩ (.slice dP cK.length dQ)).setCell ⟨bR, 1, none⟩ (.slice dU cE.length dV)).setCell ⟨aJ, 0, none⟩ (.int .i64 (-1))).heap[aE]? = some (.cells #[.int .i64 0] 3 (0, 0))) := ⟨pF aH⟩
      have n4_ : Aside0 ((((w32.setCell ⟨bR, 0, none⟩ (.slice dP cK.length dQ)).setCell ⟨bR, 1, none⟩ (.slice dU cE.length dV)).setCell ⟨aJ, 0, none⟩ (.int .i64 (-1))).heap[aJ]? = some (.cells #[.int .i64 (-1)] 3 (0, 0))) := ⟨by refine pB ?_; refine blk_put (cs := #[.int .i64 0]) ?_ 0 _ rfl; refine pB ?_; refine blk_far ?_ cD.out _; refine pB ?_; refine blk_far ?_ cD.out _; exact pB bC.out⟩
      have n5_ : Aside0 ((((w32.setCell ⟨bR, 0, none⟩ (.slice dP cK.length dQ)).setCell ⟨bR, 1, none⟩ (.slice dU cE.length dV)).setCell ⟨aJ, 0, none⟩ (.int .i64 (-1))).heap[bR]? = some (.cells #[.slice dP cK.length dQ, .slice dU cE.length dV] 99 (0, 0))) := ⟨by refine pB ?_; refine blk_far ?_ dR.out _; refine pB ?_; refine blk_put (cs := #[.slice dP cK.length dQ, .slice none 0 0]) ?_ 1 _ rfl; refine pB ?_; refine blk_put (cs := #[.slice none 0 0, .slice none 0 0]) ?_ 0 _ rfl; exact pB cW.out⟩
      have n6_ : Aside0 (Below w.heap.size w (((w32.setCell ⟨bR, 0, none⟩ (.slice dP cK.length dQ)).setCell ⟨bR, 1, none⟩ (.slice dU cE.length dV)).setCell ⟨aJ, 0, none⟩ (.int .i64 (-1)))) := ⟨pE HB⟩
      (try clear cL)
      (try clear cM)
      (try clear aA)
      (try clear aH)
      (try clear bC)
      (try clear cW)
      (try clear HB)
      generalize (((w32.setCell ⟨bR, 0, none⟩ (.slice dP cK.length dQ)).setCell ⟨bR, 1, none⟩ (.slice dU cE.length dV)).setCell ⟨aJ, 0, none⟩ (.int .i64 (-1))) = w41 at n0_ n1_ n2_ n3_ n4_ n5_ n6_ ⊢
      have cL := n0_
      have cM := n1_
      have aA := n2_
      have aH := n3_
      have bC := n4_
      have cW := n5_
      have HB := n6_
      clear n0_ n1_ n2_ n3_ n4_ n5_ n6_
      replace cL := aM (Kd.V_drew cL.out)
      replace cM := aM (Kd.V_drew cM.out)
      replace aA := aM (blk_drew aA.out)
      replace aH := aM (blk_drew aH.out)
      replace bC := aM (blk_drew bC.out)
      replace cW := aM (blk_drew cW.out)
      replace HB := aM (below_drew1 HB.out)
      refine wpIn_wide.2 (start_ (n := 5) (S := fun w' => w'.cell? ⟨bR, 0, none⟩ = some (.slice dP cK.length dQ) ∧ w'.cell? ⟨bR, 1, none⟩ = some (.slice dU cE.length dV)) (ds := []) #[false, false, false, false, false] (by kernel_rfl) rfl rfl ⟨(blk_cell cW.out 0).trans rfl, (blk_cell cW.out 1).trans rfl⟩ (fun aG => ?_))
      generalize w41.drew = w42 at cL cM aA aH bC cW HB aG ⊢
      refine pu 3 29 ?_ (hQ := (fun c_ a_ w_ h_ => HQP.out c_ _ a_ w_ (by rfl) h_))
      refine tk 0 26 aG ?_ (hQ := (fun c_ a_ w_ h_ => HQP.out c_ _ a_ w_ (by rfl) h_))
      refine tk 1 27 aG ?_ (hQ := (fun c_ a_ w_ h_ => HQP.out c_ _ a_ w_ (by rfl) h_))
      refine on 2 (fun K hK => ?_)
      refine gO Tryz.func63 #[.agg #[.slice dP cK.length dQ, .slice dU cE.length dV]] ?_
      with_reducible refine (aB1.calls k _ _ cK _ _ cE gA _ ?bF ?bG ?cN ?cO sC.out).mono ?_
      (case bF => exact pC (Kd.V_reads' cL.out).2.2)
      (case bG => exact (Kd.V_reads' cL.out).2.1)
      (case cN => exact pC (Kd.V_reads' cM.out).2.2)
      (case cO => exact (Kd.V_reads' cM.out).2.1)
      rintro e w43 ⟨sE, rfl, cP, hb⟩
      refine ⟨_, rfl, ?_⟩
      replace cL := aM (Kd.V_elder' (pV cL.out) (Kd.R_base cP) hb)
      replace cM := aM (Kd.V_elder' (pV cM.out) (Kd.R_base cP) hb)
      have hZ := aM (Kd.R_lower (Kd.R_newB (Kd.R_newB cP (g := aE) (o := .cells #[.int .i64 0] 3 (0, 0)) (pB aH.out)) (g := aJ) (o := .cells #[.int .i64 (-1)] 3 (0, 0)) (pB bC.out)) (below_size (pE HB)))
      replace aA := bb aA hb
      replace aH := bb aH hb
      replace bC := bb bC hb
      replace cW := bb cW hb
      replace HB := bs HB hb
      (try clear hb)
      (try clear hb2)
      (try clear hk)
      (try clear hi)
      (try clear cP)
      obtain ⟨jB, jC, mR⟩ := Kd.R_slice hZ.out
      (first | subst mR | (injection mR with f1_ f2_ f3_; have f4_ := f1_.symm; have f5_ := f3_.symm; clear f1_ f2_ f3_; subst f4_; subst f5_))
      refine hK.out _ _ ⟨(blk_cell cW.out 0).trans rfl, (blk_cell cW.out 1).trans rfl⟩ (fun aG => ?_)
      clear hK K
      refine norm_ (a' := ?_) ?_ ?_
      rotate_left
      · show Act.put _ (some 28) _ = _
        simp only [Act.put, List.setIfInBounds_toArray, List.set_cons_zero, List.set_cons_succ, i64_w, i32_w]
        rfl
      refine on 4 (fun K hK => ?_)
      have Q106 := cL
      have Q109 := cM
      have Q114 := hZ
      have LT102 := aM (Array.getElem?_eq_some_iff.1 aH.out).1
      have LT103 := aM (Array.getElem?_eq_some_iff.1 bC.out).1
      refine gO Tryz.func68 #[.agg #[.slice dP cK.length dQ, .slice dU cE.length dV], .slice jB gA.length jC, .int .i64 a1] ?_
      refine (waits_calls dP cK.length dQ dU cE.length dV jB gA.length jC a1 _).mono ?_
      rintro e w45 ⟨rfl, hw_⟩
      have HW_ := aM hw_
      have hb : Below w43.heap.size w43 w45 := by rw [hw_]; exact (three_alloc _ _ _ _).1
      clear hw_
      refine ⟨_, rfl, ?_⟩
      replace cL := vb cL hb
      replace cM := vb cM hb
      replace hZ := rb hZ hb
      replace aA := bb aA hb
      replace aH := bb aH hb
      replace bC := bb bC hb
      replace cW := bb cW hb
      replace HB := bs HB hb
      (try clear hb)
      (try clear hb2)
      (try clear hk)
      (try clear hi)
      refine hK.out _ _ ⟨(blk_cell cW.out 0).trans rfl, (blk_cell cW.out 1).trans rfl⟩ (fun aG => ?_)
      clear hK K
      refine norm_ (a' := ?_) ?_ ?_
      rotate_left
      · show Act.put _ (some 30) _ = _
        simp only [Act.put, List.setIfInBounds_toArray, List.set_cons_zero, List.set_cons_succ, i64_w, i32_w]
        rfl
      refine done_ (by kernel_rfl) ?_
      go_wp2_with (first | (with_reducible refine regW_lit_ ?_) | gi_step)
      try simp only [Act.put, List.setIfInBounds_toArray, List.set_cons_zero, List.set_cons_succ]
      obtain ⟨hok_, hz_⟩ := waitsO_spec sD.out
      obtain ⟨hm1, hm2, hin⟩ := okT_spec hok_
      obtain ⟨m, rfl⟩ : ∃ m : Nat, a1 = (m : Int) := ⟨(a1 : Int).toNat, by omega⟩
      obtain ⟨q1, q2, hseq⟩ := waits_made m jB jC gA dP dQ cK dU dV cE 4 w43 w45 (fun k => k = aE ∨ k = aJ) (fun k hk => hk.elim (fun e => e ▸ LT102.out) (fun e => e ▸ LT103.out)) (by omega) (by omega) hin HW_.out (fun W' hsz hsame => ⟨(Kd.R_reads' (Kd.R_step Q114.out (fun k hk hlt => hsame k hlt (fun e => e.elim hk.1.2 hk.2)))).2.2, (Kd.V_reads' (Kd.V_step Q106.out (fun k hk hlt => hsame k hlt (fun e => e.elim hk.1.2.1 hk.1.2.2.1)))).2.2⟩)
      generalize hxs : waitsL cK gA (m : Int) = xs at hseq hz_
      have L2 : aE < w45.heap.size := (Array.getElem?_eq_some_iff.1 aH.out).1
      have L3 : aJ < w45.heap.size := (Array.getElem?_eq_some_iff.1 bC.out).1
      have hx2 := aH.out
      have hx3 := bC.out
      have hb5 := HB.out
      have hnb := cZ.out
      have G2 := cC.out
      have G3 := dS.out
      have hsz0 : w.heap.size ≤ w45.heap.size := hb5.size
      have HZ := aM hz_
      have Q2 := aM q2
      clear hz_ q2 hxs hin hok_
      refine range_outer (xs := xs) (Rv := RvW) (Ex := fun k => k = aE ∨ k = aJ) (c := 8) (E := fun _ => True) (w0 := w45) rfl (fun h0 => by cases h0) (gf := 101) rfl trivial (fun args w => enters_ Tryz.func101 (by kernel_rfl) rfl args w) hseq (Below.refl _ _) (fun x vs W h => by unfold RvW at h; subst h; rfl)
        (fun i W' => W'.heap[aE]? = some (.cells #[.int .i64 ((xs.take i).foldl worstW (0, -1)).1] 3 (0, 0)) ∧ W'.heap[aJ]? = some (.cells #[.int .i64 ((xs.take i).foldl worstW (0, -1)).2] 3 (0, 0)) ∧ Below w.heap.size w W')
        (fun cd i W' => False)
        ?hI ?hIx ⟨hx2, hx3, hb5⟩
        (fun i x a' W' => a' = { tmps := #[.agg #[.slice aX aC.length aN, .slice aT aD.length aQ], .int .i64 (m : Int), .pointer (some ⟨aI, 0, none⟩), undef, .pointer (some ⟨aE, 0, none⟩), .pointer (some ⟨aJ, 0, none⟩), .int .i64 eN, .pointer (some ⟨bR, 0, none⟩), .int .i64 x.1, .int .i64 x.2,
            .tuple #[.agg #[.slice dP cK.length dQ, .slice dU cE.length dV], .int .i64 eN], .agg #[.slice aX aC.length aN, .slice aT aD.length aQ], .int .i64 (m : Int), .tuple #[.agg #[.slice dP cK.length dQ, .slice dU cE.length dV], .int .i64 eN], .agg #[.slice dP cK.length dQ, .slice dU cE.length dV], .int .i64 eN,
            .bool false, .int .i64 eN, .bool false, undef, .bool false, .pointer (some ⟨bR, 0, none⟩), .pointer (some ⟨bR, 0, none⟩), .slice dP cK.length dQ, .int .i64 (cK.length : Int), .bool false, .agg #[.slice dP cK.length dQ, .slice dU cE.length dV], .agg #[.slice dP cK.length dQ, .slice dU cE.length dV], .slice jB gA.length jC, .int .i64 (m : Int),
            .func (.func 101) #[] #[.pointer (some ⟨w43.heap.size, 0, none⟩), .pointer (some ⟨w43.heap.size + 1, 0, none⟩), .pointer (some ⟨w43.heap.size + 2, 0, none⟩)], .int .i64 x.1, .int .i64 x.2, undef, undef, undef, undef, undef, undef, undef], defers := [] } ∧
          W'.heap[aE]? = some (.cells #[.int .i64 ((xs.take i).foldl worstW (0, -1)).1] 3 (0, 0)) ∧ W'.heap[aJ]? = some (.cells #[.int .i64 ((xs.take i).foldl worstW (0, -1)).2] 3 (0, 0)) ∧ Below w.heap.size w W')
        ?hAx ?assign ?body ?done ?stop
      case hI => exact fun i X Y ⟨h1, h2, h3⟩ hs => ⟨hs.same _ _ h1 (by omega) (fun _ => rfl), hs.same _ _ h2 (by omega) (fun _ => rfl), Below_istep_ h3 (Nat.le_refl _) hs (by omega) (by omega)⟩
      case hIx => exact fun cd i X Y h hs => h
      case hAx => exact fun i x a' _ X Y ⟨h0, h1, h2, h3⟩ hs => ⟨h0, hs.same _ _ h1 (by omega) (fun _ => rfl), hs.same _ _ h2 (by omega) (fun _ => rfl), Below_istep_ h3 (Nat.le_refl _) hs (by omega) (by omega)⟩
      case assign =>
        rintro l' i x vs W' K hx hi hv hsz hK
        unfold RvW at hv
        subst hv
        simp only [List.zip_toArray, List.zip_cons_cons, List.zip_nil_right, List.zip_nil_left, List.size_toArray, List.foldl_toArray', List.foldl_cons, List.foldl_nil, List.setIfInBounds_toArray, List.set_cons_zero, List.set_cons_succ, List.length_cons, List.length_nil]
        have Hi := aM hi
        have HK := aM hK
        clear hseq hi hK hx2 hx3 hb5
        go_wp2_with (first | ((with_reducible refine regIn_lit_ ?hnd ?hlo ?_); (case hnd => kernel_rfl); (case hlo => rintro ⟨_, _, h⟩; exact h)) | gi_step)
        exact HK.out _ _ (Below.refl _ _) ⟨rfl, Hi.out⟩
      case body =>
        rintro l' i x a' W' hl' hloop hx ⟨rfl, h1, h2, h3⟩ hsz
        obtain ⟨hlt, hxe⟩ := List.getElem?_eq_some_iff.1 hx
        have htk : (xs.take (i + 1)).foldl worstW (0, -1) = worstW ((xs.take i).foldl worstW (0, -1)) x := by rw [List.take_succ_eq_append_getElem hlt, hxe, List.foldl_append]; rfl
        obtain ⟨z, hz⟩ : ∃ z, (xs.take i).foldl worstW (0, -1) = z := ⟨_, rfl⟩
        rw [hz] at h1 h2 htk
        have HTK := aM htk
        have hc2 : W'.cell? ⟨aE, 0, none⟩ = some (.int .i64 z.1) := (blk_cell h1 0).trans rfl
        have hc3 : W'.cell? ⟨aJ, 0, none⟩ = some (.int .i64 z.2) := (blk_cell h2 0).trans rfl
        have hf2 := blk_frozen h1 0
        have hf3 := blk_frozen h2 0
        have H1 := aM h1
        have H2 := aM h2
        have H3 := aM h3
        have HSZ := aM hsz
        have hnb' := cR.out
        clear hseq h1 h2 h3 hx2 hx3 hb5 hx hxe hlt htk hz hloop hl' hsz
        by_cases hc : x.2 > z.2
        · have hcb : decide (x.2 > z.2) = true := decide_eq_true hc
          have HTX := aM (HTK.out.trans (if_pos hc : worstW z x = x))
          clear hc
          go_wp2_with (first | ((with_reducible refine regIn_lit_ ?hnd ?hlo ?_); (case hnd => kernel_rfl); (case hlo => rintro ⟨_, _, h⟩; exact h)) | gi_step)
          have e1 : (W'.setCell ⟨aE, 0, none⟩ (.int .i64 x.1)).heap[aE]? = some (.cells #[.int .i64 x.1] 3 (0, 0)) := blk_put (cs := #[.int .i64 z.1]) H1.out 0 _ rfl
          have e2 : (W'.setCell ⟨aE, 0, none⟩ (.int .i64 x.1)).heap[aJ]? = some (.cells #[.int .i64 z.2] 3 (0, 0)) := (Below.heap_setCell _ _ _ aJ hnb').trans H2.out
          refine ⟨BKeep.trans (BKeep.of_block aE (by simp [World.setCell]) (fun k _ hne => Below.heap_setCell _ _ _ k hne) ⟨_, H1.out, rfl⟩ (fun _ => .inl rfl) (fun hh => by have := hh.1; omega)) (BKeep.of_block aJ (by simp [World.setCell]) (fun k _ hne => Below.heap_setCell _ _ _ k hne) ⟨_, e2, rfl⟩ (fun _ => .inr rfl) (fun hh => by have := hh.1; omega)), ?_, ?_, ?_⟩
          · rw [HTX.out]; exact (Below.heap_setCell _ _ _ aE hnb).trans e1
          · rw [HTX.out]; exact blk_put (cs := #[.int .i64 z.2]) e2 0 _ rfl
          · exact (H3.out.setCell (p := ⟨aE, 0, none⟩) (show w.heap.size ≤ aE from G2) _).setCell (p := ⟨aJ, 0, none⟩) (show w.heap.size ≤ aJ from G3) _
        · have hcb : decide (x.2 > z.2) = false := decide_eq_false hc
          have HTX := aM (HTK.out.trans (if_neg hc : worstW z x = z))
          clear hc
          go_wp2_with (first | ((with_reducible refine regIn_lit_ ?hnd ?hlo ?_); (case hnd => kernel_rfl); (case hlo => rintro ⟨_, _, h⟩; exact h)) | gi_step)
          exact ⟨BKeep.refl _ _ _ _ _ _, by rw [HTX.out]; exact H1.out, by rw [HTX.out]; exact H2.out, H3.out⟩
      case done =>
        rintro D W' hD ⟨h1, h2, h3⟩ hmk
        rw [List.take_length, HZ.out] at h1 h2
        have hk0 : W'.drew.heap[D]? = some (.deferred (some [])) := hmk
        have g1 := blk_drew h1
        have g2 := blk_drew h2
        have g3 := below_drew1 h3
        have HD := aM hD
        have hnb' := cR.out
        clear hseq h1 h2 h3 hx2 hx3 hb5 hD hmk
        simp only [Exit.inBlock, Exit.then]
        gi_wp2
        refine wpIn_wide.2 (start_ (n := 5) (S := fun w' => w'.cell? ⟨aE, 0, none⟩ = some (.int .i64 dD.1) ∧ w'.cell? ⟨aJ, 0, none⟩ = some (.int .i64 dD.2)) (ds := []) #[false, false, false, false, false] (by kernel_rfl) rfl rfl ⟨(blk_cell g1 0).trans rfl, (blk_cell g2 0).trans rfl⟩ (fun aG => ?_))
        generalize W'.drew = w60 at hk0 g1 g2 g3 aG ⊢
        refine tk 0 38 aG ?_ (hQ := (fun c_ a_ w_ h_ => HQP.out c_ _ a_ w_ (by rfl) h_))
        refine tk 1 39 aG ?_ (hQ := (fun c_ a_ w_ h_ => HQP.out c_ _ a_ w_ (by rfl) h_))
        have hc2 : w60.cell? ⟨aE, 0, none⟩ = some (.int .i64 dD.1) := (blk_cell g1 0).trans rfl
        have hf2 := blk_frozen g1 0
        refine on 2 (fun K hK => ?_)
        refine skip_ (w1 := ?_) (by rfl) rfl ?_ ?_
        rotate_left
        · go_simp
          rfl
        have e1 : (w60.setCell ⟨aE, 0, none⟩ (.int .i64 dD.1)).heap[aE]? = some (.cells #[.int .i64 dD.1] 3 (0, 0)) := blk_put (cs := #[.int .i64 dD.1]) g1 0 _ rfl
        have e2 : (w60.setCell ⟨aE, 0, none⟩ (.int .i64 dD.1)).heap[aJ]? = some (.cells #[.int .i64 dD.2] 3 (0, 0)) := (Below.heap_setCell _ _ _ aJ hnb').trans g2
        have e3 : Below w.heap.size w (w60.setCell ⟨aE, 0, none⟩ (.int .i64 dD.1)) := g3.setCell (p := ⟨aE, 0, none⟩) (show w.heap.size ≤ aE from G2) _
        have e4 : (w60.setCell ⟨aE, 0, none⟩ (.int .i64 dD.1)).heap[D]? = some (.deferred (some [])) := (Below.heap_setCell _ _ _ D (by have := HD.out; show D ≠ aE; omega)).trans hk0
        refine hK.out _ _ ⟨(blk_cell e1 0).trans rfl, (blk_cell e2 0).trans rfl⟩ (fun aG => ?_)
        clear hK K hc2 hf2
        generalize w60.setCell ⟨aE, 0, none⟩ (.int .i64 dD.1) = w61 at e1 e2 e3 e4 aG ⊢
        clear hk0 g1 g2 g3
        have hc3 : w61.cell? ⟨aJ, 0, none⟩ = some (.int .i64 dD.2) := (blk_cell e2 0).trans rfl
        have hf3 := blk_frozen e2 0
        refine on 3 (fun K hK => ?_)
        refine skip_ (w1 := ?_) (by rfl) rfl ?_ ?_
        rotate_left
        · go_simp
          rfl
        have g1 : (w61.setCell ⟨aJ, 0, none⟩ (.int .i64 dD.2)).heap[aE]? = some (.cells #[.int .i64 dD.1] 3 (0, 0)) := (Below.heap_setCell _ _ _ aE hnb).trans e1
        have g2 : (w61.setCell ⟨aJ, 0, none⟩ (.int .i64 dD.2)).heap[aJ]? = some (.cells #[.int .i64 dD.2] 3 (0, 0)) := blk_put (cs := #[.int .i64 dD.2]) e2 0 _ rfl
        have g3 : Below w.heap.size w (w61.setCell ⟨aJ, 0, none⟩ (.int .i64 dD.2)) := e3.setCell (p := ⟨aJ, 0, none⟩) (show w.heap.size ≤ aJ from G3) _
        have g4 : (w61.setCell ⟨aJ, 0, none⟩ (.int .i64 dD.2)).heap[D]? = some (.deferred (some [])) := (Below.heap_setCell _ _ _ D (by have := HD.out; show D ≠ aJ; omega)).trans e4
        refine hK.out _ _ ⟨(blk_cell g1 0).trans rfl, (blk_cell g2 0).trans rfl⟩ (fun aG => ?_)
        clear hK K hc3 hf3
        generalize w61.setCell ⟨aJ, 0, none⟩ (.int .i64 dD.2) = w62 at g1 g2 g3 g4 aG ⊢
        clear e1 e2 e3 e4
        refine pu 4 6 ?_ (hQ := (fun c_ a_ w_ h_ => HQP.out c_ _ a_ w_ (by rfl) h_))
        refine done_ (by kernel_rfl) ?_
        have HG1 := aM g1
        have HG2 := aM g2
        clear aG
        gi_wp2
        refine HQF.out _ _ _ (fun c h => by cases h) ?_
        refine Marks.leaves (lo := w45.heap.size) (Ds := [D]) (.cons g4 HD.out (fun E hE => by cases hE) (.nil _)) fun W2 hs => ⟨.tuple #[.int .i64 dD.1, .int .i64 dD.2, .int .i64 0], ?res, rfl, Below_istep_ g3 (Nat.le_refl _) hs (by omega) (by omega)⟩
        exact results_cct (p := 4) (q := 5) (u := 6) (g1 := aE) (g2 := aJ) rfl rfl rfl rfl (hs.same aE _ HG1.out (by omega) (fun _ => rfl)) (hs.same aJ _ HG2.out (by omega) (fun _ => rfl)) Tryz.underlying3
      case stop =>
        rintro D cd i W' hD hi h hmk
        exact h.elim
  · rw [if_neg c4] at H
    have gG : (eN == 0) = false := beq_eq_false_iff_ne.mpr c4
    have iQ : (eN != 0) = true := bne_iff_ne.mpr c4
    simp only [Option.some.injEq, Prod.mk.injEq] at H
    obtain ⟨rfl, rfl, rfl⟩ := H
    go_enter Tryz.func26, Tryz.ntmps26
    go_wp2_with (first | ((with_reducible refine gate_dst (N := 2) rfl ?_); refine bx 2 #[.slice aX aC.length aN, .slice aT aD.length aQ] 25 ?_; intro aI hg w48 hbox hb; have aA := hbox; have aY := gs HB hg; have eO := gs HB hg; replace HB := bs HB hb; clear hb hbox hg) | ((with_reducible refine gate_dst (N := 4) rfl ?_); refine bx 4 #[.int .i64 0] 3 ?_; intro aE hg w49 hbox hb; have aH := hbox; have cC := gs HB hg; have hX := gs HB hg; replace HB := bs HB hb; have cI := nl aA hg; have cQ := nr aA hg; replace aA := bb aA hb; clear hb hbox hg) | ((with_reducible refine gate_dst (N := 5) rfl ?_); refine bx 5 #[.int .i64 0] 3 ?_; intro aJ hg w50 hbox hb; have bC := hbox; have dS := gs HB hg; have jM := gs HB hg; replace HB := bs HB hb; have dX := nl aA hg; have dY := nr aA hg; replace aA := bb aA hb; have cZ := nl aH hg; have cR := nr aH hg; replace aH := bb aH hb; clear hb hbox hg; have qN := cI.out; have qO := cQ.out; have qP := dX.out; have qQ := dY.out; obtain ⟨_, _, _, _⟩ := cf2 aA) | ((with_reducible refine gc 62 rfl ?_); refine gL 13 Tryz.func62 #[.agg #[.slice aX aC.length aN, .slice aT aD.length aQ], .int .i64 a1, .int .i64 0] ?_; (with_reducible refine (aB5.calls k (fun k_ => k_ < w.heap.size) _ _ aC (fun k_ => k_ < w.heap.size) _ _ aD a1 0 cK cE eN _ ?bF ?bG A3.out).mono ?_); (case bF => exact Kd.V_mk dK.out (Kd.F_below (Kd.C_F k67_heap dA.out) (pE HB))); (case bG => exact Kd.V_mk dL.out (Kd.F_below (Kd.C_F (Kd.heap_int .i64) dB.out) (pE HB))); rintro e w54 ⟨mJ, mK, rfl, cP, fF, hb⟩; refine ⟨_, rfl, ?_⟩; have cL := aM (Kd.V_lower (Kd.V_mono (ok' := fun k_ => k_ ≠ aI ∧ k_ ≠ aE ∧ k_ ≠ aJ) cP (fun k_ hk_ => ⟨Or.elim hk_ (fun hs_ => Or.elim hs_ (fun hs_ => fun e_ => Nat.not_le.2 hs_ (by rw [e_]; exact aY.out)) (fun hs_ => fun e_ => Nat.not_le.2 hs_ (by rw [e_]; exact aY.out))) (fun hn_ => (Kd.freshB (g := aI) (o := .cells #[.slice aX aC.length aN, .slice aT aD.length aQ] 25 (0, 0)) (pB aA.out) k_ hn_)), Or.elim hk_ (fun hs_ => Or.elim hs_ (fun hs_ => fun e_ => Nat.not_le.2 hs_ (by rw [e_]; exact cC.out)) (fun hs_ => fun e_ => Nat.not_le.2 hs_ (by rw [e_]; exact cC.out))) (fun hn_ => (Kd.freshB (g := aE) (o := .cells #[.int .i64 0] 3 (0, 0)) (pB aH.out) k_ hn_)), Or.elim hk_ (fun hs_ => Or.elim hs_ (fun hs_ => fun e_ => Nat.not_le.2 hs_ (by rw [e_]; exact dS.out)) (fun hs_ => fun e_ => Nat.not_le.2 hs_ (by rw [e_]; exact dS.out))) (fun hn_ => (Kd.freshB (g := aJ) (o := .cells #[.int .i64 0] 3 (0, 0)) (pB bC.out) k_ hn_))⟩)) (below_size (pE HB))); have cM := aM (Kd.V_lower (Kd.V_mono (ok' := fun k_ => k_ ≠ aI ∧ k_ ≠ aE ∧ k_ ≠ aJ) fF (fun k_ hk_ => ⟨Or.elim hk_ (fun hs_ => Or.elim hs_ (fun hs_ => fun e_ => Nat.not_le.2 hs_ (by rw [e_]; exact aY.out)) (fun hs_ => fun e_ => Nat.not_le.2 hs_ (by rw [e_]; exact aY.out))) (fun hn_ => (Kd.freshB (g := aI) (o := .cells #[.slice aX aC.length aN, .slice aT aD.length aQ] 25 (0, 0)) (pB aA.out) k_ hn_)), Or.elim hk_ (fun hs_ => Or.elim hs_ (fun hs_ => fun e_ => Nat.not_le.2 hs_ (by rw [e_]; exact cC.out)) (fun hs_ => fun e_ => Nat.not_le.2 hs_ (by rw [e_]; exact cC.out))) (fun hn_ => (Kd.freshB (g := aE) (o := .cells #[.int .i64 0] 3 (0, 0)) (pB aH.out) k_ hn_)), Or.elim hk_ (fun hs_ => Or.elim hs_ (fun hs_ => fun e_ => Nat.not_le.2 hs_ (by rw [e_]; exact dS.out)) (fun hs_ => fun e_ => Nat.not_le.2 hs_ (by rw [e_]; exact dS.out))) (fun hn_ => (Kd.freshB (g := aJ) (o := .cells #[.int .i64 0] 3 (0, 0)) (pB bC.out) k_ hn_))⟩)) (below_size (pE HB))); replace aA := bb aA hb; replace aH := bb aH hb; replace bC := bb bC hb; replace HB := bs HB hb; clear hb cP fF) | ((with_reducible refine gate_dst (N := 7) rfl ?_); refine bx 7 #[.slice none 0 0, .slice none 0 0] 99 ?_; intro bR hg w55 hbox hb; replace cL := ve cL hg hb; replace cM := ve cM hg hb; have cW := hbox; have jN := gs HB hg; have jO := gs HB hg; replace HB := bs HB hb; have dZ := nl aA hg; have eA := nr aA hg; replace aA := bb aA hb; have cS := nl aH hg; have eB := nr aH hg; replace aH := bb aH hb; have cD := nl bC hg; have dR := nr bC hg; replace bC := bb bC hb; clear hb hbox hg; obtain ⟨sF, sG, pG⟩ := Kd.V_slice cL.out; subst pG; have qR := eA.out; have qS := dZ.out; have qT := eB.out; have qU := cS.out; have qV := dR.out; have qW := cD.out; obtain ⟨_, _, _, _⟩ := cf2 cW; obtain ⟨sH, sI, pH⟩ := Kd.V_slice cM.out; subst pH; have qX := cZ.out; have qY := cR.out; obtain ⟨_, _⟩ := cf1 aH; obtain ⟨_, _⟩ := cf1 bC))
    refine bodyPost_ret (results_cct (p := 4) (q := 5) (u := 6) (g1 := aE) (g2 := aJ) (x := 0) (y := 0) rfl rfl rfl rfl (by refine pB ?_; refine blk_far ?_ cZ.out _; refine pB ?_; refine blk_put (cs := #[.int .i64 0]) ?_ 0 _ rfl; refine pB ?_; refine blk_far ?_ cS.out _; refine pB ?_; refine blk_far ?_ cS.out _; exact pB aH.out) (by refine pB ?_; refine blk_put (cs := #[.int .i64 0]) ?_ 0 _ rfl; refine pB ?_; refine blk_far ?_ cR.out _; refine pB ?_; refine blk_far ?_ cD.out _; refine pB ?_; refine blk_far ?_ cD.out _; exact pB bC.out) Tryz.underlying3) rfl ?_
    exact ⟨eT, pE HB⟩
end Go.Proofs.YtlmglnobdcgbeaaGreat.P
namespace Go.Proofs.YtlmglnobdcgbeaaGreat.P
open Go.RowKit Go.Shelf Go.Proofs.YtlmglnobdcgbeaaGreatW.PrintWords Go.Proofs.YtlmglnobdcgbeaaGreatW.PrintLast Go.Proofs.YtlmglnobdcgbeaaGreatW.PrintMore Go.Proofs.YtlmglnobdcgbeaaGreat.R
attribute [local go_sem] max2_int min2_int max_two min_two max_three min_three max_four min_four
theorem turns_made (of : Int → Int → Int) (m : Nat) (A2 : Option Addr) (c2 : Nat) (ord : List Int) (A3 : Option Addr) (c3 : Nat) (cl : List S67) (A4 : Option Addr) (c4 : Nat) (rk : List Int) (g : FuncId) (fng : Func) (n : Nat) (w1 w5 : World) (Ex : Nat → Prop) (hEx : ∀ k, Ex k → k < w1.heap.size)
    (hg1 : Tryz.prog.funcs[g]? = some fng) (hg2 : (fng.name == "runtime.NumGoroutine") = false) (hg3 : fng.body.isSome = true)
    (hof : ∀ x y W_, Calls Tryz.prog g #[.agg #[.int .i64 x, .int .i64 y]] W_ fun e w' => e = .returned (.int .i64 (of x y)) ∧ Below W_.heap.size W_ w')
    (hm : 1 ≤ m) (hm2 : m ≤ 1000) (hin : ∀ x ∈ ord, 0 ≤ x ∧ x < (cl.length : Int))
    (hw5 : w5 = (((w1.alloc (.cells #[.slice A3 cl.length c3, .slice A4 rk.length c4] 99)).alloc (.cells #[.slice A2 ord.length c2] 23)).alloc (.cells #[.int .i64 (m : Int)] 3)).alloc (.cells #[.func (.func g) #[] #[]] 135))
    (hr : ∀ W', w1.heap.size ≤ W'.heap.size → (∀ k, k < w1.heap.size → ¬ Ex k → W'.heap[k]? = w1.heap[k]?) → Kd.C (Kd.int .i64) W' A2 ord.length ord ∧ Kd.C k67 W' A3 cl.length cl) :
    Below w1.heap.size w1 w5 ∧ w5.heap.size = w1.heap.size + 4 ∧ IterC Fence.wide n Tryz.prog 99 #[.pointer (some ⟨w1.heap.size + 2, 0, none⟩), .pointer (some ⟨w1.heap.size + 1, 0, none⟩), .pointer (some ⟨w1.heap.size, 0, none⟩), .pointer (some ⟨w1.heap.size + 3, 0, none⟩)] (runT of cl (List.replicate m 0) ord) RvT Ex 1 (fun _ => True) w5 := by
  obtain ⟨q1, q2, q3, q4, q5, q6⟩ := four_alloc w1 (.cells #[.slice A3 cl.length c3, .slice A4 rk.length c4] 99) (.cells #[.slice A2 ord.length c2] 23) (.cells #[.int .i64 (m : Int)] 3) (.cells #[.func (.func g) #[] #[]] 135)
  rw [← hw5] at q1 q2 q3 q4 q5 q6
  refine ⟨q1, q2, turns_iter of _ _ _ _ m A2 c2 ord A3 c3 cl A4 c4 rk g fng n w5 Ex (fun _ => True) hg1 hg2 hg3 hof hm hm2 hin (by omega) trivial fun W' hsz hsame => ?_⟩
  have hold : ∀ k, w1.heap.size ≤ k → k < w5.heap.size → W'.heap[k]? = w5.heap[k]? := fun k h1 h2 => hsame k h2 (fun hx => by have := hEx k hx; omega)
  obtain ⟨r1, r2⟩ := hr W' (by omega) (fun k hk hx => (hsame k (by omega) hx).trans (q1.block k hk))
  exact ⟨(hold _ (by omega) (by omega)).trans q5, (hold _ (by omega) (by omega)).trans q4, (hold _ (by omega) (by omega)).trans q3, (hold _ (by omega) (by omega)).trans q6, r1, r2⟩
theorem istep_eq {b lo c : Nat} {X Y wn : World} {k : Nat} (hs : IStep b lo c X Y) (hk : k < wn.heap.size) (hn : wn.heap.size ≤ b ∧ b ≤ lo) (h : X.heap[k]? = wn.heap[k]?) : Y.heap[k]? = wn.heap[k]? := by
  rw [Array.getElem?_eq_getElem hk] at h ⊢
  exact hs.same k _ h (by omega) (fun h_ => by omega)
def endF (a : Int) (t : Int × Int × Int) : Int := mx a t.2.2
def endsO (cl : List S67) (ord : List Int) (m : Int) : Option (Int × Int) := if okT cl ord m = true then some ((runT lowF cl (List.replicate m.toNat 0) ord).foldl endF 0, (runT highF cl (List.replicate m.toNat 0) ord).foldl endF 0) else none
theorem endsO_spec {cl : List S67} {ord : List Int} {m : Int} {z : Int × Int} (h : endsO cl ord m = some z) : okT cl ord m = true ∧ (runT lowF cl (List.replicate m.toNat 0) ord).foldl endF 0 = z.1 ∧ (runT highF cl (List.replicate m.toNat 0) ord).foldl endF 0 = z.2 := by
  unfold endsO at h
  split at h
  · obtain rfl := Option.some.inj h; exact ⟨by assumption, rfl, rfl⟩
  · cases h
def aC4.f (k : Nat) (aC : List (S67)) (aD : List Int) (a1 : Int) : Option (Int × Int × Int) := (aB5.f k aC aD a1 0).bind fun bt103 => (if bt103.2.2 = 0 then ((aB1.f k bt103.1 bt103.2.1).bind fun eW => ((endsO bt103.1 eW a1).bind fun bP => (some (bP.1, bP.2, 0)))) else (some (0, 0, bt103.2.2)))
theorem aC4.mono : ∀ a0 a1 a2 k, LeO (aC4.f k a0 a1 a2) (aC4.f (k + 1) a0 a1 a2) := by
  intro a0 a1 a2 k
  unfold aC4.f
  repeat' first
      | (with_reducible exact aB1.mono _ _ _)
      | (with_reducible exact aB5.mono _ _ _ _ _)
      | (with_reducible exact LeO.refl _)
      | (with_reducible exact LeO.none _)
      | (with_reducible refine LeO.ite ?_ ?_)
      | (with_reducible refine LeO.bind ?_ (fun _ => ?_))
      | exact aB1.mono _ _ _
      | exact aB5.mono _ _ _ _ _
      | exact LeO.none _
      | refine LeO.ite ?_ ?_
      | refine LeO.bind ?_ (fun _ => ?_)
set_option maxHeartbeats 8000000 in
set_option maxRecDepth 100000 in
theorem aC4.calls (k : Nat) (aX : Option Addr) (aN : Nat) (aC : List (S67)) (aT : Option Addr) (aQ : Nat) (aD : List Int) (a1 : Int) (r1 : Int) (r2 : Int) (r3 : Int) (w : World) (hr0_0 : Kd.C k67 w aX aC.length aC) (dI : aC.length ≤ aN) (hr0_1 : Kd.C (Kd.int .i64) w aT aD.length aD) (dJ : aD.length ≤ aQ) (h : aC4.f k aC aD a1 = some (r1, r2, r3)) :
    Calls Tryz.prog 27 #[.agg #[.slice aX aC.length aN, .slice aT aD.length aQ], .int .i64 a1] w fun e w' => e = .returned (.tuple #[.agg #[.int .i64 r1, .int .i64 r2], .int .i64 r3]) ∧ Below w.heap.size w w' := by
  have hu25 := Tryz.underlying25
  have hu42 := Tryz.underlying42
  have hu99 := Tryz.underlying99
  have dA := aM hr0_0
  have dK := aM dI
  clear hr0_0 dI
  have dB := aM hr0_1
  have dL := aM dJ
  clear hr0_1 dJ
  have HB := aM (Below.refl w.heap.size w)
  have H : ((aB5.f k aC aD a1 0).bind fun bt103 => (if bt103.2.2 = 0 then ((aB1.f k bt103.1 bt103.2.1).bind fun eW => ((endsO bt103.1 eW a1).bind fun bP => (some (bP.1, bP.2, 0)))) else (some (0, 0, bt103.2.2)))) = some (r1, r2, r3) := h
  clear h
  obtain ⟨⟨bS, bO, eX⟩, A3, H⟩ := bi H
  by_cases c4 : eX = 0
  · rw [if_pos c4] at H
    have gG : (eX == 0) = true := beq_iff_eq.mpr c4
    have iQ : (eX != 0) = false := bne_eq_false_iff_eq.mpr c4
    clear c4
    obtain ⟨eW, A5, H⟩ := bi H
    obtain ⟨bP, A6, H⟩ := bi H
    simp only [Option.some.injEq, Prod.mk.injEq] at H
    obtain ⟨rfl, rfl, rfl⟩ := H
    refine (callsIn_wide (n := 5)).1 (marks_q Tryz.func27 rfl trivial (fun Qf_ hqp_ hqf_ => ?_) rfl)
    have HQP := aM hqp_
    have HQF := aM hqf_
    clear hqp_ hqf_
    simp only [Tryz.ntmps27, List.size_toArray, List.length_cons, List.length_nil, Nat.reduceAdd, Nat.reduceSub, Array.replicate_succ, Array.replicate_zero, List.push_toArray, List.append_toArray, List.nil_append, List.cons_append]
    go_wp2_with (first | ((with_reducible refine gate_dst (N := 2) rfl ?_); refine bx 2 #[.slice aX aC.length aN, .slice aT aD.length aQ] 25 ?_; intro aI hg w9 hbox hb; have aA := hbox; have aY := gs HB hg; have eO := gs HB hg; replace HB := bs HB hb; clear hb hbox hg) | ((with_reducible refine gate_dst (N := 4) rfl ?_); refine bx 4 #[.int .i64 0, .int .i64 0] 42 ?_; intro aE hg w10 hbox hb; have aH := hbox; have cC := gs HB hg; have hX := gs HB hg; replace HB := bs HB hb; have cI := nl aA hg; have cQ := nr aA hg; replace aA := bb aA hb; clear hb hbox hg; have qZ := cI.out; have rA := cQ.out; obtain ⟨_, _, _, _⟩ := cf2 aA) | ((with_reducible refine gc 62 rfl ?_); refine gL 12 Tryz.func62 #[.agg #[.slice aX aC.length aN, .slice aT aD.length aQ], .int .i64 a1, .int .i64 0] ?_; (with_reducible refine (aB5.calls k (fun k_ => k_ < w.heap.size) _ _ aC (fun k_ => k_ < w.heap.size) _ _ aD a1 0 bS bO eX _ ?bF ?bG A3.out).mono ?_); (case bF => exact Kd.V_mk dK.out (Kd.F_below (Kd.C_F k67_heap dA.out) (pE HB))); (case bG => exact Kd.V_mk dL.out (Kd.F_below (Kd.C_F (Kd.heap_int .i64) dB.out) (pE HB))); rintro e w13 ⟨pI, pJ, rfl, cP, fF, hb⟩; refine ⟨_, rfl, ?_⟩; have bT := aM (Kd.V_lower (Kd.V_mono (ok' := fun k_ => k_ ≠ aI ∧ k_ ≠ aE) cP (fun k_ hk_ => ⟨Or.elim hk_ (fun hs_ => Or.elim hs_ (fun hs_ => fun e_ => Nat.not_le.2 hs_ (by rw [e_]; exact aY.out)) (fun hs_ => fun e_ => Nat.not_le.2 hs_ (by rw [e_]; exact aY.out))) (fun hn_ => (Kd.freshB (g := aI) (o := .cells #[.slice aX aC.length aN, .slice aT aD.length aQ] 25 (0, 0)) (pB aA.out) k_ hn_)), Or.elim hk_ (fun hs_ => Or.elim hs_ (fun hs_ => fun e_ => Nat.not_le.2 hs_ (by rw [e_]; exact cC.out)) (fun hs_ => fun e_ => Nat.not_le.2 hs_ (by rw [e_]; exact cC.out))) (fun hn_ => (Kd.freshB (g := aE) (o := .cells #[.int .i64 0, .int .i64 0] 42 (0, 0)) (pB aH.out) k_ hn_))⟩)) (below_size (pE HB))); have bU := aM (Kd.V_lower (Kd.V_mono (ok' := fun k_ => k_ ≠ aI ∧ k_ ≠ aE) fF (fun k_ hk_ => ⟨Or.elim hk_ (fun hs_ => Or.elim hs_ (fun hs_ => fun e_ => Nat.not_le.2 hs_ (by rw [e_]; exact aY.out)) (fun hs_ => fun e_ => Nat.not_le.2 hs_ (by rw [e_]; exact aY.out))) (fun hn_ => (Kd.freshB (g := aI) (o := .cells #[.slice aX aC.length aN, .slice aT aD.length aQ] 25 (0, 0)) (pB aA.out) k_ hn_)), Or.elim hk_ (fun hs_ => Or.elim hs_ (fun hs_ => fun e_ => Nat.not_le.2 hs_ (by rw [e_]; exact cC.out)) (fun hs_ => fun e_ => Nat.not_le.2 hs_ (by rw [e_]; exact cC.out))) (fun hn_ => (Kd.freshB (g := aE) (o := .cells #[.int .i64 0, .int .i64 0] 42 (0, 0)) (pB aH.out) k_ hn_))⟩)) (below_size (pE HB))); replace aA := bb aA hb; replace aH := bb aH hb; replace HB := bs HB hb; clear hb cP fF) | ((with_reducible refine gate_dst (N := 6) rfl ?_); refine bx 6 #[.slice none 0 0, .slice none 0 0] 99 ?_; intro bV hg w14 hbox hb; replace bT := ve bT hg hb; replace bU := ve bU hg hb; have bQ := hbox; have mS := gs HB hg; have mT := gs HB hg; replace HB := bs HB hb; have fD := nl aA hg; have fE := nr aA hg; replace aA := bb aA hb; have eC := nl aH hg; have eY := nr aH hg; replace aH := bb aH hb; clear hb hbox hg; obtain ⟨bD, bE, iA⟩ := Kd.V_slice bT.out; subst iA; have jP := fE.out; have jQ := fD.out; have mL := eY.out; have mM := eC.out; obtain ⟨_, _, _, _⟩ := cf2 bQ; obtain ⟨cT, cU, kZ⟩ := Kd.V_slice bU.out; subst kZ) | (with_reducible refine regW_lit_ ?_) | gi_step)
    have n0_ : Aside0 (Kd.V k67 67 ((w14.setCell ⟨bV, 0, none⟩ (.slice bD bS.length bE)).setCell ⟨bV, 1, none⟩ (.slice cT bO.length cU)) w.heap.size (fun k_ => k_ ≠ aI ∧ k_ ≠ aE ∧ k_ ≠ bV) (.slice bD bS.length bE) bS) := ⟨by (with_reducible repeat (first | apply Kd.V_alloc | apply Kd.V_drewN | apply Kd.V_drew)); exact Kd.V_mono (Kd.V_far (p := ⟨bV, 1, none⟩) (Kd.V_far (p := ⟨bV, 0, none⟩) (Kd.V_mono bT.out (fun k_ hk => (⟨hk, hk.2⟩ : _ ∧ k_ ≠ bV))) (fun _ hk => hk.2) (.slice bD bS.length bE)) (fun _ hk => hk.2) (.slice cT bO.length cU)) (fun _ hk => ⟨hk.1.1.1, ⟨hk.1.1.2, hk.1.2⟩⟩)⟩
    have n1_ : Aside0 (Kd.V (Kd.int .i64) 3 ((w14.setCell ⟨bV, 0, none⟩ (.slice bD bS.length bE)).setCell ⟨bV, 1, none⟩ (.slice cT bO.length cU)) w.heap.size (fun k_ => k_ ≠ aI ∧ k_ ≠ aE ∧ k_ ≠ bV) (.slice cT bO.length cU) bO) := ⟨by (with_reducible repeat (first | apply Kd.V_alloc | apply Kd.V_drewN | apply Kd.V_drew)); exact Kd.V_mono (Kd.V_far (p := ⟨bV, 1, none⟩) (Kd.V_far (p := ⟨bV, 0, none⟩) (Kd.V_mono bU.out (fun k_ hk => (⟨hk, hk.2⟩ : _ ∧ k_ ≠ bV))) (fun _ hk => hk.2) (.slice bD bS.length bE)) (fun _ hk => hk.2) (.slice cT bO.length cU)) (fun _ hk => ⟨hk.1.1.1, ⟨hk.1.1.2, hk.1.2⟩⟩)⟩
    have n2_ : Aside0 (((w14.setCell ⟨bV, 0, none⟩ (.slice bD bS.length bE)).setCell ⟨bV, 1, none⟩ (.slice cT bO.length cU)).heap[aI]? = some (.cells #[.slice aX aC.length aN, .slice aT aD.length aQ] 25 (0, 0))) := ⟨pF aA⟩
    have n3_ : Aside0 (((w14.setCell ⟨bV, 0, none⟩ (.slice bD bS.length bE)).setCell ⟨bV, 1, none⟩ (.slice cT bO.length cU)).heap[aE]? = some (.cells #[.int .i64 0, .int .i64 0] 42 (0, 0))) := ⟨pF aH⟩
    have n4_ : Aside0 (((w14.setCell ⟨bV, 0, none⟩ (.slice bD bS.length bE)).setCell ⟨bV, 1, none⟩ (.slice cT bO.length cU)).heap[bV]? = some (.cells #[.slice bD bS.length bE, .slice cT bO.length cU] 99 (0, 0))) := ⟨by refine pB ?_; refine blk_put (cs := #[.slice bD bS.length bE, .slice none 0 0]) ?_ 1 _ rfl; refine pB ?_; refine blk_put (cs := #[.slice none 0 0, .slice none 0 0]) ?_ 0 _ rfl; exact pB bQ.out⟩
    have n5_ : Aside0 (Below w.heap.size w ((w14.setCell ⟨bV, 0, none⟩ (.slice bD bS.length bE)).setCell ⟨bV, 1, none⟩ (.slice cT bO.length cU))) := ⟨pE HB⟩
    (try clear bT)
    (try clear bU)
    (try clear aA)
    (try clear aH)
    (try clear bQ)
    (try clear HB)
    generalize ((w14.setCell ⟨bV, 0, none⟩ (.slice bD bS.length bE)).setCell ⟨bV, 1, none⟩ (.slice cT bO.length cU)) = w20 at n0_ n1_ n2_ n3_ n4_ n5_ ⊢
    have bT := n0_
    have bU := n1_
    have aA := n2_
    have aH := n3_
    have bQ := n4_
    have HB := n5_
    clear n0_ n1_ n2_ n3_ n4_ n5_
    replace bT := aM (Kd.V_drew bT.out)
    replace bU := aM (Kd.V_drew bU.out)
    replace aA := aM (blk_drew aA.out)
    replace aH := aM (blk_drew aH.out)
    replace bQ := aM (blk_drew bQ.out)
    replace HB := aM (below_drew1 HB.out)
    refine wpIn_wide.2 (start_ (n := 5) (S := fun w' => w'.cell? ⟨bV, 0, none⟩ = some (.slice bD bS.length bE) ∧ w'.cell? ⟨bV, 1, none⟩ = some (.slice cT bO.length cU)) (ds := []) #[false, false, false, false, false] (by kernel_rfl) rfl rfl ⟨(blk_cell bQ.out 0).trans rfl, (blk_cell bQ.out 1).trans rfl⟩ (fun aG => ?_))
    generalize w20.drew = w21 at bT bU aA aH bQ HB aG ⊢
    refine pu 3 22 ?_ (hQ := (fun c_ a_ w_ h_ => HQP.out c_ _ a_ w_ (by rfl) h_))
    refine tk 0 19 aG ?_ (hQ := (fun c_ a_ w_ h_ => HQP.out c_ _ a_ w_ (by rfl) h_))
    refine tk 1 20 aG ?_ (hQ := (fun c_ a_ w_ h_ => HQP.out c_ _ a_ w_ (by rfl) h_))
    refine on 2 (fun K hK => ?_)
    refine gO Tryz.func63 #[.agg #[.slice bD bS.length bE, .slice cT bO.length cU]] ?_
    with_reducible refine (aB1.calls k _ _ bS _ _ bO eW _ ?bF ?bG ?cN ?cO A5.out).mono ?_
    (case bF => exact pC (Kd.V_reads' bT.out).2.2)
    (case bG => exact (Kd.V_reads' bT.out).2.1)
    (case cN => exact pC (Kd.V_reads' bU.out).2.2)
    (case cO => exact (Kd.V_reads' bU.out).2.1)
    rintro e w22 ⟨sJ, rfl, cP, hb⟩
    have Q113 := aM (Kd.R_mono (Kd.R_tight rfl cP) (fun k_ hk_ => Kd.R_base cP k_ hk_.symm))
    have LU102 := aM (Array.getElem?_eq_some_iff.1 aH.out).1
    refine ⟨_, rfl, ?_⟩
    replace bT := aM (Kd.V_elder' (pV bT.out) (Kd.R_base cP) hb)
    replace bU := aM (Kd.V_elder' (pV bU.out) (Kd.R_base cP) hb)
    have fG := rl cP HB
    replace aA := bb aA hb
    replace aH := bb aH hb
    replace bQ := bb bQ hb
    replace HB := bs HB hb
    (try clear hb)
    (try clear hb2)
    (try clear hk)
    (try clear hi)
    (try clear cP)
    obtain ⟨iR, iS, mU⟩ := Kd.R_slice fG.out
    (first | subst mU | (injection mU with f1_ f2_ f3_; have f4_ := f1_.symm; have f5_ := f3_.symm; clear f1_ f2_ f3_; subst f4_; subst f5_))
    refine hK.out _ _ ⟨(blk_cell bQ.out 0).trans rfl, (blk_cell bQ.out 1).trans rfl⟩ (fun aG => ?_)
    clear hK K
    refine norm_ (a' := ?_) ?_ ?_
    rotate_left
    · show Act.put _ (some 21) _ = _
      simp only [Act.put, List.setIfInBounds_toArray, List.set_cons_zero, List.set_cons_succ, i64_w, i32_w]
      rfl
    refine on 4 (fun K hK => ?_)
    have Q105 := bT
    have Q108 := bU
    have LT102 := aM (Array.getElem?_eq_some_iff.1 aH.out).1
    refine gO Tryz.func65 #[.agg #[.slice bD bS.length bE, .slice cT bO.length cU], .slice iR eW.length iS, .int .i64 a1, .func (.func 66) #[] #[]] ?_
    refine (turns_calls bD bS.length bE cT bO.length cU iR eW.length iS a1 66 _).mono ?_
    rintro e w24 ⟨rfl, hw_⟩
    have HW_ := aM hw_
    have hb : Below w22.heap.size w22 w24 := by rw [hw_]; exact (four_alloc _ _ _ _ _).1
    clear hw_
    refine ⟨_, rfl, ?_⟩
    replace bT := vb bT hb
    replace bU := vb bU hb
    replace fG := rb fG hb
    replace aA := bb aA hb
    replace aH := bb aH hb
    replace bQ := bb bQ hb
    replace HB := bs HB hb
    (try clear hb)
    (try clear hb2)
    (try clear hk)
    (try clear hi)
    refine hK.out _ _ ⟨(blk_cell bQ.out 0).trans rfl, (blk_cell bQ.out 1).trans rfl⟩ (fun aG => ?_)
    clear hK K
    refine norm_ (a' := ?_) ?_ ?_
    rotate_left
    · show Act.put _ (some 23) _ = _
      simp only [Act.put, List.setIfInBounds_toArray, List.set_cons_zero, List.set_cons_succ, i64_w, i32_w]
      rfl
    refine done_ (by kernel_rfl) ?_
    go_wp2_with (first | (with_reducible refine regW_lit_ ?_) | gi_step)
    obtain ⟨hok_, hz_⟩ := endsO_spec A6.out
    obtain ⟨hm1, hm2, hin⟩ := okT_spec hok_
    obtain ⟨m, rfl⟩ : ∃ m : Nat, a1 = (m : Int) := ⟨(a1 : Int).toNat, by omega⟩
    have HIN := aM hin
    have HZ := aM hz_
    clear hin hok_ hz_
    obtain ⟨q1, q2, hseq⟩ := turns_made lowF m iR iS eW bD bE bS cT cU bO 66 Tryz.f66 4 w22 w24 (fun k => k = aE) (fun k hk => hk ▸ LT102.out) Tryz.func66 (by kernel_rfl) rfl low_calls (by omega) (by omega) HIN.out HW_.out (fun W' hsz hsame => ⟨(Kd.R_reads' (Kd.R_step Q113.out (fun k hk hlt => hsame k hlt (fun e => by have := LU102.out; omega)))).2.2, (Kd.V_reads' (Kd.V_step Q105.out (fun k hk hlt => hsame k hlt (fun e => hk.1.2.1 e)))).2.2⟩)
    have L2 : aE < w24.heap.size := (Array.getElem?_eq_some_iff.1 aH.out).1
    have hx2 := aH.out
    have hb5 := HB.out
    have G2 := cC.out
    have hsz0 : w.heap.size ≤ w24.heap.size := hb5.size
    have QS := aM q2
    clear q2
    obtain ⟨xs, hxs⟩ : ∃ xs, runT lowF bS (List.replicate m 0) eW = xs := ⟨_, rfl⟩
    rw [hxs] at hseq
    have HZ1 : Aside0 (xs.foldl endF 0 = bP.1) := ⟨by rw [← hxs]; have h_ := HZ.out.1; rwa [Int.toNat_natCast] at h_⟩
    clear hxs
    refine range_outer (xs := xs) (Rv := RvT) (Ex := fun k => k = aE) (c := 1) (E := fun _ => True) (w0 := w24) rfl (fun h0 => by cases h0) (gf := 99) rfl trivial (fun args w => enters_ Tryz.func99 (by kernel_rfl) rfl args w) hseq (Below.refl _ _) (fun x vs W h => by unfold RvT at h; subst h; rfl)
      (fun i W' => W'.heap[aE]? = some (.cells #[.int .i64 ((xs.take i).foldl endF 0), .int .i64 0] 42 (0, 0)) ∧ Below w.heap.size w W' ∧ (∀ k, k < w24.heap.size → k ≠ aE → W'.heap[k]? = w24.heap[k]?))
      (fun cd i W' => False)
      ?hI ?hIx ⟨hx2, hb5, fun _ _ _ => rfl⟩
      (fun i x a' W' => ∃ g, a' = { tmps := #[.agg #[.slice aX aC.length aN, .slice aT aD.length aQ], .int .i64 (m : Int), .pointer (some ⟨aI, 0, none⟩), undef, .pointer (some ⟨aE, 0, none⟩), .int .i64 eX, .pointer (some ⟨bV, 0, none⟩), .pointer (some ⟨g, 0, none⟩), undef, .tuple #[.agg #[.slice bD bS.length bE, .slice cT bO.length cU], .int .i64 eX], .agg #[.slice aX aC.length aN, .slice aT aD.length aQ], .int .i64 (m : Int), .tuple #[.agg #[.slice bD bS.length bE, .slice cT bO.length cU], .int .i64 eX], .agg #[.slice bD bS.length bE, .slice cT bO.length cU], .int .i64 eX, .int .i64 eX, .bool false, undef, undef, .agg #[.slice bD bS.length bE, .slice cT bO.length cU], .agg #[.slice bD bS.length bE, .slice cT bO.length cU], .slice iR eW.length iS, .int .i64 (m : Int), .func (.func 99) #[] #[.pointer (some ⟨w22.heap.size + 2, 0, none⟩), .pointer (some ⟨w22.heap.size + 1, 0, none⟩), .pointer (some ⟨w22.heap.size, 0, none⟩), .pointer (some ⟨w22.heap.size + 3, 0, none⟩)], .agg #[.int .i64 x.1, .int .i64 x.2.1, .int .i64 x.2.2], undef, undef, undef, undef, undef, undef, undef, undef, undef, undef, undef, undef, undef, undef, undef, undef, undef, undef, undef], defers := [] } ∧ W'.heap[g]? = some (.cells #[.int .i64 x.1, .int .i64 x.2.1, .int .i64 x.2.2] 107 (0, 0)) ∧ w24.heap.size + 2 + 1 ≤ g ∧ W'.heap[aE]? = some (.cells #[.int .i64 ((xs.take i).foldl endF 0), .int .i64 0] 42 (0, 0)) ∧ Below w.heap.size w W' ∧ (∀ k, k < w24.heap.size → k ≠ aE → W'.heap[k]? = w24.heap[k]?))
      ?hAx ?assign ?body ?done ?stop
    case hI => exact fun i X Y ⟨h1, h2, h3⟩ hs => ⟨hs.same _ _ h1 (by omega) (fun _ => rfl), Below_istep_ h2 (Nat.le_refl _) hs (by omega) (by omega), fun k hk hne => istep_eq hs hk (by omega) (h3 k hk hne)⟩
    case hIx => exact fun cd i X Y h hs => h
    case hAx => exact fun i x a' _ X Y ⟨g, h0, h4, h5, h1, h2, h3⟩ hs => ⟨g, h0, hs.same _ _ h4 (by omega) (fun _ => rfl), h5, hs.same _ _ h1 (by omega) (fun _ => rfl), Below_istep_ h2 (Nat.le_refl _) hs (by omega) (by omega), fun k hk hne => istep_eq hs hk (by omega) (h3 k hk hne)⟩
    case assign =>
      rintro l' i x vs W' K hx hi hv hsz hK
      unfold RvT at hv
      subst hv
      simp only [List.zip_toArray, List.zip_cons_cons, List.zip_nil_right, List.zip_nil_left, List.size_toArray, List.foldl_toArray', List.foldl_cons, List.foldl_nil, List.setIfInBounds_toArray, List.set_cons_zero, List.set_cons_succ, List.length_cons, List.length_nil]
      have Hi := aM hi
      have HK := aM hK
      clear hseq hi hK hx2 hb5
      go_wp2_with (first
        | ((with_reducible refine gate_dst (N := 7) rfl ?_); refine box_event_sz ?hg (N := 7) ?hd (cs := #[.int .i64 0, .int .i64 0, .int .i64 0]) (t := 107) ?hr ?_; (case hd => rfl); (case hg => rfl); (case hr => first | (go_simp; done) | (go_simp; rfl)); intro w1 hs1 hx1 hb1
           have hz0 : w1.cell? ⟨W'.heap.size, 0, none⟩ = some (.int .i64 0) := (blk_cell hx1 0).trans rfl
           have hz1 : w1.cell? ⟨W'.heap.size, 1, none⟩ = some (.int .i64 0) := (blk_cell hx1 1).trans rfl
           have hz2 : w1.cell? ⟨W'.heap.size, 2, none⟩ = some (.int .i64 0) := (blk_cell hx1 2).trans rfl
           have hf0 := blk_frozen hx1 0
           have hf1 := blk_frozen hx1 1
           have hf2 := blk_frozen hx1 2)
        | ((with_reducible refine regIn_lit_ ?hnd ?hlo ?_); (case hnd => kernel_rfl); (case hlo => rintro ⟨_, _, h⟩; exact h)) | gi_step)
      have hB := ((hb1.setCell (p := ⟨W'.heap.size, 0, none⟩) (Nat.le_refl _) (.int .i64 x.1)).setCell (p := ⟨W'.heap.size, 1, none⟩) (Nat.le_refl _) (.int .i64 x.2.1)).setCell (p := ⟨W'.heap.size, 2, none⟩) (Nat.le_refl _) (.int .i64 x.2.2)
      have hg1 := blk_put (cs := #[.int .i64 0, .int .i64 0, .int .i64 0]) hx1 0 (.int .i64 x.1) rfl
      have hg2 := blk_put (cs := #[.int .i64 x.1, .int .i64 0, .int .i64 0]) hg1 1 (.int .i64 x.2.1) rfl
      have hg3 := blk_put (cs := #[.int .i64 x.1, .int .i64 x.2.1, .int .i64 0]) hg2 2 (.int .i64 x.2.2) rfl
      exact HK.out _ _ hB ⟨W'.heap.size, rfl, hg3, hsz, (hB.block _ (by omega)).trans Hi.out.1, Hi.out.2.1.trans (hB.mono (by have := Hi.out.2.1.size; omega)), fun k hk hne => (hB.block k (by omega)).trans (Hi.out.2.2 k hk hne)⟩
    case body =>
      rintro l' i x a' W' hl' hloop hx ⟨g, rfl, h4, h5, h1, h2, h3⟩ hsz
      obtain ⟨hlt, hxe⟩ := List.getElem?_eq_some_iff.1 hx
      have htk : (xs.take (i + 1)).foldl endF 0 = endF ((xs.take i).foldl endF 0) x := by rw [List.take_succ_eq_append_getElem hlt, hxe, List.foldl_append]; rfl
      obtain ⟨z, hz⟩ : ∃ z, (xs.take i).foldl endF 0 = z := ⟨_, rfl⟩
      rw [hz] at h1 htk
      have HTK := aM htk
      have hc0 : W'.cell? ⟨aE, 0, none⟩ = some (.int .i64 z) := (blk_cell h1 0).trans rfl
      have hc1 : W'.cell? ⟨aE, 1, none⟩ = some (.int .i64 0) := (blk_cell h1 1).trans rfl
      have hf0 := blk_frozen h1 0
      have hf1 := blk_frozen h1 1
      have hz0 : W'.cell? ⟨g, 0, none⟩ = some (.int .i64 x.1) := (blk_cell h4 0).trans rfl
      have hz1 : W'.cell? ⟨g, 1, none⟩ = some (.int .i64 x.2.1) := (blk_cell h4 1).trans rfl
      have hz2 : W'.cell? ⟨g, 2, none⟩ = some (.int .i64 x.2.2) := (blk_cell h4 2).trans rfl
      have H1 := aM h1
      have H2 := aM h2
      have H3 := aM h3
      clear hseq h1 h2 h3 h4 hx2 hb5 hx hxe hlt htk hz hloop hl' hsz
      go_wp2_with (first | ((with_reducible refine regIn_lit_ ?hnd ?hlo ?_); (case hnd => kernel_rfl); (case hlo => rintro ⟨_, _, h⟩; exact h)) | gi_step)
      all_goals
        refine ⟨BKeep.of_block aE (by simp [World.setCell]) (fun k _ hne => Below.heap_setCell _ _ _ k hne) ⟨_, H1.out, rfl⟩ (fun _ => rfl) (fun hh => by have := hh.1; omega), ?_, ?_, ?_⟩
        · rw [HTK.out]; exact blk_put (cs := #[.int .i64 z, .int .i64 0]) H1.out 0 _ (by unfold endF mx; split <;> first | rfl | (exfalso; omega))
        · exact H2.out.setCell (p := ⟨aE, 0, none⟩) (show w.heap.size ≤ aE from G2) _
        · exact fun k hk hne => (Below.heap_setCell _ _ _ k hne).trans (H3.out k hk hne)
    case stop =>
      rintro D cd i W' hD hi h hmk
      exact h.elim
    case done =>
      rintro D1 W' hD1 ⟨h1, h2, h3⟩ hmk1
      rw [List.take_length, HZ1.out] at h1
      have n0_ := aM (Kd.V_drew (Kd.V_step bT.out (fun k hk hlt => h3 k hlt hk.1.2.1)))
      have n1_ := aM (Kd.V_drew (Kd.V_step bU.out (fun k hk hlt => h3 k hlt hk.1.2.1)))
      have n2_ := aM (blk_drew ((h3 aI (Array.getElem?_eq_some_iff.1 aA.out).1 cI.out).trans aA.out))
      have n3_ := aM (blk_drew h1)
      have n4_ := aM (blk_drew ((h3 bV (Array.getElem?_eq_some_iff.1 bQ.out).1 eY.out).trans bQ.out))
      have n5_ := aM (below_drew1 h2)
      have fA : Aside0 (W'.drew.heap[D1]? = some (.deferred (some []))) := ⟨hmk1⟩
      have HD1 := aM hD1
      have L2a := L2
      clear bT bU fG aA aH bQ HB
      have bT := n0_
      have bU := n1_
      have aA := n2_
      have aH := n3_
      have bQ := n4_
      have HB := n5_
      clear n0_ n1_ n2_ n3_ n4_ n5_ hseq h1 h2 h3 hx2 hb5 hD1 hmk1
      simp only [Exit.inBlock, Exit.then]
      gi_wp2
      refine wpIn_wide.2 (start_ (n := 5) (S := fun w' => w'.cell? ⟨bV, 0, none⟩ = some (.slice bD bS.length bE) ∧ w'.cell? ⟨bV, 1, none⟩ = some (.slice cT bO.length cU)) (ds := []) #[false, false, false, false, false] (by kernel_rfl) rfl rfl ⟨(blk_cell bQ.out 0).trans rfl, (blk_cell bQ.out 1).trans rfl⟩ (fun aG => ?_))
      generalize W'.drew = w21b at bT bU aA aH bQ HB fA aG ⊢
      refine pu 3 34 ?_ (hQ := (fun c_ a_ w_ h_ => HQP.out c_ _ a_ w_ (by rfl) h_))
      refine tk 0 31 aG ?_ (hQ := (fun c_ a_ w_ h_ => HQP.out c_ _ a_ w_ (by rfl) h_))
      refine tk 1 32 aG ?_ (hQ := (fun c_ a_ w_ h_ => HQP.out c_ _ a_ w_ (by rfl) h_))
      refine on 2 (fun K hK => ?_)
      refine gO Tryz.func63 #[.agg #[.slice bD bS.length bE, .slice cT bO.length cU]] ?_
      with_reducible refine (aB1.calls k _ _ bS _ _ bO eW _ ?bF ?bG ?cN ?cO A5.out).mono ?_
      (case bF => exact pC (Kd.V_reads' bT.out).2.2)
      (case bG => exact (Kd.V_reads' bT.out).2.1)
      (case cN => exact pC (Kd.V_reads' bU.out).2.2)
      (case cO => exact (Kd.V_reads' bU.out).2.1)
      rintro e w22b ⟨v112b, rfl, cP, hb⟩
      replace fA := aM ((hb.block D1 (Array.getElem?_eq_some_iff.1 fA.out).1).trans fA.out)
      have Q113b := aM (Kd.R_mono (Kd.R_tight rfl cP) (fun k_ hk_ => Kd.R_base cP k_ hk_.symm))
      have LU102b := aM (Array.getElem?_eq_some_iff.1 aH.out).1
      refine ⟨_, rfl, ?_⟩
      replace bT := aM (Kd.V_elder' (pV bT.out) (Kd.R_base cP) hb)
      replace bU := aM (Kd.V_elder' (pV bU.out) (Kd.R_base cP) hb)
      have fG := rl cP HB
      replace aA := bb aA hb
      replace aH := bb aH hb
      replace bQ := bb bQ hb
      replace HB := bs HB hb
      (try clear hb)
      (try clear hb2)
      (try clear hk)
      (try clear hi)
      (try clear cP)
      obtain ⟨Ao23b, co23b, eo23b⟩ := Kd.R_slice fG.out
      (first | subst eo23b | (injection eo23b with f1_ f2_ f3_; have f4_ := f1_.symm; have f5_ := f3_.symm; clear f1_ f2_ f3_; subst f4_; subst f5_))
      refine hK.out _ _ ⟨(blk_cell bQ.out 0).trans rfl, (blk_cell bQ.out 1).trans rfl⟩ (fun aG => ?_)
      clear hK K
      refine norm_ (a' := ?_) ?_ ?_
      rotate_left
      · show Act.put _ (some 33) _ = _
        simp only [Act.put, List.setIfInBounds_toArray, List.set_cons_zero, List.set_cons_succ, i64_w, i32_w]
        rfl
      refine on 4 (fun K hK => ?_)
      have Q105b := bT
      have Q108b := bU
      have LT102b := aM (Array.getElem?_eq_some_iff.1 aH.out).1
      refine gO Tryz.func65 #[.agg #[.slice bD bS.length bE, .slice cT bO.length cU], .slice Ao23b eW.length co23b, .int .i64 (m : Int), .func (.func 67) #[] #[]] ?_
      refine (turns_calls bD bS.length bE cT bO.length cU Ao23b eW.length co23b (m : Int) 67 _).mono ?_
      rintro e w24b ⟨rfl, hw_⟩
      have HW_b := aM hw_
      have hb : Below w22b.heap.size w22b w24b := by rw [hw_]; exact (four_alloc _ _ _ _ _).1
      clear hw_
      replace fA := aM ((hb.block D1 (Array.getElem?_eq_some_iff.1 fA.out).1).trans fA.out)
      refine ⟨_, rfl, ?_⟩
      replace bT := vb bT hb
      replace bU := vb bU hb
      replace fG := rb fG hb
      replace aA := bb aA hb
      replace aH := bb aH hb
      replace bQ := bb bQ hb
      replace HB := bs HB hb
      (try clear hb)
      (try clear hb2)
      (try clear hk)
      (try clear hi)
      refine hK.out _ _ ⟨(blk_cell bQ.out 0).trans rfl, (blk_cell bQ.out 1).trans rfl⟩ (fun aG => ?_)
      clear hK K
      refine norm_ (a' := ?_) ?_ ?_
      rotate_left
      · show Act.put _ (some 35) _ = _
        simp only [Act.put, List.setIfInBounds_toArray, List.set_cons_zero, List.set_cons_succ, i64_w, i32_w]
        rfl
      refine done_ (by kernel_rfl) ?_
      go_wp2_with (first | (with_reducible refine regW_lit_ ?_) | gi_step)
      obtain ⟨q1, q2, hseq⟩ := turns_made highF m Ao23b co23b eW bD bE bS cT cU bO 67 Tryz.f67 4 w22b w24b (fun k => k = aE) (fun k hk => hk ▸ LT102b.out) Tryz.func67 (by kernel_rfl) rfl high_calls (by omega) (by omega) HIN.out HW_b.out (fun W' hsz hsame => ⟨(Kd.R_reads' (Kd.R_step Q113b.out (fun k hk hlt => hsame k hlt (fun e => by have := LU102b.out; omega)))).2.2, (Kd.V_reads' (Kd.V_step Q105b.out (fun k hk hlt => hsame k hlt (fun e => hk.1.1.2.1 e)))).2.2⟩)
      have L2 : aE < w24b.heap.size := (Array.getElem?_eq_some_iff.1 aH.out).1
      have hx2 := aH.out
      have hb5 := HB.out
      have G2 := cC.out
      have hsz0 : w.heap.size ≤ w24b.heap.size := hb5.size
      have QSb := aM q2
      clear q2
      obtain ⟨xs, hxs⟩ : ∃ xs, runT highF bS (List.replicate m 0) eW = xs := ⟨_, rfl⟩
      rw [hxs] at hseq
      have HZ2 : Aside0 (xs.foldl endF 0 = bP.2) := ⟨by rw [← hxs]; have h_ := HZ.out.2; rwa [Int.toNat_natCast] at h_⟩
      clear hxs
      refine range_outer (xs := xs) (Rv := RvT) (Ex := fun k => k = aE) (c := 1) (E := fun _ => True) (w0 := w24b) rfl (fun h0 => by cases h0) (gf := 99) rfl trivial (fun args w => enters_ Tryz.func99 (by kernel_rfl) rfl args w) hseq (Below.refl _ _) (fun x vs W h => by unfold RvT at h; subst h; rfl)
        (fun i W' => W'.heap[aE]? = some (.cells #[.int .i64 bP.1, .int .i64 ((xs.take i).foldl endF 0)] 42 (0, 0)) ∧ Below w.heap.size w W' ∧ (∀ k, k < w24b.heap.size → k ≠ aE → W'.heap[k]? = w24b.heap[k]?))
        (fun cd i W' => False)
        ?hI ?hIx ⟨hx2, hb5, fun _ _ _ => rfl⟩
        (fun i x a' W' => ∃ g, a' = { tmps := #[.agg #[.slice aX aC.length aN, .slice aT aD.length aQ], .int .i64 (m : Int), .pointer (some ⟨aI, 0, none⟩), undef, .pointer (some ⟨aE, 0, none⟩), .int .i64 eX, .pointer (some ⟨bV, 0, none⟩), undef, .pointer (some ⟨g, 0, none⟩), .tuple #[.agg #[.slice bD bS.length bE, .slice cT bO.length cU], .int .i64 eX], .agg #[.slice aX aC.length aN, .slice aT aD.length aQ], .int .i64 (m : Int), .tuple #[.agg #[.slice bD bS.length bE, .slice cT bO.length cU], .int .i64 eX], .agg #[.slice bD bS.length bE, .slice cT bO.length cU], .int .i64 eX, .int .i64 eX, .bool false, undef, undef, .agg #[.slice bD bS.length bE, .slice cT bO.length cU], .agg #[.slice bD bS.length bE, .slice cT bO.length cU], .slice iR eW.length iS, .int .i64 (m : Int), .func (.func 99) #[] #[.pointer (some ⟨w22.heap.size + 2, 0, none⟩), .pointer (some ⟨w22.heap.size + 1, 0, none⟩), .pointer (some ⟨w22.heap.size, 0, none⟩), .pointer (some ⟨w22.heap.size + 3, 0, none⟩)], undef, undef, undef, undef, undef, undef, undef, .agg #[.slice bD bS.length bE, .slice cT bO.length cU], .agg #[.slice bD bS.length bE, .slice cT bO.length cU], .slice Ao23b eW.length co23b, .int .i64 (m : Int), .func (.func 99) #[] #[.pointer (some ⟨w22b.heap.size + 2, 0, none⟩), .pointer (some ⟨w22b.heap.size + 1, 0, none⟩), .pointer (some ⟨w22b.heap.size, 0, none⟩), .pointer (some ⟨w22b.heap.size + 3, 0, none⟩)], .agg #[.int .i64 x.1, .int .i64 x.2.1, .int .i64 x.2.2], undef, undef, undef, undef, undef, undef, undef], defers := [] } ∧ W'.heap[g]? = some (.cells #[.int .i64 x.1, .int .i64 x.2.1, .int .i64 x.2.2] 107 (0, 0)) ∧ w24b.heap.size + 2 + 1 ≤ g ∧ W'.heap[aE]? = some (.cells #[.int .i64 bP.1, .int .i64 ((xs.take i).foldl endF 0)] 42 (0, 0)) ∧ Below w.heap.size w W' ∧ (∀ k, k < w24b.heap.size → k ≠ aE → W'.heap[k]? = w24b.heap[k]?))
        ?hAx ?assign ?body ?done ?stop
      case hI => exact fun i X Y ⟨h1, h2, h3⟩ hs => ⟨hs.same _ _ h1 (by omega) (fun _ => rfl), Below_istep_ h2 (Nat.le_refl _) hs (by omega) (by omega), fun k hk hne => istep_eq hs hk (by omega) (h3 k hk hne)⟩
      case hIx => exact fun cd i X Y h hs => h
      case hAx => exact fun i x a' _ X Y ⟨g, h0, h4, h5, h1, h2, h3⟩ hs => ⟨g, h0, hs.same _ _ h4 (by omega) (fun _ => rfl), h5, hs.same _ _ h1 (by omega) (fun _ => rfl), Below_istep_ h2 (Nat.le_refl _) hs (by omega) (by omega), fun k hk hne => istep_eq hs hk (by omega) (h3 k hk hne)⟩
      case assign =>
        rintro l' i x vs W' K hx hi hv hsz hK
        unfold RvT at hv
        subst hv
        simp only [List.zip_toArray, List.zip_cons_cons, List.zip_nil_right, List.zip_nil_left, List.size_toArray, List.foldl_toArray', List.foldl_cons, List.foldl_nil, List.setIfInBounds_toArray, List.set_cons_zero, List.set_cons_succ, List.length_cons, List.length_nil]
        have Hi := aM hi
        have HK := aM hK
        clear hseq hi hK hx2 hb5
        go_wp2_with (first
          | ((with_reducible refine gate_dst (N := 8) rfl ?_); refine box_event_sz ?hg (N := 8) ?hd (cs := #[.int .i64 0, .int .i64 0, .int .i64 0]) (t := 107) ?hr ?_; (case hd => rfl); (case hg => rfl); (case hr => first | (go_simp; done) | (go_simp; rfl)); intro w1 hs1 hx1 hb1
             have hz0 : w1.cell? ⟨W'.heap.size, 0, none⟩ = some (.int .i64 0) := (blk_cell hx1 0).trans rfl
             have hz1 : w1.cell? ⟨W'.heap.size, 1, none⟩ = some (.int .i64 0) := (blk_cell hx1 1).trans rfl
             have hz2 : w1.cell? ⟨W'.heap.size, 2, none⟩ = some (.int .i64 0) := (blk_cell hx1 2).trans rfl
             have hf0 := blk_frozen hx1 0
             have hf1 := blk_frozen hx1 1
             have hf2 := blk_frozen hx1 2)
          | ((with_reducible refine regIn_lit_ ?hnd ?hlo ?_); (case hnd => kernel_rfl); (case hlo => rintro ⟨_, _, h⟩; exact h)) | gi_step)
        have hB := ((hb1.setCell (p := ⟨W'.heap.size, 0, none⟩) (Nat.le_refl _) (.int .i64 x.1)).setCell (p := ⟨W'.heap.size, 1, none⟩) (Nat.le_refl _) (.int .i64 x.2.1)).setCell (p := ⟨W'.heap.size, 2, none⟩) (Nat.le_refl _) (.int .i64 x.2.2)
        have hg1 := blk_put (cs := #[.int .i64 0, .int .i64 0, .int .i64 0]) hx1 0 (.int .i64 x.1) rfl
        have hg2 := blk_put (cs := #[.int .i64 x.1, .int .i64 0, .int .i64 0]) hg1 1 (.int .i64 x.2.1) rfl
        have hg3 := blk_put (cs := #[.int .i64 x.1, .int .i64 x.2.1, .int .i64 0]) hg2 2 (.int .i64 x.2.2) rfl
        exact HK.out _ _ hB ⟨W'.heap.size, rfl, hg3, hsz, (hB.block _ (by omega)).trans Hi.out.1, Hi.out.2.1.trans (hB.mono (by have := Hi.out.2.1.size; omega)), fun k hk hne => (hB.block k (by omega)).trans (Hi.out.2.2 k hk hne)⟩
      case body =>
        rintro l' i x a' W' hl' hloop hx ⟨g, rfl, h4, h5, h1, h2, h3⟩ hsz
        obtain ⟨hlt, hxe⟩ := List.getElem?_eq_some_iff.1 hx
        have htk : (xs.take (i + 1)).foldl endF 0 = endF ((xs.take i).foldl endF 0) x := by rw [List.take_succ_eq_append_getElem hlt, hxe, List.foldl_append]; rfl
        obtain ⟨z, hz⟩ : ∃ z, (xs.take i).foldl endF 0 = z := ⟨_, rfl⟩
        rw [hz] at h1 htk
        have HTK := aM htk
        have hc0 : W'.cell? ⟨aE, 0, none⟩ = some (.int .i64 bP.1) := (blk_cell h1 0).trans rfl
        have hc1 : W'.cell? ⟨aE, 1, none⟩ = some (.int .i64 z) := (blk_cell h1 1).trans rfl
        have hf0 := blk_frozen h1 0
        have hf1 := blk_frozen h1 1
        have hz0 : W'.cell? ⟨g, 0, none⟩ = some (.int .i64 x.1) := (blk_cell h4 0).trans rfl
        have hz1 : W'.cell? ⟨g, 1, none⟩ = some (.int .i64 x.2.1) := (blk_cell h4 1).trans rfl
        have hz2 : W'.cell? ⟨g, 2, none⟩ = some (.int .i64 x.2.2) := (blk_cell h4 2).trans rfl
        have H1 := aM h1
        have H2 := aM h2
        have H3 := aM h3
        clear hseq h1 h2 h3 h4 hx2 hb5 hx hxe hlt htk hz hloop hl' hsz
        go_wp2_with (first | ((with_reducible refine regIn_lit_ ?hnd ?hlo ?_); (case hnd => kernel_rfl); (case hlo => rintro ⟨_, _, h⟩; exact h)) | gi_step)
        all_goals
          refine ⟨BKeep.of_block aE (by simp [World.setCell]) (fun k _ hne => Below.heap_setCell _ _ _ k hne) ⟨_, H1.out, rfl⟩ (fun _ => rfl) (fun hh => by have := hh.1; omega), ?_, ?_, ?_⟩
          · rw [HTK.out]; exact blk_put (cs := #[.int .i64 bP.1, .int .i64 z]) H1.out 1 _ (by unfold endF mx; split <;> first | rfl | (exfalso; omega))
          · exact H2.out.setCell (p := ⟨aE, 1, none⟩) (show w.heap.size ≤ aE from G2) _
          · exact fun k hk hne => (Below.heap_setCell _ _ _ k hne).trans (H3.out k hk hne)
      case stop =>
        rintro D cd i W' hD hi h hmk
        exact h.elim
      case done =>
        rintro D2 W' hD2 ⟨h1, h2, h3⟩ hmk2
        rw [List.take_length, HZ2.out] at h1
        have LD1 : D1 < w24b.heap.size := (Array.getElem?_eq_some_iff.1 fA.out).1
        have hk1 : W'.heap[D1]? = some (.deferred (some [])) := (h3 D1 LD1 (by have := HD1.out; omega)).trans fA.out
        have hc0 : W'.cell? ⟨aE, 0, none⟩ = some (.int .i64 bP.1) := (blk_cell h1 0).trans rfl
        have hc1 : W'.cell? ⟨aE, 1, none⟩ = some (.int .i64 bP.2) := (blk_cell h1 1).trans rfl
        have hf0 := blk_frozen h1 0
        have hf1 := blk_frozen h1 1
        have H1 := aM h1
        have H2 := aM h2
        have M1 := aM hk1
        have M2 := aM hmk2
        have HD2 := aM hD2
        clear hseq h1 h2 h3 hx2 hb5 hk1 hmk2 hD2
        simp only [Exit.inBlock, Exit.then]
        go_wp2_with (first | (with_reducible refine regW_lit_ ?_) | gi_step)
        have e0 : (W'.setCell ⟨aE, 0, none⟩ (.int .i64 bP.1)).heap[aE]? = some (.cells #[.int .i64 bP.1, .int .i64 bP.2] 42 (0, 0)) := blk_put (cs := #[.int .i64 bP.1, .int .i64 bP.2]) H1.out 0 _ rfl
        have e1 : ((W'.setCell ⟨aE, 0, none⟩ (.int .i64 bP.1)).setCell ⟨aE, 1, none⟩ (.int .i64 bP.2)).heap[aE]? = some (.cells #[.int .i64 bP.1, .int .i64 bP.2] 42 (0, 0)) := blk_put (cs := #[.int .i64 bP.1, .int .i64 bP.2]) e0 1 _ rfl
        have e3 : ∀ D, D ≠ aE → ((W'.setCell ⟨aE, 0, none⟩ (.int .i64 bP.1)).setCell ⟨aE, 1, none⟩ (.int .i64 bP.2)).heap[D]? = W'.heap[D]? := fun D h => (Below.heap_setCell _ _ _ D h).trans (Below.heap_setCell _ _ _ D h)
        have e4 := (H2.out.setCell (p := ⟨aE, 0, none⟩) (show w.heap.size ≤ aE from G2) (.int .i64 bP.1)).setCell (p := ⟨aE, 1, none⟩) (show w.heap.size ≤ aE from G2) (.int .i64 bP.2)
        refine HQF.out _ _ _ (fun c h => by cases h) ?_
        have hd1 := HD1.out
        have hd2 := HD2.out
        refine Marks.leaves (lo := w24.heap.size) (Ds := [D2, D1]) (.cons ((e3 D2 (by omega)).trans M2.out) (by omega) (fun E hE => by simp only [List.mem_singleton] at hE; omega) (.cons ((e3 D1 (by omega)).trans M1.out) (by omega) (fun E hE => by cases hE) (.nil _))) fun W2 hs => ⟨.tuple #[.agg #[.int .i64 bP.1, .int .i64 bP.2], .int .i64 0], ?res, rfl, Below_istep_ e4 (Nat.le_refl _) hs (by omega) (by omega)⟩
        exact results_ct (p := 4) (u := 5) rfl _ _ aE 42 #[.int .i64 bP.1, .int .i64 bP.2] (0, 0) _ rfl (hs.same aE _ e1 (by omega) (fun _ => rfl)) Tryz.underlying42 rfl (by kernel_rfl)
  · rw [if_neg c4] at H
    have gG : (eX == 0) = false := beq_eq_false_iff_ne.mpr c4
    have iQ : (eX != 0) = true := bne_iff_ne.mpr c4
    simp only [Option.some.injEq, Prod.mk.injEq] at H
    obtain ⟨rfl, rfl, rfl⟩ := H
    go_enter Tryz.func27, Tryz.ntmps27
    go_wp2_with (first | ((with_reducible refine gate_dst (N := 2) rfl ?_); refine bx 2 #[.slice aX aC.length aN, .slice aT aD.length aQ] 25 ?_; intro aI hg w32 hbox hb; have aA := hbox; have aY := gs HB hg; have eO := gs HB hg; replace HB := bs HB hb; clear hb hbox hg) | ((with_reducible refine gate_dst (N := 4) rfl ?_); refine bx 4 #[.int .i64 0, .int .i64 0] 42 ?_; intro aE hg w33 hbox hb; have aH := hbox; have cC := gs HB hg; have hX := gs HB hg; replace HB := bs HB hb; have cI := nl aA hg; have cQ := nr aA hg; replace aA := bb aA hb; clear hb hbox hg; have mN := cI.out; have mO := cQ.out; obtain ⟨_, _, _, _⟩ := cf2 aA) | ((with_reducible refine gc 62 rfl ?_); refine gL 12 Tryz.func62 #[.agg #[.slice aX aC.length aN, .slice aT aD.length aQ], .int .i64 a1, .int .i64 0] ?_; (with_reducible refine (aB5.calls k (fun k_ => k_ < w.heap.size) _ _ aC (fun k_ => k_ < w.heap.size) _ _ aD a1 0 bS bO eX _ ?bF ?bG A3.out).mono ?_); (case bF => exact Kd.V_mk dK.out (Kd.F_below (Kd.C_F k67_heap dA.out) (pE HB))); (case bG => exact Kd.V_mk dL.out (Kd.F_below (Kd.C_F (Kd.heap_int .i64) dB.out) (pE HB))); rintro e w36 ⟨pI, pJ, rfl, cP, fF, hb⟩; refine ⟨_, rfl, ?_⟩; have bT := aM (Kd.V_lower (Kd.V_mono (ok' := fun k_ => k_ ≠ aI ∧ k_ ≠ aE) cP (fun k_ hk_ => ⟨Or.elim hk_ (fun hs_ => Or.elim hs_ (fun hs_ => fun e_ => Nat.not_le.2 hs_ (by rw [e_]; exact aY.out)) (fun hs_ => fun e_ => Nat.not_le.2 hs_ (by rw [e_]; exact aY.out))) (fun hn_ => (Kd.freshB (g := aI) (o := .cells #[.slice aX aC.length aN, .slice aT aD.length aQ] 25 (0, 0)) (pB aA.out) k_ hn_)), Or.elim hk_ (fun hs_ => Or.elim hs_ (fun hs_ => fun e_ => Nat.not_le.2 hs_ (by rw [e_]; exact cC.out)) (fun hs_ => fun e_ => Nat.not_le.2 hs_ (by rw [e_]; exact cC.out))) (fun hn_ => (Kd.freshB (g := aE) (o := .cells #[.int .i64 0, .int .i64 0] 42 (0, 0)) (pB aH.out) k_ hn_))⟩)) (below_size (pE HB))); have bU := aM (Kd.V_lower (Kd.V_mono (ok' := fun k_ => k_ ≠ aI ∧ k_ ≠ aE) fF (fun k_ hk_ => ⟨Or.elim hk_ (fun hs_ => Or.elim hs_ (fun hs_ => fun e_ => Nat.not_le.2 hs_ (by rw [e_]; exact aY.out)) (fun hs_ => fun e_ => Nat.not_le.2 hs_ (by rw [e_]; exact aY.out))) (fun hn_ => (Kd.freshB (g := aI) (o := .cells #[.slice aX aC.length aN, .slice aT aD.length aQ] 25 (0, 0)) (pB aA.out) k_ hn_)), Or.elim hk_ (fun hs_ => Or.elim hs_ (fun hs_ => fun e_ => Nat.not_le.2 hs_ (by rw [e_]; exact cC.out)) (fun hs_ => fun e_ => Nat.not_le.2 hs_ (by rw [e_]; exact cC.out))) (fun hn_ => (Kd.freshB (g := aE) (o := .cells #[.int .i64 0, .int .i64 0] 42 (0, 0)) (pB aH.out) k_ hn_))⟩)) (below_size (pE HB))); replace aA := bb aA hb; replace aH := bb aH hb; replace HB := bs HB hb; clear hb cP fF) | ((with_reducible refine gate_dst (N := 6) rfl ?_); refine bx 6 #[.slice none 0 0, .slice none 0 0] 99 ?_; intro bV hg w37 hbox hb; replace bT := ve bT hg hb; replace bU := ve bU hg hb; have bQ := hbox; have mS := gs HB hg; have mT := gs HB hg; replace HB := bs HB hb; have fD := nl aA hg; have fE := nr aA hg; replace aA := bb aA hb; have eC := nl aH hg; have eY := nr aH hg; replace aH := bb aH hb; clear hb hbox hg; obtain ⟨dU, dV, lA⟩ := Kd.V_slice bT.out; subst lA; have mP := fE.out; have mQ := fD.out; have rB := eY.out; have rC := eC.out; obtain ⟨_, _, _, _⟩ := cf2 bQ; obtain ⟨sK, sL, pK⟩ := Kd.V_slice bU.out; subst pK; obtain ⟨_, _, _, _⟩ := cf2 aH))
    refine bodyPost_ret (results_ct rfl _ _ aE 42 #[.int .i64 0, .int .i64 0] (0, 0) _ rfl (by refine pB ?_; refine blk_put (cs := #[.int .i64 0, .int .i64 0]) ?_ 1 _ rfl; refine pB ?_; refine blk_put (cs := #[.int .i64 0, .int .i64 0]) ?_ 0 _ rfl; refine pB ?_; refine blk_far ?_ eC.out _; refine pB ?_; refine blk_far ?_ eC.out _; exact pB aH.out) Tryz.underlying42 rfl (by kernel_rfl)) rfl ?_
    exact ⟨eT, pE HB⟩
end Go.Proofs.YtlmglnobdcgbeaaGreat.P
namespace Go.Proofs.YtlmglnobdcgbeaaGreat.P
open Go.RowKit Go.Shelf Go.Proofs.YtlmglnobdcgbeaaGreatW.PrintWords Go.Proofs.YtlmglnobdcgbeaaGreatW.PrintLast Go.Proofs.YtlmglnobdcgbeaaGreatW.PrintMore Go.Proofs.YtlmglnobdcgbeaaGreat.R
theorem istep_lt {b lo c : Nat} {X Y : World} {k n : Nat} (hs : IStep b lo c X Y) (hk : k < n) (hn : n ≤ b ∧ b ≤ lo) (hlt : k < X.heap.size) : Y.heap[k]? = X.heap[k]? := by
  rw [Array.getElem?_eq_getElem hlt]
  exact hs.same k _ (Array.getElem?_eq_getElem hlt) (by omega) (fun h_ => by omega)
theorem low42 {W : World} {base : Nat} {ok : Nat → Prop} {g n cap : Nat} {l : List S42} (h : Kd.R k42 42 W base ok (.slice (some ⟨g, 0, none⟩) n cap) l) (i : Int) (h0 : 0 ≤ i) (h1 : i < n) (v : Int) : Kd.R k42 42 (W.setCell ⟨g, i.toNat * 2, none⟩ (.int .i64 v)) base ok (.slice (some ⟨g, 0, none⟩) n cap) (l.set i.toNat ⟨v, (aA8 l i).f1⟩) := by
  obtain ⟨c, hcl, hM, hcc, hfr⟩ := Kd.R_elem h z42 i h0 h1
  obtain rfl := k42_openM hM
  exact (Kd.R_seg h i h0 h1 (seg := [.int .i64 v]) (j := 0) hcl hcc (show _ + 1 ≤ 2 from by decide) (x' := ⟨v, (aA8 l i).f1⟩) (k42_mkM _ _ (fun _ => False) ⟨v, (aA8 l i).f1⟩) (fun _ hk => hk.elim)).1
theorem high42 {W : World} {base : Nat} {ok : Nat → Prop} {g n cap : Nat} {l : List S42} (h : Kd.R k42 42 W base ok (.slice (some ⟨g, 0, none⟩) n cap) l) (i : Int) (h0 : 0 ≤ i) (h1 : i < n) (v : Int) : Kd.R k42 42 (W.setCell ⟨g, i.toNat * 2 + 1, none⟩ (.int .i64 v)) base ok (.slice (some ⟨g, 0, none⟩) n cap) (l.set i.toNat ⟨(aA8 l i).f0, v⟩) := by
  obtain ⟨c, hcl, hM, hcc, hfr⟩ := Kd.R_elem h z42 i h0 h1
  obtain rfl := k42_openM hM
  exact (Kd.R_seg h i h0 h1 (seg := [.int .i64 v]) (j := 1) hcl hcc (show _ + 1 ≤ 2 from by decide) (x' := ⟨(aA8 l i).f0, v⟩) (k42_mkM _ _ (fun _ => False) ⟨(aA8 l i).f0, v⟩) (fun _ hk => hk.elim)).1
def lows_1 (l : List S42) (t : Int × Int × Int) : List S42 := l.set t.1.toNat ⟨t.2.1, (aA8 l t.1).f1⟩
def highs_1 (l : List S42) (t : Int × Int × Int) : List S42 := l.set t.1.toNat ⟨(aA8 l t.1).f0, t.2.1⟩
def lows_ (l : List S42) (ts : List (Int × Int × Int)) : List S42 := ts.foldl lows_1 l
def highs_ (l : List S42) (ts : List (Int × Int × Int)) : List S42 := ts.foldl highs_1 l
theorem runT_in (of : Int → Int → Int) (cl : List S67) : ∀ (xs fr : List Int), ∀ t ∈ runT of cl fr xs, t.1 ∈ xs
  | [], _ => fun t ht => by cases ht
  | x :: xs, fr => fun t ht => by
    rw [runT] at ht
    rcases List.mem_cons.1 ht with rfl | ht
    · exact List.mem_cons_self
    · exact List.mem_cons_of_mem _ (runT_in of cl xs _ t ht)
def startsO (cl : List S67) (ord : List Int) (m : Int) : Option (List S42) := if okT cl ord m = true then some (highs_ (lows_ (List.replicate cl.length z42) (runT lowF cl (List.replicate m.toNat 0) ord)) (runT highF cl (List.replicate m.toNat 0) ord)) else none
theorem startsO_spec {cl : List S67} {ord : List Int} {m : Int} {z : List S42} (h : startsO cl ord m = some z) : okT cl ord m = true ∧ highs_ (lows_ (List.replicate cl.length z42) (runT lowF cl (List.replicate m.toNat 0) ord)) (runT highF cl (List.replicate m.toNat 0) ord) = z := by
  unfold startsO at h
  split at h
  · exact ⟨by assumption, Option.some.inj h⟩
  · cases h
def aC0.f (k : Nat) (aC : List (S67)) (aD : List Int) (a1 : Int) : Option ((List (S42)) × Int) := (aB5.f k aC aD a1 0).bind fun bt102 => (if bt102.2.2 = 0 then (if 0 ≤ (bt102.1.length : Int) then (if ((bt102.1.length : Int) : Int).toNat ≤ 17592186044416 then ((aB1.f k bt102.1 bt102.2.1).bind fun bP => ((startsO bt102.1 bP a1).bind fun gQ => (some (gQ, 0)))) else (none)) else (none)) else (some (([] : List (S42)), bt102.2.2)))
theorem aC0.mono : ∀ a0 a1 a2 k, LeO (aC0.f k a0 a1 a2) (aC0.f (k + 1) a0 a1 a2) := by
  intro a0 a1 a2 k
  unfold aC0.f
  repeat' first
      | (with_reducible exact aB1.mono _ _ _)
      | (with_reducible exact aB5.mono _ _ _ _ _)
      | (with_reducible exact LeO.refl _)
      | (with_reducible exact LeO.none _)
      | (with_reducible refine LeO.ite ?_ ?_)
      | (with_reducible refine LeO.bind ?_ (fun _ => ?_))
      | exact aB1.mono _ _ _
      | exact aB5.mono _ _ _ _ _
      | exact LeO.none _
      | refine LeO.ite ?_ ?_
      | refine LeO.bind ?_ (fun _ => ?_)
set_option maxHeartbeats 8000000 in
set_option maxRecDepth 100000 in
theorem aC0.calls (k : Nat) (aX : Option Addr) (aN : Nat) (aC : List (S67)) (aT : Option Addr) (aQ : Nat) (aD : List Int) (a1 : Int) (r1 : List (S42)) (r2 : Int) (w : World) (hr0_0 : Kd.C k67 w aX aC.length aC) (dI : aC.length ≤ aN) (hr0_1 : Kd.C (Kd.int .i64) w aT aD.length aD) (dJ : aD.length ≤ aQ) (h : aC0.f k aC aD a1 = some (r1, r2)) :
    Calls Tryz.prog 25 #[.agg #[.slice aX aC.length aN, .slice aT aD.length aQ], .int .i64 a1] w fun e w' => ∃ v0_ : Value, e = .returned (.tuple #[v0_, .int .i64 r2]) ∧ Kd.R k42 42 w' w.heap.size (fun _ => True) v0_ r1 ∧ Below w.heap.size w w' := by
  have hu25 := Tryz.underlying25
  have hu99 := Tryz.underlying99
  have dA := aM hr0_0
  have dK := aM dI
  clear hr0_0 dI
  have dB := aM hr0_1
  have dL := aM dJ
  clear hr0_1 dJ
  have HB := aM (Below.refl w.heap.size w)
  have H : ((aB5.f k aC aD a1 0).bind fun bt102 => (if bt102.2.2 = 0 then (if 0 ≤ (bt102.1.length : Int) then (if ((bt102.1.length : Int) : Int).toNat ≤ 17592186044416 then ((aB1.f k bt102.1 bt102.2.1).bind fun bP => ((startsO bt102.1 bP a1).bind fun gQ => (some (gQ, 0)))) else (none)) else (none)) else (some (([] : List (S42)), bt102.2.2)))) = some (r1, r2) := h
  clear h
  obtain ⟨⟨bB, bX, dO⟩, A3, H⟩ := bi H
  by_cases c4 : dO = 0
  · rw [if_pos c4] at H
    have gG : (dO == 0) = true := beq_iff_eq.mpr c4
    have iQ : (dO != 0) = false := bne_eq_false_iff_eq.mpr c4
    clear c4
    by_cases c5 : 0 ≤ (bB.length : Int)
    · rw [if_pos c5] at H
      have gN := eq_true c5
      have mG : decide (0 ≤ (bB.length : Int)) = true := decide_eq_true c5
      clear c5
      by_cases c6 : ((bB.length : Int) : Int).toNat ≤ 17592186044416
      · rw [if_pos c6] at H
        have jR := eq_true c6
        have sM : decide (((bB.length : Int) : Int).toNat ≤ 17592186044416) = true := decide_eq_true c6
        clear c6
        obtain ⟨bN, fS⟩ : ∃ y_ : List (S42), y_ = (List.replicate ((bB.length : Int) : Int).toNat z42) := ⟨_, rfl⟩
        replace H : ((aB1.f k bB bX).bind fun bP => ((startsO bB bP a1).bind fun gQ => (some (gQ, 0)))) = some (r1, r2) := yy fS H
        have fT := aM fS
        clear fS
        obtain ⟨bP, A7, H⟩ := bi H
        obtain ⟨gQ, A8, H⟩ := bi H
        simp only [Option.some.injEq, Prod.mk.injEq] at H
        obtain ⟨rfl, rfl⟩ := H
        refine (callsIn_wide (n := 5)).1 (marks_q Tryz.func25 rfl trivial (fun Qf_ hqp_ hqf_ => ?_) rfl)
        have HQP := aM hqp_
        have HQF := aM hqf_
        clear hqp_ hqf_
        simp only [Tryz.ntmps25, List.size_toArray, List.length_cons, List.length_nil, Nat.reduceAdd, Nat.reduceSub, Array.replicate_succ, Array.replicate_zero, List.push_toArray, List.append_toArray, List.nil_append, List.cons_append]
        go_wp2_with (first | ((with_reducible refine gate_dst (N := 2) rfl ?_); refine bx 2 #[.slice aX aC.length aN, .slice aT aD.length aQ] 25 ?_; intro aI hg w11 hbox hb; have aA := hbox; have aY := gs HB hg; have eO := gs HB hg; replace HB := bs HB hb; clear hb hbox hg; obtain ⟨_, _, _, _⟩ := cf2 aA) | ((with_reducible refine gc 62 rfl ?_); refine gL 14 Tryz.func62 #[.agg #[.slice aX aC.length aN, .slice aT aD.length aQ], .int .i64 a1, .int .i64 0] ?_; (with_reducible refine (aB5.calls k (fun k_ => k_ < w.heap.size) _ _ aC (fun k_ => k_ < w.heap.size) _ _ aD a1 0 bB bX dO _ ?bF ?bG A3.out).mono ?_); (case bF => exact Kd.V_mk dK.out (Kd.F_below (Kd.C_F k67_heap dA.out) (pE HB))); (case bG => exact Kd.V_mk dL.out (Kd.F_below (Kd.C_F (Kd.heap_int .i64) dB.out) (pE HB))); rintro e w13 ⟨jA, lB, rfl, cP, fF, hb⟩; refine ⟨_, rfl, ?_⟩; have aU := aM (Kd.V_lower (Kd.V_mono (ok' := fun k_ => k_ ≠ aI) cP (fun k_ hk_ => Or.elim hk_ (fun hs_ => Or.elim hs_ (fun hs_ => fun e_ => Nat.not_le.2 hs_ (by rw [e_]; exact aY.out)) (fun hs_ => fun e_ => Nat.not_le.2 hs_ (by rw [e_]; exact aY.out))) (fun hn_ => (Kd.freshB (g := aI) (o := .cells #[.slice aX aC.length aN, .slice aT aD.length aQ] 25 (0, 0)) (pB aA.out) k_ hn_)))) (below_size (pE HB))); have aZ := aM (Kd.V_lower (Kd.V_mono (ok' := fun k_ => k_ ≠ aI) fF (fun k_ hk_ => Or.elim hk_ (fun hs_ => Or.elim hs_ (fun hs_ => fun e_ => Nat.not_le.2 hs_ (by rw [e_]; exact aY.out)) (fun hs_ => fun e_ => Nat.not_le.2 hs_ (by rw [e_]; exact aY.out))) (fun hn_ => (Kd.freshB (g := aI) (o := .cells #[.slice aX aC.length aN, .slice aT aD.length aQ] 25 (0, 0)) (pB aA.out) k_ hn_)))) (below_size (pE HB))); replace aA := bb aA hb; replace HB := bs HB hb; clear hb cP fF) | ((with_reducible refine gate_dst (N := 6) rfl ?_); refine bx 6 #[.slice none 0 0, .slice none 0 0] 99 ?_; intro bJ hg w14 hbox hb; replace aU := ve aU hg hb; replace aZ := ve aZ hg hb; have bA := hbox; have iT := gs HB hg; have iU := gs HB hg; replace HB := bs HB hb; have dG := nl aA hg; have dH := nr aA hg; replace aA := bb aA hb; clear hb hbox hg; obtain ⟨bD, bE, iA⟩ := Kd.V_slice aU.out; subst iA; have jP := dH.out; have jQ := dG.out; obtain ⟨_, _, _, _⟩ := cf2 bA; obtain ⟨dE, dF, lC⟩ := Kd.V_slice aZ.out; subst lC) | ((with_reducible refine gate_dst (N := 24) rfl ?_); refine Kd.R_make k42 _ 42 rfl (N := 24) rfl 36 _ _ rfl (bB.length : Int) rfl rfl Tryz.underlying36 (.agg #[(.int .i64 0), (.int .i64 0)]) 16 info42 rfl (by decide) (by omega) z42 (ok := fun _ => True) (okp := fun _ => True) (k42_mkM _ _ _ z42 ) (fun _ hk => hk) trivial (dT) (Nat.le_trans (Nat.mul_le_mul_right _ (dT : (bB.length : Int).toNat ≤ 17592186044416)) (by omega)) (Below.refl _ _) (Nat.le_refl _) ?_; intro lH w19 gR hb hg_ hnew_; clear hg_ hnew_; (first | rw [← fT.out] at gR | (simp only [Int.reduceToNat] at gR; rw [← fT.out] at gR)); replace aU := aM (Kd.V_elder' (by refine pV ?_; exact (Kd.V_mono (Kd.V_far (p := ⟨bJ, 1, none⟩) (Kd.V_far (p := ⟨bJ, 0, none⟩) (Kd.V_mono aU.out (fun k_ hk => (⟨hk, hk.2⟩ : _ ∧ k_ ≠ bJ))) (fun _ hk => hk.2) (.slice bD bB.length bE)) (fun _ hk => hk.2) (.slice dE bX.length dF)) (fun _ h_ => h_.1))) (Kd.R_base gR) hb); replace aZ := aM (Kd.V_elder' (by refine pV ?_; exact (Kd.V_mono (Kd.V_far (p := ⟨bJ, 1, none⟩) (Kd.V_far (p := ⟨bJ, 0, none⟩) (Kd.V_mono aZ.out (fun k_ hk => (⟨hk, hk.2⟩ : _ ∧ k_ ≠ bJ))) (fun _ hk => hk.2) (.slice bD bB.length bE)) (fun _ hk => hk.2) (.slice dE bX.length dF)) (fun _ h_ => h_.1))) (Kd.R_base gR) hb); have bM := rl gR HB; replace aA := bf aA hb; replace bA := aM (blk_below (g := bJ) (o := .cells #[.slice bD bB.length bE, .slice dE bX.length dF] 99 (0, 0)) (by refine pB ?_; refine blk_put (cs := #[.slice bD bB.length bE, .slice none 0 0]) ?_ 1 _ rfl; refine pB ?_; refine blk_put (cs := #[.slice none 0 0, .slice none 0 0]) ?_ 0 _ rfl; exact pB bA.out) hb); replace HB := bs HB hb; clear hb gR) | ((with_reducible refine gate_dst (N := 8) rfl ?_); refine bx 8 #[.slice none 0 0] 36 ?_; intro cA hg w21 hbox hb; replace aU := ve aU hg hb; replace aZ := ve aZ hg hb; replace bM := rb bM hb; have bY := hbox; have rD := gs HB hg; have rE := gs HB hg; replace HB := bs HB hb; have iC := nl aA hg; have iD := nr aA hg; replace aA := bb aA hb; have iE := nl bA hg; have iF := nr bA hg; replace bA := bb bA hb; clear hb hbox hg; obtain ⟨cV, cF, pL⟩ := Kd.R_slice bM.out; subst pL; have rF := iD.out; have rG := iC.out; have rH := iF.out; have rI := iE.out; obtain ⟨_, _⟩ := cf1 bY) | (with_reducible refine regW_lit_ ?_) | gi_step)
        have n0_ : Aside0 (Kd.V k67 67 (w21.setCell ⟨cA, 0, none⟩ (.slice cV bN.length cF)) w.heap.size (fun k_ => some k_ ≠ (.slice cV bN.length cF : Value).ownBlock ∧ k_ ≠ aI ∧ k_ ≠ bJ ∧ k_ ≠ cA) (.slice bD bB.length bE) bB) := ⟨by (with_reducible repeat (first | apply Kd.V_alloc | apply Kd.V_drewN | apply Kd.V_drew)); exact Kd.V_mono (Kd.V_far (p := ⟨cA, 0, none⟩) (Kd.V_mono aU.out (fun k_ hk => (⟨hk, hk.2⟩ : _ ∧ k_ ≠ cA))) (fun _ hk => hk.2) (.slice cV bN.length cF)) (fun _ hk => ⟨hk.1.1.2, ⟨hk.1.1.1.1, ⟨hk.1.1.1.2, hk.1.2⟩⟩⟩)⟩
        have n1_ : Aside0 (Kd.V (Kd.int .i64) 3 (w21.setCell ⟨cA, 0, none⟩ (.slice cV bN.length cF)) w.heap.size (fun k_ => some k_ ≠ (.slice cV bN.length cF : Value).ownBlock ∧ k_ ≠ aI ∧ k_ ≠ bJ ∧ k_ ≠ cA) (.slice dE bX.length dF) bX) := ⟨by (with_reducible repeat (first | apply Kd.V_alloc | apply Kd.V_drewN | apply Kd.V_drew)); exact Kd.V_mono (Kd.V_far (p := ⟨cA, 0, none⟩) (Kd.V_mono aZ.out (fun k_ hk => (⟨hk, hk.2⟩ : _ ∧ k_ ≠ cA))) (fun _ hk => hk.2) (.slice cV bN.length cF)) (fun _ hk => ⟨hk.1.1.2, ⟨hk.1.1.1.1, ⟨hk.1.1.1.2, hk.1.2⟩⟩⟩)⟩
        have n2_ : Aside0 (Kd.R k42 42 (w21.setCell ⟨cA, 0, none⟩ (.slice cV bN.length cF)) w.heap.size (fun _ => True) (.slice cV bN.length cF) bN) := ⟨by (with_reducible repeat (first | apply Kd.R_alloc | apply Kd.R_drewN | apply Kd.R_drew)); exact Kd.R_mono (Kd.R_far (p := ⟨cA, 0, none⟩) (Kd.R_types bM.out bY.out (by decide)) (fun _ hk => hk.2) (.slice cV bN.length cF)) (fun _ hk => trivial)⟩
        have n3_ : Aside0 ((w21.setCell ⟨cA, 0, none⟩ (.slice cV bN.length cF)).heap[aI]? = some (.cells #[.slice aX aC.length aN, .slice aT aD.length aQ] 25 (0, 0))) := ⟨pF aA⟩
        have n4_ : Aside0 ((w21.setCell ⟨cA, 0, none⟩ (.slice cV bN.length cF)).heap[bJ]? = some (.cells #[.slice bD bB.length bE, .slice dE bX.length dF] 99 (0, 0))) := ⟨pF bA⟩
        have n5_ : Aside0 ((w21.setCell ⟨cA, 0, none⟩ (.slice cV bN.length cF)).heap[cA]? = some (.cells #[.slice cV bN.length cF] 36 (0, 0))) := ⟨by refine pB ?_; refine blk_put (cs := #[.slice none 0 0]) ?_ 0 _ rfl; exact pB bY.out⟩
        have n6_ : Aside0 (Below w.heap.size w (w21.setCell ⟨cA, 0, none⟩ (.slice cV bN.length cF))) := ⟨pE HB⟩
        (try clear aU)
        (try clear aZ)
        (try clear bM)
        (try clear aA)
        (try clear bA)
        (try clear bY)
        (try clear HB)
        generalize (w21.setCell ⟨cA, 0, none⟩ (.slice cV bN.length cF)) = w26 at n0_ n1_ n2_ n3_ n4_ n5_ n6_ ⊢
        have aU := n0_
        have aZ := n1_
        have bM := n2_
        have aA := n3_
        have bA := n4_
        have bY := n5_
        have HB := n6_
        clear n0_ n1_ n2_ n3_ n4_ n5_ n6_
        replace aU := aM (Kd.V_drew aU.out)
        replace aZ := aM (Kd.V_drew aZ.out)
        replace bM := aM (Kd.R_drew bM.out)
        replace aA := aM (blk_drew aA.out)
        replace bA := aM (blk_drew bA.out)
        replace bY := aM (blk_drew bY.out)
        replace HB := aM (below_drew1 HB.out)
        refine wpIn_wide.2 (start_ (n := 5) (S := fun w' => w'.cell? ⟨bJ, 0, none⟩ = some (.slice bD bB.length bE) ∧ w'.cell? ⟨bJ, 1, none⟩ = some (.slice dE bX.length dF)) (ds := []) #[false, false, false, false, false] (by kernel_rfl) rfl rfl ⟨(blk_cell bA.out 0).trans rfl, (blk_cell bA.out 1).trans rfl⟩ (fun aG => ?_))
        generalize w26.drew = w27 at aU aZ bM aA bA bY HB aG ⊢
        refine pu 3 28 ?_ (hQ := (fun c_ a_ w_ h_ => HQP.out c_ _ a_ w_ (by rfl) h_))
        refine tk 0 25 aG ?_ (hQ := (fun c_ a_ w_ h_ => HQP.out c_ _ a_ w_ (by rfl) h_))
        refine tk 1 26 aG ?_ (hQ := (fun c_ a_ w_ h_ => HQP.out c_ _ a_ w_ (by rfl) h_))
        refine on 2 (fun K hK => ?_)
        refine gO Tryz.func63 #[.agg #[.slice bD bB.length bE, .slice dE bX.length dF]] ?_
        with_reducible refine (aB1.calls k _ _ bB _ _ bX bP _ ?bF ?bG ?cN ?cO A7.out).mono ?_
        (case bF => exact pC (Kd.V_reads' aU.out).2.2)
        (case bG => exact (Kd.V_reads' aU.out).2.1)
        (case cN => exact pC (Kd.V_reads' aZ.out).2.2)
        (case cO => exact (Kd.V_reads' aZ.out).2.1)
        rintro e w28 ⟨sN, rfl, cP, hb⟩
        have Q116 := aM (Kd.R_mono (Kd.R_tight rfl cP) (fun k_ hk_ => Kd.R_base cP k_ hk_.symm))
        have LU := aM (Kd.R_lt bM.out)
        refine ⟨_, rfl, ?_⟩
        replace aU := aM (Kd.V_elder' (pV aU.out) (Kd.R_base cP) hb)
        replace aZ := aM (Kd.V_elder' (pV aZ.out) (Kd.R_base cP) hb)
        replace bM := rb bM hb
        have fH := rl cP HB
        replace aA := bb aA hb
        replace bA := bb bA hb
        replace bY := bb bY hb
        replace HB := bs HB hb
        (try clear hb)
        (try clear hb2)
        (try clear hk)
        (try clear hi)
        (try clear cP)
        obtain ⟨iV, iW, mV⟩ := Kd.R_slice fH.out
        (first | subst mV | (injection mV with f1_ f2_ f3_; have f4_ := f1_.symm; have f5_ := f3_.symm; clear f1_ f2_ f3_; subst f4_; subst f5_))
        refine hK.out _ _ ⟨(blk_cell bA.out 0).trans rfl, (blk_cell bA.out 1).trans rfl⟩ (fun aG => ?_)
        clear hK K
        refine norm_ (a' := ?_) ?_ ?_
        rotate_left
        · show Act.put _ (some 27) _ = _
          simp only [Act.put, List.setIfInBounds_toArray, List.set_cons_zero, List.set_cons_succ, i64_w, i32_w]
          rfl
        refine on 4 (fun K hK => ?_)
        have LT := aM (Kd.R_lt bM.out)
        have Q104 := aU
        have Q107 := aZ
        refine gO Tryz.func65 #[.agg #[.slice bD bB.length bE, .slice dE bX.length dF], .slice iV bP.length iW, .int .i64 a1, .func (.func 66) #[] #[]] ?_
        refine (turns_calls bD bB.length bE dE bX.length dF iV bP.length iW a1 66 _).mono ?_
        rintro e w30 ⟨rfl, hw_⟩
        have HW_ := aM hw_
        have hb : Below w28.heap.size w28 w30 := by rw [hw_]; exact (four_alloc _ _ _ _ _).1
        clear hw_
        refine ⟨_, rfl, ?_⟩
        replace aU := vb aU hb
        replace aZ := vb aZ hb
        replace bM := rb bM hb
        replace fH := rb fH hb
        replace aA := bb aA hb
        replace bA := bb bA hb
        replace bY := bb bY hb
        replace HB := bs HB hb
        (try clear hb)
        (try clear hb2)
        (try clear hk)
        (try clear hi)
        refine hK.out _ _ ⟨(blk_cell bA.out 0).trans rfl, (blk_cell bA.out 1).trans rfl⟩ (fun aG => ?_)
        clear hK K
        refine norm_ (a' := ?_) ?_ ?_
        rotate_left
        · show Act.put _ (some 29) _ = _
          simp only [Act.put, List.setIfInBounds_toArray, List.set_cons_zero, List.set_cons_succ, i64_w, i32_w]
          rfl
        refine done_ (by kernel_rfl) ?_
        go_wp2_with (first | (with_reducible refine regW_lit_ ?_) | gi_step)
        obtain ⟨hok_, hz_⟩ := startsO_spec A8.out
        obtain ⟨hm1, hm2, hin⟩ := okT_spec hok_
        obtain ⟨m, rfl⟩ : ∃ m : Nat, a1 = (m : Int) := ⟨(a1 : Int).toNat, by omega⟩
        have HIN := aM hin
        have HZ := aM hz_
        have HYL : Aside0 (bN.length = bB.length) := ⟨by rw [fT.out]; simp⟩
        clear hin hok_ hz_
        obtain ⟨q1, q2, hseq⟩ := turns_made lowF m iV iW bP bD bE bB dE dF bX 66 Tryz.f66 4 w28 w30 (fun k => some k = (.slice cV bN.length cF : Value).ownBlock) (fun k hk => LT.out k hk.symm) Tryz.func66 (by kernel_rfl) rfl low_calls (by omega) (by omega) HIN.out HW_.out (fun W' hsz hsame => ⟨(Kd.R_reads' (Kd.R_step Q116.out (fun k hk hlt => hsame k hlt (fun e => by have := LU.out k e.symm; omega)))).2.2, (Kd.V_reads' (Kd.V_step Q104.out (fun k hk hlt => hsame k hlt (fun e => hk.1.1 e)))).2.2⟩)
        have hx2 : Kd.R k42 42 w30 w.heap.size (fun k_ => k_ < w30.heap.size) (.slice cV bN.length cF) bN := Kd.R_mono (Kd.R_bound bM.out) (fun k_ hk_ => hk_.2.2.1)
        have hb5 := HB.out
        have hsz0 : w.heap.size ≤ w30.heap.size := hb5.size
        have NE113 := aM (Kd.R_ne bM.out bY.out (by decide))
        have QS := aM q2
        clear q2
        obtain ⟨xs, hxs⟩ : ∃ xs, runT lowF bB (List.replicate m 0) bP = xs := ⟨_, rfl⟩
        have HXS : Aside0 (∀ x ∈ xs, 0 ≤ x.1 ∧ x.1 < (bB.length : Int)) := ⟨by rw [← hxs]; exact fun x hx => HIN.out x.1 (runT_in _ _ _ _ x hx)⟩
        rw [hxs] at hseq
        have XS1 := aM hxs
        clear hxs
        refine range_outer (xs := xs) (Rv := RvT) (Ex := fun k => some k = (.slice cV bN.length cF : Value).ownBlock) (c := 1) (E := fun _ => True) (w0 := w30) rfl (fun h0 => by cases h0) (gf := 99) rfl trivial (fun args w => enters_ Tryz.func99 (by kernel_rfl) rfl args w) hseq (Below.refl _ _) (fun x vs W h => by unfold RvT at h; subst h; rfl)
          (fun i W' => Kd.R k42 42 W' w.heap.size (fun k_ => k_ < w30.heap.size) (.slice cV bN.length cF) (lows_ bN (xs.take i)) ∧ Below w.heap.size w W' ∧ (∀ k, k < w30.heap.size → some k ≠ (.slice cV bN.length cF : Value).ownBlock → W'.heap[k]? = w30.heap[k]?))
          (fun cd i W' => False)
          ?hI ?hIx ⟨hx2, hb5, fun _ _ _ => rfl⟩
          (fun i x a' W' => ∃ g, a' = { tmps := #[.agg #[.slice aX aC.length aN, .slice aT aD.length aQ], .int .i64 (m : Int), .pointer (some ⟨aI, 0, none⟩), undef, .slice none 0 0, .int .i64 0, .pointer (some ⟨bJ, 0, none⟩), .int .i64 dO, .pointer (some ⟨cA, 0, none⟩), .pointer (some ⟨g, 0, none⟩), undef, .tuple #[.agg #[.slice bD bB.length bE, .slice dE bX.length dF], .int .i64 dO], .agg #[.slice aX aC.length aN, .slice aT aD.length aQ], .int .i64 (m : Int), .tuple #[.agg #[.slice bD bB.length bE, .slice dE bX.length dF], .int .i64 dO], .agg #[.slice bD bB.length bE, .slice dE bX.length dF], .int .i64 dO, .int .i64 dO, .bool false, undef, .pointer (some ⟨bJ, 0, none⟩), .pointer (some ⟨bJ, 0, none⟩), .slice bD bB.length bE, .int .i64 (bB.length : Int), .slice cV bN.length cF, .agg #[.slice bD bB.length bE, .slice dE bX.length dF], .agg #[.slice bD bB.length bE, .slice dE bX.length dF], .slice iV bP.length iW, .int .i64 (m : Int), .func (.func 99) #[] #[.pointer (some ⟨w28.heap.size + 2, 0, none⟩), .pointer (some ⟨w28.heap.size + 1, 0, none⟩), .pointer (some ⟨w28.heap.size, 0, none⟩), .pointer (some ⟨w28.heap.size + 3, 0, none⟩)], .agg #[.int .i64 x.1, .int .i64 x.2.1, .int .i64 x.2.2], undef, undef, undef, undef, undef, undef, undef, undef, undef, undef, undef, undef, undef, undef, undef, undef, undef, undef, undef, undef, undef], defers := [] } ∧ W'.heap[g]? = some (.cells #[.int .i64 x.1, .int .i64 x.2.1, .int .i64 x.2.2] 107 (0, 0)) ∧ w30.heap.size + 2 + 1 ≤ g ∧ Kd.R k42 42 W' w.heap.size (fun k_ => k_ < w30.heap.size) (.slice cV bN.length cF) (lows_ bN (xs.take i)) ∧ Below w.heap.size w W' ∧ (∀ k, k < w30.heap.size → some k ≠ (.slice cV bN.length cF : Value).ownBlock → W'.heap[k]? = w30.heap[k]?))
          ?hAx ?assign ?body ?done ?stop
        case hI => exact fun i X Y ⟨h1, h2, h3⟩ hs => ⟨Kd.R_step h1 (fun k_ hk_ hlt_ => istep_lt hs hk_ (by omega) hlt_), Below_istep_ h2 (Nat.le_refl _) hs (by omega) (by omega), fun k hk hne => istep_eq hs hk (by omega) (h3 k hk hne)⟩
        case hIx => exact fun cd i X Y h hs => h
        case hAx => exact fun i x a' _ X Y ⟨g, h0, h4, h5, h1, h2, h3⟩ hs => ⟨g, h0, hs.same _ _ h4 (by omega) (fun _ => rfl), h5, Kd.R_step h1 (fun k_ hk_ hlt_ => istep_lt hs hk_ (by omega) hlt_), Below_istep_ h2 (Nat.le_refl _) hs (by omega) (by omega), fun k hk hne => istep_eq hs hk (by omega) (h3 k hk hne)⟩
        case assign =>
          rintro l' i x vs W' K hx hi hv hsz hK
          unfold RvT at hv
          subst hv
          simp only [List.zip_toArray, List.zip_cons_cons, List.zip_nil_right, List.zip_nil_left, List.size_toArray, List.foldl_toArray', List.foldl_cons, List.foldl_nil, List.setIfInBounds_toArray, List.set_cons_zero, List.set_cons_succ, List.length_cons, List.length_nil]
          have Hi := aM hi
          have HK := aM hK
          clear hseq hi hK hx2 hb5
          go_wp2_with (first
            | ((with_reducible refine gate_dst (N := 9) rfl ?_); refine box_event_sz ?hg (N := 9) ?hd (cs := #[.int .i64 0, .int .i64 0, .int .i64 0]) (t := 107) ?hr ?_; (case hd => rfl); (case hg => rfl); (case hr => first | (go_simp; done) | (go_simp; rfl)); intro w1 hs1 hx1 hb1
               have hz0 : w1.cell? ⟨W'.heap.size, 0, none⟩ = some (.int .i64 0) := (blk_cell hx1 0).trans rfl
               have hz1 : w1.cell? ⟨W'.heap.size, 1, none⟩ = some (.int .i64 0) := (blk_cell hx1 1).trans rfl
               have hz2 : w1.cell? ⟨W'.heap.size, 2, none⟩ = some (.int .i64 0) := (blk_cell hx1 2).trans rfl
               have hf0 := blk_frozen hx1 0
               have hf1 := blk_frozen hx1 1
               have hf2 := blk_frozen hx1 2)
            | ((with_reducible refine regIn_lit_ ?hnd ?hlo ?_); (case hnd => kernel_rfl); (case hlo => rintro ⟨_, _, h⟩; exact h)) | gi_step)
          have hB := ((hb1.setCell (p := ⟨W'.heap.size, 0, none⟩) (Nat.le_refl _) (.int .i64 x.1)).setCell (p := ⟨W'.heap.size, 1, none⟩) (Nat.le_refl _) (.int .i64 x.2.1)).setCell (p := ⟨W'.heap.size, 2, none⟩) (Nat.le_refl _) (.int .i64 x.2.2)
          have hg1 := blk_put (cs := #[.int .i64 0, .int .i64 0, .int .i64 0]) hx1 0 (.int .i64 x.1) rfl
          have hg2 := blk_put (cs := #[.int .i64 x.1, .int .i64 0, .int .i64 0]) hg1 1 (.int .i64 x.2.1) rfl
          have hg3 := blk_put (cs := #[.int .i64 x.1, .int .i64 x.2.1, .int .i64 0]) hg2 2 (.int .i64 x.2.2) rfl
          exact HK.out _ _ hB ⟨W'.heap.size, rfl, hg3, hsz, Kd.R_below Hi.out.1 hB, Hi.out.2.1.trans (hB.mono (by have := Hi.out.2.1.size; omega)), fun k hk hne => (hB.block k (by omega)).trans (Hi.out.2.2 k hk hne)⟩
        case body =>
          rintro l' i x a' W' hl' hloop hx ⟨g, rfl, h4, h5, h1, h2, h3⟩ hsz
          obtain ⟨hlt, hxe⟩ := List.getElem?_eq_some_iff.1 hx
          have htk : lows_ bN (xs.take (i + 1)) = lows_1 (lows_ bN (xs.take i)) x := by unfold lows_; rw [List.take_succ_eq_append_getElem hlt, hxe, List.foldl_append]; rfl
          have hln : (lows_ bN (xs.take i)).length = bN.length := (Kd.R_reads' h1).1.symm
          obtain ⟨z, hz⟩ : ∃ z, lows_ bN (xs.take i) = z := ⟨_, rfl⟩
          rw [hz] at h1 htk hln
          have HTK := aM htk
          obtain ⟨p7, q7⟩ := HXS.out x (List.mem_of_getElem? hx)
          rw [← HYL.out] at q7
          obtain ⟨gB, sO, mW, mX, gl7, cl7, HG7⟩ := Kd.R_form h1 (by omega)
          rw [hln] at mW
          injection mW with ea_ en_ ec_
          subst ea_
          subst ec_
          clear en_
          obtain ⟨ce7, hcl7, hM7, hcc7, hfr7⟩ := Kd.R_elem h1 z42 x.1 p7 q7
          obtain rfl := k42_openM hM7
          have hx70 : W'.cell? ⟨gB, x.1.toNat * 2, none⟩ = some (.int .i64 ((aA8 z x.1).f0)) := hcc7 0 _ rfl
          have hx71 : W'.cell? ⟨gB, x.1.toNat * 2 + 1, none⟩ = some (.int .i64 ((aA8 z x.1).f1)) := hcc7 1 _ rfl
          have hf70 : W'.frozen? ⟨gB, x.1.toNat * 2, none⟩ = false := hfr7 0
          have hf71 : W'.frozen? ⟨gB, x.1.toNat * 2 + 1, none⟩ = false := hfr7 1
          have hgo : gB < w30.heap.size := h1.1 gB rfl
          have H0 := aM (low42 h1 x.1 p7 q7 x.2.1)
          have hbx : W'.heap[cA]? = some (.cells #[.slice (some ⟨gB, 0, none⟩) bN.length cF] 36 (0, 0)) := (h3 cA (Array.getElem?_eq_some_iff.1 bY.out).1 NE113.out).trans bY.out
          have hc8 : W'.cell? ⟨cA, 0, none⟩ = some (.slice (some ⟨gB, 0, none⟩) bN.length cF) := (blk_cell hbx 0).trans rfl
          have hz0 : W'.cell? ⟨g, 0, none⟩ = some (.int .i64 x.1) := (blk_cell h4 0).trans rfl
          have hz1 : W'.cell? ⟨g, 1, none⟩ = some (.int .i64 x.2.1) := (blk_cell h4 1).trans rfl
          have hz2 : W'.cell? ⟨g, 2, none⟩ = some (.int .i64 x.2.2) := (blk_cell h4 2).trans rfl
          have H2 := aM h2
          have H3 := aM h3
          have HG := aM HG7
          have HGB := aM mX
          have P7 := eq_true p7
          have Q7 := eq_true q7
          clear hseq h1 h2 h3 h4 hx2 hb5 hx hxe hlt htk hz hloop hl' hsz hbx hcc7 hfr7 hM7 hcl7 HG7 mX p7 q7 hln
          go_wp2_with (first | ((with_reducible refine regIn_lit_ ?hnd ?hlo ?_); (case hnd => kernel_rfl); (case hlo => rintro ⟨_, _, h⟩; exact h)) | gi_step)
          refine ⟨BKeep.of_block gB (by simp [World.setCell]) (fun k _ hne => Below.heap_setCell _ _ _ k hne) ⟨_, HG.out, rfl⟩ (fun _ => rfl) (fun hh => by have := hh.1; omega), ?_, ?_, ?_⟩
          · rw [HTK.out]; exact H0.out
          · exact H2.out.setCell (show w.heap.size ≤ gB from HGB.out) _
          · intro k hk hne
            refine (Below.heap_setCell _ _ _ k ?_).trans (H3.out k hk hne)
            exact fun e => hne (congrArg some e)
        case stop =>
          rintro D cd i W' hD hi h hmk
          exact h.elim
        case done =>
          rintro D1 W' hD1 ⟨h1, h2, h3⟩ hmk1
          rw [List.take_length] at h1
          obtain ⟨l1, hl1⟩ : ∃ l, lows_ bN xs = l := ⟨_, rfl⟩
          rw [hl1] at h1
          have HL1 := aM hl1
          have n0_ := aM (Kd.V_drew (Kd.V_step aU.out (fun k hk hlt => h3 k hlt hk.1.1)))
          have n1_ := aM (Kd.V_drew (Kd.V_step aZ.out (fun k hk hlt => h3 k hlt hk.1.1)))
          have n2_ := aM (Kd.R_drew (Kd.R_mono (ok' := fun _ => True) h1 (fun _ _ => trivial)))
          have n3_ := aM (blk_drew ((h3 aI (Array.getElem?_eq_some_iff.1 aA.out).1 (Kd.R_ne bM.out aA.out (by decide))).trans aA.out))
          have n4_ := aM (blk_drew ((h3 bJ (Array.getElem?_eq_some_iff.1 bA.out).1 (Kd.R_ne bM.out bA.out (by decide))).trans bA.out))
          have n5_ := aM (blk_drew ((h3 cA (Array.getElem?_eq_some_iff.1 bY.out).1 NE113.out).trans bY.out))
          have n6_ := aM (below_drew1 h2)
          have fA : Aside0 (W'.drew.heap[D1]? = some (.deferred (some []))) := ⟨hmk1⟩
          have HD1 := aM hD1
          clear aU aZ bM fH aA bA bY HB
          have aU := n0_
          have aZ := n1_
          have bM := n2_
          have aA := n3_
          have bA := n4_
          have bY := n5_
          have HB := n6_
          clear n0_ n1_ n2_ n3_ n4_ n5_ n6_ hseq h1 h2 h3 hx2 hb5 hD1 hmk1 hl1
          simp only [Exit.inBlock, Exit.then]
          gi_wp2
          refine wpIn_wide.2 (start_ (n := 5) (S := fun w' => w'.cell? ⟨bJ, 0, none⟩ = some (.slice bD bB.length bE) ∧ w'.cell? ⟨bJ, 1, none⟩ = some (.slice dE bX.length dF)) (ds := []) #[false, false, false, false, false] (by kernel_rfl) rfl rfl ⟨(blk_cell bA.out 0).trans rfl, (blk_cell bA.out 1).trans rfl⟩ (fun aG => ?_))
          generalize W'.drew = w27b at aU aZ bM aA bA bY HB fA aG ⊢
          refine pu 3 41 ?_ (hQ := (fun c_ a_ w_ h_ => HQP.out c_ _ a_ w_ (by rfl) h_))
          refine tk 0 38 aG ?_ (hQ := (fun c_ a_ w_ h_ => HQP.out c_ _ a_ w_ (by rfl) h_))
          refine tk 1 39 aG ?_ (hQ := (fun c_ a_ w_ h_ => HQP.out c_ _ a_ w_ (by rfl) h_))
          refine on 2 (fun K hK => ?_)
          refine gO Tryz.func63 #[.agg #[.slice bD bB.length bE, .slice dE bX.length dF]] ?_
          with_reducible refine (aB1.calls k _ _ bB _ _ bX bP _ ?bF ?bG ?cN ?cO A7.out).mono ?_
          (case bF => exact pC (Kd.V_reads' aU.out).2.2)
          (case bG => exact (Kd.V_reads' aU.out).2.1)
          (case cN => exact pC (Kd.V_reads' aZ.out).2.2)
          (case cO => exact (Kd.V_reads' aZ.out).2.1)
          rintro e w28b ⟨v115b, rfl, cP, hb⟩
          replace fA := aM ((hb.block D1 (Array.getElem?_eq_some_iff.1 fA.out).1).trans fA.out)
          have Q116b := aM (Kd.R_mono (Kd.R_tight rfl cP) (fun k_ hk_ => Kd.R_base cP k_ hk_.symm))
          have LUb := aM (Kd.R_lt bM.out)
          refine ⟨_, rfl, ?_⟩
          replace aU := aM (Kd.V_elder' (pV aU.out) (Kd.R_base cP) hb)
          replace aZ := aM (Kd.V_elder' (pV aZ.out) (Kd.R_base cP) hb)
          replace bM := rb bM hb
          have fH := rl cP HB
          replace aA := bb aA hb
          replace bA := bb bA hb
          replace bY := bb bY hb
          replace HB := bs HB hb
          (try clear hb)
          (try clear hb2)
          (try clear hk)
          (try clear hi)
          (try clear cP)
          obtain ⟨Ao29b, co29b, eo29b⟩ := Kd.R_slice fH.out
          (first | subst eo29b | (injection eo29b with f1_ f2_ f3_; have f4_ := f1_.symm; have f5_ := f3_.symm; clear f1_ f2_ f3_; subst f4_; subst f5_))
          refine hK.out _ _ ⟨(blk_cell bA.out 0).trans rfl, (blk_cell bA.out 1).trans rfl⟩ (fun aG => ?_)
          clear hK K
          refine norm_ (a' := ?_) ?_ ?_
          rotate_left
          · show Act.put _ (some 40) _ = _
            simp only [Act.put, List.setIfInBounds_toArray, List.set_cons_zero, List.set_cons_succ, i64_w, i32_w]
            rfl
          refine on 4 (fun K hK => ?_)
          have LTb := aM (Kd.R_lt bM.out)
          have Q104b := aU
          have Q107b := aZ
          refine gO Tryz.func65 #[.agg #[.slice bD bB.length bE, .slice dE bX.length dF], .slice Ao29b bP.length co29b, .int .i64 (m : Int), .func (.func 67) #[] #[]] ?_
          refine (turns_calls bD bB.length bE dE bX.length dF Ao29b bP.length co29b (m : Int) 67 _).mono ?_
          rintro e w30b ⟨rfl, hw_⟩
          have HW_b := aM hw_
          have hb : Below w28b.heap.size w28b w30b := by rw [hw_]; exact (four_alloc _ _ _ _ _).1
          clear hw_
          replace fA := aM ((hb.block D1 (Array.getElem?_eq_some_iff.1 fA.out).1).trans fA.out)
          refine ⟨_, rfl, ?_⟩
          replace aU := vb aU hb
          replace aZ := vb aZ hb
          replace bM := rb bM hb
          replace fH := rb fH hb
          replace aA := bb aA hb
          replace bA := bb bA hb
          replace bY := bb bY hb
          replace HB := bs HB hb
          (try clear hb)
          (try clear hb2)
          (try clear hk)
          (try clear hi)
          refine hK.out _ _ ⟨(blk_cell bA.out 0).trans rfl, (blk_cell bA.out 1).trans rfl⟩ (fun aG => ?_)
          clear hK K
          refine norm_ (a' := ?_) ?_ ?_
          rotate_left
          · show Act.put _ (some 42) _ = _
            simp only [Act.put, List.setIfInBounds_toArray, List.set_cons_zero, List.set_cons_succ, i64_w, i32_w]
            rfl
          refine done_ (by kernel_rfl) ?_
          go_wp2_with (first | (with_reducible refine regW_lit_ ?_) | gi_step)
          obtain ⟨q1, q2, hseq⟩ := turns_made highF m Ao29b co29b bP bD bE bB dE dF bX 67 Tryz.f67 4 w28b w30b (fun k => some k = (.slice cV bN.length cF : Value).ownBlock) (fun k hk => LTb.out k hk.symm) Tryz.func67 (by kernel_rfl) rfl high_calls (by omega) (by omega) HIN.out HW_b.out (fun W' hsz hsame => ⟨(Kd.R_reads' (Kd.R_step Q116b.out (fun k hk hlt => hsame k hlt (fun e => by have := LUb.out k e.symm; omega)))).2.2, (Kd.V_reads' (Kd.V_step Q104b.out (fun k hk hlt => hsame k hlt (fun e => hk.1.1.1 e)))).2.2⟩)
          have hx2 : Kd.R k42 42 w30b w.heap.size (fun k_ => k_ < w30b.heap.size) (.slice cV bN.length cF) l1 := Kd.R_mono (Kd.R_bound bM.out) (fun k_ hk_ => hk_.2.2.1)
          have hb5 := HB.out
          have hsz0 : w.heap.size ≤ w30b.heap.size := hb5.size
          have NE113 := aM (Kd.R_ne bM.out bY.out (by decide))
          have QSb := aM q2
          clear q2
          obtain ⟨xs, hxs⟩ : ∃ xs, runT highF bB (List.replicate m 0) bP = xs := ⟨_, rfl⟩
          have HXSb : Aside0 (∀ x ∈ xs, 0 ≤ x.1 ∧ x.1 < (bB.length : Int)) := ⟨by rw [← hxs]; exact fun x hx => HIN.out x.1 (runT_in _ _ _ _ x hx)⟩
          rw [hxs] at hseq
          have XS2 := aM hxs
          clear hxs
          refine range_outer (xs := xs) (Rv := RvT) (Ex := fun k => some k = (.slice cV bN.length cF : Value).ownBlock) (c := 1) (E := fun _ => True) (w0 := w30b) rfl (fun h0 => by cases h0) (gf := 99) rfl trivial (fun args w => enters_ Tryz.func99 (by kernel_rfl) rfl args w) hseq (Below.refl _ _) (fun x vs W h => by unfold RvT at h; subst h; rfl)
            (fun i W' => Kd.R k42 42 W' w.heap.size (fun k_ => k_ < w30b.heap.size) (.slice cV bN.length cF) (highs_ l1 (xs.take i)) ∧ Below w.heap.size w W' ∧ (∀ k, k < w30b.heap.size → some k ≠ (.slice cV bN.length cF : Value).ownBlock → W'.heap[k]? = w30b.heap[k]?))
            (fun cd i W' => False)
            ?hI ?hIx ⟨hx2, hb5, fun _ _ _ => rfl⟩
            (fun i x a' W' => ∃ g, a' = { tmps := #[.agg #[.slice aX aC.length aN, .slice aT aD.length aQ], .int .i64 (m : Int), .pointer (some ⟨aI, 0, none⟩), undef, .slice none 0 0, .int .i64 0, .pointer (some ⟨bJ, 0, none⟩), .int .i64 dO, .pointer (some ⟨cA, 0, none⟩), undef, .pointer (some ⟨g, 0, none⟩), .tuple #[.agg #[.slice bD bB.length bE, .slice dE bX.length dF], .int .i64 dO], .agg #[.slice aX aC.length aN, .slice aT aD.length aQ], .int .i64 (m : Int), .tuple #[.agg #[.slice bD bB.length bE, .slice dE bX.length dF], .int .i64 dO], .agg #[.slice bD bB.length bE, .slice dE bX.length dF], .int .i64 dO, .int .i64 dO, .bool false, undef, .pointer (some ⟨bJ, 0, none⟩), .pointer (some ⟨bJ, 0, none⟩), .slice bD bB.length bE, .int .i64 (bB.length : Int), .slice cV bN.length cF, .agg #[.slice bD bB.length bE, .slice dE bX.length dF], .agg #[.slice bD bB.length bE, .slice dE bX.length dF], .slice iV bP.length iW, .int .i64 (m : Int), .func (.func 99) #[] #[.pointer (some ⟨w28.heap.size + 2, 0, none⟩), .pointer (some ⟨w28.heap.size + 1, 0, none⟩), .pointer (some ⟨w28.heap.size, 0, none⟩), .pointer (some ⟨w28.heap.size + 3, 0, none⟩)], undef, undef, undef, undef, undef, undef, undef, undef, .agg #[.slice bD bB.length bE, .slice dE bX.length dF], .agg #[.slice bD bB.length bE, .slice dE bX.length dF], .slice Ao29b bP.length co29b, .int .i64 (m : Int), .func (.func 99) #[] #[.pointer (some ⟨w28b.heap.size + 2, 0, none⟩), .pointer (some ⟨w28b.heap.size + 1, 0, none⟩), .pointer (some ⟨w28b.heap.size, 0, none⟩), .pointer (some ⟨w28b.heap.size + 3, 0, none⟩)], .agg #[.int .i64 x.1, .int .i64 x.2.1, .int .i64 x.2.2], undef, undef, undef, undef, undef, undef, undef, undef], defers := [] } ∧ W'.heap[g]? = some (.cells #[.int .i64 x.1, .int .i64 x.2.1, .int .i64 x.2.2] 107 (0, 0)) ∧ w30b.heap.size + 2 + 1 ≤ g ∧ Kd.R k42 42 W' w.heap.size (fun k_ => k_ < w30b.heap.size) (.slice cV bN.length cF) (highs_ l1 (xs.take i)) ∧ Below w.heap.size w W' ∧ (∀ k, k < w30b.heap.size → some k ≠ (.slice cV bN.length cF : Value).ownBlock → W'.heap[k]? = w30b.heap[k]?))
            ?hAx ?assign ?body ?done ?stop
          case hI => exact fun i X Y ⟨h1, h2, h3⟩ hs => ⟨Kd.R_step h1 (fun k_ hk_ hlt_ => istep_lt hs hk_ (by omega) hlt_), Below_istep_ h2 (Nat.le_refl _) hs (by omega) (by omega), fun k hk hne => istep_eq hs hk (by omega) (h3 k hk hne)⟩
          case hIx => exact fun cd i X Y h hs => h
          case hAx => exact fun i x a' _ X Y ⟨g, h0, h4, h5, h1, h2, h3⟩ hs => ⟨g, h0, hs.same _ _ h4 (by omega) (fun _ => rfl), h5, Kd.R_step h1 (fun k_ hk_ hlt_ => istep_lt hs hk_ (by omega) hlt_), Below_istep_ h2 (Nat.le_refl _) hs (by omega) (by omega), fun k hk hne => istep_eq hs hk (by omega) (h3 k hk hne)⟩
          case assign =>
            rintro l' i x vs W' K hx hi hv hsz hK
            unfold RvT at hv
            subst hv
            simp only [List.zip_toArray, List.zip_cons_cons, List.zip_nil_right, List.zip_nil_left, List.size_toArray, List.foldl_toArray', List.foldl_cons, List.foldl_nil, List.setIfInBounds_toArray, List.set_cons_zero, List.set_cons_succ, List.length_cons, List.length_nil]
            have Hi := aM hi
            have HK := aM hK
            clear hseq hi hK hx2 hb5
            go_wp2_with (first
              | ((with_reducible refine gate_dst (N := 10) rfl ?_); refine box_event_sz ?hg (N := 10) ?hd (cs := #[.int .i64 0, .int .i64 0, .int .i64 0]) (t := 107) ?hr ?_; (case hd => rfl); (case hg => rfl); (case hr => first | (go_simp; done) | (go_simp; rfl)); intro w1 hs1 hx1 hb1
                 have hz0 : w1.cell? ⟨W'.heap.size, 0, none⟩ = some (.int .i64 0) := (blk_cell hx1 0).trans rfl
                 have hz1 : w1.cell? ⟨W'.heap.size, 1, none⟩ = some (.int .i64 0) := (blk_cell hx1 1).trans rfl
                 have hz2 : w1.cell? ⟨W'.heap.size, 2, none⟩ = some (.int .i64 0) := (blk_cell hx1 2).trans rfl
                 have hf0 := blk_frozen hx1 0
                 have hf1 := blk_frozen hx1 1
                 have hf2 := blk_frozen hx1 2)
              | ((with_reducible refine regIn_lit_ ?hnd ?hlo ?_); (case hnd => kernel_rfl); (case hlo => rintro ⟨_, _, h⟩; exact h)) | gi_step)
            have hB := ((hb1.setCell (p := ⟨W'.heap.size, 0, none⟩) (Nat.le_refl _) (.int .i64 x.1)).setCell (p := ⟨W'.heap.size, 1, none⟩) (Nat.le_refl _) (.int .i64 x.2.1)).setCell (p := ⟨W'.heap.size, 2, none⟩) (Nat.le_refl _) (.int .i64 x.2.2)
            have hg1 := blk_put (cs := #[.int .i64 0, .int .i64 0, .int .i64 0]) hx1 0 (.int .i64 x.1) rfl
            have hg2 := blk_put (cs := #[.int .i64 x.1, .int .i64 0, .int .i64 0]) hg1 1 (.int .i64 x.2.1) rfl
            have hg3 := blk_put (cs := #[.int .i64 x.1, .int .i64 x.2.1, .int .i64 0]) hg2 2 (.int .i64 x.2.2) rfl
            exact HK.out _ _ hB ⟨W'.heap.size, rfl, hg3, hsz, Kd.R_below Hi.out.1 hB, Hi.out.2.1.trans (hB.mono (by have := Hi.out.2.1.size; omega)), fun k hk hne => (hB.block k (by omega)).trans (Hi.out.2.2 k hk hne)⟩
          case body =>
            rintro l' i x a' W' hl' hloop hx ⟨g, rfl, h4, h5, h1, h2, h3⟩ hsz
            obtain ⟨hlt, hxe⟩ := List.getElem?_eq_some_iff.1 hx
            have htk : highs_ l1 (xs.take (i + 1)) = highs_1 (highs_ l1 (xs.take i)) x := by unfold highs_; rw [List.take_succ_eq_append_getElem hlt, hxe, List.foldl_append]; rfl
            have hln : (highs_ l1 (xs.take i)).length = bN.length := (Kd.R_reads' h1).1.symm
            obtain ⟨z, hz⟩ : ∃ z, highs_ l1 (xs.take i) = z := ⟨_, rfl⟩
            rw [hz] at h1 htk hln
            have HTK := aM htk
            obtain ⟨p7, q7⟩ := HXSb.out x (List.mem_of_getElem? hx)
            rw [← HYL.out] at q7
            obtain ⟨gB, sO, mW, mX, gl7, cl7, HG7⟩ := Kd.R_form h1 (by omega)
            rw [hln] at mW
            injection mW with ea_ en_ ec_
            subst ea_
            subst ec_
            clear en_
            obtain ⟨ce7, hcl7, hM7, hcc7, hfr7⟩ := Kd.R_elem h1 z42 x.1 p7 q7
            obtain rfl := k42_openM hM7
            have hx70 : W'.cell? ⟨gB, x.1.toNat * 2, none⟩ = some (.int .i64 ((aA8 z x.1).f0)) := hcc7 0 _ rfl
            have hx71 : W'.cell? ⟨gB, x.1.toNat * 2 + 1, none⟩ = some (.int .i64 ((aA8 z x.1).f1)) := hcc7 1 _ rfl
            have hf70 : W'.frozen? ⟨gB, x.1.toNat * 2, none⟩ = false := hfr7 0
            have hf71 : W'.frozen? ⟨gB, x.1.toNat * 2 + 1, none⟩ = false := hfr7 1
            have hgo : gB < w30b.heap.size := h1.1 gB rfl
            have H0 := aM (high42 h1 x.1 p7 q7 x.2.1)
            have hbx : W'.heap[cA]? = some (.cells #[.slice (some ⟨gB, 0, none⟩) bN.length cF] 36 (0, 0)) := (h3 cA (Array.getElem?_eq_some_iff.1 bY.out).1 NE113.out).trans bY.out
            have hc8 : W'.cell? ⟨cA, 0, none⟩ = some (.slice (some ⟨gB, 0, none⟩) bN.length cF) := (blk_cell hbx 0).trans rfl
            have hz0 : W'.cell? ⟨g, 0, none⟩ = some (.int .i64 x.1) := (blk_cell h4 0).trans rfl
            have hz1 : W'.cell? ⟨g, 1, none⟩ = some (.int .i64 x.2.1) := (blk_cell h4 1).trans rfl
            have hz2 : W'.cell? ⟨g, 2, none⟩ = some (.int .i64 x.2.2) := (blk_cell h4 2).trans rfl
            have H2 := aM h2
            have H3 := aM h3
            have HG := aM HG7
            have HGB := aM mX
            have P7 := eq_true p7
            have Q7 := eq_true q7
            clear hseq h1 h2 h3 h4 hx2 hb5 hx hxe hlt htk hz hloop hl' hsz hbx hcc7 hfr7 hM7 hcl7 HG7 mX p7 q7 hln
            go_wp2_with (first | ((with_reducible refine regIn_lit_ ?hnd ?hlo ?_); (case hnd => kernel_rfl); (case hlo => rintro ⟨_, _, h⟩; exact h)) | gi_step)
            refine ⟨BKeep.of_block gB (by simp [World.setCell]) (fun k _ hne => Below.heap_setCell _ _ _ k hne) ⟨_, HG.out, rfl⟩ (fun _ => rfl) (fun hh => by have := hh.1; omega), ?_, ?_, ?_⟩
            · rw [HTK.out]; exact H0.out
            · exact H2.out.setCell (show w.heap.size ≤ gB from HGB.out) _
            · intro k hk hne
              refine (Below.heap_setCell _ _ _ k ?_).trans (H3.out k hk hne)
              exact fun e => hne (congrArg some e)
          case stop =>
            rintro D cd i W' hD hi h hmk
            exact h.elim
          case done =>
            rintro D2 W' hD2 ⟨h1, h2, h3⟩ hmk2
            rw [List.take_length] at h1
            have hL : highs_ l1 xs = gQ := by
              have hz := HZ.out
              rw [Int.toNat_natCast, XS1.out, XS2.out] at hz
              rw [← hz, ← HL1.out, fT.out, Int.toNat_natCast]
            rw [hL] at h1
            have LD1 : D1 < w30b.heap.size := (Array.getElem?_eq_some_iff.1 fA.out).1
            have hk1 : W'.heap[D1]? = some (.deferred (some [])) := (h3 D1 LD1 (fun e => by have h_ := LT.out D1 e.symm; have := HD1.out; have := QS.out; omega)).trans fA.out
            have hbx : W'.heap[cA]? = some (.cells #[.slice cV bN.length cF] 36 (0, 0)) := (h3 cA (Array.getElem?_eq_some_iff.1 bY.out).1 NE113.out).trans bY.out
            have hc8 : W'.cell? ⟨cA, 0, none⟩ = some (.slice cV bN.length cF) := (blk_cell hbx 0).trans rfl
            have H1 := aM h1
            have H2 := aM h2
            have M1 := aM hk1
            have M2 := aM hmk2
            have HD2 := aM hD2
            clear hseq h1 h2 h3 hx2 hb5 hk1 hmk2 hD2 hbx hL
            simp only [Exit.inBlock, Exit.then]
            go_wp2_with (first | (with_reducible refine regW_lit_ ?_) | gi_step)
            refine HQF.out _ _ _ (fun c h => by cases h) ?_
            have hd1 := HD1.out
            have hd2 := HD2.out
            have hqs := QS.out
            refine Marks.leaves (lo := w30.heap.size) (Ds := [D2, D1]) (.cons M2.out (by omega) (fun E hE => by simp only [List.mem_singleton] at hE; omega) (.cons M1.out (by omega) (fun E hE => by cases hE) (.nil _))) fun W2 hs => ⟨.tuple #[.slice cV bN.length cF, .int .i64 0], ?res, ⟨_, rfl, Kd.R_mono (Kd.R_step (Kd.R_tight rfl H1.out) (fun k_ hk_ hlt_ => istep_lt hs (LT.out k_ hk_.symm) (by omega) hlt_)) (fun _ _ => trivial), Below_istep_ H2.out (Nat.le_refl _) hs (by omega) (by omega)⟩⟩
            exact results_list (rs := [.tmp 4, .tmp 5]) rfl (by simp) (.tmp (.tmp .nil))
      · rw [if_neg c6] at H
        exact absurd H (by simp)
    · rw [if_neg c5] at H
      exact absurd H (by simp)
  · rw [if_neg c4] at H
    have gG : (dO == 0) = false := beq_eq_false_iff_ne.mpr c4
    have iQ : (dO != 0) = true := bne_iff_ne.mpr c4
    simp only [Option.some.injEq, Prod.mk.injEq] at H
    obtain ⟨rfl, rfl⟩ := H
    go_enter Tryz.func25, Tryz.ntmps25
    go_wp2_with (first | ((with_reducible refine gate_dst (N := 2) rfl ?_); refine bx 2 #[.slice aX aC.length aN, .slice aT aD.length aQ] 25 ?_; intro aI hg w36 hbox hb; have aA := hbox; have aY := gs HB hg; have eO := gs HB hg; replace HB := bs HB hb; clear hb hbox hg; obtain ⟨_, _, _, _⟩ := cf2 aA) | ((with_reducible refine gc 62 rfl ?_); refine gL 14 Tryz.func62 #[.agg #[.slice aX aC.length aN, .slice aT aD.length aQ], .int .i64 a1, .int .i64 0] ?_; (with_reducible refine (aB5.calls k (fun k_ => k_ < w.heap.size) _ _ aC (fun k_ => k_ < w.heap.size) _ _ aD a1 0 bB bX dO _ ?bF ?bG A3.out).mono ?_); (case bF => exact Kd.V_mk dK.out (Kd.F_below (Kd.C_F k67_heap dA.out) (pE HB))); (case bG => exact Kd.V_mk dL.out (Kd.F_below (Kd.C_F (Kd.heap_int .i64) dB.out) (pE HB))); rintro e w38 ⟨jA, lB, rfl, cP, fF, hb⟩; refine ⟨_, rfl, ?_⟩; have aU := aM (Kd.V_lower (Kd.V_mono (ok' := fun k_ => k_ ≠ aI) cP (fun k_ hk_ => Or.elim hk_ (fun hs_ => Or.elim hs_ (fun hs_ => fun e_ => Nat.not_le.2 hs_ (by rw [e_]; exact aY.out)) (fun hs_ => fun e_ => Nat.not_le.2 hs_ (by rw [e_]; exact aY.out))) (fun hn_ => (Kd.freshB (g := aI) (o := .cells #[.slice aX aC.length aN, .slice aT aD.length aQ] 25 (0, 0)) (pB aA.out) k_ hn_)))) (below_size (pE HB))); have aZ := aM (Kd.V_lower (Kd.V_mono (ok' := fun k_ => k_ ≠ aI) fF (fun k_ hk_ => Or.elim hk_ (fun hs_ => Or.elim hs_ (fun hs_ => fun e_ => Nat.not_le.2 hs_ (by rw [e_]; exact aY.out)) (fun hs_ => fun e_ => Nat.not_le.2 hs_ (by rw [e_]; exact aY.out))) (fun hn_ => (Kd.freshB (g := aI) (o := .cells #[.slice aX aC.length aN, .slice aT aD.length aQ] 25 (0, 0)) (pB aA.out) k_ hn_)))) (below_size (pE HB))); replace aA := bb aA hb; replace HB := bs HB hb; clear hb cP fF) | ((with_reducible refine gate_dst (N := 6) rfl ?_); refine bx 6 #[.slice none 0 0, .slice none 0 0] 99 ?_; intro bJ hg w39 hbox hb; replace aU := ve aU hg hb; replace aZ := ve aZ hg hb; have bA := hbox; have iT := gs HB hg; have iU := gs HB hg; replace HB := bs HB hb; have dG := nl aA hg; have dH := nr aA hg; replace aA := bb aA hb; clear hb hbox hg; obtain ⟨sP, sQ, pM⟩ := Kd.V_slice aU.out; subst pM; have rJ := dH.out; have rK := dG.out; obtain ⟨_, _, _, _⟩ := cf2 bA; obtain ⟨sR, sS, pO⟩ := Kd.V_slice aZ.out; subst pO))
    go_ret2
    exact ⟨_, eT, by first | exact Kd.R_nil _ _ _ _ _ | exact Kd.N_nil _ _ _ _ _ | exact Kd.V_nil _ _ _ _ _ | exact Kd.Q_nil _ _ _ _ _ | exact Kd.S_nil _ _ _ _ _, pE HB⟩
end Go.Proofs.YtlmglnobdcgbeaaGreat.P
namespace Go.Proofs.YtlmglnobdcgbeaaGreat.P
open Go.RowKit Go.Proofs.YtlmglnobdcgbeaaGreatW.PrintWords Go.Proofs.YtlmglnobdcgbeaaGreatW.PrintLast Go.Proofs.YtlmglnobdcgbeaaGreatW.PrintMore
attribute [local go_sem] max2_int min2_int max_two min_two max_three min_three max_four min_four
def aC2.f (k : Nat) (aC : List (S67)) (aD : List Int) : Option (List Int × Int) := (aB5.f k aC aD 1 0).bind fun bt102 => (if bt102.2.2 = 0 then ((aB1.f k bt102.1 bt102.2.1).bind fun eN => (some (eN, 0))) else (some (([] : List Int), bt102.2.2)))
theorem aC2.mono : ∀ a0 a1 k, LeO (aC2.f k a0 a1) (aC2.f (k + 1) a0 a1) := by
 intro a0 a1 k
 unfold aC2.f
 repeat' first
   | (with_reducible exact aB1.mono _ _ _)
   | (with_reducible exact aB5.mono _ _ _ _ _)
   | (with_reducible exact LeO.refl _)
   | (with_reducible exact LeO.none _)
   | (with_reducible refine LeO.ite ?_ ?_)
   | (with_reducible refine LeO.bind ?_ (fun _ => ?_))
   | exact aB1.mono _ _ _
   | exact aB5.mono _ _ _ _ _
   | exact LeO.none _
   | refine LeO.ite ?_ ?_
   | refine LeO.bind ?_ (fun _ => ?_)
set_option maxHeartbeats 8000000 in
set_option maxRecDepth 100000 in
theorem aC2.calls (k : Nat) (aX : Option Addr) (aN : Nat) (aC : List (S67)) (aT : Option Addr) (aQ : Nat) (aD : List Int) (r1 : List Int) (r2 : Int) (w : World) (hr0_0 : Kd.C k67 w aX aC.length aC) (dI : aC.length ≤ aN) (hr0_1 : Kd.C (Kd.int .i64) w aT aD.length aD) (dJ : aD.length ≤ aQ) (h : aC2.f k aC aD = some (r1, r2)) :
  Calls Tryz.prog 20 #[.agg #[.slice aX aC.length aN, .slice aT aD.length aQ]] w fun e w' => ∃ v0_ : Value, e = .returned (.tuple #[v0_, .int .i64 r2]) ∧ Kd.R (Kd.int .i64) 3 w' w.heap.size (fun _ => True) v0_ r1 ∧ Below w.heap.size w w' := by
 have hu25 := Tryz.underlying25
 have hu99 := Tryz.underlying99
 have dA := aM hr0_0
 have dK := aM dI
 clear hr0_0 dI
 have dB := aM hr0_1
 have dL := aM dJ
 clear hr0_1 dJ
 have HB := aM (Below.refl w.heap.size w)
 have H : ((aB5.f k aC aD 1 0).bind fun bt102 => (if bt102.2.2 = 0 then ((aB1.f k bt102.1 bt102.2.1).bind fun eN => (some (eN, 0))) else (some (([] : List Int), bt102.2.2)))) = some (r1, r2) := h
 clear h
 obtain ⟨⟨bB, bX, dO⟩, A2, H⟩ := bi H
 by_cases c3 : dO = 0
 rotate_left
 ·rw [if_neg c3] at H
  have pP : (dO == 0) = false := beq_eq_false_iff_ne.mpr c3
  have pQ : (dO != 0) = true := bne_iff_ne.mpr c3
  simp only [Option.some.injEq, Prod.mk.injEq] at H
  obtain ⟨rfl, rfl⟩ := H
  go_enter Tryz.func20, Tryz.ntmps20
  go_wp2_with (first | ((with_reducible refine gate_dst (N := 1) rfl ?_); refine bx 1 #[.slice aX aC.length aN, .slice aT aD.length aQ] 25 ?_; intro aI hg w14 hbox hb; have aA := hbox; have aY := gs HB hg; have eO := gs HB hg; replace HB := bs HB hb; clear hb hbox hg; obtain ⟨_, _, _, _⟩ := cf2 aA) | ((with_reducible refine gc 62 rfl ?_); refine gL 8 Tryz.func62 #[.agg #[.slice aX aC.length aN, .slice aT aD.length aQ], .int .i64 1, .int .i64 0] ?_; (with_reducible refine (aB5.calls k (fun k_ => k_ < w.heap.size) _ _ aC (fun k_ => k_ < w.heap.size) _ _ aD 1 0 bB bX dO _ ?bF ?bG A2.out).mono ?_); (case bF => exact Kd.V_mk dK.out (Kd.F_below (Kd.C_F k67_heap dA.out) (pE HB))); (case bG => exact Kd.V_mk dL.out (Kd.F_below (Kd.C_F (Kd.heap_int .i64) dB.out) (pE HB))); rintro e w16 ⟨jA, lB, rfl, cP, fF, hb⟩; refine ⟨_, rfl, ?_⟩; have aU := aM (Kd.V_lower (Kd.V_mono (ok' := fun k_ => k_ ≠ aI) cP (fun k_ hk_ => Or.elim hk_ (fun hs_ => Or.elim hs_ (fun hs_ => fun e_ => Nat.not_le.2 hs_ (by rw [e_]; exact aY.out)) (fun hs_ => fun e_ => Nat.not_le.2 hs_ (by rw [e_]; exact aY.out))) (fun hn_ => (Kd.freshB (g := aI) (o := .cells #[.slice aX aC.length aN, .slice aT aD.length aQ] 25 (0, 0)) (pB aA.out) k_ hn_)))) (below_size (pE HB))); have aZ := aM (Kd.V_lower (Kd.V_mono (ok' := fun k_ => k_ ≠ aI) fF (fun k_ hk_ => Or.elim hk_ (fun hs_ => Or.elim hs_ (fun hs_ => fun e_ => Nat.not_le.2 hs_ (by rw [e_]; exact aY.out)) (fun hs_ => fun e_ => Nat.not_le.2 hs_ (by rw [e_]; exact aY.out))) (fun hn_ => (Kd.freshB (g := aI) (o := .cells #[.slice aX aC.length aN, .slice aT aD.length aQ] 25 (0, 0)) (pB aA.out) k_ hn_)))) (below_size (pE HB))); replace aA := bb aA hb; replace HB := bs HB hb; clear hb cP fF) | ((with_reducible refine gate_dst (N := 4) rfl ?_); refine bx 4 #[.slice none 0 0, .slice none 0 0] 99 ?_; intro bJ hg w17 hbox hb; replace aU := ve aU hg hb; replace aZ := ve aZ hg hb; have bA := hbox; have iT := gs HB hg; have iU := gs HB hg; replace HB := bs HB hb; have dG := nl aA hg; have dH := nr aA hg; replace aA := bb aA hb; clear hb hbox hg; obtain ⟨dE, dF, lC⟩ := Kd.V_slice aU.out; subst lC; have rL := dH.out; have rM := dG.out; obtain ⟨_, _, _, _⟩ := cf2 bA; obtain ⟨sT, sU, pS⟩ := Kd.V_slice aZ.out; subst pS))
  go_ret2
  exact ⟨_, eT, by first | exact Kd.R_nil _ _ _ _ _ | exact Kd.N_nil _ _ _ _ _ | exact Kd.V_nil _ _ _ _ _ | exact Kd.Q_nil _ _ _ _ _ | exact Kd.S_nil _ _ _ _ _, pE HB⟩
 rw [if_pos c3] at H
 have pP : (dO == 0) = true := beq_iff_eq.mpr c3
 have pQ : (dO != 0) = false := bne_eq_false_iff_eq.mpr c3
 clear c3
 obtain ⟨eN, A4, H⟩ := bi H
 simp only [Option.some.injEq, Prod.mk.injEq] at H
 obtain ⟨rfl, rfl⟩ := H
 go_enter Tryz.func20, Tryz.ntmps20
 go_wp2_with (first | ((with_reducible refine gate_dst (N := 1) rfl ?_); refine bx 1 #[.slice aX aC.length aN, .slice aT aD.length aQ] 25 ?_; intro aI hg w5 hbox hb; have aA := hbox; have aY := gs HB hg; have eO := gs HB hg; replace HB := bs HB hb; clear hb hbox hg; obtain ⟨_, _, _, _⟩ := cf2 aA) | ((with_reducible refine gc 62 rfl ?_); refine gL 8 Tryz.func62 #[.agg #[.slice aX aC.length aN, .slice aT aD.length aQ], .int .i64 1, .int .i64 0] ?_; (with_reducible refine (aB5.calls k (fun k_ => k_ < w.heap.size) _ _ aC (fun k_ => k_ < w.heap.size) _ _ aD 1 0 bB bX dO _ ?bF ?bG A2.out).mono ?_); (case bF => exact Kd.V_mk dK.out (Kd.F_below (Kd.C_F k67_heap dA.out) (pE HB))); (case bG => exact Kd.V_mk dL.out (Kd.F_below (Kd.C_F (Kd.heap_int .i64) dB.out) (pE HB))); rintro e w7 ⟨jA, lB, rfl, cP, fF, hb⟩; refine ⟨_, rfl, ?_⟩; have aU := aM (Kd.V_lower (Kd.V_mono (ok' := fun k_ => k_ ≠ aI) cP (fun k_ hk_ => Or.elim hk_ (fun hs_ => Or.elim hs_ (fun hs_ => fun e_ => Nat.not_le.2 hs_ (by rw [e_]; exact aY.out)) (fun hs_ => fun e_ => Nat.not_le.2 hs_ (by rw [e_]; exact aY.out))) (fun hn_ => (Kd.freshB (g := aI) (o := .cells #[.slice aX aC.length aN, .slice aT aD.length aQ] 25 (0, 0)) (pB aA.out) k_ hn_)))) (below_size (pE HB))); have aZ := aM (Kd.V_lower (Kd.V_mono (ok' := fun k_ => k_ ≠ aI) fF (fun k_ hk_ => Or.elim hk_ (fun hs_ => Or.elim hs_ (fun hs_ => fun e_ => Nat.not_le.2 hs_ (by rw [e_]; exact aY.out)) (fun hs_ => fun e_ => Nat.not_le.2 hs_ (by rw [e_]; exact aY.out))) (fun hn_ => (Kd.freshB (g := aI) (o := .cells #[.slice aX aC.length aN, .slice aT aD.length aQ] 25 (0, 0)) (pB aA.out) k_ hn_)))) (below_size (pE HB))); replace aA := bb aA hb; replace HB := bs HB hb; clear hb cP fF) | ((with_reducible refine gate_dst (N := 4) rfl ?_); refine bx 4 #[.slice none 0 0, .slice none 0 0] 99 ?_; intro bJ hg w8 hbox hb; replace aU := ve aU hg hb; replace aZ := ve aZ hg hb; have bA := hbox; have iT := gs HB hg; have iU := gs HB hg; replace HB := bs HB hb; have dG := nl aA hg; have dH := nr aA hg; replace aA := bb aA hb; clear hb hbox hg; obtain ⟨iO, iI, oY⟩ := Kd.V_slice aU.out; subst oY; have mH := dH.out; have mI := dG.out; obtain ⟨_, _, _, _⟩ := cf2 bA; obtain ⟨iG, gS, pT⟩ := Kd.V_slice aZ.out; subst pT) | ((with_reducible refine gc 63 rfl ?_); refine gL 15 Tryz.func63 #[.agg #[.slice iO bB.length iI, .slice iG bX.length gS]] ?_; (with_reducible refine (aB1.calls k _ _ bB _ _ bX eN _ ?bF ?bG ?cN ?cO A4.out).mono ?_); (case bF => refine (Kd.V_reads' (e := 67) (base := w.heap.size) (ok := fun k_ => (k_ ≠ aI ∧ k_ ≠ bJ)) (n := bB.length) (c := iI) ?_).2.2; exact (by refine pV ?_; exact (Kd.V_mono (Kd.V_far (p := ⟨bJ, 1, none⟩) (Kd.V_far (p := ⟨bJ, 0, none⟩) (Kd.V_mono aU.out (fun k_ hk => (⟨hk, hk.2⟩ : _ ∧ k_ ≠ bJ))) (fun _ hk => hk.2) (.slice iO bB.length iI)) (fun _ hk => hk.2) (.slice iG bX.length gS)) (fun _ h_ => h_.1)))); (case bG => exact (Kd.V_reads' aU.out).2.1); (case cN => refine (Kd.V_reads' (e := 3) (base := w.heap.size) (ok := fun k_ => (k_ ≠ aI ∧ k_ ≠ bJ)) (n := bX.length) (c := gS) ?_).2.2; exact (by refine pV ?_; exact (Kd.V_mono (Kd.V_far (p := ⟨bJ, 1, none⟩) (Kd.V_far (p := ⟨bJ, 0, none⟩) (Kd.V_mono aZ.out (fun k_ hk => (⟨hk, hk.2⟩ : _ ∧ k_ ≠ bJ))) (fun _ hk => hk.2) (.slice iO bB.length iI)) (fun _ hk => hk.2) (.slice iG bX.length gS)) (fun _ h_ => h_.1)))); (case cO => exact (Kd.V_reads' aZ.out).2.1); rintro e w13 ⟨lH, rfl, cP, hb⟩; refine ⟨_, rfl, ?_⟩; replace aU := aM (Kd.V_elder' (by refine pV ?_; exact (Kd.V_mono (Kd.V_far (p := ⟨bJ, 1, none⟩) (Kd.V_far (p := ⟨bJ, 0, none⟩) (Kd.V_mono aU.out (fun k_ hk => (⟨hk, hk.2⟩ : _ ∧ k_ ≠ bJ))) (fun _ hk => hk.2) (.slice iO bB.length iI)) (fun _ hk => hk.2) (.slice iG bX.length gS)) (fun _ h_ => h_.1))) (Kd.R_base cP) hb); replace aZ := aM (Kd.V_elder' (by refine pV ?_; exact (Kd.V_mono (Kd.V_far (p := ⟨bJ, 1, none⟩) (Kd.V_far (p := ⟨bJ, 0, none⟩) (Kd.V_mono aZ.out (fun k_ hk => (⟨hk, hk.2⟩ : _ ∧ k_ ≠ bJ))) (fun _ hk => hk.2) (.slice iO bB.length iI)) (fun _ hk => hk.2) (.slice iG bX.length gS)) (fun _ h_ => h_.1))) (Kd.R_base cP) hb); have bM := rl cP HB; replace aA := bf aA hb; replace bA := aM (blk_below (g := bJ) (o := .cells #[.slice iO bB.length iI, .slice iG bX.length gS] 99 (0, 0)) (by refine pB ?_; refine blk_put (cs := #[.slice iO bB.length iI, .slice none 0 0]) ?_ 1 _ rfl; refine pB ?_; refine blk_put (cs := #[.slice none 0 0, .slice none 0 0]) ?_ 0 _ rfl; exact pB bA.out) hb); replace HB := bs HB hb; clear hb cP))
 go_ret2
 exact ⟨_, eT, pR bM.out, pE HB⟩
def aC5.f (a0 : Int) (a1 : Int) : Option (Int × Int) := some (a0, a1)
set_option maxHeartbeats 8000000 in
set_option maxRecDepth 100000 in
theorem aC5.calls (a0 : Int) (a1 : Int) (r1 : Int) (r2 : Int) (w : World) (h : aC5.f a0 a1 = some (r1, r2)) :
  Calls Tryz.prog 55 #[.int .i64 a0, .int .i64 a1] w fun e w' => e = .returned (.agg #[.int .i64 r1, .int .i64 r2]) ∧ Below w.heap.size w w' := by
 have hu42 := Tryz.underlying42
 have HB := aM (Below.refl w.heap.size w)
 have H : (some (a0, a1)) = some (r1, r2) := h
 clear h
 simp only [Option.some.injEq, Prod.mk.injEq] at H
 obtain ⟨rfl, rfl⟩ := H
 go_enter Tryz.func55, Tryz.ntmps55
 go_wp2_with (first | ((with_reducible refine gate_dst (N := 4) rfl ?_); refine bx 4 #[.int .i64 0, .int .i64 0] 42 ?_; intro aI hg w3 hbox hb; have aA := hbox; have aY := gs HB hg; have eO := gs HB hg; replace HB := bs HB hb; clear hb hbox hg; obtain ⟨_, _, _, _⟩ := cf2 aA))
 refine bodyPost_ret (results_cell_row rfl _ _ aI 42 #[.int .i64 a0, .int .i64 a1] (0, 0) _ rfl (by refine pB ?_; refine blk_put (cs := #[.int .i64 a0, .int .i64 0]) ?_ 1 _ rfl; refine pB ?_; refine blk_put (cs := #[.int .i64 0, .int .i64 0]) ?_ 0 _ rfl; exact pB aA.out) Tryz.underlying42 rfl (by kernel_rfl)) rfl ?_
 exact ⟨eT, pE HB⟩
end Go.Proofs.YtlmglnobdcgbeaaGreat.P
