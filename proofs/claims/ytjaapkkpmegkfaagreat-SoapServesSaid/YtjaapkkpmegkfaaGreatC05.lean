/- Part 5 of what the law's proof needs beyond its base: words, walks of functions and plain facts. -/
import Derived.Below
import Derived.Deep.Draws
import Derived.Deep.AppendLies
import Derived.Maps.AppendAt
import Derived.OwnWalk
import Derived.Laws.BytesArg
import Derived.Laws.MakeOwn
import Derived.Laws.OwnMore
import Derived.Deep.OwnRows
import Derived.Tactics
import Derived.Lib.ConvBytes
import Derived.Laws.Slices
import Derived.WalkKit
import Derived.KernelRfl
import Derived.RowKit3
import Derived.Deep.LoopGhost
import Derived.Deep.QuietTactic
import Derived.BigQuiet
import Derived.WideLaws
import Derived.Deep.DeepCutAuto
import Derived.Deep.CutBlock
import Derived.Deep.RegionHeld3
import Derived.Laws.Rows
import Derived.Lib.AppendStr
import Derived.ArgAppend
import Derived.Laws.IdiomCopy
import Derived.RowKit
import Derived.OrdersHeld
import Derived.Laws.BitsLemmas
import Derived.Deep.Slices
import Derived.OpenShut
import Derived.ChangeArms
import Derived.Test.YtjaapkkpmegkfaaGreatR01
import Derived.Test.YtjaapkkpmegkfaaGreatR02
import Derived.Test.YtjaapkkpmegkfaaGreatR03
import Derived.Test.YtjaapkkpmegkfaaGreatR04
import Derived.Test.YtjaapkkpmegkfaaGreatR05
import Derived.Test.YtjaapkkpmegkfaaGreatR06
import Derived.Test.YtjaapkkpmegkfaaGreatR07
import Derived.Test.YtjaapkkpmegkfaaGreatR08
import Derived.Test.YtjaapkkpmegkfaaGreatR09
import Derived.Test.YtjaapkkpmegkfaaGreatR10
import Derived.Test.YtjaapkkpmegkfaaGreatR11
import Derived.Test.YtjaapkkpmegkfaaGreatR12
import Derived.Test.YtjaapkkpmegkfaaGreatR13
import Derived.Test.YtjaapkkpmegkfaaGreatC01
import Derived.Test.YtjaapkkpmegkfaaGreatC02
import Derived.Test.YtjaapkkpmegkfaaGreatC03
import Derived.Test.YtjaapkkpmegkfaaGreatC04
set_option linter.unusedVariables false
set_option linter.unusedSimpArgs false
namespace Go.Proofs.YtjaapkkpmegkfaaGreat.P
open Go.RowKit Go.Proofs.YtjaapkkpmegkfaaGreatW.PrintWords Go.Proofs.YtjaapkkpmegkfaaGreatW.PrintLast Go.Proofs.YtjaapkkpmegkfaaGreatW.PrintMore
attribute [local go_sem] JG JH JY JX Jv Ju JJ JK
mutual
def Qar.l0 : Nat → List S26 → List S100 → List (List Int) → Int → Option ((List (List Int)))
 | 0, _, _, _, _ => none
 | k + 1, x1, x5, x6, x7 => if x7 < (x1.length : Int) then (if 0 ≤ x7 then ((Qaq.f k x5 ((Qy x1 x7).f0.f0) ((Qy x1 x7).f0.f1) ((Qy x1 x7).f1.f0) ((Qy x1 x7).f1.f1) ((Qy x1 x7).f2)).bind fun bt111 => (if bt111.2 = true then (Qar.l1 k x1 x5 x6 x7 bt111.1 0) else (some x6))) else (none)) else (some x6)
def Qar.l1 : Nat → List S26 → List S100 → List (List Int) → Int → List Int → Int → Option ((List (List Int)))
 | 0, _, _, _, _, _, _ => none
 | k + 1, x1, x5, x6, x7, x8, x10 => if x10 < (x5.length : Int) then (if 0 ≤ x10 then (if x10 < (x8.length : Int) then (Qar.l1 k x1 (x5.set (x10 : Int).toNat (⟨(⟨(Qf x5 x10).f0.f0, (Qf x5 x10).f0.f1⟩ : S24), (Qf x5 x10).f1, (Qf x5 x10).f2, wrap64 (((Qf x5 x10).f3) - (rd x8 x10))⟩ : S100)) x6 x7 x8 (wrap64 (x10 + 1))) else (none)) else (none)) else (if x6.length < 5864062014805 then (Qar.l0 k x1 x5 (x6 ++ [x8]) (wrap64 (x7 + 1))) else (none))
end
def Qar.f (k : Nat) (l0 : List S100) (l1 : List S26) : Option ((List (List Int))) := (some (([] : List S100) : List S100)).bind fun y101 => (if y101.length + l0.length < 3518437208883 then (Qar.l0 k l1 (y101 ++ l0) (([] : List (List Int))) 0) else (none))
def Qar.T11 : Bool × List (List Nat × List Nat) := (true, [([], []), ([], []), ([0, 1], [0, 1]), ([2], [2]), ([3], [3]), ([], []), ([], []), ([5, 6], [5, 6]), ([7], [7]), ([4, 8], [4, 8]), ([0, 1, 0, 1, 2, 3, 4, 5, 6, 7, 8, 9], [0, 1]), ([10, 0, 1, 2, 3, 4, 5, 6, 7, 8, 9], [10]), ([11, 9, 0, 1, 2, 3, 4, 5, 6, 7, 8, 9], [9, 11])])
def Qar.B11 : List Nat := [0, 0, 3, 7, 15, 0, 0, 96, 224, 511, 1023, 2047, 4095]
theorem Qar.tab11 : rtab .any (ZG Tryz.f39 11) = Qar.T11 := by kernel_rfl
theorem Qar.bits11 : J0 Qar.T11.2 Qar.B11 = true := by kernel_rfl
set_option maxHeartbeats 8000000 in
set_option maxRecDepth 100000 in
theorem Qar.calls (k : Nat) (A0 : Option Addr) (c0 : Nat) (l0 : List S100) (A1 : Option Addr) (c1 : Nat) (l1 : List S26) (r : List (List Int)) (w : World) (hr0 : Kd.C k100 w A0 l0.length l0) (hc0 : l0.length ≤ c0) (hr1 : Kd.C k26 w A1 l1.length l1) (hc1 : l1.length ≤ c1) (h : Qar.f k l0 l1 = some r) :
  Calls Tryz.prog 39 #[.slice A0 l0.length c0, .slice A1 l1.length c1] w fun e w' => ∃ v0_ : Value, e = .returned (v0_) ∧ Kd.S (Kd.slice 3 (Kd.int .i64)) 27 w' w.heap.size (fun _ => True) v0_ r ∧ Below w.heap.size w w' := by
 have hu26 := Tryz.underlying26
 have HR0 := Qa.mk hr0
 have HC0 := Qa.mk hc0
 clear hr0 hc0
 have HR1 := Qa.mk hr1
 have HC1 := Qa.mk hc1
 clear hr1 hc1
 have HB := Qa.mk (Below.refl w.heap.size w)
 have H : ((some (([] : List S100) : List S100)).bind fun y101 => (if y101.length + l0.length < 3518437208883 then (Qar.l0 k l1 (y101 ++ l0) (([] : List (List Int))) 0) else (none))) = some r := h
 clear h
 obtain ⟨y101, hy101⟩ : ∃ y_ : List S100, y_ = (([] : List S100)) := ⟨_, rfl⟩
 replace H : (if y101.length + l0.length < 3518437208883 then (Qar.l0 k l1 (y101 ++ l0) (([] : List (List Int))) 0) else (none)) = some r := yy hy101 H
 have Ny101 := Qa.mk hy101
 clear hy101
 by_cases c3 : y101.length + l0.length < 3518437208883
 ·rw [if_pos c3] at H
  have LMc3 := Qa.mk c3
  clear c3
  obtain ⟨y104, hy104⟩ : ∃ y_ : List S100, y_ = (y101 ++ l0) := ⟨_, rfl⟩
  replace H : (Qar.l0 k l1 y104 (([] : List (List Int))) 0) = some r := yy hy104 H
  have Ny104 := Qa.mk hy104
  clear hy104
  obtain ⟨y107, hy107⟩ : ∃ y_ : List (List Int), y_ = (([] : List (List Int))) := ⟨_, rfl⟩
  replace H : (Qar.l0 k l1 y104 y107 0) = some r := yy hy107 H
  have Ny107 := Qa.mk hy107
  clear hy107
  have H' := Qa.mk H
  clear H
  go_enter Tryz.func39, Tryz.ntmps39
  go_wp2_with (first | ((with_reducible refine gd 11 ?_); refine Kd.R_lit k100 _ 100 ?hg (N := 11) ?hd (xs := ([] : List S100)) (inner := []) (ok := fun _ => True) (okp := fun _ => True) ?hr ?hp (fun _ hk => hk) trivial (Below.refl _ _) (Nat.le_refl _) (by simp) ?_; (case hd => rfl); (case hg => rfl); (case hr => first | (go_simp; done) | (go_simp; rfl)); (case hp => exact (Reps.none _ _)); intro v102 w4 ho5 hb hg_ hnew_; clear hg_ hnew_; (first | rw [← Ny101.out] at ho5 | (simp only [Int.reduceToNat] at ho5; rw [← Ny101.out] at ho5)); have HO103 := rl ho5 HB; replace HB := bs HB hb; clear hb ho5) | ((with_reducible refine JA (b := .append) (xs := #[.tmp 11, .tmp 12]) rfl ?_); at_builtin; refine Kd.R_append_rows k100 (w0 := w) w.heap.size rfl (.tmp 11) (.tmp 12) 22 100 (.agg #[(.int .i64 0), (.int .i64 0), (.int .i64 0), (.int .i64 0), (.int .i64 0)]) 40 rfl Tryz.underlying22 info100 rfl (by decide) (by omega) v102 y101 l0 _ _ _ (fun _ => True) (fun _ => False) rfl rfl ?aO ?aR (fun _ _ h => h) (fun _ h => h.elim) ?aF ?aB ?aS ?aL ?_; (case aR => exact pC (Kd.C_below HR0.out HB.out)); (case aB => exact (pE HB)); (case aF => exact (fun _ _ => trivial)); (case aO => exact (pR HO103.out)); (case aS => exact (Qr (pE HB))); (case aL => have := LMc3.out; omega); intro v105 w6 ho hb hg hat; rw [← Ny104.out] at ho; replace HB := Qa.mk (hb); have HO106 := Qa.mk (ho); clear HO103; clear ho hb hg hat) | ((with_reducible refine gd 14 ?_); refine Kd.S_lit (Kd.slice 3 (Kd.int .i64)) _ 27 ?hg (N := 14) ?hd (xs := ([] : List (List Int))) (inner := []) (ok := fun _ => True) (okp := fun _ => True) ?hr ?hp (fun _ hk => hk) trivial (Below.refl _ _) (Nat.le_refl _) (by simp) ?_; (case hd => rfl); (case hg => rfl); (case hr => first | (go_simp; done) | (go_simp; rfl)); (case hp => exact (Reps.none _ _)); intro v108 w7 ho8 hb hg_ hnew_; clear hg_ hnew_; (first | rw [← Ny107.out] at ho8 | (simp only [Int.reduceToNat] at ho8; rw [← Ny107.out] at ho8)); replace HO106 := rb HO106 hb; have HO109 := Qa.mk (Kd.S_lower ho8 (Qr (pE HB))); replace HB := bs HB hb; clear hb ho8))
  go_loopg [6, 7] k (fun kq v6 v7 w' => ∃ (x5_1 : List S100) (x6_1 : List (List Int)) (x7_1 : Int), v7 = .int .i64 x7_1 ∧ Qa (Qar.l0 kq l1 x5_1 x6_1 x7_1 = some r) ∧ Qa (kq ≤ k) ∧ Qa (Kd.R k100 100 w' w.heap.size (fun _ => True) v105 x5_1) ∧ Qa (Kd.S (Kd.slice 3 (Kd.int .i64)) 27 w' w.heap.size (fun _ => True) v6 x6_1) ∧ Qa (Below w.heap.size w w'))
  case atStart => exact ⟨(y104), (y107), (0), eS, H', ⟨Nat.le_refl _⟩, ⟨by (with_reducible repeat (first | apply Kd.R_alloc | apply Kd.R_drewN | apply Kd.R_drew)); exact HO106.out⟩, ⟨by (with_reducible repeat (first | apply Kd.S_alloc | apply Kd.S_drewN | apply Kd.S_drew)); exact HO109.out⟩, ⟨pE HB⟩⟩
  case round =>
   clear H'
   try clear c1
   try clear p2
   try clear c3
   obtain ⟨x5_1, x6_1, x7_1, rfl, HA, HK1, HO_5, HO_6, HB⟩ := hrel
   cases gk with
   | zero => exact absurd HA.out (by simp [Qar.l0])
   | succ k1 =>
    have H := HA.out
    clear HA
    simp only [Qar.l0] at H
    by_cases c9 : x7_1 < (l1.length : Int)
    ·rw [if_pos c9] at H
     have c9b0 : decide (x7_1 < (l1.length : Int)) = true := decide_eq_true c9
     clear c9
     by_cases c10 : 0 ≤ x7_1
     ·rw [if_pos c10] at H
      have c10b0 : decide (0 ≤ x7_1) = true := decide_eq_true c10
      clear c10
      obtain ⟨⟨t111, t114⟩, A11, H⟩ := bi H
      by_cases c12 : t114 = true
      ·subst c12
       rw [if_pos rfl] at H
       have H' := Qa.mk H
       clear H
       have p110 : 0 ≤ (x7_1 : Int) := dT
       have q110 : x7_1 < (l1.length : Int) := dT
       obtain ⟨ad110, e110, hx110_0, hx110_1, hx110_2, hx110_3, hx110_4⟩ := Yb HR1.out x7_1 p110 q110
       cases e110
       replace hx110_0 := cut_ HB hx110_0
       replace hx110_1 := cut_ HB hx110_1
       replace hx110_2 := cut_ HB hx110_2
       replace hx110_3 := cut_ HB hx110_3
       replace hx110_4 := cut_ HB hx110_4
       replace p110 := eq_true p110
       replace q110 := eq_true q110
       obtain ⟨Ao13, co13, eo13⟩ := Kd.R_slice HO_5.out
       subst eo13
       go_wp2_with (first | ((with_reducible refine gc 33 rfl ?_); refine gL 27 Tryz.func33 #[.slice Ao13 x5_1.length co13, .agg #[.int .i64 ((Qy l1 x7_1).f0.f0), .int .i64 ((Qy l1 x7_1).f0.f1), .int .i64 ((Qy l1 x7_1).f1.f0), .int .i64 ((Qy l1 x7_1).f1.f1), .int .i64 ((Qy l1 x7_1).f2)]] ?_; (with_reducible refine (Qaq.calls k1 _ _ x5_1 ((Qy l1 x7_1).f0.f0) ((Qy l1 x7_1).f0.f1) ((Qy l1 x7_1).f1.f0) ((Qy l1 x7_1).f1.f1) ((Qy l1 x7_1).f2) t111 true _ ?side1 ?side2 A11.out).mono ?_); (case side1 => exact pC (Kd.R_reads' HO_5.out).2.2); (case side2 => exact (Kd.R_reads' HO_5.out).2.1); rintro e w14 ⟨v112, rfl, ho0, hb⟩; refine ⟨_, rfl, ?_⟩; replace HO_5 := rb HO_5 hb; replace HO_6 := Qa.mk (Kd.S_elder' (pS HO_6.out) (Kd.R_base ho0) hb); have HO113 := rl ho0 HB; replace HB := bs HB hb; clear hb ho0))
       go_loopg [10] k1 (fun kq v10 w' => ∃ (x5_2 : List S100) (x10_2 : Int), v10 = .int .i64 x10_2 ∧ Qa (Qar.l1 kq l1 x5_2 x6_1 x7_1 t111 x10_2 = some r) ∧ Qa (kq ≤ k1) ∧ Qa (Kd.R k100 100 w' w.heap.size (fun _ => True) (.slice Ao13 x5_1.length co13) x5_2) ∧ Qa (Kd.S (Kd.slice 3 (Kd.int .i64)) 27 w' w.heap.size (fun k_ => some k_ ≠ (v112 : Value).ownBlock) u6 x6_1) ∧ Qa (Kd.R (Kd.int .i64) 3 w' w.heap.size (fun _ => True) v112 t111) ∧ Qa (Below w.heap.size w w'))
       case atStart => exact ⟨(x5_1), (0), eS, H', ⟨Nat.le_refl _⟩, ⟨by (with_reducible repeat (first | apply Kd.R_alloc | apply Kd.R_drewN | apply Kd.R_drew)); exact HO_5.out⟩, ⟨by (with_reducible repeat (first | apply Kd.S_alloc | apply Kd.S_drewN | apply Kd.S_drew)); exact Kd.S_mono HO_6.out (fun _ hk => hk.2)⟩, ⟨by (with_reducible repeat (first | apply Kd.R_alloc | apply Kd.R_drewN | apply Kd.R_drew)); exact HO113.out⟩, ⟨pE HB⟩⟩
       case round =>
        clear H'
        try clear c1
        try clear p1
        try clear q1
        try clear hx1
        try clear p2
        try clear c3
        try clear c9
        try clear c9b0
        try clear c10
        try clear c10b0
        try clear p11
        try clear q11
        try clear hx11
        try clear c12
        try clear hx110_0
        try clear hx110_1
        try clear hx110_2
        try clear hx110_3
        try clear hx110_4
        try clear p110
        try clear p2
        try clear q110
        obtain ⟨x5_2, x10_2, rfl, HA, HK2, HO_5, HO_6, HO_8, HB⟩ := hrel
        have hl5_2 := (Kd.R_reads' HO_5.out).1
        rw [hl5_2] at HO_5
        (try simp only [hl5_2])
        (try simp only [hl5_2] at HO_6)
        (try simp only [hl5_2] at HO_8)
        cases gk with
        | zero => exact absurd HA.out (by simp [Qar.l1])
        | succ k2 =>
         have H := HA.out
         clear HA
         simp only [Qar.l1] at H
         by_cases c15 : x10_2 < (x5_2.length : Int)
         ·rw [if_pos c15] at H
          have c15b0 : decide (x10_2 < (x5_2.length : Int)) = true := decide_eq_true c15
          clear c15
          by_cases c16 : 0 ≤ x10_2
          ·rw [if_pos c16] at H
           have c16b0 : decide (0 ≤ x10_2) = true := decide_eq_true c16
           clear c16
           by_cases c17 : x10_2 < (t111.length : Int)
           ·rw [if_pos c17] at H
            have c17b0 : decide (x10_2 < (t111.length : Int)) = true := decide_eq_true c17
            clear c17
            obtain ⟨y117, hy117⟩ : ∃ y_ : List S100, y_ = (x5_2.set (x10_2 : Int).toNat (⟨(⟨(Qf x5_2 x10_2).f0.f0, (Qf x5_2 x10_2).f0.f1⟩ : S24), (Qf x5_2 x10_2).f1, (Qf x5_2 x10_2).f2, wrap64 (((Qf x5_2 x10_2).f3) - (rd t111 x10_2))⟩ : S100)) := ⟨_, rfl⟩
            replace H : (Qar.l1 k2 l1 y117 x6_1 x7_1 t111 (wrap64 (x10_2 + 1))) = some r := yy hy117 H
            have Ny117 := Qa.mk hy117
            clear hy117
            have H' := Qa.mk H
            clear H
            try go_wp2
            replace HO_5 := Qa.mk (Kd.R_drew HO_5.out)
            replace HO_6 := Qa.mk (Kd.S_drew HO_6.out)
            replace HO_8 := Qa.mk (Kd.R_drew HO_8.out)
            replace HB := Qa.mk (QM HB.out)
            have p115 : 0 ≤ (x10_2 : Int) := dT
            have q115 : x10_2 < (x5_2.length : Int) := dT
            obtain ⟨ad115, e115, hx115_0, hx115_1, hx115_2, hx115_3, hx115_4⟩ := Zf (Kd.R_reads' HO_5.out).2.2 x10_2 p115 q115
            cases e115
            replace p115 := eq_true p115
            replace q115 := eq_true q115
            obtain ⟨Ao20, co20, eo20⟩ := Kd.R_slice HO_8.out
            (first | subst eo20 | (injection eo20 with f1_ f2_ f3_; have f4_ := f1_.symm; have f5_ := f3_.symm; clear f1_ f2_ f3_; subst f4_; subst f5_))
            have p116 : 0 ≤ (x10_2 : Int) := dT
            have q116 : x10_2 < (t111.length : Int) := dT
            obtain ⟨ad116, e116, hx116_0⟩ := Kd.at_int (Kd.R_reads' HO_8.out).2.2 x10_2 p116 q116
            cases e116
            replace p116 := eq_true p116
            replace q116 := eq_true q116
            have p18 : 0 ≤ (x10_2 : Int) := dT
            have q18 : (x10_2 : Int) < ((x5_2.length : Int) : Int) := dT
            obtain ⟨go18, co18, eo18, gb18, gl18, cl18, HG18⟩ := Kd.R_form HO_5.out (by omega)
            (first | cases eo18 | (injection eo18 with ea_ en_ ec_; (first | subst ea_ | (injection ea_ with ea_; subst ea_)); subst ec_; clear en_))
            have GB18 := Qa.mk gb18
            have GG18 := Qa.mk HG18
            clear gb18 gl18 HG18
            (first | simp only [JP] at hx115_0 | skip)
            (first | simp only [JP] at hx115_1 | skip)
            (first | simp only [JP] at hx115_2 | skip)
            (first | simp only [JP] at hx115_3 | skip)
            (first | simp only [JP] at hx115_4 | skip)
            obtain ⟨ce18, hcl18, hM18, hcc18, hfr18⟩ := Kd.R_elem HO_5.out z100 (x10_2 : Int) p18 q18
            obtain rfl := ZH hM18
            have hx18_0 : World.cell? _ ⟨go18, (x10_2 : Int).toNat * 5, none⟩ = some (.int .i64 ((Qf x5_2 x10_2).f0.f0)) := hcc18 0 _ rfl
            have hx18_1 : World.cell? _ ⟨go18, (x10_2 : Int).toNat * 5 + 1, none⟩ = some (.int .i64 ((Qf x5_2 x10_2).f0.f1)) := hcc18 1 _ rfl
            have hx18_2 : World.cell? _ ⟨go18, (x10_2 : Int).toNat * 5 + 2, none⟩ = some (.int .i64 ((Qf x5_2 x10_2).f1)) := hcc18 2 _ rfl
            have hx18_3 : World.cell? _ ⟨go18, (x10_2 : Int).toNat * 5 + 3, none⟩ = some (.int .i64 ((Qf x5_2 x10_2).f2)) := hcc18 3 _ rfl
            have hx18_4 : World.cell? _ ⟨go18, (x10_2 : Int).toNat * 5 + 4, none⟩ = some (.int .i64 ((Qf x5_2 x10_2).f3)) := hcc18 4 _ rfl
            have hf18_0 : World.frozen? _ ⟨go18, (x10_2 : Int).toNat * 5, none⟩ = false := hfr18 0
            have hf18_1 : World.frozen? _ ⟨go18, (x10_2 : Int).toNat * 5 + 1, none⟩ = false := hfr18 1
            have hf18_2 : World.frozen? _ ⟨go18, (x10_2 : Int).toNat * 5 + 2, none⟩ = false := hfr18 2
            have hf18_3 : World.frozen? _ ⟨go18, (x10_2 : Int).toNat * 5 + 3, none⟩ = false := hfr18 3
            have hf18_4 : World.frozen? _ ⟨go18, (x10_2 : Int).toNat * 5 + 4, none⟩ = false := hfr18 4
            clear hcl18 hcc18 hfr18 hM18
            replace p18 := eq_true p18
            replace q18 := eq_true q18
            obtain ⟨ce21, hcl21, hM21, hcc21, hfr21⟩ := Kd.R_elem HO_5.out z100 (x10_2 : Int) (dT) (by have h_ : (x10_2 : Int) < ((x5_2.length : Int) : Int) := dT; first | exact h_ | (have e_ := (Kd.R_reads' HO_5.out).1; omega) | simpa using h_)
            obtain rfl := ZH hM21
            have HP21 := (Kd.R_seg HO_5.out (x10_2 : Int) (dT) (by have h_ : (x10_2 : Int) < ((x5_2.length : Int) : Int) := dT; first | exact h_ | (have e_ := (Kd.R_reads' HO_5.out).1; omega) | simpa using h_) (seg := [.int .i64 (wrap64 (((Qf x5_2 x10_2).f3) - (rd t111 x10_2)))]) (j := 4) hcl21 hcc21 (show 5 ≤ 5 from by decide) (x' := (⟨(⟨(Qf x5_2 x10_2).f0.f0, (Qf x5_2 x10_2).f0.f1⟩ : S24), (Qf x5_2 x10_2).f1, (Qf x5_2 x10_2).f2, wrap64 (((Qf x5_2 x10_2).f3) - (rd t111 x10_2))⟩ : S100)) (ZM _ _ _ (⟨(⟨(Qf x5_2 x10_2).f0.f0, (Qf x5_2 x10_2).f0.f1⟩ : S24), (Qf x5_2 x10_2).f1, (Qf x5_2 x10_2).f2, wrap64 (((Qf x5_2 x10_2).f3) - (rd t111 x10_2))⟩ : S100) ) (fun _ hk => hk)).1
            rw [← Ny117.out] at HP21
            have HQ21 := Qa.mk HP21
            clear hcl21 hcc21 hfr21 hM21 HP21
            refine JS (n := 13) (S := fun w' => w'.cell? ⟨go18, ((x10_2).toNat * 5), none⟩ = some (.int .i64 ((Qf x5_2 x10_2).f0.f0)) ∧ w'.cell? ⟨go18, ((x10_2).toNat * 5) + 1, none⟩ = some (.int .i64 ((Qf x5_2 x10_2).f0.f1)) ∧ w'.cell? ⟨go18, ((x10_2).toNat * 5) + 2, none⟩ = some (.int .i64 ((Qf x5_2 x10_2).f1)) ∧ w'.cell? ⟨go18, ((x10_2).toNat * 5) + 3, none⟩ = some (.int .i64 ((Qf x5_2 x10_2).f2)) ∧ w'.cell? ⟨go18, ((x10_2).toNat * 5) + 4, none⟩ = some (.int .i64 ((Qf x5_2 x10_2).f3)) ∧ w'.cell? (ad116.add (x10_2).toNat) = some (.int .i64 (rd t111 x10_2))) (ds := [12]) #[false, false, false, false, false, false, false, false, false, false, false, false, false] (by kernel_rfl) rfl rfl ⟨hx115_0, hx115_1, hx115_2, hx115_3, hx115_4, hx116_0⟩ (fun hHeld => ?_); refine Jk Qar.tab11 Qar.bits11 (fun HT_ HW_ => ?_)
            generalize wr.drew = w19 at HO_5 HO_6 HO_8 HB GG18 HQ21 hf18_0 hf18_1 hf18_2 hf18_3 hf18_4 hx115_0 hx115_1 hx115_2 hx115_3 hx115_4 hx116_0 hx18_0 hx18_1 hx18_2 hx18_3 hx18_4 hHeld ⊢
            refine pu 0 39 ?_
            refine pu 1 40 ?_
            refine pu 2 41 ?_
            refine pu 3 42 ?_
            refine pu 5 44 ?_
            refine pu 6 45 ?_
            refine pu 7 46 ?_
            refine tk 4 43 hHeld ?_
            refine tk 8 47 hHeld ?_
            refine pu 9 48 ?_
            refine pu 10 49 ?_
            refine pu 11 50 ?_
            refine last_ (i := 12) (N := none) #[true, true, true, true, true, true, true, true, true, true, true, true, true] rfl rfl (X9 HT_.out (by kernel_rfl)) (by decide) (fun K hK => ?_)
            refine Z7 (w1 := ?_) (by rfl) rfl ?_ ?_
            rotate_left
            ·go_simp
             rfl
            refine hK.out _ _ ?_
            clear hK K
            refine JD (JM HT_.out (by kernel_rfl)) ?_
            try go_wp2
            (try simp only [← hl5_2])
            go_roundg k2
            case measure => have := HK1.out; have := HK2.out; omega
            case rel => exact ⟨(y117), (wrap64 (x10_2 + 1)), eS, H', ⟨by have := HK1.out; have := HK2.out; omega⟩, ⟨by (try simp only [hl5_2]); (with_reducible repeat (first | apply Kd.R_alloc | apply Kd.R_drewN | apply Kd.R_drew)); exact HQ21.out⟩, ⟨by (try simp only [hl5_2]); (with_reducible repeat (first | apply Kd.S_alloc | apply Kd.S_drewN | apply Kd.S_drew)); exact Kd.S_mono (Kd.S_far (p := ⟨go18, (x10_2 : Int).toNat * 5 + 4, none⟩) (Kd.S_types HO_6.out GG18.out (by decide)) (fun _ hk => hk.2) (.int .i64 (wrap64 (((Qf x5_2 x10_2).f3) - (rd t111 x10_2))))) (fun _ hk => hk.1)⟩, ⟨by (try simp only [hl5_2]); (with_reducible repeat (first | apply Kd.R_alloc | apply Kd.R_drewN | apply Kd.R_drew)); exact Kd.R_mono (Kd.R_far (p := ⟨go18, (x10_2 : Int).toNat * 5 + 4, none⟩) (Kd.R_types HO_8.out GG18.out (by decide)) (fun _ hk => hk.2) (.int .i64 (wrap64 (((Qf x5_2 x10_2).f3) - (rd t111 x10_2))))) (fun _ hk => trivial)⟩, ⟨pE HB⟩⟩
           ·rw [if_neg c17] at H
            exact absurd H (by simp)
          ·rw [if_neg c16] at H
           exact absurd H (by simp)
         ·rw [if_neg c15] at H
          have c15b0 : decide (x10_2 < (x5_2.length : Int)) = false := decide_eq_false c15
          clear c15
          by_cases c22 : x6_1.length < 5864062014805
          ·rw [if_pos c22] at H
           have LMc22 := Qa.mk c22
           clear c22
           obtain ⟨y118, hy118⟩ : ∃ y_ : List (List Int), y_ = (x6_1 ++ [t111]) := ⟨_, rfl⟩
           replace H : (Qar.l0 k2 l1 x5_2 y118 (wrap64 (x7_1 + 1))) = some r := yy hy118 H
           have Ny118 := Qa.mk hy118
           clear hy118
           have H' := Qa.mk H
           clear H
           obtain ⟨Ao24, co24, eo24⟩ := Kd.R_slice HO_8.out
           subst eo24
           go_wp2_with (first | ((with_reducible refine JA (b := .append) (xs := #[.tmp 51, .tmp 53]) rfl ?_); at_builtin; refine Kd.S_append (Kd.slice 3 (Kd.int .i64)) (w0 := w) w.heap.size rfl (.tmp 51) (.tmp 53) 59 27 (.slice none 0 0) 24 rfl Tryz.underlying59 info27 rfl (by decide) (by omega) u6 x6_1 t111 [.slice Ao24 t111.length co24] (fun _ => True) (fun k_ => some k_ = (.slice Ao24 t111.length co24 : Value).ownBlock) rfl rfl ?aP (fun k_ hk_ => ((Kd.R_mono (ok' := fun k_ => ((fun _ => True)) k_ ∧ some k_ ≠ (u6 : Value).ownBlock) (Kd.R_apart' (HO_8.out) (Kd.S_typed HO_6.out) (by decide)) (fun k_ hk => ⟨trivial, hk.2⟩))).1 k_ hk_.symm) ?aF ?aO ?aB ?aS ?aL ?_; (case aP => exact Kd.M_row (Kd.R_mono (Kd.R_tight rfl (Kd.R_mono (ok' := fun k_ => ((fun _ => True)) k_ ∧ some k_ ≠ (u6 : Value).ownBlock) (Kd.R_apart' (HO_8.out) (Kd.S_typed HO_6.out) (by decide)) (fun k_ hk => ⟨trivial, hk.2⟩))) (fun _ h_ => h_))); (case aB => exact (pE HB)); (case aF => exact (fun _ _ => trivial)); (case aO => exact (by refine pS ?_; exact Kd.S_mono HO_6.out (fun k_ hk => ⟨trivial, fun e_ => hk e_⟩))); (case aS => exact (Qr (pE HB))); (case aL => have := LMc22.out; omega); intro v119 w23 ho hb hg hat; rw [← Ny118.out] at ho; replace HO_5 := Qa.mk (Kd.R_over' (pR HO_5.out) (Kd.S_typed (pS HO_6.out)) (by decide) hg); replace HB := Qa.mk (hb); have HO120 := Qa.mk (ho); clear HO_6 HO_8; clear ho hb hg hat))
           (try simp only [← hl5_2])
           go_roundg k2
           case measure => have := HK1.out; have := HK2.out; omega
           case rel => exact ⟨(x5_2), (y118), (wrap64 (x7_1 + 1)), eS, H', ⟨by have := HK1.out; have := HK2.out; omega⟩, ⟨by (try simp only [hl5_2]); (with_reducible repeat (first | apply Kd.R_alloc | apply Kd.R_drewN | apply Kd.R_drew)); exact HO_5.out⟩, ⟨by (try simp only [hl5_2]); (with_reducible repeat (first | apply Kd.S_alloc | apply Kd.S_drewN | apply Kd.S_drew)); exact HO120.out⟩, ⟨pE HB⟩⟩
          ·rw [if_neg c22] at H
           exact absurd H (by simp)
      ·replace c12 := Bool.eq_false_iff.mpr c12
       subst c12
       rw [if_neg (show ¬ (false = true) by decide)] at H
       obtain rfl := Option.some.inj H
       have p110 : 0 ≤ (x7_1 : Int) := dT
       have q110 : x7_1 < (l1.length : Int) := dT
       obtain ⟨ad110, e110, hx110_0, hx110_1, hx110_2, hx110_3, hx110_4⟩ := Yb HR1.out x7_1 p110 q110
       cases e110
       replace hx110_0 := cut_ HB hx110_0
       replace hx110_1 := cut_ HB hx110_1
       replace hx110_2 := cut_ HB hx110_2
       replace hx110_3 := cut_ HB hx110_3
       replace hx110_4 := cut_ HB hx110_4
       replace p110 := eq_true p110
       replace q110 := eq_true q110
       obtain ⟨Ao25, co25, eo25⟩ := Kd.R_slice HO_5.out
       subst eo25
       go_wp2_with (first | ((with_reducible refine gc 33 rfl ?_); refine gL 27 Tryz.func33 #[.slice Ao25 x5_1.length co25, .agg #[.int .i64 ((Qy l1 x7_1).f0.f0), .int .i64 ((Qy l1 x7_1).f0.f1), .int .i64 ((Qy l1 x7_1).f1.f0), .int .i64 ((Qy l1 x7_1).f1.f1), .int .i64 ((Qy l1 x7_1).f2)]] ?_; (with_reducible refine (Qaq.calls k1 _ _ x5_1 ((Qy l1 x7_1).f0.f0) ((Qy l1 x7_1).f0.f1) ((Qy l1 x7_1).f1.f0) ((Qy l1 x7_1).f1.f1) ((Qy l1 x7_1).f2) t111 false _ ?side1 ?side2 A11.out).mono ?_); (case side1 => exact pC (Kd.R_reads' HO_5.out).2.2); (case side2 => exact (Kd.R_reads' HO_5.out).2.1); rintro e w26 ⟨v112, rfl, ho0, hb⟩; refine ⟨_, rfl, ?_⟩; replace HO_5 := rb HO_5 hb; replace HO_6 := Qa.mk (Kd.S_elder' (pS HO_6.out) (Kd.R_base ho0) hb); have HO113 := rl ho0 HB; replace HB := bs HB hb; clear hb ho0))
       go_ret
       exact ⟨_, eT, by (with_reducible repeat (first | apply Kd.S_alloc | apply Kd.S_drewN | apply Kd.S_drew)); exact Kd.S_mono HO_6.out (fun _ hk => trivial), pE HB⟩
     ·rw [if_neg c10] at H
      exact absurd H (by simp)
    ·rw [if_neg c9] at H
     have c9b0 : decide (x7_1 < (l1.length : Int)) = false := decide_eq_false c9
     clear c9
     obtain rfl := Option.some.inj H
     go_wp2
     go_ret
     exact ⟨_, eT, by (with_reducible repeat (first | apply Kd.S_alloc | apply Kd.S_drewN | apply Kd.S_drew)); exact HO_6.out, pE HB⟩
 ·rw [if_neg c3] at H
  exact absurd H (by simp)
mutual
def Qat.j0 : Nat → List S100 → Bool → Option Bool
 | 0, _, _ => none
 | k + 1, x0, x11 => if x11 = true then (some true) else (Qat.l0 k x0 0)
def Qat.l0 : Nat → List S100 → Int → Option Bool
 | 0, _, _ => none
 | k + 1, x0, x3 => if x3 < (x0.length : Int) then (if 0 ≤ x3 then (if ((Qf x0 x3).f3) > 4 then (some false) else (Qat.l0 k x0 (wrap64 (x3 + 1)))) else (none)) else (some true)
end
def Qat.f (k : Nat) (l0 : List S100) : Option Bool := if (l0.length : Int) < 3 then (Qat.j0 k l0 true) else ((Qav.f k l0).bind fun t101 => (Qat.j0 k l0 (t101 != 0)))
set_option maxHeartbeats 8000000 in
set_option maxRecDepth 100000 in
theorem Qat.calls (k : Nat) (A0 : Option Addr) (c0 : Nat) (l0 : List S100) (r : Bool) (w : World) (hr0 : Kd.C k100 w A0 l0.length l0) (hc0 : l0.length ≤ c0) (h : Qat.f k l0 = some r) :
  Calls Tryz.prog 31 #[.slice A0 l0.length c0] w fun e w' => e = .returned (.bool r) ∧ Below w.heap.size w w' := by
 have HR0 := Qa.mk hr0; have HC0 := Qa.mk hc0; clear hr0 hc0; have HB := Qa.mk (Below.refl w.heap.size w); have H : (if (l0.length : Int) < 3 then (Qat.j0 k l0 true) else ((Qav.f k l0).bind fun t101 => (Qat.j0 k l0 (t101 != 0)))) = some r := h; clear h; have HC2 := Qa.mk H; clear H; go_enter Tryz.func31, Tryz.ntmps31; go_upto_region 1 with (fail)
 go_cut [11] (fun v11 wc => ∃ (kq : Nat) (x11_1 : Bool), v11 = .bool x11_1 ∧ Qa (Qat.j0 kq l0 x11_1 = some r) ∧ Qa (kq ≤ k) ∧ Qa (Below w.heap.size w wc))
 case first =>
  have H := HC2.out; clear HC2; by_cases c3 : (l0.length : Int) < 3
  ·rw [if_pos c3] at H
   have c3b0 : decide ((l0.length : Int) < 3) = true := decide_eq_true c3; have c3b1 : decide (l0.length < 3) = true := decide_eq_true (by omega); clear c3
   (first | rw [c3b0] | (simp only [QR, QU]; rw [c3b0]) | skip)
   have H' := Qa.mk H; clear H; go_wp2
   go_meet
   case rel => exact ⟨_, (true), eS, H', ⟨by first | omega | exact Nat.le_refl _⟩, ⟨pE HB⟩⟩
  ·rw [if_neg c3] at H
   have c3b0 : decide ((l0.length : Int) < 3) = false := decide_eq_false c3; have c3b1 : decide (l0.length < 3) = false := decide_eq_false (by omega); clear c3
   (first | rw [c3b0] | (simp only [QR, QU]; rw [c3b0]) | skip)
   obtain ⟨t101, A4, H⟩ := bi H; have H' := Qa.mk H; clear H; go_wp2_with (first | (go_at_call 24; (with_reducible refine (Qav.calls k _ _ l0 t101 _ ?side1 ?side2 A4.out).mono ?_); (case side1 => exact pC (Kd.C_below HR0.out HB.out)); (case side2 => exact HC0.out); rintro e w5 ⟨rfl, hb⟩; replace HB := bs HB hb; (try clear hb); (try clear hb2); (try clear hk); (try clear hi)))
   go_meet
   case rel => exact ⟨_, ((t101 != 0)), eS, H', ⟨by first | omega | exact Nat.le_refl _⟩, ⟨pE HB⟩⟩
 case rest =>
  clear HC2; try clear p2
  try clear c3
  try clear c3b0
  try clear c3b1
  obtain ⟨kq, x11_1, rfl, HA, HJ1, HB⟩ := hcut
  cases kq with
  | zero => exact absurd HA.out (by simp [Qat.j0])
  | succ kj1 =>
   have H := HA.out; clear HA; simp only [Qat.j0] at H; by_cases c6 : x11_1 = true
   ·subst c6
    rw [if_pos rfl] at H; obtain rfl := Option.some.inj H; go_wp2; go_ret; exact ⟨eT, pE HB⟩
   ·replace c6 := Bool.eq_false_iff.mpr c6
    subst c6; rw [if_neg (show ¬ (false = true) by decide)] at H; have H' := Qa.mk H; clear H; go_wp2
    go_loopg [3] kj1 (fun kq v3 w' => ∃ (x3_2 : Int), v3 = .int .i64 x3_2 ∧ Qa (Qat.l0 kq l0 x3_2 = some r) ∧ Qa (kq ≤ kj1) ∧ Qa (Below w.heap.size w w'))
    case atStart => exact ⟨(0), eS, H', ⟨Nat.le_refl _⟩, ⟨pE HB⟩⟩
    case round =>
     clear H'; try clear p2
     try clear c3
     try clear c3b0
     try clear c3b1
     try clear c6
     try clear p2
     obtain ⟨x3_2, rfl, HA, HK2, HB⟩ := hrel
     cases gk with
     | zero => exact absurd HA.out (by simp [Qat.l0])
     | succ k2 =>
      have H := HA.out; clear HA; simp only [Qat.l0] at H; by_cases c7 : x3_2 < (l0.length : Int)
      ·rw [if_pos c7] at H
       have c7b0 : decide (x3_2 < (l0.length : Int)) = true := decide_eq_true c7; clear c7; by_cases c8 : 0 ≤ x3_2
       ·rw [if_pos c8] at H
        have c8b0 : decide (0 ≤ x3_2) = true := decide_eq_true c8; clear c8; by_cases c9 : ((Qf l0 x3_2).f3) > 4
        ·rw [if_pos c9] at H
         have c9b0 : decide (4 < ((Qf l0 x3_2).f3)) = true := decide_eq_true c9; clear c9; obtain rfl := Option.some.inj H; have p102 : 0 ≤ (x3_2 : Int) := dT; have q102 : x3_2 < (l0.length : Int) := dT; obtain ⟨ad102, e102, hx102_0, hx102_1, hx102_2, hx102_3, hx102_4⟩ := Zf HR0.out x3_2 p102 q102
         cases e102
         replace hx102_0 := cut_ HB hx102_0; replace hx102_1 := cut_ HB hx102_1; replace hx102_2 := cut_ HB hx102_2; replace hx102_3 := cut_ HB hx102_3; replace hx102_4 := cut_ HB hx102_4; replace p102 := eq_true p102; replace q102 := eq_true q102; go_wp2; go_ret; exact ⟨eT, pE HB⟩
        ·rw [if_neg c9] at H
         have c9b0 : decide (4 < ((Qf l0 x3_2).f3)) = false := decide_eq_false c9; clear c9; have H' := Qa.mk H; clear H; have p102 : 0 ≤ (x3_2 : Int) := dT; have q102 : x3_2 < (l0.length : Int) := dT; obtain ⟨ad102, e102, hx102_0, hx102_1, hx102_2, hx102_3, hx102_4⟩ := Zf HR0.out x3_2 p102 q102
         cases e102
         replace hx102_0 := cut_ HB hx102_0; replace hx102_1 := cut_ HB hx102_1; replace hx102_2 := cut_ HB hx102_2; replace hx102_3 := cut_ HB hx102_3; replace hx102_4 := cut_ HB hx102_4; replace p102 := eq_true p102; replace q102 := eq_true q102; go_wp2
         go_roundg k2
         case measure => have := HJ1.out; have := HK2.out; omega
         case rel => exact ⟨(wrap64 (x3_2 + 1)), eS, H', ⟨by have := HJ1.out; have := HK2.out; omega⟩, ⟨pE HB⟩⟩
       ·rw [if_neg c8] at H
        exact absurd H (by simp)
      ·rw [if_neg c7] at H
       have c7b0 : decide (x3_2 < (l0.length : Int)) = false := decide_eq_false c7; clear c7; obtain rfl := Option.some.inj H; go_wp2; go_ret; exact ⟨eT, pE HB⟩
end Go.Proofs.YtjaapkkpmegkfaaGreat.P
namespace Go.Proofs.YtjaapkkpmegkfaaGreat.P
open Go.RowKit Go.Shelf Go.Proofs.YtjaapkkpmegkfaaGreatW.PrintWords Go.Proofs.YtjaapkkpmegkfaaGreatW.PrintLast Go.Proofs.YtjaapkkpmegkfaaGreatW.PrintMore
def okS (s : S100) : Bool := decide (0 ≤ s.f0.f0 ∧ s.f0.f0 ≤ s.f0.f1 ∧ s.f0.f1 ≤ 200 ∧ 0 ≤ s.f1 ∧ s.f1 ≤ 500 ∧ 0 ≤ s.f2 ∧ s.f2 ≤ 50 ∧ 0 ≤ s.f3 ∧ s.f3 ≤ 12)
def okC (a b c d e : Int) : Bool := decide (1 ≤ a ∧ a ≤ b ∧ b ≤ 2000 ∧ 0 ≤ c ∧ c ≤ d ∧ d ≤ 300 ∧ 0 ≤ e ∧ e ≤ 500)
def chk (l : List S100) : Int := if (l.length : Int) > 4 then 5 else if (l.length : Int) = 0 then 7 else if l.all okS = true then 0 else 2
theorem chk0 {l : List S100} (h : chk l = 0) : 1 ≤ l.length ∧ l.length ≤ 4 ∧ ∀ s ∈ l, okS s = true := by
 unfold chk at h
 split at h
 ·cases h
 split at h
 ·cases h
 split at h
 ·rename_i h1 h2 h3
  exact ⟨by omega, by omega, by simpa using h3⟩
 ·cases h
theorem Qdc (s : S100) : Zk.f s.f0.f0 s.f0.f1 s.f1 s.f2 s.f3 = some (!okS s) := by
 unfold Zk.f okS; simp only [Y1, isSpan_eq, Option.bind_some, List.all_cons, List.all_nil, Bool.and_true]; by_cases h1 : 0 ≤ s.f0.f0 ∧ s.f0.f0 ≤ s.f0.f1 ∧ s.f0.f1 ≤ 200
 ·rw [if_pos (by simpa using h1)]
  by_cases h2 : 0 ≤ s.f1 ∧ s.f1 ≤ 500
  ·rw [if_pos (by simpa using h2)]
   by_cases h3 : 0 ≤ s.f2 ∧ s.f2 ≤ 50
   ·rw [if_pos (by simpa using h3)]
    congr 2
    exact decide_eq_decide.2 (by omega)
   ·rw [if_neg (by simpa using h3)]
    congr 1; symm; rw [Bool.not_eq_true', decide_eq_false_iff_not]; omega
  ·rw [if_neg (by simpa using h2)]
   congr 1; symm; rw [Bool.not_eq_true', decide_eq_false_iff_not]; omega
 ·rw [if_neg (by simpa using h1)]
  congr 1; symm; rw [Bool.not_eq_true', decide_eq_false_iff_not]; omega
theorem Qdf (l : List S100) : Jf.f l = some (chk l) := by
 unfold Jf.f chk; by_cases h1 : (l.length : Int) > 4
 ·rw [if_pos h1, if_pos h1]
 ·rw [if_neg h1, if_neg h1]
  by_cases h2 : (l.length : Int) = 0
  ·rw [if_pos h2, if_pos h2]
  ·rw [if_neg h2, if_neg h2]
   unfold Jw.f; rw [YA (p := fun s => !okS s) fun s _ => Qdc s]; simp only [Option.bind_some]; by_cases h3 : l.all okS = true
   ·rw [if_pos h3, if_neg (by simpa using h3)]
   ·rw [if_neg h3, if_pos (by simpa using h3)]
theorem Qcu (a b c d e : Int) : Jc.f a b c d e = some (okC a b c d e) := by
 unfold Jc.f okC; simp only [Y1, isSpan_eq, Option.bind_some, List.all_cons, List.all_nil, Bool.and_true]; by_cases h1 : 1 ≤ a ∧ a ≤ b ∧ b ≤ 2000
 ·rw [if_pos (by simpa using h1)]
  by_cases h2 : 0 ≤ c ∧ c ≤ d ∧ d ≤ 300
  ·rw [if_pos (by simpa using h2)]
   congr 1
   exact decide_eq_decide.2 (by omega)
  ·rw [if_neg (by simpa using h2)]
   congr 1; symm; rw [decide_eq_false_iff_not]; omega
 ·rw [if_neg (by simpa using h1)]
  congr 1; symm; rw [decide_eq_false_iff_not]; omega
def upN (a c : Int) : Int := (a * c + 999) / 1000
theorem Qbb {a c A C : Int} (h0 : 0 ≤ a) (h1 : a ≤ A) (h2 : 0 ≤ c) (h3 : c ≤ C) : 0 ≤ a * c ∧ a * c ≤ A * C :=
 ⟨Int.mul_nonneg h0 h2, Int.mul_le_mul h1 h3 h2 (by omega)⟩
theorem up_eq {a c : Int} (h0 : 0 ≤ a) (h1 : a ≤ 2000) (h2 : 0 ≤ c) (h3 : c ≤ 300) : Zn.f a c = some (upN a c) := by
 have h := Qbb h0 h1 h2 h3; unfold Zn.f upN; rw [w64 (x := a * c) (by omega), w64 (x := a * c + 999) (by omega), Int.tdiv_eq_ediv_of_nonneg (by omega), w64 (by omega)]
theorem Qci {a c : Int} (h0 : 0 ≤ a) (h1 : a ≤ 2000) (h2 : 0 ≤ c) (h3 : c ≤ 300) : 0 ≤ upN a c ∧ upN a c ≤ 600 := by
 have h := Qbb h0 h1 h2 h3; unfold upN; omega
theorem Qb1 {a b c d e : Int} (h : okC a b c d e = true) : (0 ≤ a ∧ a ≤ 2000 ∧ 0 ≤ b ∧ b ≤ 2000) ∧ (0 ≤ c ∧ c ≤ 300 ∧ 0 ≤ d ∧ d ≤ 300) ∧ 0 ≤ e ∧ e ≤ 500 := by
 unfold okC at h; rw [decide_eq_true_iff] at h; omega
theorem Qcx {a b c d e : Int} (h : okC a b c d e = true) (l : List S100) : QP.f a b c d e l = some (upN a c, upN b d) := by
 obtain ⟨h1, h2, h3⟩ := Qb1 h; unfold QP.f; rw [up_eq h1.1 h1.2.1 h2.1 h2.2.1, up_eq h1.2.2.1 h1.2.2.2 h2.2.2.1 h2.2.2.2]; rfl
theorem Qa5 {l : List S100} {i : Nat} (h : i < l.length) : Qf l (i : Int) = l[i] := by simp [Qf, List.getD_eq_getElem?_getD, List.getElem?_eq_getElem h]
def fit (l : List S100) (m : List Int) : Bool := decide (m.length = l.length) && (l.zip m).all fun x => decide (0 ≤ x.2 ∧ x.2 ≤ x.1.f3)
def tot (f : S100 → Int) (l : List S100) (m : List Int) : Int := ((l.zip m).map fun x => x.2 * f x.1).sum
theorem tot_le (f : S100 → Int) (B : Int) (l : List S100) (m : List Int) (hl : ∀ s ∈ l, 0 ≤ f s ∧ f s ≤ B) (hm : ∀ x ∈ m, 0 ≤ x ∧ x ≤ 12) : 0 ≤ tot f l m ∧ tot f l m ≤ 12 * B * l.length := by
 unfold tot
 induction l generalizing m with
 | nil => simp
 | cons s l ih =>
  cases m with
  | nil =>
   have := hl s (by simp); simp only [List.zip_nil_right, List.map_nil, List.sum_nil]; exact ⟨Int.le_refl _, Int.mul_nonneg (by omega) (by omega)⟩
  | cons x m =>
   have := ih m (fun s hs => hl s (by simp [hs])) fun x hx => hm x (by simp [hx])
   have h1 := hl s (by simp); have h2 := hm x (by simp); have h3 := Qbb h2.1 h2.2 h1.1 h1.2; simp only [List.zip_cons_cons, List.map_cons, List.sum_cons, List.length_cons]; have h4 : 12 * B * ((l.length + 1 : Nat) : Int) = 12 * B * l.length + 12 * B := by rw [Int.natCast_add, Int.mul_add]; omega
   omega
theorem Qbf {f : S100 → Int} {l : List S100} {m : List Int} {i : Nat} (h1 : i < l.length) (h2 : i < m.length) : tot f (l.drop i) (m.drop i) = m[i] * f l[i] + tot f (l.drop (i + 1)) (m.drop (i + 1)) := by
 unfold tot; rw [List.drop_eq_getElem_cons h1, List.drop_eq_getElem_cons h2, List.zip_cons_cons, List.map_cons, List.sum_cons]
structure Mx (l : List S100) (m : List Int) : Prop where
 ok : ∀ s ∈ l, okS s = true
 len : m.length ≤ l.length
 l4 : l.length ≤ 4
 m12 : ∀ x ∈ m, 0 ≤ x ∧ x ≤ 12
def Qa7 (s : S100) : Int := s.f0.f0
def Qbi (s : S100) : Int := s.f0.f1
def Qa6 (s : S100) : Int := s.f2
def Qa4 (s : S100) : Int := s.f1
theorem Qbv {s : S100} (h : okS s = true) : 0 ≤ Qa7 s ∧ Qa7 s ≤ 200 := by
 unfold okS at h; rw [decide_eq_true_iff] at h; unfold Qa7; omega
theorem Qdl (l : List S100) (m : List Int) (h : Mx l m) (a b c d e : Int) : ∀ (q k i : Nat) (s : Int), i + q = m.length → q < k → 0 ≤ s → s ≤ 12 * 200 * (i : Int) →
  Qp.l0 k s m (m.length : Int) (i : Int) a b c d e l = some (s + tot Qa7 (l.drop i) (m.drop i)) := by
 have hl := h.len; have h4 := h.l4; intro q
 induction q with
 | zero =>
  intro k i s hi hk _ _; obtain ⟨k, rfl⟩ : ∃ z, k = z + 1 := ⟨k - 1, by omega⟩
  simp only [Qp.l0]; rw [if_neg (by omega), List.drop_of_length_le (l := m) (by omega)]
  simp [tot]
 | succ q ih =>
  intro k i s hi hk hs0 hs1; obtain ⟨k, rfl⟩ : ∃ z, k = z + 1 := ⟨k - 1, by omega⟩
  have h1 : i < m.length := by omega
  have h2 : i < l.length := by omega
  have hf := Qbv (h.ok l[i] (List.getElem_mem h2)); have hx := h.m12 m[i] (List.getElem_mem h1); have hp := Qbb hx.1 hx.2 hf.1 hf.2; simp only [Qp.l0, ZF.f]; rw [if_pos (by omega), if_pos (by omega), if_pos (by omega), if_pos (by omega), Qa5 h2, YT h1, Qbf h2 h1]; simp only [Option.bind_some]; have e : l[i].f0.f0 = Qa7 l[i] := rfl; rw [e, w64 (x := m[i] * Qa7 l[i]) (by omega), w64 (x := s + m[i] * Qa7 l[i]) (by omega), w64 (by omega), show ((i : Int) + 1) = ((i + 1 : Nat) : Int) by omega, ih k (i + 1) _ (by omega) (by omega) (by omega) (by omega), Int.add_assoc]
theorem Qdk {l : List S100} {m : List Int} (h : Mx l m) (a b c d e : Int) {k : Nat} (hk : m.length < k) : Qp.f k a b c d e l m = some (tot Qa7 l m) := by
 unfold Qp.f; have := Qdl l m h a b c d e m.length k 0 0 (by omega) hk (by omega) (by omega)
 simpa using this
theorem Qdm {l : List S100} {m : List Int} (h : Mx l m) : 0 ≤ tot Qa7 l m ∧ tot Qa7 l m ≤ 100000 := by
 have := tot_le Qa7 200 l m (fun s hs => Qbv (h.ok s hs)) h.m12; have := h.l4; omega
theorem most_ok {s : S100} (h : okS s = true) : 0 ≤ Qbi s ∧ Qbi s ≤ 200 := by
 unfold okS at h; rw [decide_eq_true_iff] at h; unfold Qbi; omega
theorem Qb5 {s : S100} (h : okS s = true) : 0 ≤ Qa6 s ∧ Qa6 s ≤ 50 := by
 unfold okS at h; rw [decide_eq_true_iff] at h; unfold Qa6; omega
theorem Qc3 (l : List S100) (m : List Int) (h : Mx l m) (a b c d e : Int) : ∀ (q k i : Nat) (s : Int), i + q = m.length → q < k → 0 ≤ s → s ≤ 12 * 50 * (i : Int) →
  Qj.l0 k s m (m.length : Int) (i : Int) a b c d e l = some (s + tot Qa6 (l.drop i) (m.drop i)) := by
 have hl := h.len; have h4 := h.l4; intro q
 induction q with
 | zero =>
  intro k i s hi hk _ _; obtain ⟨k, rfl⟩ : ∃ z, k = z + 1 := ⟨k - 1, by omega⟩
  simp only [Qj.l0]; rw [if_neg (by omega), List.drop_of_length_le (l := m) (by omega)]
  simp [tot]
 | succ q ih =>
  intro k i s hi hk hs0 hs1; obtain ⟨k, rfl⟩ : ∃ z, k = z + 1 := ⟨k - 1, by omega⟩
  have h1 : i < m.length := by omega
  have h2 : i < l.length := by omega
  have hf := Qb5 (h.ok l[i] (List.getElem_mem h2)); have hx := h.m12 m[i] (List.getElem_mem h1); have hp := Qbb hx.1 hx.2 hf.1 hf.2; simp only [Qj.l0, Zw.f]; rw [if_pos (by omega), if_pos (by omega), if_pos (by omega), if_pos (by omega), Qa5 h2, YT h1, Qbf h2 h1]; simp only [Option.bind_some]; have e : l[i].f2 = Qa6 l[i] := rfl; rw [e, w64 (x := m[i] * Qa6 l[i]) (by omega), w64 (x := s + m[i] * Qa6 l[i]) (by omega), w64 (by omega), show ((i : Int) + 1) = ((i + 1 : Nat) : Int) by omega, ih k (i + 1) _ (by omega) (by omega) (by omega) (by omega), Int.add_assoc]
theorem Qc7 {l : List S100} {m : List Int} (h : Mx l m) (a b c d e : Int) {k : Nat} (hk : m.length < k) : Qj.f k a b c d e l m = some (tot Qa6 l m) := by
 unfold Qj.f; have := Qc3 l m h a b c d e m.length k 0 0 (by omega) hk (by omega) (by omega)
 simpa using this
theorem Qch {s : S100} (h : okS s = true) : 0 ≤ Qa4 s ∧ Qa4 s ≤ 500 := by
 unfold okS at h; rw [decide_eq_true_iff] at h; unfold Qa4; omega
theorem Qdi (l : List S100) (m : List Int) (h : Mx l m) (a b c d e : Int) : ∀ (q k i : Nat) (s : Int), i + q = m.length → q < k → 0 ≤ s → s ≤ 12 * 500 * (i : Int) →
  Qi.l0 k s m (m.length : Int) (i : Int) a b c d e l = some (s + tot Qa4 (l.drop i) (m.drop i)) := by
 have hl := h.len; have h4 := h.l4; intro q
 induction q with
 | zero =>
  intro k i s hi hk _ _; obtain ⟨k, rfl⟩ : ∃ z, k = z + 1 := ⟨k - 1, by omega⟩
  simp only [Qi.l0]; rw [if_neg (by omega), List.drop_of_length_le (l := m) (by omega)]
  simp [tot]
 | succ q ih =>
  intro k i s hi hk hs0 hs1; obtain ⟨k, rfl⟩ : ∃ z, k = z + 1 := ⟨k - 1, by omega⟩
  have h1 : i < m.length := by omega
  have h2 : i < l.length := by omega
  have hf := Qch (h.ok l[i] (List.getElem_mem h2)); have hx := h.m12 m[i] (List.getElem_mem h1); have hp := Qbb hx.1 hx.2 hf.1 hf.2; simp only [Qi.l0, ZE.f]; rw [if_pos (by omega), if_pos (by omega), if_pos (by omega), if_pos (by omega), Qa5 h2, YT h1, Qbf h2 h1]; simp only [Option.bind_some]; have e : l[i].f1 = Qa4 l[i] := rfl; rw [e, w64 (x := m[i] * Qa4 l[i]) (by omega), w64 (x := s + m[i] * Qa4 l[i]) (by omega), w64 (by omega), show ((i : Int) + 1) = ((i + 1 : Nat) : Int) by omega, ih k (i + 1) _ (by omega) (by omega) (by omega) (by omega), Int.add_assoc]
theorem Qcf {l : List S100} {m : List Int} (h : Mx l m) (a b c d e : Int) {k : Nat} (hk : m.length < k) : Qi.f k a b c d e l m = some (tot Qa4 l m) := by
 unfold Qi.f; have := Qdi l m h a b c d e m.length k 0 0 (by omega) hk (by omega) (by omega)
 simpa using this
def lo (l : List S100) (b d : Int) (m : List Int) : Int := tot Qa7 l m - upN b d
def hi (l : List S100) (a c : Int) (m : List Int) : Int := tot Qbi l m - upN a c
end Go.Proofs.YtjaapkkpmegkfaaGreat.P
