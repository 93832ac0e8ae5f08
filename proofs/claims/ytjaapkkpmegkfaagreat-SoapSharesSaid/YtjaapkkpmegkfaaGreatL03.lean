/- Part 3 of what the law's proof needs beyond its base: words, walks of functions and plain facts. -/
import Derived.Below
import Derived.Deep.Draws
import Derived.Deep.AppendLies
import Derived.Maps.AppendAt
import Derived.OwnWalk
import Derived.Laws.BytesArg
import Derived.Laws.MakeOwn
import Derived.Laws.OwnMore
import Derived.Deep.OwnRows
import Derived.Tactics
import Derived.Lib.ConvBytes
import Derived.Laws.Slices
import Derived.WalkKit
import Derived.KernelRfl
import Derived.RowKit3
import Derived.Deep.LoopGhost
import Derived.Deep.QuietTactic
import Derived.BigQuiet
import Derived.WideLaws
import Derived.Deep.DeepCutAuto
import Derived.Deep.CutBlock
import Derived.Deep.RegionHeld3
import Derived.Laws.Rows
import Derived.Lib.AppendStr
import Derived.ArgAppend
import Derived.Laws.IdiomCopy
import Derived.RowKit
import Derived.Deep.Slices
import Derived.OpenShut
import Derived.ChangeArms
import Derived.Test.YtjaapkkpmegkfaaGreatK01
import Derived.Test.YtjaapkkpmegkfaaGreatK02
import Derived.Test.YtjaapkkpmegkfaaGreatK03
import Derived.Test.YtjaapkkpmegkfaaGreatK04
import Derived.Test.YtjaapkkpmegkfaaGreatK05
import Derived.Test.YtjaapkkpmegkfaaGreatK06
import Derived.Test.YtjaapkkpmegkfaaGreatK07
import Derived.Test.YtjaapkkpmegkfaaGreatK08
import Derived.Test.YtjaapkkpmegkfaaGreatK09
import Derived.Test.YtjaapkkpmegkfaaGreatK10
import Derived.Test.YtjaapkkpmegkfaaGreatK11
import Derived.Test.YtjaapkkpmegkfaaGreatK12
import Derived.Test.YtjaapkkpmegkfaaGreatK13
import Derived.Test.YtjaapkkpmegkfaaGreatL01
import Derived.Test.YtjaapkkpmegkfaaGreatL02
set_option linter.unusedVariables false
set_option linter.unusedSimpArgs false
namespace Go.Proofs.YtjaapkkpmegkfaaGreat.P
open Go.RowKit Go.Proofs.YtjaapkkpmegkfaaGreatW.PrintWords Go.Proofs.YtjaapkkpmegkfaaGreatW.PrintLast Go.Proofs.YtjaapkkpmegkfaaGreatW.PrintMore
attribute [local go_sem] max2_int min2_int max_two min_two max_three min_three max_four min_four
def walkmilllaw06_SoapShares.f (k : Nat) (l0 : List Int) (a1 : Int) : Option (Bool) := if (l0.length : Int) > 20 then ((walkmilllaw06_known.f k).bind fun t101 => (some t101)) else ((walkmillref06_Ints.f l0).bind fun t102 => ((soap_Share.f k t102 a1).bind fun bt105 => ((walkmillref06_Like.f k t102 l0).bind fun t109 => (if t109 = true then ((walkmillref06_Shares.f k l0 a1).bind fun t110 => (if t110 = 0 then (if bt105.2 = 0 then ((walkmillref06_Share.f k l0 a1).bind fun t111 => ((walkmillref06_Like.f k bt105.1 t111).bind fun t114 => (if t114 = true then ((walkmilllaw06_known.f k).bind fun t115 => (some t115)) else (some false)))) else (some false)) else (if bt105.2 = t110 then (if (bt105.1.length : Int) = 0 then ((walkmilllaw06_known.f k).bind fun t116 => (some t116)) else (some false)) else (some false)))) else (some false)))))
set_option maxHeartbeats 8000000 in
set_option maxRecDepth 100000 in
theorem walkmilllaw06_SoapShares.calls_true (k : Nat) (A0 : Option Addr) (c0 : Nat) (l0 : List Int) (a1 : Int) (r : Bool) (w : World) (hr0 : Kd.C (Kd.int .i64) w A0 l0.length l0) (hc0 : l0.length ≤ c0) (hrt : r = true) (h : walkmilllaw06_SoapShares.f k l0 a1 = some r) :
  Calls Tryz.prog 9 #[.slice A0 l0.length c0, .int .i64 a1] w fun e w' => e = .returned (.bool r) ∧ Below w.heap.size w w' := by
 have HRT := Aside0.mk hrt
 clear hrt
 have HR0 := Aside0.mk hr0
 have HC0 := Aside0.mk hc0
 clear hr0 hc0
 have HB := Aside0.mk (Below.refl w.heap.size w)
 have H : (if (l0.length : Int) > 20 then ((walkmilllaw06_known.f k).bind fun t101 => (some t101)) else ((walkmillref06_Ints.f l0).bind fun t102 => ((soap_Share.f k t102 a1).bind fun bt105 => ((walkmillref06_Like.f k t102 l0).bind fun t109 => (if t109 = true then ((walkmillref06_Shares.f k l0 a1).bind fun t110 => (if t110 = 0 then (if bt105.2 = 0 then ((walkmillref06_Share.f k l0 a1).bind fun t111 => ((walkmillref06_Like.f k bt105.1 t111).bind fun t114 => (if t114 = true then ((walkmilllaw06_known.f k).bind fun t115 => (some t115)) else (some false)))) else (some false)) else (if bt105.2 = t110 then (if (bt105.1.length : Int) = 0 then ((walkmilllaw06_known.f k).bind fun t116 => (some t116)) else (some false)) else (some false)))) else (some false)))))) = some r := h
 clear h
 by_cases c3 : (l0.length : Int) > 20
 ·rw [if_pos c3] at H
  have c3b0 : decide (20 < (l0.length : Int)) = true := decide_eq_true c3
  have c3b1 : decide (20 < l0.length) = true := decide_eq_true (by omega)
  clear c3
  obtain ⟨t101, A4, H⟩ := bi H
  obtain rfl := Option.some.inj H
  go_enter Tryz.func9, Tryz.ntmps9
  go_wp2_with (first | ((with_reducible refine gc 15 rfl ?_); refine gL 12 Tryz.func15 #[] ?_; (with_reducible refine (walkmilllaw06_known.calls k  t101 _ A4.out).mono ?_); rintro e w5 ⟨rfl, hb⟩; refine ⟨_, rfl, ?_⟩; replace HB := bs HB hb; clear hb))
  go_ret
  exact ⟨eT, pE HB⟩
 ·rw [if_neg c3] at H
  have c3b0 : decide (20 < (l0.length : Int)) = false := decide_eq_false c3
  have c3b1 : decide (20 < l0.length) = false := decide_eq_false (by omega)
  clear c3
  obtain ⟨t102, A6, H⟩ := bi H
  obtain ⟨⟨t105, t106⟩, A7, H⟩ := bi H
  obtain ⟨t109, A8, H⟩ := bi H
  by_cases c9 : t109 = true
  ·subst c9
   rw [if_pos rfl] at H
   obtain ⟨t110, A10, H⟩ := bi H
   by_cases c11 : t110 = 0
   ·rw [if_pos c11] at H
    have c11b0 : (t110 == 0) = true := beq_iff_eq.mpr c11
    have c11b1 : (t110 != 0) = false := bne_eq_false_iff_eq.mpr c11
    clear c11
    by_cases c12 : t106 = 0
    ·rw [if_pos c12] at H
     have c12b0 : (t106 == 0) = true := beq_iff_eq.mpr c12
     have c12b1 : (t106 != 0) = false := bne_eq_false_iff_eq.mpr c12
     clear c12
     obtain ⟨t111, A13, H⟩ := bi H
     obtain ⟨t114, A14, H⟩ := bi H
     by_cases c15 : t114 = true
     ·subst c15
      rw [if_pos rfl] at H
      obtain ⟨t115, A16, H⟩ := bi H
      obtain rfl := Option.some.inj H
      go_enter Tryz.func9, Tryz.ntmps9
      go_wp2_with (first | ((with_reducible refine gc 17 rfl ?_); refine gL 14 Tryz.func17 #[.slice A0 l0.length c0] ?_; (with_reducible refine (walkmillref06_Ints.calls _ _ l0 t102 _ ?side1 ?side2 A6.out).mono ?_); (case side1 => exact pC HR0.out); (case side2 => exact HC0.out); rintro e w17 ⟨v103, rfl, ho0, hb⟩; refine ⟨_, rfl, ?_⟩; have HO104 := rl ho0 HB; replace HB := bs HB hb; clear hb ho0; obtain ⟨Ao18, co18, eo18⟩ := Kd.R_slice HO104.out; subst eo18) | ((with_reducible refine gc 49 rfl ?_); refine gL 18 Tryz.func49 #[.slice Ao18 t102.length co18, .int .i64 a1] ?_; (with_reducible refine (soap_Share.calls k _ _ t102 a1 t105 t106 _ ?side1 ?side2 A7.out).mono ?_); (case side1 => exact pC (Kd.R_reads' HO104.out).2.2); (case side2 => exact (Kd.R_reads' HO104.out).2.1); rintro e w19 ⟨v107, rfl, ho0, hb⟩; refine ⟨_, rfl, ?_⟩; have HO108 := Aside0.mk (Kd.R_lower (Kd.R_new' ho0 (Kd.R_lt (pR HO104.out))) (below_size (pE HB))); replace HO104 := re HO104 ho0 hb; replace HB := bs HB hb; clear hb ho0) | ((with_reducible refine gc 23 rfl ?_); refine gL 23 Tryz.func23 #[.slice Ao18 t102.length co18, .slice A0 l0.length c0] ?_; (with_reducible refine (walkmillref06_Like.calls k _ _ t102 _ _ l0 true _ ?side1 ?side2 ?side3 ?side4 A8.out).mono ?_); (case side1 => exact pC (Kd.R_reads' HO104.out).2.2); (case side2 => exact (Kd.R_reads' HO104.out).2.1); (case side3 => exact pC (Kd.C_below HR0.out HB.out)); (case side4 => exact HC0.out); rintro e w' ⟨rfl, ⟨nd, rfl⟩⟩; refine ⟨_, rfl, ?_⟩) | ((with_reducible refine gc 50 rfl ?_); refine gL 27 Tryz.func50 #[.slice A0 l0.length c0, .int .i64 a1] ?_; (with_reducible refine (walkmillref06_Shares.calls k _ _ l0 a1 t110 _ ?side1 ?side2 A10.out).mono ?_); (case side1 => exact pC (Kd.C_below HR0.out (pE HB))); (case side2 => exact HC0.out); rintro e w' ⟨rfl, ⟨nd, rfl⟩⟩; refine ⟨_, rfl, ?_⟩) | (go_at_call 51; (with_reducible refine (walkmillref06_Share.calls k _ _ l0 a1 t111 _ ?side1 ?side2 A13.out).mono ?_); (case side1 => exact pC (Kd.C_below HR0.out (pE HB))); (case side2 => exact HC0.out); rintro e w20 ⟨v112, rfl, ho0, hb⟩; have HO113 := Aside0.mk (Kd.R_lower (Kd.R_new' (Kd.R_new' ho0 (Kd.R_lt (pR HO104.out))) (Kd.R_lt (pR HO108.out))) (below_size (pE HB))); replace HO104 := re HO104 ho0 hb; replace HO108 := re HO108 ho0 hb; replace HB := bs HB hb; (try clear hb); (try clear hb2); (try clear hk); (try clear hi); (try clear ho0); obtain ⟨Ao21, co21, eo21⟩ := Kd.R_slice HO108.out; subst eo21; obtain ⟨Ao22, co22, eo22⟩ := Kd.R_slice HO113.out; subst eo22) | (go_at_call 23; (with_reducible refine (walkmillref06_Like.calls k _ _ t105 _ _ t111 true _ ?side1 ?side2 ?side3 ?side4 A14.out).mono ?_); (case side1 => exact pC (Kd.R_reads' HO108.out).2.2); (case side2 => exact (Kd.R_reads' HO108.out).2.1); (case side3 => exact pC (Kd.R_reads' HO113.out).2.2); (case side4 => exact (Kd.R_reads' HO113.out).2.1); rintro e w' ⟨rfl, ⟨nd, rfl⟩⟩) | (go_at_call 15; (with_reducible refine (walkmilllaw06_known.calls k  t115 _ A16.out).mono ?_); rintro e w23 ⟨rfl, hb⟩; replace HO104 := rb HO104 hb; replace HO108 := rb HO108 hb; replace HO113 := rb HO113 hb; replace HB := bs HB hb; (try clear hb); (try clear hb2); (try clear hk); (try clear hi)))
      go_ret
      exact ⟨eT, pE HB⟩
     ·replace c15 := Bool.eq_false_iff.mpr c15
      subst c15
      rw [if_neg (show ¬ (false = true) by decide)] at H
      exact absurd ((Option.some.inj H).trans HRT.out) (by simp)
    ·rw [if_neg c12] at H
     have c12b0 : (t106 == 0) = false := beq_eq_false_iff_ne.mpr c12
     have c12b1 : (t106 != 0) = true := bne_iff_ne.mpr c12
     exact absurd ((Option.some.inj H).trans HRT.out) (by simp)
   ·rw [if_neg c11] at H
    have c11b0 : (t110 == 0) = false := beq_eq_false_iff_ne.mpr c11
    have c11b1 : (t110 != 0) = true := bne_iff_ne.mpr c11
    by_cases c24 : t106 = t110
    ·rw [if_pos c24] at H
     have c24b0 : (t106 == t110) = true := beq_iff_eq.mpr c24
     have c24b1 : (t106 != t110) = false := bne_eq_false_iff_eq.mpr c24
     clear c24
     by_cases c25 : (t105.length : Int) = 0
     ·rw [if_pos c25] at H
      have c25b0 : ((t105.length : Int) == 0) = true := beq_iff_eq.mpr c25
      have c25b1 : ((t105.length : Int) != 0) = false := bne_eq_false_iff_eq.mpr c25
      clear c25
      obtain ⟨t116, A26, H⟩ := bi H
      obtain rfl := Option.some.inj H
      go_enter Tryz.func9, Tryz.ntmps9
      go_wp2_with (first | ((with_reducible refine gc 17 rfl ?_); refine gL 14 Tryz.func17 #[.slice A0 l0.length c0] ?_; (with_reducible refine (walkmillref06_Ints.calls _ _ l0 t102 _ ?side1 ?side2 A6.out).mono ?_); (case side1 => exact pC HR0.out); (case side2 => exact HC0.out); rintro e w27 ⟨v103, rfl, ho0, hb⟩; refine ⟨_, rfl, ?_⟩; have HO104 := rl ho0 HB; replace HB := bs HB hb; clear hb ho0; obtain ⟨Ao28, co28, eo28⟩ := Kd.R_slice HO104.out; subst eo28) | ((with_reducible refine gc 49 rfl ?_); refine gL 18 Tryz.func49 #[.slice Ao28 t102.length co28, .int .i64 a1] ?_; (with_reducible refine (soap_Share.calls k _ _ t102 a1 t105 t106 _ ?side1 ?side2 A7.out).mono ?_); (case side1 => exact pC (Kd.R_reads' HO104.out).2.2); (case side2 => exact (Kd.R_reads' HO104.out).2.1); rintro e w29 ⟨v107, rfl, ho0, hb⟩; refine ⟨_, rfl, ?_⟩; have HO108 := Aside0.mk (Kd.R_lower (Kd.R_new' ho0 (Kd.R_lt (pR HO104.out))) (below_size (pE HB))); replace HO104 := re HO104 ho0 hb; replace HB := bs HB hb; clear hb ho0) | ((with_reducible refine gc 23 rfl ?_); refine gL 23 Tryz.func23 #[.slice Ao28 t102.length co28, .slice A0 l0.length c0] ?_; (with_reducible refine (walkmillref06_Like.calls k _ _ t102 _ _ l0 true _ ?side1 ?side2 ?side3 ?side4 A8.out).mono ?_); (case side1 => exact pC (Kd.R_reads' HO104.out).2.2); (case side2 => exact (Kd.R_reads' HO104.out).2.1); (case side3 => exact pC (Kd.C_below HR0.out HB.out)); (case side4 => exact HC0.out); rintro e w' ⟨rfl, ⟨nd, rfl⟩⟩; refine ⟨_, rfl, ?_⟩) | ((with_reducible refine gc 50 rfl ?_); refine gL 27 Tryz.func50 #[.slice A0 l0.length c0, .int .i64 a1] ?_; (with_reducible refine (walkmillref06_Shares.calls k _ _ l0 a1 t110 _ ?side1 ?side2 A10.out).mono ?_); (case side1 => exact pC (Kd.C_below HR0.out (pE HB))); (case side2 => exact HC0.out); rintro e w' ⟨rfl, ⟨nd, rfl⟩⟩; refine ⟨_, rfl, ?_⟩; obtain ⟨Ao30, co30, eo30⟩ := Kd.R_slice HO108.out; subst eo30) | (go_at_call 15; (with_reducible refine (walkmilllaw06_known.calls k  t116 _ A26.out).mono ?_); rintro e w31 ⟨rfl, hb⟩; replace HO104 := rb HO104 hb; replace HO108 := rb HO108 hb; replace HB := bs HB hb; (try clear hb); (try clear hb2); (try clear hk); (try clear hi)))
      go_ret
      exact ⟨eT, pE HB⟩
     ·rw [if_neg c25] at H
      have c25b0 : ((t105.length : Int) == 0) = false := beq_eq_false_iff_ne.mpr c25
      have c25b1 : ((t105.length : Int) != 0) = true := bne_iff_ne.mpr c25
      have c25b2 : ¬ (t105 = []) := fun h_ => c25 (by rw [h_]; rfl)
      exact absurd ((Option.some.inj H).trans HRT.out) (by simp)
    ·rw [if_neg c24] at H
     have c24b0 : (t106 == t110) = false := beq_eq_false_iff_ne.mpr c24
     have c24b1 : (t106 != t110) = true := bne_iff_ne.mpr c24
     exact absurd ((Option.some.inj H).trans HRT.out) (by simp)
  ·replace c9 := Bool.eq_false_iff.mpr c9
   subst c9
   rw [if_neg (show ¬ (false = true) by decide)] at H
   exact absurd ((Option.some.inj H).trans HRT.out) (by simp)
end Go.Proofs.YtjaapkkpmegkfaaGreat.P
namespace Go.Proofs.YtjaapkkpmegkfaaGreat.P
open Go.RowKit Go.Proofs.YtjaapkkpmegkfaaGreatW.PrintWords Go.Proofs.YtjaapkkpmegkfaaGreatW.PrintLast Go.Proofs.YtjaapkkpmegkfaaGreatW.PrintMore
theorem set_map_range {α : Type _} (n a : Nat) (v : α) (f : Nat → α) : ((List.range n).map f).set a v = (List.range n).map (fun i => if i = a then v else f i) := by
  apply List.ext_getElem
  · simp
  · intro i h1 h2
    simp only [List.getElem_set, List.getElem_map, List.getElem_range]
    by_cases h : a = i
    · subst h; simp
    · rw [if_neg h, if_neg (fun e => h e.symm)]
def Rr (r : Nat → Int) (a b : Nat) : Prop := r a > r b ∨ (r a = r b ∧ a < b)
def left (r : Nat → Int) (n : Nat) (T : List Nat) : List Int := (List.range n).map fun i => if i ∈ T then -1 else r i
def more (f : Nat → Int) (n : Nat) (T : List Nat) : List Int := (List.range n).map fun i => if i ∈ T then f i + 1 else f i
theorem left_set (r : Nat → Int) (n : Nat) (T : List Nat) (a : Nat) : (left r n T).set a (-1) = left r n (T ++ [a]) := by
  unfold left
  rw [set_map_range]
  apply List.map_congr_left
  intro i _
  by_cases h : i = a
  · subst h; simp
  · by_cases h' : i ∈ T <;> simp [h, h']
theorem more_set (f : Nat → Int) (n : Nat) (T : List Nat) (a : Nat) (h : a ∉ T) : (more f n T).set a (f a + 1) = more f n (T ++ [a]) := by
  unfold more
  rw [set_map_range]
  apply List.map_congr_left
  intro i _
  by_cases h : i = a
  · subst h; simp
  · by_cases h' : i ∈ T <;> simp [h, h']
theorem next_at {r : Nat → Int} {n : Nat} {L : List Nat} (hp : L.Pairwise (Rr r)) (hin : ∀ i, i ∈ L ↔ i < n) (hr : ∀ i < n, 0 ≤ r i) {j : Nat} (hj : j < L.length)
    {a : Nat} (ha : a < n) (hmax : ∀ i < n, (left r n (L.take j)).getD i 0 ≤ (left r n (L.take j)).getD a 0) (hfst : ∀ i < a, (left r n (L.take j)).getD i 0 < (left r n (L.take j)).getD a 0) : a = L[j] := by
  have hg : ∀ i < n, (left r n (L.take j)).getD i 0 = if i ∈ L.take j then -1 else r i := fun i hi => by
    unfold left; rw [List.getD_eq_getElem?_getD, List.getElem?_map, List.getElem?_range hi]; rfl
  have hd : L.drop j = L[j] :: L.drop (j + 1) := List.drop_eq_getElem_cons hj
  have hsplit : L = L.take j ++ L[j] :: L.drop (j + 1) := by rw [← hd, List.take_append_drop]
  have hp2 := hp
  rw [hsplit, List.pairwise_append, List.pairwise_cons] at hp2
  obtain ⟨p1, ⟨p2, p3⟩, p4⟩ := hp2
  have hLn : L[j] < n := (hin _).1 (List.getElem_mem hj)
  have hnot : L[j] ∉ L.take j := fun h => by
    have := p4 _ h L[j] (List.mem_cons_self ..)
    unfold Rr at this; omega
  have h1 := hmax _ hLn
  rw [hg _ hLn, if_neg hnot, hg _ ha] at h1
  have hanot : a ∉ L.take j := fun h => by
    rw [if_pos h] at h1
    have := hr _ hLn; omega
  rw [if_neg hanot] at h1
  have haL : a ∈ L := (hin a).2 ha
  rw [hsplit] at haL
  rcases List.mem_append.1 haL with h | h
  · exact absurd h hanot
  · rcases List.mem_cons.1 h with h | h
    · exact h
    · have := p2 a h
      unfold Rr at this
      rcases this with h | ⟨h, h'⟩
      · omega
      · have := hfst _ h'
        rw [hg _ hLn, if_neg hnot, hg _ ha, if_neg hanot] at this
        omega
theorem miss (l : List Int) (m a : Int) : a * (l.map (fun p => m * p / a)).sum + (l.map (fun p => m * p % a)).sum = m * l.sum := by
  induction l with
  | nil => simp
  | cons p l ih =>
    simp only [List.map_cons, List.sum_cons, Int.mul_add]
    have := Int.mul_ediv_add_emod (m * p) a
    omega
theorem rests (l : List Int) (m a : Int) (ha : 0 < a) : 0 ≤ (l.map (fun p => m * p % a)).sum ∧ (l.map (fun p => m * p % a)).sum ≤ a * l.length := by
  induction l with
  | nil => simp
  | cons p l ih =>
    simp only [List.map_cons, List.sum_cons, List.length_cons]
    have h1 := Int.emod_nonneg (m * p) (show a ≠ 0 by omega)
    have h2 := Int.emod_lt_of_pos (m * p) ha
    have h3 : a * ((l.length + 1 : Nat) : Int) = a * l.length + a := by rw [Int.natCast_add, Int.mul_add]; omega
    omega
theorem missing (l : List Int) (m : Int) (ha : 0 < l.sum) : 0 ≤ m - (l.map (fun p => m * p / l.sum)).sum ∧ m - (l.map (fun p => m * p / l.sum)).sum ≤ l.length := by
  have h1 := miss l m l.sum
  have ⟨h2, h3⟩ := rests l m l.sum ha
  generalize (l.map (fun p => m * p / l.sum)).sum = s at *
  generalize l.sum = a at *
  have h4 : a * (m - s) ≤ a * l.length := by rw [Int.mul_sub, Int.mul_comm a m]; omega
  have h5 : a * 0 ≤ a * (m - s) := by rw [Int.mul_sub, Int.mul_comm a m]; omega
  exact ⟨Int.le_of_mul_le_mul_left h5 ha, Int.le_of_mul_le_mul_left h4 ha⟩
theorem Rr_trans {r : Nat → Int} {a b c : Nat} (h : Rr r a b) (g : Rr r b c) : Rr r a c := by unfold Rr at *; omega
theorem Rr_irrefl {r : Nat → Int} {a : Nat} : ¬ Rr r a a := by unfold Rr; omega
theorem Rr_total {r : Nat → Int} {a b : Nat} (h : a ≠ b) : Rr r a b ∨ Rr r b a := by unfold Rr; omega
theorem ins_sorted {r : Nat → Int} {x : Nat} (P Q : List Nat) (hs : (P ++ Q).Pairwise (Rr r)) (hlt : ∀ y ∈ P ++ Q, y < x)
    (hQ : ∀ y ∈ Q, r y < r x) (hP : ∀ y, P.getLast? = some y → r x ≤ r y) : (P ++ x :: Q).Pairwise (Rr r) := by
  rw [List.pairwise_append] at hs ⊢
  obtain ⟨h1, h2, h3⟩ := hs
  refine ⟨h1, ?_, ?_⟩
  · rw [List.pairwise_cons]
    exact ⟨fun y hy => Or.inl (hQ y hy), h2⟩
  · intro a ha b hb
    rcases List.mem_cons.1 hb with rfl | hb
    · have hne : P ≠ [] := List.ne_nil_of_mem ha
      have hl := hP (P.getLast hne) (by rw [List.getLast?_eq_some_getLast hne])
      have hax : a < b := hlt a (List.mem_append_left _ ha)
      have hlx : P.getLast hne < b := hlt _ (List.mem_append_left _ (List.getLast_mem hne))
      by_cases he : a = P.getLast hne
      · subst he; unfold Rr; omega
      · have := List.dropLast_concat_getLast hne
        rw [← this] at h1 ha
        rw [List.pairwise_append] at h1
        have ha' : a ∈ P.dropLast := by
          rcases List.mem_append.1 ha with h | h
          · exact h
          · exact absurd (List.mem_singleton.1 h) he
        have := h1.2.2 a ha' (P.getLast hne) (by simp)
        unfold Rr at this ⊢; omega
    · exact h3 a ha b hb
def rr (m a : Int) (ps : List Int) (i : Nat) : Int := m * ps.getD i 0 % a
def fl (m a : Int) (ps : List Int) (i : Nat) : Int := m * ps.getD i 0 / a
def cs (l : List Nat) : List Int := l.map fun i : Nat => (i : Int)
structure Okp (m a : Int) (ps : List Int) : Prop where
  len : ps.length ≤ 6
  one : ∀ p ∈ ps, 1 ≤ p ∧ p ≤ 100
  m0 : 0 ≤ m
  m1 : m ≤ 100000
  a0 : 1 ≤ a
  a1 : a ≤ 600
theorem Okp.get {m a : Int} {ps : List Int} (h : Okp m a ps) {i : Nat} (hi : i < ps.length) : 1 ≤ ps.getD i 0 ∧ ps.getD i 0 ≤ 100 := by
  rw [List.getD_eq_getElem?_getD, List.getElem?_eq_getElem hi]; exact h.one _ (List.getElem_mem hi)
theorem Okp.mul {m a : Int} {ps : List Int} (h : Okp m a ps) {i : Nat} (hi : i < ps.length) : 0 ≤ m * ps.getD i 0 ∧ m * ps.getD i 0 ≤ 10000000 := by
  have h1 := h.get hi
  have h2 : m * ps.getD i 0 ≤ 100000 * ps.getD i 0 := Int.mul_le_mul_of_nonneg_right h.m1 (by omega)
  exact ⟨Int.mul_nonneg h.m0 (by omega), by omega⟩
theorem Okp.rst {m a : Int} {ps : List Int} (h : Okp m a ps) {i : Nat} (hi : i < ps.length) : 0 ≤ rr m a ps i ∧ rr m a ps i < 600 := by
  have := Int.emod_nonneg (m * ps.getD i 0) (show a ≠ 0 by have := h.a0; omega)
  have := Int.emod_lt_of_pos (m * ps.getD i 0) (show 0 < a by have := h.a0; omega)
  have := h.a1
  unfold rr; omega
theorem share1_eq {m a : Int} {ps : List Int} (h : Okp m a ps) {i j : Nat} (hi : i < ps.length) (hj : j < ps.length) : soap_Share_1.f (i : Int) (j : Int) m ps a = some (rr m a ps j - rr m a ps i) := by
  have h1 := h.mul hi
  have h2 := h.mul hj
  have h3 := h.rst hi
  have h4 := h.rst hj
  have ha := h.a0
  unfold soap_Share_1.f
  rw [if_pos (by omega), if_pos (by omega), if_neg (by omega), if_pos (by omega), if_pos (by omega)]
  have e1 : rd ps (i : Int) = ps.getD i 0 := rfl
  have e2 : rd ps (j : Int) = ps.getD j 0 := rfl
  rw [e1, e2, w64 (x := m * ps.getD j 0) (by omega), w64 (x := m * ps.getD i 0) (by omega), Int.tmod_eq_emod_of_nonneg h1.1, Int.tmod_eq_emod_of_nonneg h2.1]
  have e3 : m * ps.getD i 0 % a = rr m a ps i := rfl
  have e4 : m * ps.getD j 0 % a = rr m a ps j := rfl
  rw [e3, e4, w64 (by omega)]
theorem rd_cs_mid (P S : List Nat) (x : Nat) : rd (cs (P ++ x :: S)) (P.length : Int) = (x : Int) := by
  rw [rd_nat (by simp [cs])]; simp [cs]
theorem ins1 {m a : Int} {ps : List Int} (h : Okp m a ps) (i n : Nat) (x : Nat) (hx : x < ps.length) (hn : n ≤ 6) : ∀ (d : Nat) (P S : List Nat) (k : Nat), P.length = d → (∀ y ∈ P, y < ps.length) → (P ++ x :: S).length = n → d < k →
    ∃ P' P'' k', P = P' ++ P'' ∧ (∀ y ∈ P'', rr m a ps y < rr m a ps x) ∧ (∀ y, P'.getLast? = some y → rr m a ps x ≤ rr m a ps y) ∧ k ≤ k' + d + 1 ∧
      slices_insertionSortCmpFunc_int_at_soap_Share_1.l1 k (cs (P ++ x :: S)) 0 (n : Int) (i : Int) (d : Int) m ps a = slices_insertionSortCmpFunc_int_at_soap_Share_1.l0 k' (cs (P' ++ x :: (P'' ++ S))) 0 (n : Int) (wrap64 ((i : Int) + 1)) m ps a := by
  intro d
  induction d with
  | zero =>
    intro P S k hP hy hl hk
    obtain ⟨k, rfl⟩ : ∃ q, k = q + 1 := ⟨k - 1, by omega⟩
    obtain rfl := List.length_eq_zero_iff.1 hP
    refine ⟨[], [], k, rfl, by simp, by simp, by omega, ?_⟩
    simp only [slices_insertionSortCmpFunc_int_at_soap_Share_1.l1]
    rw [if_neg (by omega)]; rfl
  | succ d ih =>
    intro P S k hP hy hl hk
    obtain ⟨k, rfl⟩ : ∃ q, k = q + 1 := ⟨k - 1, by omega⟩
    have hne : P ≠ [] := by intro e; subst e; simp at hP
    obtain ⟨Q, y, rfl⟩ : ∃ Q y, P = Q ++ [y] := ⟨P.dropLast, P.getLast hne, (List.dropLast_concat_getLast hne).symm⟩
    have hQ : Q.length = d := by simpa using hP
    have hyl : y < ps.length := hy y (by simp)
    have hlen : (cs (Q ++ [y] ++ x :: S)).length = n := by unfold cs; rw [List.length_map]; exact hl
    have hd : d + 1 < n := by rw [← hl]; simp; omega
    have hw : wrap64 (((d + 1 : Nat) : Int) - 1) = (d : Int) := by rw [w64 (by omega)]; omega
    have e1 : rd (cs (Q ++ [y] ++ x :: S)) ((d + 1 : Nat) : Int) = (x : Int) := by rw [← hP]; exact rd_cs_mid _ _ _
    have e2 : rd (cs (Q ++ [y] ++ x :: S)) (d : Int) = (y : Int) := by
      rw [List.append_assoc, ← hQ]; exact rd_cs_mid Q (x :: S) y
    have e3 : ((cs (Q ++ [y] ++ x :: S)).set ((d + 1 : Nat) : Int).toNat (y : Int)).set ((d : Nat) : Int).toNat (x : Int) = cs (Q ++ x :: (y :: S)) := by
      rw [Int.toNat_natCast, Int.toNat_natCast]
      simp only [cs, List.map_append, List.map_cons, List.map_nil, List.append_assoc, List.singleton_append]
      rw [List.set_append_right _ _ (by simp; omega), List.set_append_right _ _ (by simp; omega)]
      have g1 : d + 1 - (List.map (fun i : Nat => (i : Int)) Q).length = 1 := by simp; omega
      have g2 : d - (List.map (fun i : Nat => (i : Int)) Q).length = 0 := by simp; omega
      rw [g1, g2]; rfl
    have hstep := share1_eq h hx hyl
    by_cases hc : rr m a ps y < rr m a ps x
    · obtain ⟨P', P'', k', g1, g2, g3, g4, g5⟩ := ih Q (y :: S) k hQ (fun z hz => hy z (by simp [hz])) (by rw [← hl]; simp) (by omega)
      refine ⟨P', P'' ++ [y], k', by rw [g1]; simp, ?_, g3, by omega, ?_⟩
      · intro z hz
        rcases List.mem_append.1 hz with hz | hz
        · exact g2 z hz
        · rw [List.mem_singleton.1 hz]; exact hc
      · simp only [slices_insertionSortCmpFunc_int_at_soap_Share_1.l1]
        rw [if_pos (by omega), if_pos (by omega), if_pos (by omega), hw, if_pos (by omega), if_pos (by omega), e1, e2, hstep]
        simp only [Option.bind_some]
        rw [if_pos (by omega), e3, g5]
        simp
    · refine ⟨Q ++ [y], [], k, by simp, by simp, ?_, by omega, ?_⟩
      · intro z hz
        rw [List.getLast?_concat] at hz
        obtain rfl := Option.some.inj hz
        omega
      · simp only [slices_insertionSortCmpFunc_int_at_soap_Share_1.l1]
        rw [if_pos (by omega), if_pos (by omega), if_pos (by omega), hw, if_pos (by omega), if_pos (by omega), e1, e2, hstep]
        simp only [Option.bind_some]
        rw [if_neg (by omega)]
        simp
theorem ins0 {m a : Int} {ps : List Int} (h : Okp m a ps) : ∀ (d : Nat) (P : List Nat) (k : Nat), P.length + d = ps.length → 10 * d < k → P.Pairwise (Rr (rr m a ps)) → (∀ y, y ∈ P ↔ y < P.length) →
    ∃ L : List Nat, slices_insertionSortCmpFunc_int_at_soap_Share_1.l0 k (cs (P ++ (List.range' P.length d))) 0 (ps.length : Int) (P.length : Int) m ps a = some (cs L) ∧ L.Pairwise (Rr (rr m a ps)) ∧ (∀ y, y ∈ L ↔ y < ps.length) ∧ L.length = ps.length := by
  have h6 := h.len
  intro d
  induction d with
  | zero =>
    intro P k hP hk hs hm
    obtain ⟨k, rfl⟩ : ∃ q, k = q + 1 := ⟨k - 1, by omega⟩
    refine ⟨P, ?_, hs, by rw [show ps.length = P.length by omega]; exact hm, by omega⟩
    simp only [slices_insertionSortCmpFunc_int_at_soap_Share_1.l0]
    rw [if_neg (by omega)]; simp
  | succ d ih =>
    intro P k hP hk hs hm
    obtain ⟨k, rfl⟩ : ∃ q, k = q + 1 := ⟨k - 1, by omega⟩
    simp only [slices_insertionSortCmpFunc_int_at_soap_Share_1.l0]
    rw [if_pos (by omega), List.range'_succ]
    obtain ⟨P', P'', k', g1, g2, g3, g4, g5⟩ := ins1 h P.length ps.length P.length (by omega) h6 P.length P (List.range' (P.length + 1) d) k rfl (fun y hy => by have := (hm y).1 hy; omega) (by simp; omega) (by omega)
    rw [g5]
    have hlen : P'.length + P''.length = P.length := by rw [g1]; simp
    have hw : wrap64 ((P.length : Int) + 1) = ((P' ++ P.length :: P'').length : Int) := by rw [w64 (by omega)]; simp; omega
    have hnew : P' ++ P.length :: (P'' ++ List.range' (P.length + 1) d) = (P' ++ P.length :: P'') ++ List.range' (P' ++ P.length :: P'').length d := by
      have : (P' ++ P.length :: P'').length = P.length + 1 := by simp; omega
      rw [this]; simp
    rw [hw, hnew]
    refine ih (P' ++ P.length :: P'') k' (by simp; omega) (by omega) ?_ ?_
    · exact ins_sorted P' P'' (by rw [← g1]; exact hs) (fun y hy => by rw [← g1] at hy; exact (hm y).1 hy) g2 g3
    · intro y
      have : (P' ++ P.length :: P'').length = P.length + 1 := by simp; omega
      rw [this]
      constructor
      · intro hy
        rcases List.mem_append.1 hy with hy | hy
        · have := (hm y).1 (by rw [g1]; exact List.mem_append_left _ hy); omega
        · rcases List.mem_cons.1 hy with hy | hy
          · omega
          · have := (hm y).1 (by rw [g1]; exact List.mem_append_right _ hy); omega
      · intro hy
        by_cases e : y = P.length
        · subst e; simp
        · have := (hm y).2 (by omega)
          rw [g1] at this
          rcases List.mem_append.1 this with h | h
          · exact List.mem_append_left _ h
          · exact List.mem_append_right _ (List.mem_cons_of_mem _ h)
theorem sort_eq {m a : Int} {ps : List Int} (h : Okp m a ps) (h1 : 1 ≤ ps.length) {k : Nat} (hk : 100 < k) : ∃ L : List Nat, slices_SortStableFunc_int_int_at_soap_Share_1.f k (cs (List.range ps.length)) m ps a = some (cs L) ∧ L.Pairwise (Rr (rr m a ps)) ∧ (∀ y, y ∈ L ↔ y < ps.length) ∧ L.length = ps.length := by
  have h6 := h.len
  obtain ⟨d, hd⟩ : ∃ d, ps.length = d + 1 := ⟨ps.length - 1, by omega⟩
  obtain ⟨k, rfl⟩ : ∃ q, k = q + 1 := ⟨k - 1, by omega⟩
  obtain ⟨L, g1, g2, g3, g4⟩ := ins0 h d [0] k (by simp; omega) (by omega) (List.pairwise_singleton ..) (by simp)
  refine ⟨L, ?_, g2, g3, g4⟩
  have e : cs (List.range ps.length) = cs ([0] ++ List.range' 1 d) := by
    rw [hd, List.range_eq_range', List.range'_succ]; rfl
  have hl : (cs (List.range ps.length)).length = ps.length := by simp [cs]
  unfold slices_SortStableFunc_int_int_at_soap_Share_1.f slices_stableCmpFunc_int_at_soap_Share_1.f
  simp only [slices_stableCmpFunc_int_at_soap_Share_1.l0]
  rw [hl, if_neg (by omega)]
  unfold slices_insertionSortCmpFunc_int_at_soap_Share_1.f
  rw [show wrap64 (0 + 1) = (1 : Int) from w64 (by omega), e]
  have g1' : slices_insertionSortCmpFunc_int_at_soap_Share_1.l0 k (cs ([0] ++ List.range' 1 d)) 0 (ps.length : Int) 1 m ps a = some (cs L) := g1
  rw [g1']
  obtain ⟨k, rfl⟩ : ∃ q, k = q + 1 := ⟨k - 1, by omega⟩
  simp only [Option.bind_some, slices_stableCmpFunc_int_at_soap_Share_1.l1]
  rw [if_neg (by omega)]; rfl
theorem sum_at (l : List Int) (hl : l.length ≤ 100) (hb : ∀ x ∈ l, 0 ≤ x ∧ x ≤ 100000000) : ∀ (d : Nat) (k i : Nat) (s : Int), i + d = l.length → d < k → 0 ≤ s → s ≤ 100000000 * (i : Int) → soap_sum_int.l0 k s l (l.length : Int) (i : Int) = some (s + (l.drop i).sum) := by
  intro d
  induction d with
  | zero =>
    intro k i s hi hk _ _
    obtain ⟨k, rfl⟩ : ∃ q, k = q + 1 := ⟨k - 1, by omega⟩
    simp only [soap_sum_int.l0]
    rw [if_neg (by omega), List.drop_of_length_le (by omega)]; simp
  | succ d ih =>
    intro k i s hi hk h0 h1
    obtain ⟨k, rfl⟩ : ∃ q, k = q + 1 := ⟨k - 1, by omega⟩
    have hlt : i < l.length := by omega
    have hx := hb l[i] (List.getElem_mem hlt)
    simp only [soap_sum_int.l0]
    rw [if_pos (by omega), if_pos (by omega), if_pos (by omega), rd_nat hlt, w64 (x := s + l[i]) (by omega), w64 (by omega), List.drop_eq_getElem_cons hlt, List.sum_cons]
    have := ih k (i + 1) (s + l[i]) (by omega) (by omega) (by omega) (by omega)
    rw [show ((i : Int) + 1) = ((i + 1 : Nat) : Int) by omega, this, Int.add_assoc]
theorem sum_eq (l : List Int) (hl : l.length ≤ 100) (hb : ∀ x ∈ l, 0 ≤ x ∧ x ≤ 100000000) {k : Nat} (hk : l.length < k) : soap_sum_int.f k l = some l.sum := by
  unfold soap_sum_int.f
  have := sum_at l hl hb l.length k 0 0 (by omega) hk (by omega) (by omega)
  simpa using this
theorem share_l1 {m a : Int} {ps : List Int} (h : Okp m a ps) (T : List Nat) (hT : T.Nodup) (hin : ∀ y ∈ T, y < ps.length) (hTl : T.length ≤ 6) : ∀ (d : Nat) (k j : Nat), j + d = T.length → d < k →
    soap_Share.l1 k (more (fl m a ps) ps.length (T.take j)) (cs T) (T.length : Int) (j : Int) = some (more (fl m a ps) ps.length T, 0) := by
  have hcl : (cs T).length = T.length := by simp [cs]
  have h6 := h.len
  intro d
  induction d with
  | zero =>
    intro k j hj hk
    obtain ⟨k, rfl⟩ : ∃ q, k = q + 1 := ⟨k - 1, by omega⟩
    simp only [soap_Share.l1]
    rw [if_neg (by omega), List.take_of_length_le (by omega)]
  | succ d ih =>
    intro k j hj hk
    obtain ⟨k, rfl⟩ : ∃ q, k = q + 1 := ⟨k - 1, by omega⟩
    have hlt : j < T.length := by omega
    have hrd : rd (cs T) (j : Int) = (T[j] : Int) := by rw [rd_nat (by omega)]; simp [cs]
    have hTj := hin T[j] (List.getElem_mem hlt)
    have hnot : T[j] ∉ T.take j := by
      intro e
      obtain ⟨q, hq, e⟩ := List.getElem_of_mem e
      rw [List.getElem_take] at e
      simp only [List.length_take] at hq
      exact (List.pairwise_iff_getElem.1 hT) q j (by omega) hlt (by omega) e
    have hml : (more (fl m a ps) ps.length (T.take j)).length = ps.length := by simp [more]
    have hfl : 0 ≤ fl m a ps T[j] ∧ fl m a ps T[j] ≤ 10000000 := by
      have h1 := h.mul hTj
      have h2 := h.a0
      unfold fl
      refine ⟨Int.ediv_nonneg h1.1 (by omega), Int.le_trans (Int.ediv_le_self _ h1.1) h1.2⟩
    have hat : rd (more (fl m a ps) ps.length (T.take j)) ((T[j] : Nat) : Int) = fl m a ps T[j] := by
      rw [rd_nat (by omega)]; simp [more, hnot]
    simp only [soap_Share.l1]
    rw [if_pos (by omega), if_pos (by omega), if_pos (by omega), hrd, if_pos (by omega), if_pos (by omega), hat, Int.toNat_natCast, w64 (x := fl m a ps T[j] + 1) (by omega), more_set _ _ _ _ hnot, w64 (by omega)]
    have : T.take j ++ [T[j]] = T.take (j + 1) := by rw [List.take_succ_eq_append_getElem hlt]
    rw [this]
    exact ih k (j + 1) (by omega) (by omega)
def want (m : Int) (ps : List Int) (L : List Nat) : List Int := more (fl m ps.sum ps) ps.length (L.take (m - (ps.map fun p => m * p / ps.sum).sum).toNat)
theorem map_fl (m a : Int) (ps : List Int) : (List.range ps.length).map (fl m a ps) = ps.map fun p => m * p / a := by
  apply List.ext_getElem
  · simp
  · intro i h1 h2
    simp only [List.length_map, List.length_range] at h1
    simp [fl, List.getElem?_eq_getElem h1]
theorem share_at {m : Int} {ps : List Int} (h : Okp m ps.sum ps) (h1 : 1 ≤ ps.length) : ∃ L : List Nat, L.Pairwise (Rr (rr m ps.sum ps)) ∧ (∀ y, y ∈ L ↔ y < ps.length) ∧ L.length = ps.length ∧ ∀ (d k i : Nat), i + d = ps.length → d + 200 < k →
    soap_Share.l0 k ((ps.take i).map fun p => m * p / ps.sum) ((List.range ps.length).map fun j : Nat => if j < i then (j : Int) else 0) ps (ps.length : Int) (i : Int) ps m ps.sum = some (want m ps L, 0) := by
  have h6 := h.len
  have ha0 := h.a0
  have ha1 := h.a1
  have hm0 := h.m0
  have hm1 := h.m1
  obtain ⟨L, _, hL1, hL2, hL3⟩ := sort_eq h h1 (k := 101) (by omega)
  have hmiss := missing ps m (by omega)
  refine ⟨L, hL1, hL2, hL3, ?_⟩
  intro d
  induction d with
  | zero =>
    intro k i hi hk
    obtain ⟨k, rfl⟩ : ∃ q, k = q + 1 := ⟨k - 1, by omega⟩
    obtain ⟨L', hs, hL1', hL2', hL3'⟩ := sort_eq h h1 (k := k) (by omega)
    have hLL : L' = L := by
      refine List.Perm.eq_of_pairwise (le := Rr (rr m ps.sum ps)) ?_ hL1' hL1 ?_
      · intro a b _ _ f g; exact absurd (Rr_trans f g) Rr_irrefl
      · refine (List.perm_ext_iff_of_nodup ?_ ?_).2 fun y => by rw [hL2, hL2']
        · exact hL1'.imp (fun {a b} f e => by subst e; exact Rr_irrefl f)
        · exact hL1.imp (fun {a b} f e => by subst e; exact Rr_irrefl f)
    subst hLL
    have e1 : ((List.range ps.length).map fun j : Nat => if j < i then (j : Int) else 0) = cs (List.range ps.length) := by
      unfold cs; apply List.map_congr_left
      intro j hj
      rw [List.mem_range] at hj
      rw [if_pos (by omega)]
    have e2 : ps.take i = ps := List.take_of_length_le (by omega)
    have hl2 : (cs (List.range ps.length)).length = ps.length := by simp [cs]
    simp only [soap_Share.l0]
    rw [if_neg (by omega), e1, e2, hs]
    simp only [Option.bind_some]
    have hsum : soap_sum_int.f k (ps.map fun p => m * p / ps.sum) = some (ps.map fun p => m * p / ps.sum).sum := by
      refine sum_eq _ (by simp; omega) ?_ (by simp; omega)
      intro x hx
      obtain ⟨p, hp, rfl⟩ := List.mem_map.1 hx
      obtain ⟨j, hj, rfl⟩ := List.getElem_of_mem hp
      have h1 := h.mul hj
      have e : ps.getD j 0 = ps[j] := by simp [List.getElem?_eq_getElem hj]
      rw [e] at h1
      exact ⟨Int.ediv_nonneg h1.1 (by omega), Int.le_trans (Int.ediv_le_self _ h1.1) (by omega)⟩
    rw [hsum]
    simp only [Option.bind_some]
    unfold want
    generalize (ps.map fun p => m * p / ps.sum).sum = s at *
    rw [w64 (by omega), if_pos (by omega), hl2, if_pos (by omega)]
    have e3 : (cs L').take (m - s).toNat = cs (L'.take (m - s).toNat) := by unfold cs; rw [List.map_take]
    rw [e3]
    have e4 : ((cs (L'.take (m - s).toNat)).length : Int) = ((L'.take (m - s).toNat).length : Int) := by simp [cs]
    rw [e4]
    have e5 : ps.map (fun p => m * p / ps.sum) = more (fl m ps.sum ps) ps.length ((L'.take (m - s).toNat).take 0) := by
      rw [← map_fl]; simp [more]
    rw [e5]
    exact share_l1 h (L'.take (m - s).toNat) ((hL1'.imp (fun {a b} f e => by subst e; exact Rr_irrefl f) : L'.Nodup).sublist (List.take_sublist _ _)) (fun y hy => (hL2' y).1 (List.mem_of_mem_take hy)) (by simp; omega) _ k 0 (Nat.zero_add _) (by simp; omega)
  | succ d ih =>
    intro k i hi hk
    obtain ⟨k, rfl⟩ : ∃ q, k = q + 1 := ⟨k - 1, by omega⟩
    have hlt : i < ps.length := by omega
    have hmul := h.mul hlt
    have e : ps.getD i 0 = ps[i] := by simp [List.getElem?_eq_getElem hlt]
    rw [e] at hmul
    have hd1 := Int.ediv_nonneg hmul.1 (show 0 ≤ ps.sum by omega)
    have hd2 := Int.ediv_le_self ps.sum hmul.1
    simp only [soap_Share.l0]
    rw [if_pos (by omega), if_pos (by omega), if_pos (by omega), if_pos (by simp; omega), if_neg (by omega), if_pos (by simp; omega), rd_nat hlt, w64 (x := m * ps[i]) (by omega), Int.tdiv_eq_ediv_of_nonneg hmul.1, w64 (by omega), w64 (by omega)]
    have e1 : (ps.take i).map (fun p => m * p / ps.sum) ++ [m * ps[i] / ps.sum] = (ps.take (i + 1)).map (fun p => m * p / ps.sum) := by
      rw [List.take_succ_eq_append_getElem hlt, List.map_append]; rfl
    have e2 : ((List.range ps.length).map fun j : Nat => if j < i then (j : Int) else 0).set ((i : Int)).toNat (i : Int) = (List.range ps.length).map fun j : Nat => if j < i + 1 then (j : Int) else 0 := by
      rw [Int.toNat_natCast, set_map_range]
      apply List.map_congr_left
      intro j _
      by_cases hj : j = i
      · subst hj; simp
      · rw [if_neg hj]
        by_cases hj' : j < i
        · rw [if_pos hj', if_pos (by omega)]
        · rw [if_neg hj', if_neg (by omega)]
    rw [e1, e2]
    exact ih k (i + 1) (by omega) (by omega)
theorem Okp.of {m : Int} {ps : List Int} (h6 : (ps.length : Int) ≤ 6) (hne : (ps.length : Int) ≠ 0) (hw : (ps.all fun x => decide (1 ≤ x ∧ x ≤ 100)) = true) (hm : 0 ≤ m ∧ m ≤ 100000) : Okp m ps.sum ps := by
  have hone : ∀ p ∈ ps, 1 ≤ p ∧ p ≤ 100 := by simpa using hw
  have hs : ∀ l : List Int, (∀ p ∈ l, 1 ≤ p ∧ p ≤ 100) → (l.length : Int) ≤ l.sum ∧ l.sum ≤ 100 * (l.length : Int) := by
    intro l
    induction l with
    | nil => simp
    | cons x l ih =>
      intro hl
      have := hl x (by simp)
      have := ih fun p hp => hl p (by simp [hp])
      simp only [List.sum_cons, List.length_cons]
      omega
  have := hs ps hone
  exact ⟨by omega, hone, hm.1, hm.2, by omega, by omega⟩
theorem share_eq (m : Int) (ps : List Int) : (m < 0 ∨ 100000 < m ∨ ¬ (ps.all fun x => decide (1 ≤ x ∧ x ≤ 100)) = true ∨ (ps.length : Int) > 6 ∨ (ps.length : Int) = 0) ∧
      (∀ k, 300 < k → ps.length < k → soap_Share.f k ps m = some ([], if (ps.length : Int) > 6 then 5 else if (ps.length : Int) = 0 then 7 else if (ps.all fun x => decide (1 ≤ x ∧ x ≤ 100)) = true then 3 else 2)) ∨
    Okp m ps.sum ps ∧ 1 ≤ ps.length ∧ ∃ L : List Nat, L.Pairwise (Rr (rr m ps.sum ps)) ∧ (∀ y, y ∈ L ↔ y < ps.length) ∧ L.length = ps.length ∧ ∀ k, 300 < k → soap_Share.f k ps m = some (want m ps L, 0) := by
  by_cases h6 : (ps.length : Int) > 6
  · refine .inl ⟨by omega, fun k _ _ => ?_⟩
    unfold soap_Share.f
    rw [if_pos h6, if_pos h6]
  by_cases h0 : (ps.length : Int) = 0
  · refine .inl ⟨by omega, fun k _ _ => ?_⟩
    unfold soap_Share.f
    rw [if_neg h6, if_pos h0, if_neg h6, if_pos h0]
  by_cases hw : (ps.all fun x => decide (1 ≤ x ∧ x ≤ 100)) = true
  · by_cases hm : 0 ≤ m ∧ m ≤ 100000
    · have hok := Okp.of (m := m) (by omega) h0 hw hm
      have h1 : 1 ≤ ps.length := by omega
      obtain ⟨L, g1, g2, g3, g4⟩ := share_at hok h1
      refine .inr ⟨hok, h1, L, g1, g2, g3, fun k hk => ?_⟩
      unfold soap_Share.f
      rw [if_neg h6, if_neg h0, within_eq]
      simp only [Option.bind_some]
      rw [if_pos hw, within_eq]
      simp only [Option.bind_some]
      rw [if_pos (by simpa using hm), sum_eq ps (by have := hok.len; omega) (fun x hx => by have := hok.one x hx; omega) (by have := hok.len; omega)]
      simp only [Option.bind_some]
      rw [if_pos (by omega), if_pos (by have := hok.len; omega), Int.toNat_natCast]
      have e : List.replicate ps.length (0 : Int) = (List.range ps.length).map fun j : Nat => if j < 0 then (j : Int) else 0 := by
        apply List.ext_getElem
        · simp
        · intro i h1 h2; simp
      rw [e]
      exact g4 ps.length k 0 (Nat.zero_add _) (by have := hok.len; omega)
    · refine .inl ⟨by omega, fun k _ _ => ?_⟩
      unfold soap_Share.f
      rw [if_neg h6, if_neg h0, within_eq]
      simp only [Option.bind_some]
      rw [if_pos hw, within_eq]
      simp only [Option.bind_some]
      rw [if_neg (by simpa using hm), if_neg h6, if_neg h0, if_pos hw]
  · refine .inl ⟨.inr (.inr (.inl hw)), fun k _ _ => ?_⟩
    unfold soap_Share.f
    rw [if_neg h6, if_neg h0, within_eq]
    simp only [Option.bind_some]
    rw [if_neg hw, if_neg h6, if_neg h0, if_neg hw]
theorem rshares_at (ps : List Int) (m : Int) (h6 : ps.length ≤ 100) : ∀ (d k i : Nat), i + d = ps.length → d < k → walkmillref06_Shares.l0 k ps m (i : Int) = some (if ((ps.drop i).all fun x => decide (1 ≤ x ∧ x ≤ 100)) = true then if 0 ≤ m ∧ m ≤ 100000 then 0 else 3 else 2) := by
  intro d
  induction d with
  | zero =>
    intro k i hi hk
    obtain ⟨k, rfl⟩ : ∃ q, k = q + 1 := ⟨k - 1, by omega⟩
    simp only [walkmillref06_Shares.l0]
    rw [if_neg (by omega), List.drop_of_length_le (by omega), In_eq]
    simp only [Option.bind_some, List.all_nil, if_true, decide_eq_true_iff]
    by_cases h : 0 ≤ m ∧ m ≤ 100000
    · rw [if_pos h, if_pos h]
    · rw [if_neg h, if_neg h]
  | succ d ih =>
    intro k i hi hk
    obtain ⟨k, rfl⟩ : ∃ q, k = q + 1 := ⟨k - 1, by omega⟩
    have hlt : i < ps.length := by omega
    simp only [walkmillref06_Shares.l0]
    rw [if_pos (by omega), if_pos (by omega), rd_nat hlt, In_eq, w64 (by omega), show ((i : Int) + 1) = ((i + 1 : Nat) : Int) by omega, ih k (i + 1) (by omega) (by omega), List.drop_eq_getElem_cons hlt]
    simp only [Option.bind_some, decide_eq_true_iff, List.all_cons]
    by_cases h : 1 ≤ ps[i] ∧ ps[i] ≤ 100
    · rw [if_pos h]; simp only [decide_eq_true h, Bool.true_and]
    · rw [if_neg h]; simp only [decide_eq_false h, Bool.false_and]; rfl
theorem rshares_eq (ps : List Int) (m : Int) {k : Nat} (hk : 10 < k) : walkmillref06_Shares.f k ps m = some (if (ps.length : Int) > 6 then 5 else if (ps.length : Int) = 0 then 7 else if (ps.all fun x => decide (1 ≤ x ∧ x ≤ 100)) = true then if 0 ≤ m ∧ m ≤ 100000 then 0 else 3 else 2) := by
  unfold walkmillref06_Shares.f
  by_cases h1 : (ps.length : Int) > 6
  · rw [if_pos h1, if_pos h1]
  · rw [if_neg h1, if_neg h1]
    by_cases h2 : (ps.length : Int) = 0
    · rw [if_pos h2, if_pos h2]
    · rw [if_neg h2, if_neg h2]
      exact rshares_at ps m (by omega) ps.length k 0 (Nat.zero_add _) (by omega)
theorem ints_eq (l : List Int) (h : l.length ≤ 100) : walkmillref06_Ints.f l = some l := by
  unfold walkmillref06_Ints.f
  simp only [Option.bind_some, List.length_nil, List.nil_append]
  rw [if_pos (by omega)]
theorem sum_take_succ {l : List Int} {i : Nat} (h : i < l.length) : (l.take (i + 1)).sum = (l.take i).sum + l[i] := by
  rw [List.take_succ_eq_append_getElem h, List.sum_append]; simp
theorem sum_bd {l : List Int} {B : Int} (h : ∀ x ∈ l, 0 ≤ x ∧ x ≤ B) : 0 ≤ l.sum ∧ l.sum ≤ B * l.length := by
  induction l with
  | nil => simp
  | cons x l ih =>
    have h1 := h x (by simp)
    have h2 := ih fun y hy => h y (by simp [hy])
    have h3 : B * ((l.length + 1 : Nat) : Int) = B * l.length + B := by rw [Int.natCast_add, Int.mul_add]; omega
    simp only [List.sum_cons, List.length_cons]
    omega
theorem rshare_l0 {m : Int} {ps : List Int} (h : Okp m ps.sum ps) : ∀ (d k i : Nat), i + d = ps.length → d + 1 < k → ∃ k', k ≤ k' + d + 1 ∧ walkmillref06_Share.l0 k ps m [] (ps.take i).sum 0 (i : Int) = walkmillref06_Share.l1 k' ps m [] ps.sum 0 [] 0 := by
  have h6 := h.len
  intro d
  induction d with
  | zero =>
    intro k i hi hk
    obtain ⟨k, rfl⟩ : ∃ q, k = q + 1 := ⟨k - 1, by omega⟩
    refine ⟨k, by omega, ?_⟩
    simp only [walkmillref06_Share.l0]
    rw [if_neg (by omega), List.take_of_length_le (by omega)]
  | succ d ih =>
    intro k i hi hk
    obtain ⟨k, rfl⟩ : ∃ q, k = q + 1 := ⟨k - 1, by omega⟩
    have hlt : i < ps.length := by omega
    have h1 := sum_bd (l := ps.take (i + 1)) (B := 100) fun x hx => by have := h.one x (List.mem_of_mem_take hx); omega
    simp only [List.length_take] at h1
    obtain ⟨k', g1, g2⟩ := ih k (i + 1) (by omega) (by omega)
    refine ⟨k', by omega, ?_⟩
    simp only [walkmillref06_Share.l0]
    rw [if_pos (by omega), if_pos (by omega), rd_nat hlt, ← sum_take_succ hlt, w64 (x := (ps.take (i + 1)).sum) (by omega), w64 (by omega)]
    exact g2
theorem rshare_l1 {m a : Int} {ps : List Int} (h : Okp m a ps) : ∀ (d k i : Nat), i + d = ps.length → d + 1 < k → ∃ k', k ≤ k' + d + 1 ∧
    walkmillref06_Share.l1 k ps m ((ps.take i).map fun p => m * p / a) a ((ps.take i).map fun p => m * p / a).sum ((ps.take i).map fun p => m * p % a) (i : Int) = walkmillref06_Share.l2 k' m (ps.map fun p => m * p / a) (ps.map fun p => m * p / a).sum (ps.map fun p => m * p % a) := by
  have h6 := h.len
  have ha0 := h.a0
  intro d
  induction d with
  | zero =>
    intro k i hi hk
    obtain ⟨k, rfl⟩ : ∃ q, k = q + 1 := ⟨k - 1, by omega⟩
    refine ⟨k, by omega, ?_⟩
    simp only [walkmillref06_Share.l1]
    rw [if_neg (by omega), List.take_of_length_le (by omega)]
  | succ d ih =>
    intro k i hi hk
    obtain ⟨k, rfl⟩ : ∃ q, k = q + 1 := ⟨k - 1, by omega⟩
    have hlt : i < ps.length := by omega
    have hmul := h.mul hlt
    have e : ps.getD i 0 = ps[i] := by simp [List.getElem?_eq_getElem hlt]
    rw [e] at hmul
    have hd1 := Int.ediv_nonneg hmul.1 (show 0 ≤ a by omega)
    have hd2 := Int.ediv_le_self a hmul.1
    have hd3 := Int.mul_ediv_add_emod (m * ps[i]) a
    have hd4 := Int.emod_nonneg (m * ps[i]) (show a ≠ 0 by omega)
    have hcomm : m * ps[i] / a * a = a * (m * ps[i] / a) := Int.mul_comm _ _
    have hq0 : 0 ≤ m * ps[i] / a * a := Int.mul_nonneg hd1 (by omega)
    have hs := sum_bd (l := (ps.take (i + 1)).map fun p => m * p / a) (B := 10000000) fun x hx => by
      obtain ⟨p, hp, rfl⟩ := List.mem_map.1 hx
      obtain ⟨j, hj, rfl⟩ := List.getElem_of_mem (List.mem_of_mem_take hp)
      have h1 := h.mul hj
      have e : ps.getD j 0 = ps[j] := by simp [List.getElem?_eq_getElem hj]
      rw [e] at h1
      exact ⟨Int.ediv_nonneg h1.1 (by omega), Int.le_trans (Int.ediv_le_self _ h1.1) (by omega)⟩
    simp only [List.length_map, List.length_take] at hs
    obtain ⟨k', g1, g2⟩ := ih k (i + 1) (by omega) (by omega)
    refine ⟨k', by omega, ?_⟩
    have e1 : ∀ f : Int → Int, (ps.take (i + 1)).map f = (ps.take i).map f ++ [f ps[i]] := fun f => by rw [List.take_succ_eq_append_getElem hlt, List.map_append]; rfl
    have e2 : ((ps.take (i + 1)).map fun p => m * p / a).sum = ((ps.take i).map fun p => m * p / a).sum + m * ps[i] / a := by rw [e1, List.sum_append]; simp
    rw [e2] at g2 hs
    rw [e1, e1] at g2
    simp only [walkmillref06_Share.l1]
    rw [if_pos (by omega), if_pos (by omega), if_neg (by omega), rd_nat hlt, w64 (x := m * ps[i]) (by omega), Int.tdiv_eq_ediv_of_nonneg hmul.1, w64 (x := m * ps[i] / a) (by omega), w64 (x := m * ps[i] / a * a) (by omega), w64 (x := m * ps[i] - m * ps[i] / a * a) (by omega)]
    simp only [Option.bind_some]
    rw [if_pos (by simp; omega), if_pos (by simp; omega), w64 (x := _ + m * ps[i] / a) (by omega), w64 (x := (i : Int) + 1) (by omega), show m * ps[i] - m * ps[i] / a * a = m * ps[i] % a by omega]
    exact g2
theorem rshare_l3 (m c : Int) (X Y : List Int) (hX : X.length ≤ 6) (h0 : 1 ≤ X.length) (hY : Y.length = X.length) : ∀ (d k i at_ : Nat), i + d = X.length → d < k → at_ < i → (∀ j < i, X.getD j 0 ≤ X.getD at_ 0) → (∀ j < at_, X.getD j 0 < X.getD at_ 0) →
    ∃ a k', a < X.length ∧ (∀ j < X.length, X.getD j 0 ≤ X.getD a 0) ∧ (∀ j < a, X.getD j 0 < X.getD a 0) ∧ k ≤ k' + d + 1 ∧
      walkmillref06_Share.l3 k m Y c X (at_ : Int) (i : Int) = walkmillref06_Share.l2 k' m (Y.set a (wrap64 (Y.getD a 0 + 1))) (wrap64 (c + 1)) (X.set a (-1)) := by
  intro d
  induction d with
  | zero =>
    intro k i at_ hi hk hat h1 h2
    obtain ⟨k, rfl⟩ : ∃ q, k = q + 1 := ⟨k - 1, by omega⟩
    refine ⟨at_, k, by omega, fun j hj => h1 j (by omega), h2, by omega, ?_⟩
    simp only [walkmillref06_Share.l3]
    rw [if_neg (by omega), if_pos (by omega), if_pos (by omega), if_pos (by omega), Int.toNat_natCast]
    rfl
  | succ d ih =>
    intro k i at_ hi hk hat h1 h2
    obtain ⟨k, rfl⟩ : ∃ q, k = q + 1 := ⟨k - 1, by omega⟩
    simp only [walkmillref06_Share.l3]
    rw [if_pos (by omega), if_pos (by omega), if_pos (by omega), if_pos (by omega), w64 (by omega)]
    have e1 : rd X (i : Int) = X.getD i 0 := rfl
    have e2 : rd X (at_ : Int) = X.getD at_ 0 := rfl
    rw [e1, e2]
    by_cases hc : X.getD i 0 > X.getD at_ 0
    · rw [if_pos hc]
      obtain ⟨a, k', g1, g2, g3, g4, g5⟩ := ih k (i + 1) i (by omega) (by omega) (by omega) (fun j hj => by
        by_cases e : j = i
        · subst e; exact Int.le_refl _
        · have := h1 j (by omega); omega) (fun j hj => by have := h1 j hj; omega)
      exact ⟨a, k', g1, g2, g3, by omega, g5⟩
    · rw [if_neg hc]
      obtain ⟨a, k', g1, g2, g3, g4, g5⟩ := ih k (i + 1) at_ (by omega) (by omega) (by omega) (fun j hj => by
        by_cases e : j = i
        · subst e; omega
        · exact h1 j (by omega)) h2
      exact ⟨a, k', g1, g2, g3, by omega, g5⟩
theorem rshare_l2 {m a : Int} {ps : List Int} (h : Okp m a ps) (h1 : 1 ≤ ps.length) {L : List Nat} (hp : L.Pairwise (Rr (rr m a ps))) (hin : ∀ y, y ∈ L ↔ y < ps.length) (hL : L.length = ps.length) (c : Int) (hc0 : 0 ≤ c) (n : Nat) (hn : c + n = m) (hnl : n ≤ L.length) : ∀ (d k j : Nat), j + d = n → 20 * d < k →
    walkmillref06_Share.l2 k m (more (fl m a ps) ps.length (L.take j)) (c + j) (left (rr m a ps) ps.length (L.take j)) = some (more (fl m a ps) ps.length (L.take n)) := by
  have h6 := h.len
  have hm1 := h.m1
  intro d
  induction d with
  | zero =>
    intro k j hj hk
    obtain ⟨k, rfl⟩ : ∃ q, k = q + 1 := ⟨k - 1, by omega⟩
    simp only [walkmillref06_Share.l2]
    rw [if_neg (by omega), show j = n by omega]
  | succ d ih =>
    intro k j hj hk
    obtain ⟨k, rfl⟩ : ∃ q, k = q + 1 := ⟨k - 1, by omega⟩
    have hjl : j < L.length := by omega
    have hXl : (left (rr m a ps) ps.length (L.take j)).length = ps.length := by simp [left]
    have hYl : (more (fl m a ps) ps.length (L.take j)).length = ps.length := by simp [more]
    simp only [walkmillref06_Share.l2]
    rw [if_pos (by omega)]
    obtain ⟨b, k', g1, g2, g3, g4, g5⟩ := rshare_l3 m (c + j) (left (rr m a ps) ps.length (L.take j)) (more (fl m a ps) ps.length (L.take j)) (by omega) (by omega) (by omega) (ps.length - 1) k 1 0 (by omega) (by omega) (by omega) (fun i hi => by rw [show i = 0 by omega]; exact Int.le_refl _) (fun i hi => by omega)
    have hb : b = L[j] := next_at hp hin (fun i hi => (h.rst hi).1) hjl (by omega) (fun i hi => g2 i (by omega)) g3
    have g5' : walkmillref06_Share.l3 k m (more (fl m a ps) ps.length (L.take j)) (c + j) (left (rr m a ps) ps.length (L.take j)) 0 1 = _ := g5
    rw [g5']
    have hnot : b ∉ L.take j := by
      rw [hb]; intro e
      obtain ⟨q, hq, e⟩ := List.getElem_of_mem e
      rw [List.getElem_take] at e
      simp only [List.length_take] at hq
      have := (List.pairwise_iff_getElem.1 hp) q j (by omega) hjl (by omega)
      rw [e] at this; exact Rr_irrefl this
    have hbn : b < ps.length := by omega
    have hfl : 0 ≤ fl m a ps b ∧ fl m a ps b ≤ 10000000 := by
      have h1 := h.mul hbn
      have h2 := h.a0
      unfold fl
      exact ⟨Int.ediv_nonneg h1.1 (by omega), Int.le_trans (Int.ediv_le_self _ h1.1) h1.2⟩
    have hat : (more (fl m a ps) ps.length (L.take j)).getD b 0 = fl m a ps b := by
      rw [List.getD_eq_getElem?_getD, List.getElem?_eq_getElem (by omega)]; simp [more, hnot]
    rw [hat, w64 (x := fl m a ps b + 1) (by omega), more_set _ _ _ _ hnot, left_set, w64 (by omega), hb]
    have e : L.take j ++ [L[j]] = L.take (j + 1) := by rw [List.take_succ_eq_append_getElem hjl]
    rw [e, show c + (j : Int) + 1 = c + ((j + 1 : Nat) : Int) by omega]
    exact ih k' (j + 1) (by omega) (by omega)
theorem rshare_eq {m : Int} {ps : List Int} (h : Okp m ps.sum ps) (h1 : 1 ≤ ps.length) {L : List Nat} (hp : L.Pairwise (Rr (rr m ps.sum ps))) (hin : ∀ y, y ∈ L ↔ y < ps.length) (hL : L.length = ps.length) {k : Nat} (hk : 300 < k) : walkmillref06_Share.f k ps m = some (want m ps L) := by
  have h6 := h.len
  have ha := h.a0
  have hmiss := missing ps m (by omega)
  unfold walkmillref06_Share.f
  obtain ⟨k1, f1, f2⟩ := rshare_l0 h ps.length k 0 (Nat.zero_add _) (by omega)
  have f2' : walkmillref06_Share.l0 k ps m [] 0 0 0 = _ := f2
  rw [f2']
  obtain ⟨k2, f3, f4⟩ := rshare_l1 h ps.length k1 0 (Nat.zero_add _) (by omega)
  have f4' : walkmillref06_Share.l1 k1 ps m [] ps.sum 0 [] 0 = _ := f4
  rw [f4']
  have hs := sum_bd (l := ps.map fun p => m * p / ps.sum) (B := 10000000) fun x hx => by
    obtain ⟨p, hp, rfl⟩ := List.mem_map.1 hx
    obtain ⟨j, hj, rfl⟩ := List.getElem_of_mem hp
    have h1 := h.mul hj
    have e : ps.getD j 0 = ps[j] := by simp [List.getElem?_eq_getElem hj]
    rw [e] at h1
    exact ⟨Int.ediv_nonneg h1.1 (by omega), Int.le_trans (Int.ediv_le_self _ h1.1) (by omega)⟩
  have e1 : ps.map (fun p => m * p / ps.sum) = more (fl m ps.sum ps) ps.length (L.take 0) := by rw [← map_fl]; simp [more]
  have e2 : ps.map (fun p => m * p % ps.sum) = left (rr m ps.sum ps) ps.length (L.take 0) := by
    apply List.ext_getElem
    · simp [left]
    · intro i h1 h2
      simp only [List.length_map] at h1
      simp [left, rr, List.getElem?_eq_getElem h1]
  unfold want
  generalize hsum : (ps.map fun p => m * p / ps.sum).sum = s at *
  rw [e1, e2]
  have := rshare_l2 h h1 hp hin hL s hs.1 (m - s).toNat (by omega) (by omega) (m - s).toNat k2 0 (Nat.zero_add _) (by omega)
  rw [show s + ((0 : Nat) : Int) = s by omega] at this
  exact this
theorem SoapShares_yes (ps : List Int) (m : Int) : ∃ k, walkmilllaw06_SoapShares.f k ps m = some true := by
  refine ⟨1000, ?_⟩
  unfold walkmilllaw06_SoapShares.f
  by_cases h20 : (ps.length : Int) > 20
  · rw [if_pos h20, walkmilllaw06_known.at (by omega)]; rfl
  rw [if_neg h20, ints_eq ps (by omega), rshares_eq ps m (by omega)]
  simp only [Option.bind_some]
  rw [like_eq ps ps (by omega) (by omega)]
  rcases share_eq m ps with ⟨hbad, hs⟩ | ⟨hok, h1, L, g1, g2, g3, hs⟩
  · rw [hs 1000 (by omega) (by omega)]
    simp only [Option.bind_some, decide_true, if_true, List.length_nil]
    have e : (if (ps.length : Int) > 6 then (5 : Int) else if (ps.length : Int) = 0 then 7 else if (ps.all fun x => decide (1 ≤ x ∧ x ≤ 100)) = true then if 0 ≤ m ∧ m ≤ 100000 then 0 else 3 else 2) = if (ps.length : Int) > 6 then 5 else if (ps.length : Int) = 0 then 7 else if (ps.all fun x => decide (1 ≤ x ∧ x ≤ 100)) = true then 3 else 2 := by
      by_cases h6 : (ps.length : Int) > 6
      · rw [if_pos h6, if_pos h6]
      rw [if_neg h6, if_neg h6]
      by_cases h0 : (ps.length : Int) = 0
      · rw [if_pos h0, if_pos h0]
      rw [if_neg h0, if_neg h0]
      by_cases hw : (ps.all fun x => decide (1 ≤ x ∧ x ≤ 100)) = true
      · rw [if_pos hw, if_pos hw, if_neg (by
          rcases hbad with h | h | h | h | h
          · omega
          · omega
          · exact absurd hw h
          · omega
          · omega)]
      · rw [if_neg hw, if_neg hw]
    rw [e]
    have hne : (if (ps.length : Int) > 6 then (5 : Int) else if (ps.length : Int) = 0 then 7 else if (ps.all fun x => decide (1 ≤ x ∧ x ≤ 100)) = true then 3 else 2) ≠ 0 := by
      split
      · decide
      · split
        · decide
        · split <;> decide
    rw [if_neg hne, if_pos rfl, if_pos (show ((0 : Nat) : Int) = 0 from rfl), walkmilllaw06_known.at (by omega)]; rfl
  · rw [hs 1000 (by omega), rshare_eq hok h1 g1 g2 g3 (by omega)]
    have h6 := hok.len
    have hw : (ps.all fun x => decide (1 ≤ x ∧ x ≤ 100)) = true := by
      rw [List.all_eq_true]; exact fun x hx => decide_eq_true (hok.one x hx)
    simp only [Option.bind_some, decide_true, if_true]
    rw [if_neg (show ¬ (ps.length : Int) > 6 by omega), if_neg (show ¬ (ps.length : Int) = 0 by omega), if_pos hw, if_pos (show 0 ≤ m ∧ m ≤ 100000 from ⟨hok.m0, hok.m1⟩), if_pos rfl, like_eq _ _ (by simp [want, more]; omega) (by simp [want, more]; omega)]
    simp only [Option.bind_some, decide_true, if_true]
    rw [walkmilllaw06_known.at (by omega)]; rfl
end Go.Proofs.YtjaapkkpmegkfaaGreat.P
namespace Go.Proofs.YtjaapkkpmegkfaaGreat.P
open Go.RowKit Go.ChangeShapes Go.WideShapes Go.Deep Go.Proofs.YtjaapkkpmegkfaaGreatW.PrintWords Go.Proofs.YtjaapkkpmegkfaaGreatW.PrintLast Go.Proofs.YtjaapkkpmegkfaaGreatW.PrintMore
structure Opens {α : Type} (P : Program) (d : Kd α) (t : TypeId) (B : α → Prop) : Prop where
  sz : P.cellsOf t = d.sz
  op : ∀ (H : Type) (enc : TypeId × Value → H) (w : World) (base : Nat) (spare : Nat → Bool) (held : Bool) (n : Nat) (cs : List Value) (x : DataW H × List MemPlace), DataW.trod enc P w base spare held n t cs = some x → ∃ p, d.K w p cs ∧ B p
theorem Opens.int {P : Program} {t : TypeId} {k : IntKind} (ht : P.underlying t = some (.int k)) (hc : P.cellsOf t = 1) : Opens P (Kd.int k) t (fun n => (Lit.int k n).wf = true) :=
  ⟨hc, fun H enc w base spare held n cs x h => by
    obtain ⟨m, rfl, _, hw⟩ := DataW.trod_int ht h
    exact ⟨m, rfl, hw⟩⟩
theorem choose_list {α : Type} {Q : Nat → α → Prop} : ∀ (n : Nat), (∀ i, i < n → ∃ p, Q i p) → ∃ l : List α, l.length = n ∧ ∀ i p, l[i]? = some p → Q i p
  | 0, _ => ⟨[], rfl, fun i p h => by simp at h⟩
  | n + 1, h => by
    obtain ⟨l, hl, hq⟩ := choose_list n (fun i hi => h i (by omega))
    obtain ⟨p, hp⟩ := h n (by omega)
    refine ⟨l ++ [p], by simp [hl], fun i q hi => ?_⟩
    rcases Nat.lt_or_ge i l.length with h1 | h1
    · rw [List.getElem?_append_left h1] at hi
      exact hq i q hi
    · have : i = n := by
        have := (List.getElem?_eq_some_iff.1 hi).1
        simp at this
        omega
      subst this
      rw [List.getElem?_append_right h1, hl, Nat.sub_self] at hi
      obtain rfl : p = q := by simpa using hi
      exact hp
theorem Opens.slice {α : Type} {P : Program} {d : Kd α} {t e : TypeId} {B : α → Prop} (h : Opens P d e B) (ht : P.underlying t = some (.slice e)) (hc : P.cellsOf t = 1) : Opens P (Kd.slice e d) t (fun l => ∀ x ∈ l, B x) :=
  ⟨hc, fun H enc w base spare held n cs x hx => by
    rcases open_slice ht hx with ⟨rfl, _⟩ | ⟨a, len, cap, m, n', D, Pl, rfl, hb, hl, hm, hmm, _, hi⟩
    · exact ⟨[], ⟨none, 0, rfl, Nat.le_refl _, Kd.C_nil _ _⟩, fun x hx => by cases hx⟩
    · obtain ⟨l, hll, hq⟩ := choose_list (Q := fun i p => (∃ cs', d.K w p cs' ∧ ∀ j, j < d.sz → w.cell? (a.add (i * d.sz + j)) = cs'[j]?) ∧ B p) len (fun i hi' => by
        obtain ⟨cs', hcs, htr⟩ := hi i (by rw [hmm]; split <;> omega)
        obtain ⟨p, hk, hp⟩ := h.op H enc w base spare held n' cs' _ htr
        obtain ⟨_, hcl, hat⟩ := World.cells?_some hcs
        rw [h.sz] at hat
        exact ⟨p, ⟨cs', hk, fun j hj => by
          have := hat j hj
          rw [Go.Deep.add_add] at this
          exact this⟩, hp⟩)
      refine ⟨l, ⟨some a, cap, by rw [hll], by rw [hll]; exact hl, ⟨rfl, by rw [hll]; simp only [maxLen] at hm; omega, fun h0 => ⟨a, rfl, fun j p hj => ?_⟩⟩⟩, fun x hx => ?_⟩
      · obtain ⟨⟨cs', hk, hat⟩, _⟩ := hq j p hj
        refine ⟨cs', d.K_len hk, hk, fun i u hu => ?_⟩
        have hi' : i < d.sz := by have := (List.getElem?_eq_some_iff.1 hu).1; rw [d.K_len hk] at this; exact this
        rw [hat i hi', hu]
      · obtain ⟨i, hi'⟩ := List.getElem?_of_mem hx
        exact (hq i x hi').2⟩
theorem Opens.arg_slice {α : Type} {P : Program} {d : Kd α} {t e : TypeId} {B : List α → Prop} (h : Opens P (Kd.slice e d) t B) {H : Type} {enc : TypeId × Value → H} {w : World} {base : Nat} {spare : Nat → Bool} {held : Bool} {v : Value} {x : DataW H} {ps : List MemPlace} {a : Option Addr} {len cap : Nat} (hv : v = .slice a len cap) (hx : DataW.Trod enc P w base spare held t v x ps) :
    ∃ l : List α, len = l.length ∧ l.length ≤ cap ∧ Kd.C d w a l.length l ∧ B l := by
  obtain ⟨n, hn⟩ := hx
  subst hv
  obtain ⟨l, ⟨A, c, he, hl, hr⟩, hb⟩ := h.op H enc w base spare held n _ _ hn
  have he' : Value.slice a len cap = .slice A l.length c := by simpa [Value.cells] using he
  cases he'
  exact ⟨l, rfl, hl, hr, hb⟩
end Go.Proofs.YtjaapkkpmegkfaaGreat.P
namespace Go.Proofs.YtjaapkkpmegkfaaGreat.P
open Go.RowKit Go.Proofs.YtjaapkkpmegkfaaGreatW.PrintWords
def IsK (k : IntKind) (n : Int) : Prop := (Lit.int k n).wf = true
theorem O_i64 : Opens Tryz.prog (Kd.int .i64) 3 (IsK .i64) := Opens.int Tryz.underlying3 (by kernel_rfl)
end Go.Proofs.YtjaapkkpmegkfaaGreat.P
