/- Part 4 of what the law's proof needs: words, walks of functions and plain facts. -/
import Derived.Lib.SliceRun
import Derived.Shelf.SlicesQ.Load
import Derived.Shelf.Abstract
import Derived.Lib.Hide
import Derived.Lib.BufferMore
import Derived.Lib.LazyBuf
import Derived.Test.YtikmfpjcdcckeaaDoorC01
import Derived.Test.YtikmfpjcdcckeaaDoorC02
import Derived.Test.YtikmfpjcdcckeaaDoorC03
set_option linter.unusedVariables false
set_option linter.unusedSimpArgs false
namespace Go.Proofs.YtikmfpjcdcckeaaDoor.P
open Go.RowKit Go.Proofs.YtikmfpjcdcckeaaDoorW.PrintWords Go.Proofs.YtikmfpjcdcckeaaDoorW.PrintLast Go.Proofs.YtikmfpjcdcckeaaDoorW.PrintMore
attribute [local go_sem] max2_int min2_int max_two min_two max_three min_three max_four min_four
theorem cut_max {P : Program} (t e : TypeId) {i : TypeInfo} (ht : P.underlying t = some (.slice e)) (hi : P.info? e = some i) (A : Option Addr) (n c : Nat) (lo hi' : Int) (h0 : 0 ≤ lo) (h1 : lo ≤ hi') (h2 : hi' ≤ n) (hc : n ≤ c) :
  ∃ v, ∀ W : World, (Instr.slice t (.slice A n c) (some (.int .i64 lo)) (some (.int .i64 hi')) (some (.int .i64 (n : Int)))).run P W = .ok v W := by
 have hel : P.elem t = e := by simp [Program.elem, ht]
 have hu : P.underlying t = some (.slice (P.elem t)) := by rw [hel]; exact ht
 refine ⟨sliced A lo.toNat hi'.toNat n i.size, fun W => ?_⟩
 rw [run_slice_lhm W t A n c hu .i64 .i64 .i64 lo hi' (n : Int) h0 h1 h2 (by omega), hel]
 simp [sizeOf, typeInfo, hi, Result.andThen]
theorem cut_cap {P : Program} (t e : TypeId) {i : TypeInfo} (ht : P.underlying t = some (.slice e)) (hi : P.info? e = some i) (size : Nat) (hsz : i.size = size) (A : Option Addr) (n c : Nat) (lo hi' : Int) (h0 : 0 ≤ lo) (h1 : lo ≤ hi') (h2 : hi' ≤ c) :
  ∀ W : World, (Instr.slice t (.slice A n c) (some (.int .i64 lo)) (some (.int .i64 hi')) none).run P W = .ok (.slice (if c = lo.toNat then A else A.map (·.add (lo.toNat * size))) (hi'.toNat - lo.toNat) (c - lo.toNat)) W := by
 intro W
 have hel : P.elem t = e := by simp [Program.elem, ht]
 have hu : P.underlying t = some (.slice (P.elem t)) := by rw [hel]; exact ht
 rw [run_slice_lh W t A n c hu .i64 .i64 lo hi' h0 h1 h2, hel]
 simp [sizeOf, typeInfo, hi, hsz, sliced, Result.andThen]
theorem add1 (g n : Nat) : (⟨g, 0, none⟩ : Addr).add (n * 1) = ⟨g, n, none⟩ := by rw [Nat.mul_one]; cases n <;> simp [Addr.add]
theorem zeroI (w : World) : (zeroValue 3).run Tryd.prog w = .ok (.int .i64 0) w := by kernel_rfl
theorem clear_tail {w : World} {base : Nat} {ok : Nat → Prop} {g n c : Nat} {ys : List Int} (h : (Kd.int .i64).R 3 w base ok (.slice (some ⟨g, 0, none⟩) n c) ys) (hnc : n < c) :
  (Kd.int .i64).R 3 (w.setCell ⟨g, n, none⟩ (.int .i64 0)) base ok (.slice (some ⟨g, 0, none⟩) n c) ys ∧ w.grownBy (w.setCell ⟨g, n, none⟩ (.int .i64 0)) (some g) ∧ base ≤ g ∧
   ∀ ty, (Builtin.clear_ #[30] ty #[.slice (some ⟨g, n, none⟩) 1 (c - n)]).run Tryd.prog w = .ok (.tuple #[]) (w.setCell ⟨g, n, none⟩ (.int .i64 0)) := by
 obtain ⟨h0, inner, ⟨hlen, hcase⟩, hr⟩ := h
 rcases hcase with ⟨hv, _⟩ | ⟨g', cap, cur, hv, hb, hh, hnc', hcm, hcs, htake⟩
 ·cases hv
 injection hv with ha hn hc
 injection ha with ha
 injection ha with hg
 subst hg; subst hc; subst hn
 have hs1 : (Kd.int .i64).sz = 1 := rfl
 rw [hs1, Nat.mul_one] at hcs
 rw [hs1] at hlen htake
 have hh' := blk_set hh ys.length (.int .i64 0)
 refine ⟨⟨h0, inner, ⟨by rw [hs1]; exact hlen, .inr ⟨g, c, _, rfl, hb, hh', hnc', hcm, by rw [hs1]; simp [hcs], ?_⟩⟩, hr.imp_ (fun _ _ hp => Kd.M_far hp (p := ⟨g, ys.length, none⟩) (fun k hk e => hk.2 (by rw [e]; rfl)) _)⟩, ?_, hb, ?_⟩
 ·rw [hs1, Array.toList_setIfInBounds, ← htake, Nat.mul_one]
  exact List.take_set_of_le (Nat.le_refl _)
 ·exact ⟨rfl, rfl, rfl, by simp, fun k _ hk => Below.heap_setCell _ _ _ k (fun e => hk (by rw [e]))⟩
 ·intro ty
  have := Lib.run_clear_slice w 30 3 ty (.int .i64 0) Tryd.underlying30 zeroI rfl rfl g ys.length 1 (c - ys.length) (by omega) (fun j hj => by
    obtain rfl : j = 0 := by omega
    simp [World.cell?, hh, hcs, hnc]) (fun j hj => by
    obtain rfl : j = 0 := by omega
    simp [World.frozen?, hh])
  exact this
def slices_Delete_int_int.f (l0 : List Int) (a1 : Int) (a2 : Int) : Option (List Int) := if wrap64 (a1 + 1) = a2 then (if a1 = a2 then (some l0) else (if 0 ≤ a1 then (if a1 ≤ (l0.length : Int) then (if 0 ≤ (wrap64 (a1 + 1)) then (if (wrap64 (a1 + 1)) ≤ (l0.length : Int) then (some (l0.eraseIdx (a1 : Int).toNat)) else (none)) else (none)) else (none)) else (none))) else (none)
def slices_Delete_int_int.T5 : Bool × List (List Nat × List Nat) := (true, [([], []), ([], []), ([0, 1], [0, 1]), ([], []), ([], []), ([3, 4], [3, 4]), ([2, 5], [2, 5]), ([6, 6, 0, 1, 2, 3, 4, 5, 6], [0, 3, 6])])
def slices_Delete_int_int.B5 : List Nat := [0, 0, 3, 0, 0, 24, 63, 127]
theorem slices_Delete_int_int.tab5 : rtab .any (opsOf Tryd.f54 5) = slices_Delete_int_int.T5 := by kernel_rfl
theorem slices_Delete_int_int.bits5 : waitsOk slices_Delete_int_int.T5.2 slices_Delete_int_int.B5 = true := by kernel_rfl
set_option maxHeartbeats 8000000 in
set_option maxRecDepth 100000 in
theorem slices_Delete_int_int.calls (P0_ : Nat → Prop) (u9000_ : Value) (l0 : List Int) (a1 : Int) (a2 : Int) (r : List Int) (w0 w : World) (hB : Below w0.heap.size w0 w) (ho0 : Kd.R (Kd.int .i64) 3 w w0.heap.size P0_ u9000_ l0) (h : slices_Delete_int_int.f l0 a1 a2 = some r) :
  Calls Tryd.prog 54 #[u9000_, .int .i64 a1, .int .i64 a2] w fun e w' => ∃ v0_ : Value, e = .returned (v0_) ∧ Kd.R (Kd.int .i64) 3 w' w0.heap.size (fun k_ => (P0_ k_ ∨ w.heap.size ≤ k_)) v0_ r ∧ Below w0.heap.size w0 w' ∧ Kept w w' (fun k_ => P0_ k_) := by
 have HO0 := Aside0.mk (show Kd.R (Kd.int .i64) 3 w w0.heap.size (fun k_ => (P0_ k_ ∨ w.heap.size ≤ k_)) u9000_ l0 from Kd.R_mono ho0 (fun k_ hk => (.inl hk)))
 have HK := Aside0.mk (Kept.refl w (fun k_ => P0_ k_))
 have HW0 := Aside0.mk hB.size
 have HB := Aside0.mk hB
 clear hB
 have hj0 : wrap64 (a1 + 1) = a2 := by
  by_cases hq : wrap64 (a1 + 1) = a2
  ·exact hq
  ·unfold slices_Delete_int_int.f at h; rw [if_neg hq] at h; exact absurd h (by simp)
 have H : (if a1 = a2 then (some l0) else (if 0 ≤ a1 then (if a1 ≤ (l0.length : Int) then (if 0 ≤ (wrap64 (a1 + 1)) then (if (wrap64 (a1 + 1)) ≤ (l0.length : Int) then (some (l0.eraseIdx (a1 : Int).toNat)) else (none)) else (none)) else (none)) else (none))) = some r := (if_pos hj0).symm.trans h
 clear h
 by_cases c4 : a1 = a2
 ·exact absurd (hj0.trans c4.symm) (by unfold wrap64; omega)
 ·rw [if_neg c4] at H
  have c4b0 : (a1 == a2) = false := beq_eq_false_iff_ne.mpr c4
  have c4b1 : (a1 != a2) = true := bne_iff_ne.mpr c4
  by_cases c6 : 0 ≤ a1
  ·rw [if_pos c6] at H
   have c6b0 := eq_true c6
   have c6b1 : decide (0 ≤ a1) = true := decide_eq_true c6
   clear c6
   by_cases c7 : a1 ≤ (l0.length : Int)
   ·rw [if_pos c7] at H
    have c7b0 := eq_true c7
    have c7b1 : decide (a1 ≤ (l0.length : Int)) = true := decide_eq_true c7
    clear c7
    obtain ⟨y101, hy101⟩ : ∃ y_ : List Int, y_ = (l0.take (a1 : Int).toNat) := ⟨_, rfl⟩
    replace H : (if 0 ≤ (wrap64 (a1 + 1)) then (if (wrap64 (a1 + 1)) ≤ (l0.length : Int) then (some (l0.eraseIdx (a1 : Int).toNat)) else (none)) else (none)) = some r := yy hy101 H
    have Ny101 := Aside0.mk hy101
    clear hy101
    obtain ⟨ji8, hji8, hja⟩ : ∃ j_ : Int, (wrap64 (a1 + 1)) = j_ ∧ j_ = a2 := ⟨_, rfl, hj0⟩
    subst hja
    clear hj0
    replace H : (if 0 ≤ (ji8) then (if (ji8) ≤ (l0.length : Int) then (some (l0.eraseIdx (a1 : Int).toNat)) else (none)) else (none)) = some r := by first | (rw [hji8] at H; exact H) | (simp only [hji8] at H ⊢; exact H)
    have hji8w : (IntKind.i64.wrap (a1 + 1)) = ji8 := (i64_w _).trans hji8
    by_cases c9 : 0 ≤ (ji8)
    ·rw [if_pos c9] at H
     have c9b0 := eq_true c9
     have c9b1 : decide (0 ≤ (ji8)) = true := decide_eq_true c9
     clear c9
     by_cases c10 : (ji8) ≤ (l0.length : Int)
     ·rw [if_pos c10] at H
      have c10b0 := eq_true c10
      have c10b1 : decide ((ji8) ≤ (l0.length : Int)) = true := decide_eq_true c10
      clear c10
      obtain ⟨y105, hy105⟩ : ∃ y_ : List Int, y_ = (l0.drop ((ji8) : Int).toNat) := ⟨_, rfl⟩
      replace H : (some (l0.eraseIdx (a1 : Int).toNat)) = some r := yy hy105 H
      have Ny105 := Aside0.mk hy105
      clear hy105
      obtain ⟨y109, hy109⟩ : ∃ y_ : List Int, y_ = (l0.eraseIdx (a1 : Int).toNat) := ⟨_, rfl⟩
      replace H : (some y109) = some r := yy hy109 H
      have Ny109 := Aside0.mk hy109
      clear hy109
      obtain rfl := Option.some.inj H
      obtain ⟨Ao11, co11, eo11⟩ := Kd.R_slice HO0.out
      subst eo11
      obtain ⟨i0M, hi0M, _, hszM, _⟩ := info_parts info3
      have hcM1 : (0 : Int) ≤ a1 := dT
      have hcM2 : (ji8 : Int) ≤ (l0.length : Int) := dT
      have hcM3 : (0 : Int) ≤ ji8 := dT
      have hbM := (Kd.R_reads' HO0.out).2.2.2.1
      have hcM5 : a1 ≤ (l0.length : Int) := dT
      have hcM4 : ji8 = a1 + 1 := by have h00_ := hcM3; rw [← hji8] at h00_ ⊢; unfold wrap64 at h00_ ⊢; omega
      have hroomM : l0.length ≤ co11 := (Kd.R_reads' HO0.out).2.1
      obtain ⟨vM, hcutM⟩ := cut_max (P := Tryd.prog) 30 3 Tryd.underlying30 hi0M Ao11 l0.length co11 a1 ji8 hcM1 (by omega) hcM2 hroomM
      have KM1 := Aside0.mk hcM1
      have KM2 := Aside0.mk hcM2
      have KM4 := Aside0.mk hcM4
      have KMr := Aside0.mk hroomM
      clear hcM1 hcM2 hcM3 hcM4 hcM5 hbM hroomM
      go_enter Tryd.func54, Tryd.ntmps54
      try go_wp2
      replace HO0 := Aside0.mk (Kd.R_drew HO0.out)
      replace HK := Aside0.mk (Kept.drew HK.out)
      replace HB := Aside0.mk (below_drew1 HB.out)
      have q13 : (a1 : Int) ≤ ((l0.length : Int) : Int) := dT
      obtain ⟨i013, hi013, _, hsz13, _⟩ := info_parts info3
      have hroom13 : l0.length ≤ co11 := (Kd.R_reads' HO0.out).2.1
      have hC13 : Kd.C (Kd.int .i64) _ Ao11 l0.length l0 := (Kd.R_reads' HO0.out).2.2
      have hcut13 := cut_to (P := Tryd.prog) 30 3 .i64 Tryd.underlying30 hi013 Ao11 l0.length co11 a1 (dT) q13 hroom13
      have hr13 := Kd.C_take (m := (a1 : Int).toNat) hC13 (by omega)
      have hy13 : y101.length = (a1 : Int).toNat := (by rw [Ny101.out, List.length_take]; omega)
      rw [← Ny101.out] at hr13
      rw [← hy13] at hcut13
      have HR104 := Aside0.mk hr13
      have HC104 := Aside0.mk (show y101.length ≤ co11 from by omega)
      clear hr13 hC13 hroom13 hi013 hsz13
      have KY13 := Aside0.mk hy13
      clear hy13
      have KL13 := Aside0.mk (show (a1 : Int).toNat ≤ l0.length from by omega)
      replace q13 := eq_true q13
      have q14 : ((ji8) : Int) ≤ ((l0.length : Int) : Int) := dT
      obtain ⟨i014, hi014, _, hsz14, _⟩ := info_parts info3
      have hroom14 : l0.length ≤ co11 := (Kd.R_reads' HO0.out).2.1
      have hC14 : Kd.C (Kd.int .i64) _ Ao11 l0.length l0 := (Kd.R_reads' HO0.out).2.2
      have q014 : (0 : Int) ≤ ((ji8) : Int) := dT
      have hcut14 := cut_from (P := Tryd.prog) 30 3 .i64 Tryd.underlying30 hi014 1 hsz14 Ao11 l0.length co11 (ji8) q014 q14
      have hr14 := Kd.C_drop (m := ((ji8) : Int).toNat) (c := co11) hC14 (by omega) hroom14
      obtain ⟨A14, hA14⟩ : ∃ A1, A1 = (if co11 = ((ji8) : Int).toNat then Ao11 else (Ao11 : Option Addr).map (·.add (((ji8) : Int).toNat * 1))) := ⟨_, rfl⟩
      obtain ⟨c14, hc14⟩ : ∃ c1, c1 = co11 - ((ji8) : Int).toNat := ⟨_, rfl⟩
      have hy14 : y105.length = l0.length - ((ji8) : Int).toNat := (by rw [Ny105.out, List.length_drop] <;> omega)
      rw [show (l0).drop ((ji8) : Int).toNat = y105 from Ny105.out.symm] at hr14
      replace hr14 : Kd.C (Kd.int .i64) _ A14 y105.length y105 := (by rw [hA14]; exact hr14)
      rw [← hy14, ← hA14, ← hc14] at hcut14
      have HR108 := Aside0.mk hr14
      have HC108 := Aside0.mk (show y105.length ≤ c14 from by rw [hy14, hc14]; exact Nat.sub_le_sub_right hroom14 _)
      clear hr14 hC14 hroom14 hi014 hsz14 hc14
      have KY14 := Aside0.mk hy14
      have KA14 := Aside0.mk hA14
      clear hy14 hA14
      have KL14 := Aside0.mk (show ((ji8) : Int).toNat ≤ l0.length from by omega)
      replace q14 := eq_true q14
      obtain ⟨go16, co16, eo16, gb16, gl16, cl16, HG16⟩ := Kd.R_form HO0.out (by have hj_ : 0 ≤ (a1 : Int) := dT; have hl_ : (ji8 : Int) ≤ (l0.length : Int) := dT; have hh_ : (a1 : Int) ≤ (l0.length : Int) := dT; rw [← hji8] at hl_; unfold wrap64 at hl_; omega)
      (first | cases eo16 | (injection eo16 with ea_ en_ ec_; (first | subst ea_ | (injection ea_ with ea_; subst ea_)); subst ec_; clear en_))
      have GB16 := Aside0.mk gb16
      have GG16 := Aside0.mk HG16
      clear gb16 gl16 HG16
      have HMgo16 := Aside0.mk (show (P0_ go16 ∨ w.heap.size ≤ go16) from (HO0.out.1 _ rfl))
      refine start_ (n := 8) (S := fun w' => True) (ds := []) #[false, false, false, false, false, false, false, false] (by kernel_rfl) rfl rfl trivial (fun hHeld => ?_); refine with_tabW slices_Delete_int_int.tab5 slices_Delete_int_int.bits5 (fun HT_ HW_ => ?_)
      generalize w.drew = w12 at HO0 HK HB GG16 HR104 HR108 hHeld ⊢
      refine pu 0 20 ?_
      refine pu 1 21 ?_
      refine pu 2 22 ?_
      refine pu 3 23 ?_
      refine pu 4 24 ?_
      refine pu 5 25 ?_
      refine on 6 (fun K hK => ?_)
      have hj_ : 0 ≤ (a1 : Int) := dT
      have hl_ : (ji8 : Int) ≤ (l0.length : Int) := dT
      have hh_ : (a1 : Int) ≤ (l0.length : Int) := dT
      have hb_ := (Kd.R_reads' HO0.out).2.2.2.1
      have h0_ : (0 : Int) ≤ (ji8 : Int) := dT
      have hy1_ := KY13.out
      have hk_ : (ji8 : Int).toNat = y101.length + 1 := (by have hw_ : (ji8 : Int) = a1 + 1 := (by have h00_ := h0_; rw [← hji8] at h00_ ⊢; unfold wrap64 at h00_ ⊢; omega); rw [hw_]; omega)
      refine Kd.R_delete_step (Kd.int .i64) (w0 := w0) w0.heap.size (by rfl) (.tmp 22) (.tmp 25) 30 3 rfl Tryd.underlying30 (by kernel_rfl) (g := go16) (n := l0.length) (c := co11) (k := y101.length) rfl rfl ?hA ?hm (pR HO0.out) ?hk (pE HB) (below_size (pE HB)) ?_
      (case hA => have ha_ := KA14.out; rw [hk_] at ha_; exact ha_)
      (case hm => have ha_ := KY14.out; omega)
      (case hk => omega)
      intro w15 ho hb hg
      clear hj_ hl_ hh_ hb_ hk_ h0_
      rw [hy1_, ← Ny109.out] at ho
      clear hy1_
      have hn_ : l0.length - 1 = y109.length := (by have := (Kd.R_reads' ho).1; omega)
      rw [hn_] at ho ⊢
      clear hn_
      replace HB := Aside0.mk (hb)
      replace HK := Aside0.mk (Kept.of_grown (S := (fun k_ => P0_ k_)) hg (by repeat (first | (with_reducible first | exact HK.out | apply Kept.alloc | apply Kept.drewN | apply Kept.drew) | exact HK.out)) (fun k_ e_ => (HO0.out.1 k_ e_)))
      replace HO0 := Aside0.mk (ho)
      clear ho hb hg
      refine hK.out _ _ trivial (fun hHeld => ?_)
      clear hK K
      refine norm_ (a' := ?_) ?_ ?_
      rotate_left
      ·show Act.put _ (some 26) _ = _
       simp only [Act.put, List.setIfInBounds_toArray, List.set_cons_zero, List.set_cons_succ, i64_w, i32_w]
       rfl
      refine pu 7 0 ?_
      refine done_ (done_of HT_.out (by kernel_rfl)) ?_
      have hyl : y109.length = l0.length - 1 := by
       have h1_ := KM1.out; have h2_ := KM2.out; have h4_ := KM4.out
       rw [Ny109.out, List.length_eraseIdx, if_pos (by omega)]
      have hlp : y109.length < co11 ∧ l0.length ≤ co11 ∧ l0.length - y109.length = 1 := by
       have h1_ := KM1.out; have h2_ := KM2.out; have h4_ := KM4.out; have h5_ := KMr.out
       omega
      obtain ⟨hRc, hGc, hbc, hcl⟩ := clear_tail HO0.out hlp.1
      have hcutT := cut_cap (P := Tryd.prog) 30 3 Tryd.underlying30 hi0M 1 hszM (some ⟨go16, 0, none⟩) y109.length co11 (y109.length : Int) (l0.length : Int) (by omega) (by omega) (by have := hlp.2.1; omega)
      rw [if_neg (by have := hlp.1; omega), Int.toNat_natCast, Int.toNat_natCast, hlp.2.2, Option.map_some, add1] at hcutT
      have HBc := HB.out.grown hGc HB.out.size (fun k hk => by injection hk with hk; subst hk; exact hbc)
      have HKc := Kept.of_grown (S := (fun k_ => P0_ k_)) hGc HK.out (fun k_ e_ => (HO0.out.1 k_ e_))
      clear hyl hlp hGc hbc
      have HRc := Aside0.mk hRc
      have HBc := Aside0.mk HBc
      have HKc := Aside0.mk HKc
      clear hRc
      go_wp2_with (simp only [hcl])
      go_ret
      exact ⟨_, rfl, HRc.out, HBc.out, HKc.out⟩
     ·rw [if_neg c10] at H
      exact absurd H (by simp)
    ·rw [if_neg c9] at H
     exact absurd H (by simp)
   ·rw [if_neg c7] at H
    exact absurd H (by simp)
  ·rw [if_neg c6] at H
   exact absurd H (by simp)
mutual
def tenter_Order.l0 : Nat → Int → List Int → Int → Int → List (S42) → List Int → Int → Int → List (S42) → List Int → Int → Int → List (S40) → List Int → Option (List Int × Int)
 | 0, _, _, _, _, _, _, _, _, _, _, _, _, _, _ => none
 | k + 1, x2, x10, x31, x32, x102000, x102001, x102002, x102003, x115000, x115001, x115002, x115003, x115004, x122000 => if x32 < x31 then ((tenter_forecast_late.f k x115000 x115001 x115002 x115003 x115004 x32 x2).bind fun t122 => ((some (([t122] : List Int) : List Int)).bind fun y123 => (if x122000.length + y123.length < 17592186044416 then ((some (([x32] : List Int) : List Int)).bind fun y129 => (if x10.length + y129.length < 17592186044416 then (tenter_Order.l0 k x2 (x10 ++ y129) x31 (wrap64 (x32 + 1)) x102000 x102001 x102002 x102003 x115000 x115001 x115002 x115003 x115004 (x122000 ++ y123)) else (none))) else (none)))) else ((tenter_Order_1.f k 0 x10 x122000).bind fun t135 => (if t135 = true then (tenter_Order.l1 k ([] : List Int) x10 (x102000.length : Int) 0 x122000) else (some (([] : List Int), 9))))
def tenter_Order.l1 : Nat → List Int → List Int → Int → Int → List Int → Option (List Int × Int)
 | 0, _, _, _, _, _ => none
 | k + 1, x6, x10, x54, x55, x122000 => if x55 < x54 then (tenter_Order.l2 k x6 x10 x55 x54 x55 x10 (x10.length : Int) 0 x122000) else (some (x6, 0))
def tenter_Order.l2 : Nat → List Int → List Int → Int → Int → Int → List Int → Int → Int → List Int → Option (List Int × Int)
 | 0, _, _, _, _, _, _, _, _, _ => none
 | k + 1, x6, x10, x13, x54, x55, x58, x59, x60, x122000 => if x60 < x59 then (if 0 ≤ x60 then (if x60 < (x58.length : Int) then ((slices_Clone_int_int.f x10).bind fun t137 => ((slices_Delete_int_int.f t137 x60 (wrap64 (x60 + 1))).bind fun t140 => (if 0 ≤ (rd x58 x60) then (if (rd x58 x60) < (x122000.length : Int) then (if (rd x122000 (rd x58 x60)) ≥ x13 then ((tenter_Order_1.f k (wrap64 (x13 + 1)) t140 x122000).bind fun t144 => (if t144 = true then ((some (([rd x58 x60] : List Int) : List Int)).bind fun y145 => (if x6.length + y145.length < 17592186044416 then (tenter_Order.l1 k (x6 ++ y145) t140 x54 (wrap64 (x55 + 1)) x122000) else (none))) else (tenter_Order.l2 k x6 x10 x13 x54 x55 x58 x59 (wrap64 (x60 + 1)) x122000))) else (tenter_Order.l2 k x6 x10 x13 x54 x55 x58 x59 (wrap64 (x60 + 1)) x122000)) else (none)) else (none)))) else (none)) else (none)) else (tenter_Order.l1 k x6 x10 x54 (wrap64 (x55 + 1)) x122000)
end
def tenter_Order.f (k : Nat) (l0_0 : List (S42)) (l0_1 : List Int) (a0_2 : Int) (a0_3 : Int) (l1 : List (S40)) (a2 : Int) : Option (List Int × Int) := (tenter_newForecast.f l0_0 l0_1 a0_2 a0_3 l1 a2).bind fun bt102 => (if bt102.2.2.2.2.2 = 0 then (tenter_Order.l0 k a2 (([] : List Int)) (l0_0.length : Int) 0 l0_0 l0_1 a0_2 a0_3 bt102.1 bt102.2.1 bt102.2.2.1 bt102.2.2.2.1 bt102.2.2.2.2.1 (([] : List Int))) else (some (([] : List Int), bt102.2.2.2.2.2)))
theorem tenter_Order.mono_l : ∀ k, (∀ y0 y1 y2 y3 y4 y5 y6 y7 y8 y9 y10 y11 y12 y13, LeO (tenter_Order.l0 k y0 y1 y2 y3 y4 y5 y6 y7 y8 y9 y10 y11 y12 y13) (tenter_Order.l0 (k + 1) y0 y1 y2 y3 y4 y5 y6 y7 y8 y9 y10 y11 y12 y13)) ∧ (∀ y0 y1 y2 y3 y4, LeO (tenter_Order.l1 k y0 y1 y2 y3 y4) (tenter_Order.l1 (k + 1) y0 y1 y2 y3 y4)) ∧ (∀ y0 y1 y2 y3 y4 y5 y6 y7 y8, LeO (tenter_Order.l2 k y0 y1 y2 y3 y4 y5 y6 y7 y8) (tenter_Order.l2 (k + 1) y0 y1 y2 y3 y4 y5 y6 y7 y8))
 | 0 => ⟨fun _ _ _ _ _ _ _ _ _ _ _ _ _ _ r h => by simp [tenter_Order.l0] at h, fun _ _ _ _ _ r h => by simp [tenter_Order.l1] at h, fun _ _ _ _ _ _ _ _ _ r h => by simp [tenter_Order.l2] at h⟩
 | k + 1 => by
  obtain ⟨ih0, ih1, ih2⟩ := tenter_Order.mono_l k
  refine ⟨?_, ?_, ?_⟩
  ·intro y0 y1 y2 y3 y4 y5 y6 y7 y8 y9 y10 y11 y12 y13
   unfold tenter_Order.l0
   repeat' first
   | (with_reducible exact ih0 _ _ _ _ _ _ _ _ _ _ _ _ _ _)
   | (with_reducible exact ih1 _ _ _ _ _)
   | (with_reducible exact ih2 _ _ _ _ _ _ _ _ _)
   | (with_reducible exact tenter_Order_1.mono _ _ _ _)
   | (with_reducible exact tenter_forecast_late.mono _ _ _ _ _ _ _ _)
   | (with_reducible exact LeO.refl _)
   | (with_reducible exact LeO.none _)
   | (with_reducible refine LeO.ite ?_ ?_)
   | (with_reducible refine LeO.bind ?_ (fun _ => ?_))
   | exact ih0 _ _ _ _ _ _ _ _ _ _ _ _ _ _
   | exact ih1 _ _ _ _ _
   | exact ih2 _ _ _ _ _ _ _ _ _
   | exact tenter_Order_1.mono _ _ _ _
   | exact tenter_forecast_late.mono _ _ _ _ _ _ _ _
   | exact LeO.none _
   | refine LeO.ite ?_ ?_
   | refine LeO.bind ?_ (fun _ => ?_)
  ·intro y0 y1 y2 y3 y4
   unfold tenter_Order.l1
   repeat' first
   | (with_reducible exact ih0 _ _ _ _ _ _ _ _ _ _ _ _ _ _)
   | (with_reducible exact ih1 _ _ _ _ _)
   | (with_reducible exact ih2 _ _ _ _ _ _ _ _ _)
   | (with_reducible exact tenter_Order_1.mono _ _ _ _)
   | (with_reducible exact tenter_forecast_late.mono _ _ _ _ _ _ _ _)
   | (with_reducible exact LeO.refl _)
   | (with_reducible exact LeO.none _)
   | (with_reducible refine LeO.ite ?_ ?_)
   | (with_reducible refine LeO.bind ?_ (fun _ => ?_))
   | exact ih0 _ _ _ _ _ _ _ _ _ _ _ _ _ _
   | exact ih1 _ _ _ _ _
   | exact ih2 _ _ _ _ _ _ _ _ _
   | exact tenter_Order_1.mono _ _ _ _
   | exact tenter_forecast_late.mono _ _ _ _ _ _ _ _
   | exact LeO.none _
   | refine LeO.ite ?_ ?_
   | refine LeO.bind ?_ (fun _ => ?_)
  ·intro y0 y1 y2 y3 y4 y5 y6 y7 y8
   unfold tenter_Order.l2
   repeat' first
   | (with_reducible exact ih0 _ _ _ _ _ _ _ _ _ _ _ _ _ _)
   | (with_reducible exact ih1 _ _ _ _ _)
   | (with_reducible exact ih2 _ _ _ _ _ _ _ _ _)
   | (with_reducible exact tenter_Order_1.mono _ _ _ _)
   | (with_reducible exact tenter_forecast_late.mono _ _ _ _ _ _ _ _)
   | (with_reducible exact LeO.refl _)
   | (with_reducible exact LeO.none _)
   | (with_reducible refine LeO.ite ?_ ?_)
   | (with_reducible refine LeO.bind ?_ (fun _ => ?_))
   | exact ih0 _ _ _ _ _ _ _ _ _ _ _ _ _ _
   | exact ih1 _ _ _ _ _
   | exact ih2 _ _ _ _ _ _ _ _ _
   | exact tenter_Order_1.mono _ _ _ _
   | exact tenter_forecast_late.mono _ _ _ _ _ _ _ _
   | exact LeO.none _
   | refine LeO.ite ?_ ?_
   | refine LeO.bind ?_ (fun _ => ?_)
theorem tenter_Order.mono : ∀ a0 a1 a2 a3 a4 a5 k, LeO (tenter_Order.f k a0 a1 a2 a3 a4 a5) (tenter_Order.f (k + 1) a0 a1 a2 a3 a4 a5) := by
 intro a0 a1 a2 a3 a4 a5 k
 obtain ⟨ih0, ih1, ih2⟩ := tenter_Order.mono_l k
 unfold tenter_Order.f
 repeat' first
   | (with_reducible exact ih0 _ _ _ _ _ _ _ _ _ _ _ _ _ _)
   | (with_reducible exact ih1 _ _ _ _ _)
   | (with_reducible exact ih2 _ _ _ _ _ _ _ _ _)
   | (with_reducible exact tenter_Order_1.mono _ _ _ _)
   | (with_reducible exact tenter_forecast_late.mono _ _ _ _ _ _ _ _)
   | (with_reducible exact LeO.refl _)
   | (with_reducible exact LeO.none _)
   | (with_reducible refine LeO.ite ?_ ?_)
   | (with_reducible refine LeO.bind ?_ (fun _ => ?_))
   | exact ih0 _ _ _ _ _ _ _ _ _ _ _ _ _ _
   | exact ih1 _ _ _ _ _
   | exact ih2 _ _ _ _ _ _ _ _ _
   | exact tenter_Order_1.mono _ _ _ _
   | exact tenter_forecast_late.mono _ _ _ _ _ _ _ _
   | exact LeO.none _
   | refine LeO.ite ?_ ?_
   | refine LeO.bind ?_ (fun _ => ?_)
def tenter_Order.T8 : Bool × List (List Nat × List Nat) := (true, [([], []), ([], []), ([], []), ([], []), ([1, 2, 3], [1, 2, 3]), ([4], [4]), ([0, 5, 4], [0, 5]), ([], []), ([], []), ([8], [8]), ([7, 9, 6], [7, 9]), ([6, 10, 0, 1, 2, 3, 4, 5, 6], [6]), ([10, 11, 0, 1, 2, 3, 4, 5, 6, 7, 8, 9, 10, 11], [7, 10])])
def tenter_Order.B8 : List Nat := [0, 0, 0, 0, 14, 30, 63, 0, 0, 256, 1023, 2047, 4095]
theorem tenter_Order.tab8 : rtab .any (opsOf Tryd.f23 8) = tenter_Order.T8 := by kernel_rfl
theorem tenter_Order.bits8 : waitsOk tenter_Order.T8.2 tenter_Order.B8 = true := by kernel_rfl
set_option maxHeartbeats 8000000 in
set_option maxRecDepth 100000 in
theorem tenter_Order.calls (k : Nat) (A0_0 : Option Addr) (c0_0 : Nat) (l0_0 : List (S42)) (A0_1 : Option Addr) (c0_1 : Nat) (l0_1 : List Int) (a0_2 : Int) (a0_3 : Int) (A1 : Option Addr) (c1 : Nat) (l1 : List (S40)) (a2 : Int) (r1 : List Int) (r2 : Int) (w : World) (hr0_0 : Kd.C k42 w A0_0 l0_0.length l0_0) (hc0_0 : l0_0.length ≤ c0_0) (hr0_1 : Kd.C (Kd.int .i64) w A0_1 l0_1.length l0_1) (hc0_1 : l0_1.length ≤ c0_1) (hr1 : Kd.C k40 w A1 l1.length l1) (hc1 : l1.length ≤ c1) (h : tenter_Order.f k l0_0 l0_1 a0_2 a0_3 l1 a2 = some (r1, r2)) :
  Calls Tryd.prog 23 #[.agg #[.slice A0_0 l0_0.length c0_0, .slice A0_1 l0_1.length c0_1, .int .i64 a0_2, .int .i64 a0_3], .slice A1 l1.length c1, .int .i64 a2] w fun e w' => ∃ v0_ : Value, e = .returned (.tuple #[v0_, .int .i64 r2]) ∧ Kd.R (Kd.int .i64) 3 w' w.heap.size (fun _ => True) v0_ r1 ∧ Below w.heap.size w w' := by
 have hu32 := Tryd.underlying32
 have hu102 := Tryd.underlying102
 have HR0_0 := Aside0.mk hr0_0
 have HC0_0 := Aside0.mk hc0_0
 clear hr0_0 hc0_0
 have HR0_1 := Aside0.mk hr0_1
 have HC0_1 := Aside0.mk hc0_1
 clear hr0_1 hc0_1
 have HR1 := Aside0.mk hr1
 have HC1 := Aside0.mk hc1
 clear hr1 hc1
 have HB := Aside0.mk (Below.refl w.heap.size w)
 have H : ((tenter_newForecast.f l0_0 l0_1 a0_2 a0_3 l1 a2).bind fun bt102 => (if bt102.2.2.2.2.2 = 0 then (tenter_Order.l0 k a2 (([] : List Int)) (l0_0.length : Int) 0 l0_0 l0_1 a0_2 a0_3 bt102.1 bt102.2.1 bt102.2.2.1 bt102.2.2.2.1 bt102.2.2.2.2.1 (([] : List Int))) else (some (([] : List Int), bt102.2.2.2.2.2)))) = some (r1, r2) := h
 clear h
 obtain ⟨⟨t102, t105, t108, t109, t110, t113⟩, A4, H⟩ := bi H
 by_cases c5 : t113 = 0
 ·rw [if_pos c5] at H
  have c5b0 : (t113 == 0) = true := beq_iff_eq.mpr c5
  have c5b1 : (t113 != 0) = false := bne_eq_false_iff_eq.mpr c5
  clear c5
  obtain ⟨y115, hy115⟩ : ∃ y_ : List Int, y_ = (([] : List Int)) := ⟨_, rfl⟩
  replace H : (tenter_Order.l0 k a2 (([] : List Int)) (l0_0.length : Int) 0 l0_0 l0_1 a0_2 a0_3 t102 t105 t108 t109 t110 y115) = some (r1, r2) := yy hy115 H
  have Ny115 := Aside0.mk hy115
  clear hy115
  obtain ⟨y118, hy118⟩ : ∃ y_ : List Int, y_ = (([] : List Int)) := ⟨_, rfl⟩
  replace H : (tenter_Order.l0 k a2 y118 (l0_0.length : Int) 0 l0_0 l0_1 a0_2 a0_3 t102 t105 t108 t109 t110 y115) = some (r1, r2) := yy hy118 H
  have Ny118 := Aside0.mk hy118
  clear hy118
  have H' := Aside0.mk H
  clear H
  go_enter Tryd.func23, Tryd.ntmps23
  go_wp2_with (first | ((with_reducible refine gate_dst (N := 3) rfl ?_); refine bx 3 #[.slice A0_0 l0_0.length c0_0, .slice A0_1 l0_1.length c0_1, .int .i64 a0_2, .int .i64 a0_3] 32 ?_; intro gb101 hg w6 hbox hb; have BK101 := hbox; have GW101 := gs HB hg; have GE101 := gs HB hg; replace HB := bs HB hb; clear hb hbox hg; obtain ⟨hcz7_0, hcz7_1, hcz7_2, hcz7_3, hfz7_0, hfz7_1, hfz7_2, hfz7_3⟩ := cf4 BK101) | ((with_reducible refine gc 48 rfl ?_); refine gL 21 Tryd.func48 #[.agg #[.slice A0_0 l0_0.length c0_0, .slice A0_1 l0_1.length c0_1, .int .i64 a0_2, .int .i64 a0_3], .slice A1 l1.length c1, .int .i64 a2] ?_; (with_reducible refine (tenter_newForecast.calls (fun k_ => k_ < w.heap.size) _ _ l0_0 (fun k_ => k_ < w.heap.size) _ _ l0_1 a0_2 a0_3 (fun k_ => k_ < w.heap.size) _ _ l1 a2 t102 t105 t108 t109 t110 t113 _ ?side1 ?side2 ?side3 A4.out).mono ?_); (case side1 => exact Kd.V_mk HC0_0.out (Kd.F_below (Kd.C_F k42_heap HR0_0.out) (pE HB))); (case side2 => exact Kd.V_mk HC0_1.out (Kd.F_below (Kd.C_F (Kd.heap_int .i64) HR0_1.out) (pE HB))); (case side3 => exact Kd.V_mk HC1.out (Kd.F_below (Kd.C_F k40_heap HR1.out) (pE HB))); rintro e w8 ⟨v103, v106, v111, rfl, ho0, ho1, ho2, hb⟩; refine ⟨_, rfl, ?_⟩; have HO104 := Aside0.mk (Kd.V_lower (Kd.V_mono (ok' := fun k_ => k_ ≠ gb101) ho0 (fun k_ hk_ => Or.elim hk_ (fun hs_ => Or.elim hs_ (fun hs_ => fun e_ => Nat.not_le.2 hs_ (by rw [e_]; exact GW101.out)) (fun hs_ => Or.elim hs_ (fun hs_ => fun e_ => Nat.not_le.2 hs_ (by rw [e_]; exact GW101.out)) (fun hs_ => fun e_ => Nat.not_le.2 hs_ (by rw [e_]; exact GW101.out)))) (fun hn_ => (Kd.freshB (g := gb101) (o := .cells #[.slice A0_0 l0_0.length c0_0, .slice A0_1 l0_1.length c0_1, .int .i64 a0_2, .int .i64 a0_3] 32 (0, 0)) (pB BK101.out) k_ hn_)))) (below_size (pE HB))); have HO107 := Aside0.mk (Kd.V_lower (Kd.V_mono (ok' := fun k_ => k_ ≠ gb101) ho1 (fun k_ hk_ => Or.elim hk_ (fun hs_ => Or.elim hs_ (fun hs_ => fun e_ => Nat.not_le.2 hs_ (by rw [e_]; exact GW101.out)) (fun hs_ => Or.elim hs_ (fun hs_ => fun e_ => Nat.not_le.2 hs_ (by rw [e_]; exact GW101.out)) (fun hs_ => fun e_ => Nat.not_le.2 hs_ (by rw [e_]; exact GW101.out)))) (fun hn_ => (Kd.freshB (g := gb101) (o := .cells #[.slice A0_0 l0_0.length c0_0, .slice A0_1 l0_1.length c0_1, .int .i64 a0_2, .int .i64 a0_3] 32 (0, 0)) (pB BK101.out) k_ hn_)))) (below_size (pE HB))); have HO112 := Aside0.mk (Kd.V_lower (Kd.V_mono (ok' := fun k_ => k_ ≠ gb101) ho2 (fun k_ hk_ => Or.elim hk_ (fun hs_ => Or.elim hs_ (fun hs_ => fun e_ => Nat.not_le.2 hs_ (by rw [e_]; exact GW101.out)) (fun hs_ => Or.elim hs_ (fun hs_ => fun e_ => Nat.not_le.2 hs_ (by rw [e_]; exact GW101.out)) (fun hs_ => fun e_ => Nat.not_le.2 hs_ (by rw [e_]; exact GW101.out)))) (fun hn_ => (Kd.freshB (g := gb101) (o := .cells #[.slice A0_0 l0_0.length c0_0, .slice A0_1 l0_1.length c0_1, .int .i64 a0_2, .int .i64 a0_3] 32 (0, 0)) (pB BK101.out) k_ hn_)))) (below_size (pE HB))); replace BK101 := bb BK101 hb; replace HB := bs HB hb; clear hb ho0 ho1 ho2) | ((with_reducible refine gate_dst (N := 8) rfl ?_); refine bx 8 #[.slice none 0 0, .slice none 0 0, .int .i64 0, .int .i64 0, .slice none 0 0] 102 ?_; intro gb114 hg w9 hbox hb; replace HO104 := ve HO104 hg hb; replace HO107 := ve HO107 hg hb; replace HO112 := ve HO112 hg hb; have BK114 := hbox; have GW114 := gs HB hg; have GE114 := gs HB hg; replace HB := bs HB hb; have NB101_114 := nl BK101 hg; have NB114_101 := nr BK101 hg; replace BK101 := bb BK101 hb; clear hb hbox hg; obtain ⟨Ao10, co10, eo10⟩ := Kd.V_slice HO104.out; subst eo10; have hnb11 := NB114_101.out; have hnc11 := NB101_114.out; obtain ⟨hcz12_0, hcz12_1, hcz12_2, hcz12_3, hcz12_4, hfz12_0, hfz12_1, hfz12_2, hfz12_3, hfz12_4⟩ := cf5 BK114; obtain ⟨Ao13, co13, eo13⟩ := Kd.V_slice HO107.out; subst eo13; obtain ⟨Ao14, co14, eo14⟩ := Kd.V_slice HO112.out; subst eo14) | ((with_reducible refine gate_dst (N := 27) rfl ?_); refine Kd.R_lit (Kd.int .i64) _ 3 ?hg (N := 27) ?hd (xs := ([] : List Int)) (inner := []) (ok := fun _ => True) (okp := fun _ => True) ?hr ?hp (fun _ hk => hk) trivial (Below.refl _ _) (Nat.le_refl _) (by simp) ?_; (case hd => rfl); (case hg => rfl); (case hr => first | (go_simp; done) | (go_simp; rfl)); (case hp => exact (Reps.none _ _)); intro v116 w15 ho16 hb hg_ hnew_; clear hg_ hnew_; (first | rw [← Ny115.out] at ho16 | (simp only [Int.reduceToNat] at ho16; rw [← Ny115.out] at ho16)); replace HO104 := Aside0.mk (Kd.V_elder' (by refine pV ?_; exact (Kd.V_mono (Kd.V_far (p := ⟨gb114, 4, none⟩) (Kd.V_far (p := ⟨gb114, 3, none⟩) (Kd.V_far (p := ⟨gb114, 2, none⟩) (Kd.V_far (p := ⟨gb114, 1, none⟩) (Kd.V_far (p := ⟨gb114, 0, none⟩) (Kd.V_mono HO104.out (fun k_ hk => (⟨hk, hk.2⟩ : _ ∧ k_ ≠ gb114))) (fun _ hk => hk.2) (.slice Ao10 t102.length co10)) (fun _ hk => hk.2) (.slice Ao13 t105.length co13)) (fun _ hk => hk.2) (.int .i64 t108)) (fun _ hk => hk.2) (.int .i64 t109)) (fun _ hk => hk.2) (.slice Ao14 t110.length co14)) (fun _ h_ => h_.1))) (Kd.R_base ho16) hb); replace HO107 := Aside0.mk (Kd.V_elder' (by refine pV ?_; exact (Kd.V_mono (Kd.V_far (p := ⟨gb114, 4, none⟩) (Kd.V_far (p := ⟨gb114, 3, none⟩) (Kd.V_far (p := ⟨gb114, 2, none⟩) (Kd.V_far (p := ⟨gb114, 1, none⟩) (Kd.V_far (p := ⟨gb114, 0, none⟩) (Kd.V_mono HO107.out (fun k_ hk => (⟨hk, hk.2⟩ : _ ∧ k_ ≠ gb114))) (fun _ hk => hk.2) (.slice Ao10 t102.length co10)) (fun _ hk => hk.2) (.slice Ao13 t105.length co13)) (fun _ hk => hk.2) (.int .i64 t108)) (fun _ hk => hk.2) (.int .i64 t109)) (fun _ hk => hk.2) (.slice Ao14 t110.length co14)) (fun _ h_ => h_.1))) (Kd.R_base ho16) hb); replace HO112 := Aside0.mk (Kd.V_elder' (by refine pV ?_; exact (Kd.V_mono (Kd.V_far (p := ⟨gb114, 4, none⟩) (Kd.V_far (p := ⟨gb114, 3, none⟩) (Kd.V_far (p := ⟨gb114, 2, none⟩) (Kd.V_far (p := ⟨gb114, 1, none⟩) (Kd.V_far (p := ⟨gb114, 0, none⟩) (Kd.V_mono HO112.out (fun k_ hk => (⟨hk, hk.2⟩ : _ ∧ k_ ≠ gb114))) (fun _ hk => hk.2) (.slice Ao10 t102.length co10)) (fun _ hk => hk.2) (.slice Ao13 t105.length co13)) (fun _ hk => hk.2) (.int .i64 t108)) (fun _ hk => hk.2) (.int .i64 t109)) (fun _ hk => hk.2) (.slice Ao14 t110.length co14)) (fun _ h_ => h_.1))) (Kd.R_base ho16) hb); have HO117 := rl ho16 HB; replace BK101 := bf BK101 hb; replace BK114 := Aside0.mk (blk_below (g := gb114) (o := .cells #[.slice Ao10 t102.length co10, .slice Ao13 t105.length co13, .int .i64 t108, .int .i64 t109, .slice Ao14 t110.length co14] 102 (0, 0)) (by refine pB ?_; refine blk_put (cs := #[.slice Ao10 t102.length co10, .slice Ao13 t105.length co13, .int .i64 t108, .int .i64 t109, .slice none 0 0]) ?_ 4 _ rfl; refine pB ?_; refine blk_put (cs := #[.slice Ao10 t102.length co10, .slice Ao13 t105.length co13, .int .i64 t108, .int .i64 0, .slice none 0 0]) ?_ 3 _ rfl; refine pB ?_; refine blk_put (cs := #[.slice Ao10 t102.length co10, .slice Ao13 t105.length co13, .int .i64 0, .int .i64 0, .slice none 0 0]) ?_ 2 _ rfl; refine pB ?_; refine blk_put (cs := #[.slice Ao10 t102.length co10, .slice none 0 0, .int .i64 0, .int .i64 0, .slice none 0 0]) ?_ 1 _ rfl; refine pB ?_; refine blk_put (cs := #[.slice none 0 0, .slice none 0 0, .int .i64 0, .int .i64 0, .slice none 0 0]) ?_ 0 _ rfl; (with_reducible repeat (first | refine blk_drewN ?_ _ | refine blk_drew ?_ | refine blk_alloc ?_ _)); exact BK114.out) hb); replace HB := bs HB hb; clear hb ho16) | ((with_reducible refine gate_dst (N := 28) rfl ?_); refine Kd.R_lit (Kd.int .i64) _ 3 ?hg (N := 28) ?hd (xs := ([] : List Int)) (inner := []) (ok := fun _ => True) (okp := fun _ => True) ?hr ?hp (fun _ hk => hk) trivial (Below.refl _ _) (Nat.le_refl _) (by simp) ?_; (case hd => rfl); (case hg => rfl); (case hr => first | (go_simp; done) | (go_simp; rfl)); (case hp => exact (Reps.none _ _)); intro v119 w17 ho18 hb hg_ hnew_; clear hg_ hnew_; (first | rw [← Ny118.out] at ho18 | (simp only [Int.reduceToNat] at ho18; rw [← Ny118.out] at ho18)); replace HO104 := Aside0.mk (Kd.V_elder' (pV HO104.out) (Kd.R_base ho18) hb); replace HO107 := Aside0.mk (Kd.V_elder' (pV HO107.out) (Kd.R_base ho18) hb); replace HO112 := Aside0.mk (Kd.V_elder' (pV HO112.out) (Kd.R_base ho18) hb); have HO120 := Aside0.mk (Kd.R_lower (Kd.R_new' ho18 (Kd.R_lt (pR HO117.out))) (below_size (pE HB))); replace HO117 := re HO117 ho18 hb; replace BK101 := bb BK101 hb; replace BK114 := bb BK114 hb; replace HB := bs HB hb; clear hb ho18) | ((with_reducible refine gate_dst (N := 9) rfl ?_); refine bx 9 #[.slice none 0 0] 30 ?_; intro gb121 hg w19 hbox hb; replace HO104 := ve HO104 hg hb; replace HO107 := ve HO107 hg hb; replace HO112 := ve HO112 hg hb; replace HO117 := rb HO117 hb; replace HO120 := rb HO120 hb; have BK121 := hbox; have GW121 := gs HB hg; have GE121 := gs HB hg; replace HB := bs HB hb; have NB101_121 := nl BK101 hg; have NB121_101 := nr BK101 hg; replace BK101 := bb BK101 hb; have NB114_121 := nl BK114 hg; have NB121_114 := nr BK114 hg; replace BK114 := bb BK114 hb; clear hb hbox hg; obtain ⟨Ao20, co20, eo20⟩ := Kd.R_slice HO117.out; subst eo20; have hnb21 := NB121_101.out; have hnc21 := NB101_121.out; have hnb22 := NB121_114.out; have hnc22 := NB114_121.out; obtain ⟨hcz23_0, hfz23_0⟩ := cf1 BK121; obtain ⟨hcz24_0, hcz24_1, hcz24_2, hcz24_3, hfz24_0, hfz24_1, hfz24_2, hfz24_3⟩ := cf4 BK101))
  go_loopg [10, 32] k (fun kq v10 v32 w' => ∃ (x10_1 : List Int) (x32_1 : Int) (x122000_1 : List Int) (u122000 : Value), v32 = .int .i64 x32_1 ∧ Aside0 (tenter_Order.l0 kq a2 x10_1 (l0_0.length : Int) x32_1 l0_0 l0_1 a0_2 a0_3 t102 t105 t108 t109 t110 x122000_1 = some (r1, r2)) ∧ Aside0 (kq ≤ k) ∧ Aside0 (Kd.R (Kd.int .i64) 3 w' w.heap.size (fun k_ => some k_ ≠ (u122000 : Value).ownBlock) v10 x10_1) ∧ Aside0 (Kd.V k42 42 w' w.heap.size (fun k_ => some k_ ≠ (v10 : Value).ownBlock ∧ some k_ ≠ (u122000 : Value).ownBlock ∧ k_ ≠ gb101 ∧ k_ ≠ gb114 ∧ k_ ≠ gb121) (.slice Ao10 t102.length co10) t102) ∧ Aside0 (Kd.V (Kd.int .i64) 3 w' w.heap.size (fun k_ => some k_ ≠ (v10 : Value).ownBlock ∧ some k_ ≠ (u122000 : Value).ownBlock ∧ k_ ≠ gb101 ∧ k_ ≠ gb114 ∧ k_ ≠ gb121) (.slice Ao13 t105.length co13) t105) ∧ Aside0 (Kd.V k40 40 w' w.heap.size (fun k_ => some k_ ≠ (v10 : Value).ownBlock ∧ some k_ ≠ (u122000 : Value).ownBlock ∧ k_ ≠ gb101 ∧ k_ ≠ gb114 ∧ k_ ≠ gb121) (.slice Ao14 t110.length co14) t110) ∧ Aside0 (Kd.R (Kd.int .i64) 3 w' w.heap.size (fun k_ => some k_ ≠ (v10 : Value).ownBlock) u122000 x122000_1) ∧ Aside0 (w'.heap[gb101]? = some (.cells #[(.slice A0_0 l0_0.length c0_0), (.slice A0_1 l0_1.length c0_1), .int .i64 a0_2, .int .i64 a0_3] 32 (0, 0))) ∧ Aside0 (w'.heap[gb114]? = some (.cells #[(.slice Ao10 t102.length co10), (.slice Ao13 t105.length co13), .int .i64 t108, .int .i64 t109, (.slice Ao14 t110.length co14)] 102 (0, 0))) ∧ Aside0 (w'.heap[gb121]? = some (.cells #[u122000] 30 (0, 0))) ∧ Aside0 (Below w.heap.size w w'))
  case atStart => exact ⟨(y118), (0), (y115), (.slice Ao20 y115.length co20), (by first | rfl | (simp; done) | (simp [*]; done)), H', ⟨Nat.le_refl _⟩, ⟨by (with_reducible repeat (first | apply Kd.R_alloc | apply Kd.R_drewN | apply Kd.R_drew)); exact Kd.R_mono (Kd.R_far (p := ⟨gb121, 0, none⟩) (Kd.R_types HO120.out BK121.out (by decide)) (fun _ hk => hk.2) (.slice Ao20 y115.length co20)) (fun _ hk => hk.1.2)⟩, ⟨by (with_reducible repeat (first | apply Kd.V_alloc | apply Kd.V_drewN | apply Kd.V_drew)); exact Kd.V_mono (Kd.V_far (p := ⟨gb121, 0, none⟩) (Kd.V_mono HO104.out (fun k_ hk => (⟨hk, hk.2⟩ : _ ∧ k_ ≠ gb121))) (fun _ hk => hk.2) (.slice Ao20 y115.length co20)) (fun _ hk => ⟨hk.1.1.2, ⟨hk.1.1.1.2, ⟨hk.1.1.1.1.1, ⟨hk.1.1.1.1.2, hk.1.2⟩⟩⟩⟩)⟩, ⟨by (with_reducible repeat (first | apply Kd.V_alloc | apply Kd.V_drewN | apply Kd.V_drew)); exact Kd.V_mono (Kd.V_far (p := ⟨gb121, 0, none⟩) (Kd.V_mono HO107.out (fun k_ hk => (⟨hk, hk.2⟩ : _ ∧ k_ ≠ gb121))) (fun _ hk => hk.2) (.slice Ao20 y115.length co20)) (fun _ hk => ⟨hk.1.1.2, ⟨hk.1.1.1.2, ⟨hk.1.1.1.1.1, ⟨hk.1.1.1.1.2, hk.1.2⟩⟩⟩⟩)⟩, ⟨by (with_reducible repeat (first | apply Kd.V_alloc | apply Kd.V_drewN | apply Kd.V_drew)); exact Kd.V_mono (Kd.V_far (p := ⟨gb121, 0, none⟩) (Kd.V_mono HO112.out (fun k_ hk => (⟨hk, hk.2⟩ : _ ∧ k_ ≠ gb121))) (fun _ hk => hk.2) (.slice Ao20 y115.length co20)) (fun _ hk => ⟨hk.1.1.2, ⟨hk.1.1.1.2, ⟨hk.1.1.1.1.1, ⟨hk.1.1.1.1.2, hk.1.2⟩⟩⟩⟩)⟩, ⟨by (with_reducible repeat (first | apply Kd.R_alloc | apply Kd.R_drewN | apply Kd.R_drew)); exact Kd.R_mono (Kd.R_far (p := ⟨gb121, 0, none⟩) (Kd.R_types HO117.out BK121.out (by decide)) (fun _ hk => hk.2) (.slice Ao20 y115.length co20)) (fun _ hk => hk.1.2)⟩, ⟨by refine pB ?_; refine blk_far ?_ NB101_121.out _; (with_reducible repeat (first | refine blk_drewN ?_ _ | refine blk_drew ?_ | refine blk_alloc ?_ _)); exact BK101.out⟩, ⟨by refine pB ?_; refine blk_far ?_ NB114_121.out _; (with_reducible repeat (first | refine blk_drewN ?_ _ | refine blk_drew ?_ | refine blk_alloc ?_ _)); exact BK114.out⟩, ⟨by refine pB ?_; refine blk_put (cs := #[.slice none 0 0]) ?_ 0 _ rfl; (with_reducible repeat (first | refine blk_drewN ?_ _ | refine blk_drew ?_ | refine blk_alloc ?_ _)); exact BK121.out⟩, ⟨pE HB⟩⟩
  case round =>
   clear H'
   try clear c1
   try clear c2
   try clear p2
   try clear c4
   try clear c5
   try clear c5b0
   try clear c5b1
   try clear c11
   try clear c21
   try clear c22
   try clear c23
   try clear hcz12_0
   try clear hcz12_1
   try clear hcz12_2
   try clear hcz12_3
   try clear hcz12_4
   try clear hcz23_0
   try clear hcz24_0
   try clear hcz24_1
   try clear hcz24_2
   try clear hcz24_3
   try clear hcz7_0
   try clear hcz7_1
   try clear hcz7_2
   try clear hcz7_3
   try clear hfz12_0
   try clear hfz12_1
   try clear hfz12_2
   try clear hfz12_3
   try clear hfz12_4
   try clear hfz23_0
   try clear hfz24_0
   try clear hfz24_1
   try clear hfz24_2
   try clear hfz24_3
   try clear hfz7_0
   try clear hfz7_1
   try clear hfz7_2
   try clear hfz7_3
   obtain ⟨x10_1, x32_1, x122000_1, u122000, rfl, HA, HK1, HO_10, HO_115000, HO_115001, HO_115004, HO_122000, BK101, BK114, BK121, HB⟩ := hrel
   cases gk with
   | zero => exact absurd HA.out (by simp [tenter_Order.l0])
   | succ k1 =>
    have H := HA.out
    clear HA
    simp only [tenter_Order.l0] at H
    by_cases c25 : x32_1 < (l0_0.length : Int)
    ·rw [if_pos c25] at H
     have c25b0 : decide (x32_1 < (l0_0.length : Int)) = true := decide_eq_true c25
     clear c25
     obtain ⟨t122, A26, H⟩ := bi H
     obtain ⟨y123, hy123⟩ : ∃ y_ : List Int, y_ = (([t122] : List Int)) := ⟨_, rfl⟩
     replace H : (if x122000_1.length + y123.length < 17592186044416 then ((some (([x32_1] : List Int) : List Int)).bind fun y129 => (if x10_1.length + y129.length < 17592186044416 then (tenter_Order.l0 k1 a2 (x10_1 ++ y129) (l0_0.length : Int) (wrap64 (x32_1 + 1)) l0_0 l0_1 a0_2 a0_3 t102 t105 t108 t109 t110 (x122000_1 ++ y123)) else (none))) else (none)) = some (r1, r2) := yy hy123 H
     have Ny123 := Aside0.mk hy123
     clear hy123
     by_cases c27 : x122000_1.length + y123.length < 17592186044416
     ·rw [if_pos c27] at H
      have LMc27 := Aside0.mk c27
      clear c27
      obtain ⟨y126, hy126⟩ : ∃ y_ : List Int, y_ = (x122000_1 ++ y123) := ⟨_, rfl⟩
      replace H : ((some (([x32_1] : List Int) : List Int)).bind fun y129 => (if x10_1.length + y129.length < 17592186044416 then (tenter_Order.l0 k1 a2 (x10_1 ++ y129) (l0_0.length : Int) (wrap64 (x32_1 + 1)) l0_0 l0_1 a0_2 a0_3 t102 t105 t108 t109 t110 y126) else (none))) = some (r1, r2) := yy hy126 H
      have Ny126 := Aside0.mk hy126
      clear hy126
      obtain ⟨y129, hy129⟩ : ∃ y_ : List Int, y_ = (([x32_1] : List Int)) := ⟨_, rfl⟩
      replace H : (if x10_1.length + y129.length < 17592186044416 then (tenter_Order.l0 k1 a2 (x10_1 ++ y129) (l0_0.length : Int) (wrap64 (x32_1 + 1)) l0_0 l0_1 a0_2 a0_3 t102 t105 t108 t109 t110 y126) else (none)) = some (r1, r2) := yy hy129 H
      have Ny129 := Aside0.mk hy129
      clear hy129
      by_cases c28 : x10_1.length + y129.length < 17592186044416
      ·rw [if_pos c28] at H
       have LMc28 := Aside0.mk c28
       clear c28
       obtain ⟨y132, hy132⟩ : ∃ y_ : List Int, y_ = (x10_1 ++ y129) := ⟨_, rfl⟩
       replace H : (tenter_Order.l0 k1 a2 y132 (l0_0.length : Int) (wrap64 (x32_1 + 1)) l0_0 l0_1 a0_2 a0_3 t102 t105 t108 t109 t110 y126) = some (r1, r2) := yy hy132 H
       have Ny132 := Aside0.mk hy132
       clear hy132
       have H' := Aside0.mk H
       clear H
       obtain ⟨Ao29, co29, eo29⟩ := Kd.R_slice HO_122000.out
       subst eo29
       obtain ⟨Ao30, co30, eo30⟩ := Kd.R_slice HO_10.out
       subst eo30
       try go_wp2
       replace HO_10 := Aside0.mk (Kd.R_drew HO_10.out)
       replace HO_115000 := Aside0.mk (Kd.V_drew HO_115000.out)
       replace HO_115001 := Aside0.mk (Kd.V_drew HO_115001.out)
       replace HO_115004 := Aside0.mk (Kd.V_drew HO_115004.out)
       replace HO_122000 := Aside0.mk (Kd.R_drew HO_122000.out)
       replace BK101 := Aside0.mk (blk_drew BK101.out)
       replace BK114 := Aside0.mk (blk_drew BK114.out)
       replace BK121 := Aside0.mk (blk_drew BK121.out)
       replace HB := Aside0.mk (below_drew1 HB.out)
       refine start_ (n := 13) (S := fun w' => w'.cell? ⟨gb121, 0, none⟩ = some (.slice Ao29 x122000_1.length co29) ∧ w'.cell? ⟨gb114, 0, none⟩ = some (.slice Ao10 t102.length co10) ∧ w'.cell? ⟨gb114, 1, none⟩ = some (.slice Ao13 t105.length co13) ∧ w'.cell? ⟨gb114, 2, none⟩ = some (.int .i64 t108) ∧ w'.cell? ⟨gb114, 3, none⟩ = some (.int .i64 t109) ∧ w'.cell? ⟨gb114, 4, none⟩ = some (.slice Ao14 t110.length co14)) (ds := [11]) #[false, false, false, false, false, false, false, false, false, false, false, false, false] (by kernel_rfl) rfl rfl ⟨(blk_cell BK121.out 0).trans rfl, (blk_cell BK114.out 0).trans rfl, (blk_cell BK114.out 1).trans rfl, (blk_cell BK114.out 2).trans rfl, (blk_cell BK114.out 3).trans rfl, (blk_cell BK114.out 4).trans rfl⟩ (fun hHeld => ?_); refine with_tabW tenter_Order.tab8 tenter_Order.bits8 (fun HT_ HW_ => ?_)
       generalize wr.drew = w31 at HO_10 HO_115000 HO_115001 HO_115004 HO_122000 BK101 BK114 BK121 HB hHeld ⊢
       refine pu 2 37 ?_
       refine pu 3 38 ?_
       refine pu 7 42 ?_
       refine pu 8 43 ?_
       refine tk 0 35 hHeld ?_
       refine tk 1 36 hHeld ?_
       refine join_ (σ := Value × Value × Value) 3 #[true, true, true, true, true, true, true, true, true, true, false, false, false] (fun s_ => [(39, .int .i64 t122), (40, s_.1), (41, s_.2.1), (44, s_.2.2)]) (fun s_ w' => (w'.cell? ⟨gb121, 0, none⟩ = some (.slice Ao29 x122000_1.length co29) ∧ w'.cell? ⟨gb114, 0, none⟩ = some (.slice Ao10 t102.length co10) ∧ w'.cell? ⟨gb114, 1, none⟩ = some (.slice Ao13 t105.length co13) ∧ w'.cell? ⟨gb114, 2, none⟩ = some (.int .i64 t108) ∧ w'.cell? ⟨gb114, 3, none⟩ = some (.int .i64 t109) ∧ w'.cell? ⟨gb114, 4, none⟩ = some (.slice Ao14 t110.length co14)) ∧ (Kd.R (Kd.int .i64) 3 w' w.heap.size (fun k_ => some k_ ≠ (s_.2.1 : Value).ownBlock ∧ some k_ ≠ (s_.2.2 : Value).ownBlock ∧ some k_ ≠ (.slice Ao30 x10_1.length co30 : Value).ownBlock) s_.1 y123) ∧ (Kd.R (Kd.int .i64) 3 w' w.heap.size (fun k_ => some k_ ≠ (s_.1 : Value).ownBlock ∧ some k_ ≠ (s_.2.2 : Value).ownBlock ∧ some k_ ≠ (.slice Ao30 x10_1.length co30 : Value).ownBlock) s_.2.1 y126) ∧ (Kd.R (Kd.int .i64) 3 w' w.heap.size (fun k_ => some k_ ≠ (s_.1 : Value).ownBlock ∧ some k_ ≠ (s_.2.1 : Value).ownBlock ∧ some k_ ≠ (.slice Ao30 x10_1.length co30 : Value).ownBlock) s_.2.2 y129) ∧ (Kd.R (Kd.int .i64) 3 w' w.heap.size (fun k_ => some k_ ≠ (s_.1 : Value).ownBlock ∧ some k_ ≠ (s_.2.1 : Value).ownBlock ∧ some k_ ≠ (s_.2.2 : Value).ownBlock) (.slice Ao30 x10_1.length co30) x10_1) ∧ (Kd.V k42 42 w' w.heap.size (fun k_ => some k_ ≠ (s_.1 : Value).ownBlock ∧ some k_ ≠ (s_.2.1 : Value).ownBlock ∧ some k_ ≠ (s_.2.2 : Value).ownBlock ∧ some k_ ≠ (.slice Ao30 x10_1.length co30 : Value).ownBlock ∧ k_ ≠ gb101 ∧ k_ ≠ gb114 ∧ k_ ≠ gb121) (.slice Ao10 t102.length co10) t102) ∧ (Kd.V (Kd.int .i64) 3 w' w.heap.size (fun k_ => some k_ ≠ (s_.1 : Value).ownBlock ∧ some k_ ≠ (s_.2.1 : Value).ownBlock ∧ some k_ ≠ (s_.2.2 : Value).ownBlock ∧ some k_ ≠ (.slice Ao30 x10_1.length co30 : Value).ownBlock ∧ k_ ≠ gb101 ∧ k_ ≠ gb114 ∧ k_ ≠ gb121) (.slice Ao13 t105.length co13) t105) ∧ (Kd.V k40 40 w' w.heap.size (fun k_ => some k_ ≠ (s_.1 : Value).ownBlock ∧ some k_ ≠ (s_.2.1 : Value).ownBlock ∧ some k_ ≠ (s_.2.2 : Value).ownBlock ∧ some k_ ≠ (.slice Ao30 x10_1.length co30 : Value).ownBlock ∧ k_ ≠ gb101 ∧ k_ ≠ gb114 ∧ k_ ≠ gb121) (.slice Ao14 t110.length co14) t110) ∧ (w'.heap[gb101]? = some (.cells #[.slice A0_0 l0_0.length c0_0, .slice A0_1 l0_1.length c0_1, .int .i64 a0_2, .int .i64 a0_3] 32 (0, 0))) ∧ (w'.heap[gb114]? = some (.cells #[.slice Ao10 t102.length co10, .slice Ao13 t105.length co13, .int .i64 t108, .int .i64 t109, .slice Ao14 t110.length co14] 102 (0, 0))) ∧ (w'.heap[gb121]? = some (.cells #[.slice Ao29 x122000_1.length co29] 30 (0, 0))) ∧ (Below w.heap.size w w')) ?_ ?_
       rotate_left
       ·intro hCont
        refine two_ (i := 4) (j := 9) (Ni := some 39) (Nj := some 44) #[true, true, true, true, true, false, false, true, true, false, false, false, false] #[true, true, true, true, false, false, false, true, true, true, false, false, false] rfl rfl rfl rfl (two_of HT_.out (by kernel_rfl)) (by decide) (by decide) (fun K hK => ?_) (fun K hK => ?_)
        ·skip
         refine gO Tryd.func49 #[.agg #[.slice Ao10 t102.length co10, .slice Ao13 t105.length co13, .int .i64 t108, .int .i64 t109, .slice Ao14 t110.length co14], .int .i64 x32_1, .int .i64 a2] ?_
         with_reducible refine (tenter_forecast_late.calls k1 _ _ t102 _ _ t105 t108 t109 _ _ t110 x32_1 a2 t122 _ ?side1 ?side2 ?side3 ?side4 ?side5 ?side6 A26.out).mono ?_
         (case side1 => exact pC (Kd.V_reads' HO_115000.out).2.2)
         (case side2 => exact (Kd.V_reads' HO_115000.out).2.1)
         (case side3 => exact pC (Kd.V_reads' HO_115001.out).2.2)
         (case side4 => exact (Kd.V_reads' HO_115001.out).2.1)
         (case side5 => exact pC (Kd.V_reads' HO_115004.out).2.2)
         (case side6 => exact (Kd.V_reads' HO_115004.out).2.1)
         rintro e w32 ⟨rfl, hb⟩
         refine ⟨_, rfl, ?_⟩
         replace HO_10 := rb HO_10 hb
         replace HO_115000 := vb HO_115000 hb
         replace HO_115001 := vb HO_115001 hb
         replace HO_115004 := vb HO_115004 hb
         replace HO_122000 := rb HO_122000 hb
         replace BK101 := bb BK101 hb
         replace BK114 := bb BK114 hb
         replace BK121 := bb BK121 hb
         replace HB := bs HB hb
         (try clear hb)
         (try clear hb2)
         (try clear hk)
         (try clear hi)
         refine hK.out _ _ ⟨(blk_cell BK121.out 0).trans rfl, (blk_cell BK114.out 0).trans rfl, (blk_cell BK114.out 1).trans rfl, (blk_cell BK114.out 2).trans rfl, (blk_cell BK114.out 3).trans rfl, (blk_cell BK114.out 4).trans rfl⟩ (fun hHeld => ?_)
         clear hK K
         refine norm_ (a' := ?_) ?_ ?_
         rotate_left
         ·show Act.put _ (some 39) _ = _
          simp only [Act.put, List.setIfInBounds_toArray, List.set_cons_zero, List.set_cons_succ, i64_w, i32_w]
          rfl
         refine two_ (i := 5) (j := 9) (Ni := some 40) (Nj := some 44) #[true, true, true, true, true, true, false, true, true, false, false, false, false] #[true, true, true, true, true, false, false, true, true, true, false, false, false] rfl rfl rfl rfl (two_of HT_.out (by kernel_rfl)) (by decide) (by decide) (fun K hK => ?_) (fun K hK => ?_)
         ·skip
          refine Kd.R_lit_step (Kd.int .i64) _ 3 ?hg (N := 40) ?hd (xs := ([t122] : List Int)) (inner := [.int .i64 t122]) (ok := fun _ => True) (okp := fun _ => True) ?hr ?hp (fun _ hk => hk) trivial (Below.refl _ _) (Nat.le_refl _) (by simp) ?_; (case hd => rfl); (case hg => rfl); (case hr => first | (go_simp; done) | (go_simp; rfl)); (case hp => exact (Reps.one (show Kd.M (Kd.int .i64) _ _ _ t122 [.int .i64 t122] from rfl) (Reps.none _ _)))
          intro v124 w33 ho34 hb hg_ hnew_
          clear hg_ hnew_
          (first | rw [← Ny123.out] at ho34 | (simp only [Int.reduceToNat] at ho34; rw [← Ny123.out] at ho34))
          replace HO_115000 := Aside0.mk (Kd.V_elder' (pV HO_115000.out) (Kd.R_base ho34) hb)
          replace HO_115001 := Aside0.mk (Kd.V_elder' (pV HO_115001.out) (Kd.R_base ho34) hb)
          replace HO_115004 := Aside0.mk (Kd.V_elder' (pV HO_115004.out) (Kd.R_base ho34) hb)
          have HO125 := Aside0.mk (Kd.R_lower (Kd.R_new' (Kd.R_new' ho34 (Kd.R_lt (pR HO_10.out))) (Kd.R_lt (pR HO_122000.out))) (below_size (pE HB)))
          replace HO_10 := re HO_10 ho34 hb
          replace HO_122000 := re HO_122000 ho34 hb
          replace BK101 := bb BK101 hb
          replace BK114 := bb BK114 hb
          replace BK121 := bb BK121 hb
          replace HB := bs HB hb
          clear hb ho34
          obtain ⟨Ao36, co36, eo36⟩ := Kd.R_slice HO125.out
          (first | subst eo36 | (injection eo36 with f1_ f2_ f3_; have f4_ := f1_.symm; have f5_ := f3_.symm; clear f1_ f2_ f3_; subst f4_; subst f5_))
          refine hK.out _ _ ⟨(blk_cell BK121.out 0).trans rfl, (blk_cell BK114.out 0).trans rfl, (blk_cell BK114.out 1).trans rfl, (blk_cell BK114.out 2).trans rfl, (blk_cell BK114.out 3).trans rfl, (blk_cell BK114.out 4).trans rfl⟩ (fun hHeld => ?_)
          clear hK K
          refine norm_ (a' := ?_) ?_ ?_
          rotate_left
          ·show Act.put _ (some 40) _ = _
           simp only [Act.put, List.setIfInBounds_toArray, List.set_cons_zero, List.set_cons_succ, i64_w, i32_w]
           rfl
          refine two_ (i := 6) (j := 9) (Ni := some 41) (Nj := some 44) #[true, true, true, true, true, true, true, true, true, false, false, false, false] #[true, true, true, true, true, true, false, true, true, true, false, false, false] rfl rfl rfl rfl (two_of HT_.out (by kernel_rfl)) (by decide) (by decide) (fun K hK => ?_) (fun K hK => ?_)
          ·skip
           refine Kd.R_append_rows_step (Kd.int .i64) (w0 := w) w.heap.size (by rfl) (.tmp 35) (.tmp 40) 30 3 (.int .i64 0) 8 rfl Tryd.underlying30 info3 rfl (by decide) (by omega) (.slice Ao29 x122000_1.length co29) x122000_1 y123 _ _ _ (fun k_ => some k_ ≠ (.slice Ao30 x10_1.length co30 : Value).ownBlock ∧ some k_ ≠ (.slice Ao36 y123.length co36 : Value).ownBlock) (fun _ => False) rfl rfl ?aO ?aR (fun _ _ h => h) (fun _ h => h.elim) ?aF ?aB ?aS ?aL ?_
           (case aR => exact pC (Kd.R_reads' HO125.out).2.2)
           (case aB => exact (pE HB))
           (case aF => exact (fun k_ hk => ⟨Kd.fresh' (Kd.R_lt (pR HO_10.out)) k_ hk, Kd.fresh' (Kd.R_lt (pR HO125.out)) k_ hk⟩))
           (case aO => exact (pR HO_122000.out))
           (case aS => exact (below_size (pE HB)))
           (case aL => have := LMc27.out; omega)
           intro v127 w35 ho hb hg hat
           rw [← Ny126.out] at ho
           replace HO_10 := Aside0.mk (Kd.R_after (ok := (fun k_ => some k_ ≠ (.slice Ao36 y123.length co36 : Value).ownBlock)) (by refine pR ?_; exact Kd.R_mono HO_10.out (fun _ hk => ⟨hk.2, hk.1⟩)) hg hat)
           replace HO_115000 := Aside0.mk (Kd.V_afterv (ok := (fun k_ => some k_ ≠ (.slice Ao30 x10_1.length co30 : Value).ownBlock ∧ some k_ ≠ (.slice Ao36 y123.length co36 : Value).ownBlock ∧ k_ ≠ gb101 ∧ k_ ≠ gb114 ∧ k_ ≠ gb121)) (by refine pV ?_; exact Kd.V_mono HO_115000.out (fun _ hk => ⟨⟨hk.1.1, ⟨hk.2, ⟨hk.1.2.2.1, ⟨hk.1.2.2.2.1, hk.1.2.2.2.2⟩⟩⟩⟩, hk.1.2.1⟩)) hg hat)
           replace HO_115001 := Aside0.mk (Kd.V_afterv (ok := (fun k_ => some k_ ≠ (.slice Ao30 x10_1.length co30 : Value).ownBlock ∧ some k_ ≠ (.slice Ao36 y123.length co36 : Value).ownBlock ∧ k_ ≠ gb101 ∧ k_ ≠ gb114 ∧ k_ ≠ gb121)) (by refine pV ?_; exact Kd.V_mono HO_115001.out (fun _ hk => ⟨⟨hk.1.1, ⟨hk.2, ⟨hk.1.2.2.1, ⟨hk.1.2.2.2.1, hk.1.2.2.2.2⟩⟩⟩⟩, hk.1.2.1⟩)) hg hat)
           replace HO_115004 := Aside0.mk (Kd.V_afterv (ok := (fun k_ => some k_ ≠ (.slice Ao30 x10_1.length co30 : Value).ownBlock ∧ some k_ ≠ (.slice Ao36 y123.length co36 : Value).ownBlock ∧ k_ ≠ gb101 ∧ k_ ≠ gb114 ∧ k_ ≠ gb121)) (by refine pV ?_; exact Kd.V_mono HO_115004.out (fun _ hk => ⟨⟨hk.1.1, ⟨hk.2, ⟨hk.1.2.2.1, ⟨hk.1.2.2.2.1, hk.1.2.2.2.2⟩⟩⟩⟩, hk.1.2.1⟩)) hg hat)
           replace BK101 := Aside0.mk (blk_grown (g := gb101) (o := .cells #[.slice A0_0 l0_0.length c0_0, .slice A0_1 l0_1.length c0_1, .int .i64 a0_2, .int .i64 a0_3] 32 (0, 0)) (pB BK101.out) hg (Kd.R_ne HO_122000.out BK101.out (by decide)))
           replace BK114 := Aside0.mk (blk_grown (g := gb114) (o := .cells #[.slice Ao10 t102.length co10, .slice Ao13 t105.length co13, .int .i64 t108, .int .i64 t109, .slice Ao14 t110.length co14] 102 (0, 0)) (pB BK114.out) hg (Kd.R_ne HO_122000.out BK114.out (by decide)))
           replace BK121 := Aside0.mk (blk_grown (g := gb121) (o := .cells #[.slice Ao29 x122000_1.length co29] 30 (0, 0)) (pB BK121.out) hg (Kd.R_ne HO_122000.out BK121.out (by decide)))
           replace HO125 := Aside0.mk (Kd.R_after (ok := (fun k_ => some k_ ≠ (.slice Ao30 x10_1.length co30 : Value).ownBlock)) (by refine pR ?_; exact Kd.R_mono HO125.out (fun _ hk => ⟨hk.1.2, hk.2⟩)) hg hat)
           replace HB := Aside0.mk (hb)
           have HO128 := Aside0.mk (ho)
           clear HO_122000 ho hb hg hat
           refine hK.out _ _ ⟨(blk_cell BK121.out 0).trans rfl, (blk_cell BK114.out 0).trans rfl, (blk_cell BK114.out 1).trans rfl, (blk_cell BK114.out 2).trans rfl, (blk_cell BK114.out 3).trans rfl, (blk_cell BK114.out 4).trans rfl⟩ (fun hHeld => ?_)
           clear hK K
           refine norm_ (a' := ?_) ?_ ?_
           rotate_left
           ·show Act.put _ (some 41) _ = _
            simp only [Act.put, List.setIfInBounds_toArray, List.set_cons_zero, List.set_cons_succ, i64_w, i32_w]
            rfl
           refine on 9 (fun K hK => ?_)
           refine Kd.R_lit_step (Kd.int .i64) _ 3 ?hg (N := 44) ?hd (xs := ([x32_1] : List Int)) (inner := [.int .i64 x32_1]) (ok := fun _ => True) (okp := fun _ => True) ?hr ?hp (fun _ hk => hk) trivial (Below.refl _ _) (Nat.le_refl _) (by simp) ?_; (case hd => rfl); (case hg => rfl); (case hr => first | (go_simp; done) | (go_simp; rfl)); (case hp => exact (Reps.one (show Kd.M (Kd.int .i64) _ _ _ x32_1 [.int .i64 x32_1] from rfl) (Reps.none _ _)))
           intro v130 w37 ho38 hb hg_ hnew_
           clear hg_ hnew_
           (first | rw [← Ny129.out] at ho38 | (simp only [Int.reduceToNat] at ho38; rw [← Ny129.out] at ho38))
           replace HO_115000 := Aside0.mk (Kd.V_elder' (pV HO_115000.out) (Kd.R_base ho38) hb)
           replace HO_115001 := Aside0.mk (Kd.V_elder' (pV HO_115001.out) (Kd.R_base ho38) hb)
           replace HO_115004 := Aside0.mk (Kd.V_elder' (pV HO_115004.out) (Kd.R_base ho38) hb)
           have HO131 := Aside0.mk (Kd.R_lower (Kd.R_new' (Kd.R_new' (Kd.R_new' ho38 (Kd.R_lt (pR HO_10.out))) (Kd.R_lt (pR HO125.out))) (Kd.R_lt (pR HO128.out))) (below_size (pE HB)))
           replace HO_10 := re HO_10 ho38 hb
           replace HO125 := re HO125 ho38 hb
           replace HO128 := re HO128 ho38 hb
           replace BK101 := bb BK101 hb
           replace BK114 := bb BK114 hb
           replace BK121 := bb BK121 hb
           replace HB := bs HB hb
           clear hb ho38
           refine hK.out _ _ ⟨(blk_cell BK121.out 0).trans rfl, (blk_cell BK114.out 0).trans rfl, (blk_cell BK114.out 1).trans rfl, (blk_cell BK114.out 2).trans rfl, (blk_cell BK114.out 3).trans rfl, (blk_cell BK114.out 4).trans rfl⟩ (fun hHeld => ?_)
           clear hK K
           refine norm_ (a' := ?_) ?_ ?_
           rotate_left
           ·show Act.put _ (some 44) _ = _
            simp only [Act.put, List.setIfInBounds_toArray, List.set_cons_zero, List.set_cons_succ, i64_w, i32_w]
            rfl
           exact norm_ (by simp only [putAll, Act.put, List.setIfInBounds_toArray, List.set_cons_zero, List.set_cons_succ]) (hCont (.slice Ao36 y123.length co36, v127, v130) _ ⟨hHeld, (by refine pR ?_; exact Kd.R_mono HO125.out (fun _ hk => ⟨hk.1.2, ⟨hk.2, hk.1.1⟩⟩)), (by refine pR ?_; exact Kd.R_mono HO128.out (fun _ hk => ⟨hk.1.2, ⟨hk.2, hk.1.1⟩⟩)), (by refine pR ?_; exact Kd.R_mono HO131.out (fun _ hk => ⟨hk.1.2, ⟨hk.2, hk.1.1.2⟩⟩)), (by refine pR ?_; exact Kd.R_mono HO_10.out (fun _ hk => ⟨hk.1.1, ⟨hk.1.2, hk.2⟩⟩)), (by refine pV ?_; exact Kd.V_mono HO_115000.out (fun _ hk => ⟨hk.1.1.2.1, ⟨hk.1.2, ⟨hk.2, ⟨hk.1.1.1, ⟨hk.1.1.2.2.1, ⟨hk.1.1.2.2.2.1, hk.1.1.2.2.2.2⟩⟩⟩⟩⟩⟩)), (by refine pV ?_; exact Kd.V_mono HO_115001.out (fun _ hk => ⟨hk.1.1.2.1, ⟨hk.1.2, ⟨hk.2, ⟨hk.1.1.1, ⟨hk.1.1.2.2.1, ⟨hk.1.1.2.2.2.1, hk.1.1.2.2.2.2⟩⟩⟩⟩⟩⟩)), (by refine pV ?_; exact Kd.V_mono HO_115004.out (fun _ hk => ⟨hk.1.1.2.1, ⟨hk.1.2, ⟨hk.2, ⟨hk.1.1.1, ⟨hk.1.1.2.2.1, ⟨hk.1.1.2.2.2.1, hk.1.1.2.2.2.2⟩⟩⟩⟩⟩⟩)), (pB BK101.out), (pB BK114.out), (pB BK121.out), (pE HB)⟩)
          ·skip
           refine Kd.R_lit_step (Kd.int .i64) _ 3 ?hg (N := 44) ?hd (xs := ([x32_1] : List Int)) (inner := [.int .i64 x32_1]) (ok := fun _ => True) (okp := fun _ => True) ?hr ?hp (fun _ hk => hk) trivial (Below.refl _ _) (Nat.le_refl _) (by simp) ?_; (case hd => rfl); (case hg => rfl); (case hr => first | (go_simp; done) | (go_simp; rfl)); (case hp => exact (Reps.one (show Kd.M (Kd.int .i64) _ _ _ x32_1 [.int .i64 x32_1] from rfl) (Reps.none _ _)))
           intro v130 w35 ho36 hb hg_ hnew_
           clear hg_ hnew_
           (first | rw [← Ny129.out] at ho36 | (simp only [Int.reduceToNat] at ho36; rw [← Ny129.out] at ho36))
           replace HO_115000 := Aside0.mk (Kd.V_elder' (pV HO_115000.out) (Kd.R_base ho36) hb)
           replace HO_115001 := Aside0.mk (Kd.V_elder' (pV HO_115001.out) (Kd.R_base ho36) hb)
           replace HO_115004 := Aside0.mk (Kd.V_elder' (pV HO_115004.out) (Kd.R_base ho36) hb)
           have HO131 := Aside0.mk (Kd.R_lower (Kd.R_new' (Kd.R_new' (Kd.R_new' ho36 (Kd.R_lt (pR HO_10.out))) (Kd.R_lt (pR HO_122000.out))) (Kd.R_lt (pR HO125.out))) (below_size (pE HB)))
           replace HO_10 := re HO_10 ho36 hb
           replace HO_122000 := re HO_122000 ho36 hb
           replace HO125 := re HO125 ho36 hb
           replace BK101 := bb BK101 hb
           replace BK114 := bb BK114 hb
           replace BK121 := bb BK121 hb
           replace HB := bs HB hb
           clear hb ho36
           obtain ⟨Ao38, co38, eo38⟩ := Kd.R_slice HO125.out
           (first | subst eo38 | (injection eo38 with f1_ f2_ f3_; have f4_ := f1_.symm; have f5_ := f3_.symm; clear f1_ f2_ f3_; subst f4_; subst f5_))
           refine hK.out _ _ ⟨(blk_cell BK121.out 0).trans rfl, (blk_cell BK114.out 0).trans rfl, (blk_cell BK114.out 1).trans rfl, (blk_cell BK114.out 2).trans rfl, (blk_cell BK114.out 3).trans rfl, (blk_cell BK114.out 4).trans rfl⟩ (fun hHeld => ?_)
           clear hK K
           refine norm_ (a' := ?_) ?_ ?_
           rotate_left
           ·show Act.put _ (some 44) _ = _
            simp only [Act.put, List.setIfInBounds_toArray, List.set_cons_zero, List.set_cons_succ, i64_w, i32_w]
            rfl
           refine on 6 (fun K hK => ?_)
           refine Kd.R_append_rows_step (Kd.int .i64) (w0 := w) w.heap.size (by rfl) (.tmp 35) (.tmp 40) 30 3 (.int .i64 0) 8 rfl Tryd.underlying30 info3 rfl (by decide) (by omega) (.slice Ao29 x122000_1.length co29) x122000_1 y123 _ _ _ (fun k_ => some k_ ≠ (.slice Ao30 x10_1.length co30 : Value).ownBlock ∧ some k_ ≠ (.slice Ao38 y123.length co38 : Value).ownBlock ∧ some k_ ≠ (v130 : Value).ownBlock) (fun _ => False) rfl rfl ?aO ?aR (fun _ _ h => h) (fun _ h => h.elim) ?aF ?aB ?aS ?aL ?_
           (case aR => exact pC (Kd.R_reads' HO125.out).2.2)
           (case aB => exact (pE HB))
           (case aF => exact (fun k_ hk => ⟨Kd.fresh' (Kd.R_lt (pR HO_10.out)) k_ hk, Kd.fresh' (Kd.R_lt (pR HO125.out)) k_ hk, Kd.fresh' (Kd.R_lt (pR HO131.out)) k_ hk⟩))
           (case aO => exact (by refine pR ?_; exact Kd.R_mono HO_122000.out (fun _ hk => ⟨hk.1.1, ⟨hk.1.2, hk.2⟩⟩)))
           (case aS => exact (below_size (pE HB)))
           (case aL => have := LMc27.out; omega)
           intro v127 w37 ho hb hg hat
           rw [← Ny126.out] at ho
           replace HO_10 := Aside0.mk (Kd.R_after (ok := (fun k_ => some k_ ≠ (.slice Ao38 y123.length co38 : Value).ownBlock ∧ some k_ ≠ (v130 : Value).ownBlock)) (by refine pR ?_; exact Kd.R_mono HO_10.out (fun _ hk => ⟨⟨hk.1.2, hk.2⟩, hk.1.1⟩)) hg hat)
           replace HO_115000 := Aside0.mk (Kd.V_afterv (ok := (fun k_ => some k_ ≠ (.slice Ao30 x10_1.length co30 : Value).ownBlock ∧ some k_ ≠ (.slice Ao38 y123.length co38 : Value).ownBlock ∧ some k_ ≠ (v130 : Value).ownBlock ∧ k_ ≠ gb101 ∧ k_ ≠ gb114 ∧ k_ ≠ gb121)) (by refine pV ?_; exact Kd.V_mono HO_115000.out (fun _ hk => ⟨⟨hk.1.1.1, ⟨hk.1.2, ⟨hk.2, ⟨hk.1.1.2.2.1, ⟨hk.1.1.2.2.2.1, hk.1.1.2.2.2.2⟩⟩⟩⟩⟩, hk.1.1.2.1⟩)) hg hat)
           replace HO_115001 := Aside0.mk (Kd.V_afterv (ok := (fun k_ => some k_ ≠ (.slice Ao30 x10_1.length co30 : Value).ownBlock ∧ some k_ ≠ (.slice Ao38 y123.length co38 : Value).ownBlock ∧ some k_ ≠ (v130 : Value).ownBlock ∧ k_ ≠ gb101 ∧ k_ ≠ gb114 ∧ k_ ≠ gb121)) (by refine pV ?_; exact Kd.V_mono HO_115001.out (fun _ hk => ⟨⟨hk.1.1.1, ⟨hk.1.2, ⟨hk.2, ⟨hk.1.1.2.2.1, ⟨hk.1.1.2.2.2.1, hk.1.1.2.2.2.2⟩⟩⟩⟩⟩, hk.1.1.2.1⟩)) hg hat)
           replace HO_115004 := Aside0.mk (Kd.V_afterv (ok := (fun k_ => some k_ ≠ (.slice Ao30 x10_1.length co30 : Value).ownBlock ∧ some k_ ≠ (.slice Ao38 y123.length co38 : Value).ownBlock ∧ some k_ ≠ (v130 : Value).ownBlock ∧ k_ ≠ gb101 ∧ k_ ≠ gb114 ∧ k_ ≠ gb121)) (by refine pV ?_; exact Kd.V_mono HO_115004.out (fun _ hk => ⟨⟨hk.1.1.1, ⟨hk.1.2, ⟨hk.2, ⟨hk.1.1.2.2.1, ⟨hk.1.1.2.2.2.1, hk.1.1.2.2.2.2⟩⟩⟩⟩⟩, hk.1.1.2.1⟩)) hg hat)
           replace BK101 := Aside0.mk (blk_grown (g := gb101) (o := .cells #[.slice A0_0 l0_0.length c0_0, .slice A0_1 l0_1.length c0_1, .int .i64 a0_2, .int .i64 a0_3] 32 (0, 0)) (pB BK101.out) hg (Kd.R_ne HO_122000.out BK101.out (by decide)))
           replace BK114 := Aside0.mk (blk_grown (g := gb114) (o := .cells #[.slice Ao10 t102.length co10, .slice Ao13 t105.length co13, .int .i64 t108, .int .i64 t109, .slice Ao14 t110.length co14] 102 (0, 0)) (pB BK114.out) hg (Kd.R_ne HO_122000.out BK114.out (by decide)))
           replace BK121 := Aside0.mk (blk_grown (g := gb121) (o := .cells #[.slice Ao29 x122000_1.length co29] 30 (0, 0)) (pB BK121.out) hg (Kd.R_ne HO_122000.out BK121.out (by decide)))
           replace HO125 := Aside0.mk (Kd.R_after (ok := (fun k_ => some k_ ≠ (.slice Ao30 x10_1.length co30 : Value).ownBlock ∧ some k_ ≠ (v130 : Value).ownBlock)) (by refine pR ?_; exact Kd.R_mono HO125.out (fun _ hk => ⟨⟨hk.1.1.2, hk.2⟩, hk.1.2⟩)) hg hat)
           replace HO131 := Aside0.mk (Kd.R_after (ok := (fun k_ => some k_ ≠ (.slice Ao30 x10_1.length co30 : Value).ownBlock ∧ some k_ ≠ (.slice Ao38 y123.length co38 : Value).ownBlock)) (by refine pR ?_; exact Kd.R_mono HO131.out (fun _ hk => ⟨⟨hk.1.1.2, hk.2⟩, hk.1.2⟩)) hg hat)
           replace HB := Aside0.mk (hb)
           have HO128 := Aside0.mk (ho)
           clear HO_122000 ho hb hg hat
           refine hK.out _ _ ⟨(blk_cell BK121.out 0).trans rfl, (blk_cell BK114.out 0).trans rfl, (blk_cell BK114.out 1).trans rfl, (blk_cell BK114.out 2).trans rfl, (blk_cell BK114.out 3).trans rfl, (blk_cell BK114.out 4).trans rfl⟩ (fun hHeld => ?_)
           clear hK K
           refine norm_ (a' := ?_) ?_ ?_
           rotate_left
           ·show Act.put _ (some 41) _ = _
            simp only [Act.put, List.setIfInBounds_toArray, List.set_cons_zero, List.set_cons_succ, i64_w, i32_w]
            rfl
           exact norm_ (by simp only [putAll, Act.put, List.setIfInBounds_toArray, List.set_cons_zero, List.set_cons_succ]) (hCont (.slice Ao38 y123.length co38, v127, v130) _ ⟨hHeld, (by refine pR ?_; exact Kd.R_mono HO125.out (fun _ hk => ⟨hk.2, ⟨hk.1.2, hk.1.1⟩⟩)), (by refine pR ?_; exact Kd.R_mono HO128.out (fun _ hk => ⟨hk.2.1, ⟨hk.2.2, hk.1⟩⟩)), (by refine pR ?_; exact Kd.R_mono HO131.out (fun _ hk => ⟨hk.1.2, ⟨hk.2, hk.1.1⟩⟩)), (by refine pR ?_; exact Kd.R_mono HO_10.out (fun _ hk => ⟨hk.1.1, ⟨hk.2, hk.1.2⟩⟩)), (by refine pV ?_; exact Kd.V_mono HO_115000.out (fun _ hk => ⟨hk.1.2.1, ⟨hk.2, ⟨hk.1.2.2.1, ⟨hk.1.1, ⟨hk.1.2.2.2.1, ⟨hk.1.2.2.2.2.1, hk.1.2.2.2.2.2⟩⟩⟩⟩⟩⟩)), (by refine pV ?_; exact Kd.V_mono HO_115001.out (fun _ hk => ⟨hk.1.2.1, ⟨hk.2, ⟨hk.1.2.2.1, ⟨hk.1.1, ⟨hk.1.2.2.2.1, ⟨hk.1.2.2.2.2.1, hk.1.2.2.2.2.2⟩⟩⟩⟩⟩⟩)), (by refine pV ?_; exact Kd.V_mono HO_115004.out (fun _ hk => ⟨hk.1.2.1, ⟨hk.2, ⟨hk.1.2.2.1, ⟨hk.1.1, ⟨hk.1.2.2.2.1, ⟨hk.1.2.2.2.2.1, hk.1.2.2.2.2.2⟩⟩⟩⟩⟩⟩)), (pB BK101.out), (pB BK114.out), (pB BK121.out), (pE HB)⟩)
         ·skip
          refine Kd.R_lit_step (Kd.int .i64) _ 3 ?hg (N := 44) ?hd (xs := ([x32_1] : List Int)) (inner := [.int .i64 x32_1]) (ok := fun _ => True) (okp := fun _ => True) ?hr ?hp (fun _ hk => hk) trivial (Below.refl _ _) (Nat.le_refl _) (by simp) ?_; (case hd => rfl); (case hg => rfl); (case hr => first | (go_simp; done) | (go_simp; rfl)); (case hp => exact (Reps.one (show Kd.M (Kd.int .i64) _ _ _ x32_1 [.int .i64 x32_1] from rfl) (Reps.none _ _)))
          intro v130 w33 ho34 hb hg_ hnew_
          clear hg_ hnew_
          (first | rw [← Ny129.out] at ho34 | (simp only [Int.reduceToNat] at ho34; rw [← Ny129.out] at ho34))
          replace HO_115000 := Aside0.mk (Kd.V_elder' (pV HO_115000.out) (Kd.R_base ho34) hb)
          replace HO_115001 := Aside0.mk (Kd.V_elder' (pV HO_115001.out) (Kd.R_base ho34) hb)
          replace HO_115004 := Aside0.mk (Kd.V_elder' (pV HO_115004.out) (Kd.R_base ho34) hb)
          have HO131 := Aside0.mk (Kd.R_lower (Kd.R_new' (Kd.R_new' ho34 (Kd.R_lt (pR HO_10.out))) (Kd.R_lt (pR HO_122000.out))) (below_size (pE HB)))
          replace HO_10 := re HO_10 ho34 hb
          replace HO_122000 := re HO_122000 ho34 hb
          replace BK101 := bb BK101 hb
          replace BK114 := bb BK114 hb
          replace BK121 := bb BK121 hb
          replace HB := bs HB hb
          clear hb ho34
          refine hK.out _ _ ⟨(blk_cell BK121.out 0).trans rfl, (blk_cell BK114.out 0).trans rfl, (blk_cell BK114.out 1).trans rfl, (blk_cell BK114.out 2).trans rfl, (blk_cell BK114.out 3).trans rfl, (blk_cell BK114.out 4).trans rfl⟩ (fun hHeld => ?_)
          clear hK K
          refine norm_ (a' := ?_) ?_ ?_
          rotate_left
          ·show Act.put _ (some 44) _ = _
           simp only [Act.put, List.setIfInBounds_toArray, List.set_cons_zero, List.set_cons_succ, i64_w, i32_w]
           rfl
          refine on 5 (fun K hK => ?_)
          refine Kd.R_lit_step (Kd.int .i64) _ 3 ?hg (N := 40) ?hd (xs := ([t122] : List Int)) (inner := [.int .i64 t122]) (ok := fun _ => True) (okp := fun _ => True) ?hr ?hp (fun _ hk => hk) trivial (Below.refl _ _) (Nat.le_refl _) (by simp) ?_; (case hd => rfl); (case hg => rfl); (case hr => first | (go_simp; done) | (go_simp; rfl)); (case hp => exact (Reps.one (show Kd.M (Kd.int .i64) _ _ _ t122 [.int .i64 t122] from rfl) (Reps.none _ _)))
          intro v124 w35 ho36 hb hg_ hnew_
          clear hg_ hnew_
          (first | rw [← Ny123.out] at ho36 | (simp only [Int.reduceToNat] at ho36; rw [← Ny123.out] at ho36))
          replace HO_115000 := Aside0.mk (Kd.V_elder' (pV HO_115000.out) (Kd.R_base ho36) hb)
          replace HO_115001 := Aside0.mk (Kd.V_elder' (pV HO_115001.out) (Kd.R_base ho36) hb)
          replace HO_115004 := Aside0.mk (Kd.V_elder' (pV HO_115004.out) (Kd.R_base ho36) hb)
          have HO125 := Aside0.mk (Kd.R_lower (Kd.R_new' (Kd.R_new' (Kd.R_new' ho36 (Kd.R_lt (pR HO_10.out))) (Kd.R_lt (pR HO_122000.out))) (Kd.R_lt (pR HO131.out))) (below_size (pE HB)))
          replace HO_10 := re HO_10 ho36 hb
          replace HO_122000 := re HO_122000 ho36 hb
          replace HO131 := re HO131 ho36 hb
          replace BK101 := bb BK101 hb
          replace BK114 := bb BK114 hb
          replace BK121 := bb BK121 hb
          replace HB := bs HB hb
          clear hb ho36
          obtain ⟨Ao38, co38, eo38⟩ := Kd.R_slice HO125.out
          (first | subst eo38 | (injection eo38 with f1_ f2_ f3_; have f4_ := f1_.symm; have f5_ := f3_.symm; clear f1_ f2_ f3_; subst f4_; subst f5_))
          refine hK.out _ _ ⟨(blk_cell BK121.out 0).trans rfl, (blk_cell BK114.out 0).trans rfl, (blk_cell BK114.out 1).trans rfl, (blk_cell BK114.out 2).trans rfl, (blk_cell BK114.out 3).trans rfl, (blk_cell BK114.out 4).trans rfl⟩ (fun hHeld => ?_)
          clear hK K
          refine norm_ (a' := ?_) ?_ ?_
          rotate_left
          ·show Act.put _ (some 40) _ = _
           simp only [Act.put, List.setIfInBounds_toArray, List.set_cons_zero, List.set_cons_succ, i64_w, i32_w]
           rfl
          refine on 6 (fun K hK => ?_)
          refine Kd.R_append_rows_step (Kd.int .i64) (w0 := w) w.heap.size (by rfl) (.tmp 35) (.tmp 40) 30 3 (.int .i64 0) 8 rfl Tryd.underlying30 info3 rfl (by decide) (by omega) (.slice Ao29 x122000_1.length co29) x122000_1 y123 _ _ _ (fun k_ => some k_ ≠ (.slice Ao30 x10_1.length co30 : Value).ownBlock ∧ some k_ ≠ (v130 : Value).ownBlock ∧ some k_ ≠ (.slice Ao38 y123.length co38 : Value).ownBlock) (fun _ => False) rfl rfl ?aO ?aR (fun _ _ h => h) (fun _ h => h.elim) ?aF ?aB ?aS ?aL ?_
          (case aR => exact pC (Kd.R_reads' HO125.out).2.2)
          (case aB => exact (pE HB))
          (case aF => exact (fun k_ hk => ⟨Kd.fresh' (Kd.R_lt (pR HO_10.out)) k_ hk, Kd.fresh' (Kd.R_lt (pR HO131.out)) k_ hk, Kd.fresh' (Kd.R_lt (pR HO125.out)) k_ hk⟩))
          (case aO => exact (by refine pR ?_; exact Kd.R_mono HO_122000.out (fun _ hk => ⟨hk.1.1, ⟨hk.1.2, hk.2⟩⟩)))
          (case aS => exact (below_size (pE HB)))
          (case aL => have := LMc27.out; omega)
          intro v127 w37 ho hb hg hat
          rw [← Ny126.out] at ho
          replace HO_10 := Aside0.mk (Kd.R_after (ok := (fun k_ => some k_ ≠ (v130 : Value).ownBlock ∧ some k_ ≠ (.slice Ao38 y123.length co38 : Value).ownBlock)) (by refine pR ?_; exact Kd.R_mono HO_10.out (fun _ hk => ⟨⟨hk.1.2, hk.2⟩, hk.1.1⟩)) hg hat)
          replace HO_115000 := Aside0.mk (Kd.V_afterv (ok := (fun k_ => some k_ ≠ (.slice Ao30 x10_1.length co30 : Value).ownBlock ∧ some k_ ≠ (v130 : Value).ownBlock ∧ some k_ ≠ (.slice Ao38 y123.length co38 : Value).ownBlock ∧ k_ ≠ gb101 ∧ k_ ≠ gb114 ∧ k_ ≠ gb121)) (by refine pV ?_; exact Kd.V_mono HO_115000.out (fun _ hk => ⟨⟨hk.1.1.1, ⟨hk.1.2, ⟨hk.2, ⟨hk.1.1.2.2.1, ⟨hk.1.1.2.2.2.1, hk.1.1.2.2.2.2⟩⟩⟩⟩⟩, hk.1.1.2.1⟩)) hg hat)
          replace HO_115001 := Aside0.mk (Kd.V_afterv (ok := (fun k_ => some k_ ≠ (.slice Ao30 x10_1.length co30 : Value).ownBlock ∧ some k_ ≠ (v130 : Value).ownBlock ∧ some k_ ≠ (.slice Ao38 y123.length co38 : Value).ownBlock ∧ k_ ≠ gb101 ∧ k_ ≠ gb114 ∧ k_ ≠ gb121)) (by refine pV ?_; exact Kd.V_mono HO_115001.out (fun _ hk => ⟨⟨hk.1.1.1, ⟨hk.1.2, ⟨hk.2, ⟨hk.1.1.2.2.1, ⟨hk.1.1.2.2.2.1, hk.1.1.2.2.2.2⟩⟩⟩⟩⟩, hk.1.1.2.1⟩)) hg hat)
          replace HO_115004 := Aside0.mk (Kd.V_afterv (ok := (fun k_ => some k_ ≠ (.slice Ao30 x10_1.length co30 : Value).ownBlock ∧ some k_ ≠ (v130 : Value).ownBlock ∧ some k_ ≠ (.slice Ao38 y123.length co38 : Value).ownBlock ∧ k_ ≠ gb101 ∧ k_ ≠ gb114 ∧ k_ ≠ gb121)) (by refine pV ?_; exact Kd.V_mono HO_115004.out (fun _ hk => ⟨⟨hk.1.1.1, ⟨hk.1.2, ⟨hk.2, ⟨hk.1.1.2.2.1, ⟨hk.1.1.2.2.2.1, hk.1.1.2.2.2.2⟩⟩⟩⟩⟩, hk.1.1.2.1⟩)) hg hat)
          replace BK101 := Aside0.mk (blk_grown (g := gb101) (o := .cells #[.slice A0_0 l0_0.length c0_0, .slice A0_1 l0_1.length c0_1, .int .i64 a0_2, .int .i64 a0_3] 32 (0, 0)) (pB BK101.out) hg (Kd.R_ne HO_122000.out BK101.out (by decide)))
          replace BK114 := Aside0.mk (blk_grown (g := gb114) (o := .cells #[.slice Ao10 t102.length co10, .slice Ao13 t105.length co13, .int .i64 t108, .int .i64 t109, .slice Ao14 t110.length co14] 102 (0, 0)) (pB BK114.out) hg (Kd.R_ne HO_122000.out BK114.out (by decide)))
          replace BK121 := Aside0.mk (blk_grown (g := gb121) (o := .cells #[.slice Ao29 x122000_1.length co29] 30 (0, 0)) (pB BK121.out) hg (Kd.R_ne HO_122000.out BK121.out (by decide)))
          replace HO131 := Aside0.mk (Kd.R_after (ok := (fun k_ => some k_ ≠ (.slice Ao30 x10_1.length co30 : Value).ownBlock ∧ some k_ ≠ (.slice Ao38 y123.length co38 : Value).ownBlock)) (by refine pR ?_; exact Kd.R_mono HO131.out (fun _ hk => ⟨⟨hk.1.1.2, hk.2⟩, hk.1.2⟩)) hg hat)
          replace HO125 := Aside0.mk (Kd.R_after (ok := (fun k_ => some k_ ≠ (.slice Ao30 x10_1.length co30 : Value).ownBlock ∧ some k_ ≠ (v130 : Value).ownBlock)) (by refine pR ?_; exact Kd.R_mono HO125.out (fun _ hk => ⟨⟨hk.1.1.2, hk.2⟩, hk.1.2⟩)) hg hat)
          replace HB := Aside0.mk (hb)
          have HO128 := Aside0.mk (ho)
          clear HO_122000 ho hb hg hat
          refine hK.out _ _ ⟨(blk_cell BK121.out 0).trans rfl, (blk_cell BK114.out 0).trans rfl, (blk_cell BK114.out 1).trans rfl, (blk_cell BK114.out 2).trans rfl, (blk_cell BK114.out 3).trans rfl, (blk_cell BK114.out 4).trans rfl⟩ (fun hHeld => ?_)
          clear hK K
          refine norm_ (a' := ?_) ?_ ?_
          rotate_left
          ·show Act.put _ (some 41) _ = _
           simp only [Act.put, List.setIfInBounds_toArray, List.set_cons_zero, List.set_cons_succ, i64_w, i32_w]
           rfl
          exact norm_ (by simp only [putAll, Act.put, List.setIfInBounds_toArray, List.set_cons_zero, List.set_cons_succ]) (hCont (.slice Ao38 y123.length co38, v127, v130) _ ⟨hHeld, (by refine pR ?_; exact Kd.R_mono HO125.out (fun _ hk => ⟨hk.2, ⟨hk.1.2, hk.1.1⟩⟩)), (by refine pR ?_; exact Kd.R_mono HO128.out (fun _ hk => ⟨hk.2.2, ⟨hk.2.1, hk.1⟩⟩)), (by refine pR ?_; exact Kd.R_mono HO131.out (fun _ hk => ⟨hk.1.2, ⟨hk.2, hk.1.1⟩⟩)), (by refine pR ?_; exact Kd.R_mono HO_10.out (fun _ hk => ⟨hk.1.2, ⟨hk.2, hk.1.1⟩⟩)), (by refine pV ?_; exact Kd.V_mono HO_115000.out (fun _ hk => ⟨hk.1.2.2.1, ⟨hk.2, ⟨hk.1.2.1, ⟨hk.1.1, ⟨hk.1.2.2.2.1, ⟨hk.1.2.2.2.2.1, hk.1.2.2.2.2.2⟩⟩⟩⟩⟩⟩)), (by refine pV ?_; exact Kd.V_mono HO_115001.out (fun _ hk => ⟨hk.1.2.2.1, ⟨hk.2, ⟨hk.1.2.1, ⟨hk.1.1, ⟨hk.1.2.2.2.1, ⟨hk.1.2.2.2.2.1, hk.1.2.2.2.2.2⟩⟩⟩⟩⟩⟩)), (by refine pV ?_; exact Kd.V_mono HO_115004.out (fun _ hk => ⟨hk.1.2.2.1, ⟨hk.2, ⟨hk.1.2.1, ⟨hk.1.1, ⟨hk.1.2.2.2.1, ⟨hk.1.2.2.2.2.1, hk.1.2.2.2.2.2⟩⟩⟩⟩⟩⟩)), (pB BK101.out), (pB BK114.out), (pB BK121.out), (pE HB)⟩)
        ·skip
         refine Kd.R_lit_step (Kd.int .i64) _ 3 ?hg (N := 44) ?hd (xs := ([x32_1] : List Int)) (inner := [.int .i64 x32_1]) (ok := fun _ => True) (okp := fun _ => True) ?hr ?hp (fun _ hk => hk) trivial (Below.refl _ _) (Nat.le_refl _) (by simp) ?_; (case hd => rfl); (case hg => rfl); (case hr => first | (go_simp; done) | (go_simp; rfl)); (case hp => exact (Reps.one (show Kd.M (Kd.int .i64) _ _ _ x32_1 [.int .i64 x32_1] from rfl) (Reps.none _ _)))
         intro v130 w32 ho33 hb hg_ hnew_
         clear hg_ hnew_
         (first | rw [← Ny129.out] at ho33 | (simp only [Int.reduceToNat] at ho33; rw [← Ny129.out] at ho33))
         replace HO_115000 := Aside0.mk (Kd.V_elder' (pV HO_115000.out) (Kd.R_base ho33) hb)
         replace HO_115001 := Aside0.mk (Kd.V_elder' (pV HO_115001.out) (Kd.R_base ho33) hb)
         replace HO_115004 := Aside0.mk (Kd.V_elder' (pV HO_115004.out) (Kd.R_base ho33) hb)
         have HO131 := Aside0.mk (Kd.R_lower (Kd.R_new' (Kd.R_new' ho33 (Kd.R_lt (pR HO_10.out))) (Kd.R_lt (pR HO_122000.out))) (below_size (pE HB)))
         replace HO_10 := re HO_10 ho33 hb
         replace HO_122000 := re HO_122000 ho33 hb
         replace BK101 := bb BK101 hb
         replace BK114 := bb BK114 hb
         replace BK121 := bb BK121 hb
         replace HB := bs HB hb
         clear hb ho33
         refine hK.out _ _ ⟨(blk_cell BK121.out 0).trans rfl, (blk_cell BK114.out 0).trans rfl, (blk_cell BK114.out 1).trans rfl, (blk_cell BK114.out 2).trans rfl, (blk_cell BK114.out 3).trans rfl, (blk_cell BK114.out 4).trans rfl⟩ (fun hHeld => ?_)
         clear hK K
         refine norm_ (a' := ?_) ?_ ?_
         rotate_left
         ·show Act.put _ (some 44) _ = _
          simp only [Act.put, List.setIfInBounds_toArray, List.set_cons_zero, List.set_cons_succ, i64_w, i32_w]
          rfl
         refine on 4 (fun K hK => ?_)
         refine gO Tryd.func49 #[.agg #[.slice Ao10 t102.length co10, .slice Ao13 t105.length co13, .int .i64 t108, .int .i64 t109, .slice Ao14 t110.length co14], .int .i64 x32_1, .int .i64 a2] ?_
         with_reducible refine (tenter_forecast_late.calls k1 _ _ t102 _ _ t105 t108 t109 _ _ t110 x32_1 a2 t122 _ ?side1 ?side2 ?side3 ?side4 ?side5 ?side6 A26.out).mono ?_
         (case side1 => exact pC (Kd.V_reads' HO_115000.out).2.2)
         (case side2 => exact (Kd.V_reads' HO_115000.out).2.1)
         (case side3 => exact pC (Kd.V_reads' HO_115001.out).2.2)
         (case side4 => exact (Kd.V_reads' HO_115001.out).2.1)
         (case side5 => exact pC (Kd.V_reads' HO_115004.out).2.2)
         (case side6 => exact (Kd.V_reads' HO_115004.out).2.1)
         rintro e w34 ⟨rfl, hb⟩
         refine ⟨_, rfl, ?_⟩
         replace HO_10 := rb HO_10 hb
         replace HO_115000 := vb HO_115000 hb
         replace HO_115001 := vb HO_115001 hb
         replace HO_115004 := vb HO_115004 hb
         replace HO_122000 := rb HO_122000 hb
         replace HO131 := rb HO131 hb
         replace BK101 := bb BK101 hb
         replace BK114 := bb BK114 hb
         replace BK121 := bb BK121 hb
         replace HB := bs HB hb
         (try clear hb)
         (try clear hb2)
         (try clear hk)
         (try clear hi)
         refine hK.out _ _ ⟨(blk_cell BK121.out 0).trans rfl, (blk_cell BK114.out 0).trans rfl, (blk_cell BK114.out 1).trans rfl, (blk_cell BK114.out 2).trans rfl, (blk_cell BK114.out 3).trans rfl, (blk_cell BK114.out 4).trans rfl⟩ (fun hHeld => ?_)
         clear hK K
         refine norm_ (a' := ?_) ?_ ?_
         rotate_left
         ·show Act.put _ (some 39) _ = _
          simp only [Act.put, List.setIfInBounds_toArray, List.set_cons_zero, List.set_cons_succ, i64_w, i32_w]
          rfl
         refine on 5 (fun K hK => ?_)
         refine Kd.R_lit_step (Kd.int .i64) _ 3 ?hg (N := 40) ?hd (xs := ([t122] : List Int)) (inner := [.int .i64 t122]) (ok := fun _ => True) (okp := fun _ => True) ?hr ?hp (fun _ hk => hk) trivial (Below.refl _ _) (Nat.le_refl _) (by simp) ?_; (case hd => rfl); (case hg => rfl); (case hr => first | (go_simp; done) | (go_simp; rfl)); (case hp => exact (Reps.one (show Kd.M (Kd.int .i64) _ _ _ t122 [.int .i64 t122] from rfl) (Reps.none _ _)))
         intro v124 w35 ho36 hb hg_ hnew_
         clear hg_ hnew_
         (first | rw [← Ny123.out] at ho36 | (simp only [Int.reduceToNat] at ho36; rw [← Ny123.out] at ho36))
         replace HO_115000 := Aside0.mk (Kd.V_elder' (pV HO_115000.out) (Kd.R_base ho36) hb)
         replace HO_115001 := Aside0.mk (Kd.V_elder' (pV HO_115001.out) (Kd.R_base ho36) hb)
         replace HO_115004 := Aside0.mk (Kd.V_elder' (pV HO_115004.out) (Kd.R_base ho36) hb)
         have HO125 := Aside0.mk (Kd.R_lower (Kd.R_new' (Kd.R_new' (Kd.R_new' ho36 (Kd.R_lt (pR HO_10.out))) (Kd.R_lt (pR HO_122000.out))) (Kd.R_lt (pR HO131.out))) (below_size (pE HB)))
         replace HO_10 := re HO_10 ho36 hb
         replace HO_122000 := re HO_122000 ho36 hb
         replace HO131 := re HO131 ho36 hb
         replace BK101 := bb BK101 hb
         replace BK114 := bb BK114 hb
         replace BK121 := bb BK121 hb
         replace HB := bs HB hb
         clear hb ho36
         obtain ⟨Ao38, co38, eo38⟩ := Kd.R_slice HO125.out
         (first | subst eo38 | (injection eo38 with f1_ f2_ f3_; have f4_ := f1_.symm; have f5_ := f3_.symm; clear f1_ f2_ f3_; subst f4_; subst f5_))
         refine hK.out _ _ ⟨(blk_cell BK121.out 0).trans rfl, (blk_cell BK114.out 0).trans rfl, (blk_cell BK114.out 1).trans rfl, (blk_cell BK114.out 2).trans rfl, (blk_cell BK114.out 3).trans rfl, (blk_cell BK114.out 4).trans rfl⟩ (fun hHeld => ?_)
         clear hK K
         refine norm_ (a' := ?_) ?_ ?_
         rotate_left
         ·show Act.put _ (some 40) _ = _
          simp only [Act.put, List.setIfInBounds_toArray, List.set_cons_zero, List.set_cons_succ, i64_w, i32_w]
          rfl
         refine on 6 (fun K hK => ?_)
         refine Kd.R_append_rows_step (Kd.int .i64) (w0 := w) w.heap.size (by rfl) (.tmp 35) (.tmp 40) 30 3 (.int .i64 0) 8 rfl Tryd.underlying30 info3 rfl (by decide) (by omega) (.slice Ao29 x122000_1.length co29) x122000_1 y123 _ _ _ (fun k_ => some k_ ≠ (.slice Ao30 x10_1.length co30 : Value).ownBlock ∧ some k_ ≠ (v130 : Value).ownBlock ∧ some k_ ≠ (.slice Ao38 y123.length co38 : Value).ownBlock) (fun _ => False) rfl rfl ?aO ?aR (fun _ _ h => h) (fun _ h => h.elim) ?aF ?aB ?aS ?aL ?_
         (case aR => exact pC (Kd.R_reads' HO125.out).2.2)
         (case aB => exact (pE HB))
         (case aF => exact (fun k_ hk => ⟨Kd.fresh' (Kd.R_lt (pR HO_10.out)) k_ hk, Kd.fresh' (Kd.R_lt (pR HO131.out)) k_ hk, Kd.fresh' (Kd.R_lt (pR HO125.out)) k_ hk⟩))
         (case aO => exact (by refine pR ?_; exact Kd.R_mono HO_122000.out (fun _ hk => ⟨hk.1.1, ⟨hk.1.2, hk.2⟩⟩)))
         (case aS => exact (below_size (pE HB)))
         (case aL => have := LMc27.out; omega)
         intro v127 w37 ho hb hg hat
         rw [← Ny126.out] at ho
         replace HO_10 := Aside0.mk (Kd.R_after (ok := (fun k_ => some k_ ≠ (v130 : Value).ownBlock ∧ some k_ ≠ (.slice Ao38 y123.length co38 : Value).ownBlock)) (by refine pR ?_; exact Kd.R_mono HO_10.out (fun _ hk => ⟨⟨hk.1.2, hk.2⟩, hk.1.1⟩)) hg hat)
         replace HO_115000 := Aside0.mk (Kd.V_afterv (ok := (fun k_ => some k_ ≠ (.slice Ao30 x10_1.length co30 : Value).ownBlock ∧ some k_ ≠ (v130 : Value).ownBlock ∧ some k_ ≠ (.slice Ao38 y123.length co38 : Value).ownBlock ∧ k_ ≠ gb101 ∧ k_ ≠ gb114 ∧ k_ ≠ gb121)) (by refine pV ?_; exact Kd.V_mono HO_115000.out (fun _ hk => ⟨⟨hk.1.1.1, ⟨hk.1.2, ⟨hk.2, ⟨hk.1.1.2.2.1, ⟨hk.1.1.2.2.2.1, hk.1.1.2.2.2.2⟩⟩⟩⟩⟩, hk.1.1.2.1⟩)) hg hat)
         replace HO_115001 := Aside0.mk (Kd.V_afterv (ok := (fun k_ => some k_ ≠ (.slice Ao30 x10_1.length co30 : Value).ownBlock ∧ some k_ ≠ (v130 : Value).ownBlock ∧ some k_ ≠ (.slice Ao38 y123.length co38 : Value).ownBlock ∧ k_ ≠ gb101 ∧ k_ ≠ gb114 ∧ k_ ≠ gb121)) (by refine pV ?_; exact Kd.V_mono HO_115001.out (fun _ hk => ⟨⟨hk.1.1.1, ⟨hk.1.2, ⟨hk.2, ⟨hk.1.1.2.2.1, ⟨hk.1.1.2.2.2.1, hk.1.1.2.2.2.2⟩⟩⟩⟩⟩, hk.1.1.2.1⟩)) hg hat)
         replace HO_115004 := Aside0.mk (Kd.V_afterv (ok := (fun k_ => some k_ ≠ (.slice Ao30 x10_1.length co30 : Value).ownBlock ∧ some k_ ≠ (v130 : Value).ownBlock ∧ some k_ ≠ (.slice Ao38 y123.length co38 : Value).ownBlock ∧ k_ ≠ gb101 ∧ k_ ≠ gb114 ∧ k_ ≠ gb121)) (by refine pV ?_; exact Kd.V_mono HO_115004.out (fun _ hk => ⟨⟨hk.1.1.1, ⟨hk.1.2, ⟨hk.2, ⟨hk.1.1.2.2.1, ⟨hk.1.1.2.2.2.1, hk.1.1.2.2.2.2⟩⟩⟩⟩⟩, hk.1.1.2.1⟩)) hg hat)
         replace BK101 := Aside0.mk (blk_grown (g := gb101) (o := .cells #[.slice A0_0 l0_0.length c0_0, .slice A0_1 l0_1.length c0_1, .int .i64 a0_2, .int .i64 a0_3] 32 (0, 0)) (pB BK101.out) hg (Kd.R_ne HO_122000.out BK101.out (by decide)))
         replace BK114 := Aside0.mk (blk_grown (g := gb114) (o := .cells #[.slice Ao10 t102.length co10, .slice Ao13 t105.length co13, .int .i64 t108, .int .i64 t109, .slice Ao14 t110.length co14] 102 (0, 0)) (pB BK114.out) hg (Kd.R_ne HO_122000.out BK114.out (by decide)))
         replace BK121 := Aside0.mk (blk_grown (g := gb121) (o := .cells #[.slice Ao29 x122000_1.length co29] 30 (0, 0)) (pB BK121.out) hg (Kd.R_ne HO_122000.out BK121.out (by decide)))
         replace HO131 := Aside0.mk (Kd.R_after (ok := (fun k_ => some k_ ≠ (.slice Ao30 x10_1.length co30 : Value).ownBlock ∧ some k_ ≠ (.slice Ao38 y123.length co38 : Value).ownBlock)) (by refine pR ?_; exact Kd.R_mono HO131.out (fun _ hk => ⟨⟨hk.1.1.2, hk.2⟩, hk.1.2⟩)) hg hat)
         replace HO125 := Aside0.mk (Kd.R_after (ok := (fun k_ => some k_ ≠ (.slice Ao30 x10_1.length co30 : Value).ownBlock ∧ some k_ ≠ (v130 : Value).ownBlock)) (by refine pR ?_; exact Kd.R_mono HO125.out (fun _ hk => ⟨⟨hk.1.1.2, hk.2⟩, hk.1.2⟩)) hg hat)
         replace HB := Aside0.mk (hb)
         have HO128 := Aside0.mk (ho)
         clear HO_122000 ho hb hg hat
         refine hK.out _ _ ⟨(blk_cell BK121.out 0).trans rfl, (blk_cell BK114.out 0).trans rfl, (blk_cell BK114.out 1).trans rfl, (blk_cell BK114.out 2).trans rfl, (blk_cell BK114.out 3).trans rfl, (blk_cell BK114.out 4).trans rfl⟩ (fun hHeld => ?_)
         clear hK K
         refine norm_ (a' := ?_) ?_ ?_
         rotate_left
         ·show Act.put _ (some 41) _ = _
          simp only [Act.put, List.setIfInBounds_toArray, List.set_cons_zero, List.set_cons_succ, i64_w, i32_w]
          rfl
         exact norm_ (by simp only [putAll, Act.put, List.setIfInBounds_toArray, List.set_cons_zero, List.set_cons_succ]) (hCont (.slice Ao38 y123.length co38, v127, v130) _ ⟨hHeld, (by refine pR ?_; exact Kd.R_mono HO125.out (fun _ hk => ⟨hk.2, ⟨hk.1.2, hk.1.1⟩⟩)), (by refine pR ?_; exact Kd.R_mono HO128.out (fun _ hk => ⟨hk.2.2, ⟨hk.2.1, hk.1⟩⟩)), (by refine pR ?_; exact Kd.R_mono HO131.out (fun _ hk => ⟨hk.1.2, ⟨hk.2, hk.1.1⟩⟩)), (by refine pR ?_; exact Kd.R_mono HO_10.out (fun _ hk => ⟨hk.1.2, ⟨hk.2, hk.1.1⟩⟩)), (by refine pV ?_; exact Kd.V_mono HO_115000.out (fun _ hk => ⟨hk.1.2.2.1, ⟨hk.2, ⟨hk.1.2.1, ⟨hk.1.1, ⟨hk.1.2.2.2.1, ⟨hk.1.2.2.2.2.1, hk.1.2.2.2.2.2⟩⟩⟩⟩⟩⟩)), (by refine pV ?_; exact Kd.V_mono HO_115001.out (fun _ hk => ⟨hk.1.2.2.1, ⟨hk.2, ⟨hk.1.2.1, ⟨hk.1.1, ⟨hk.1.2.2.2.1, ⟨hk.1.2.2.2.2.1, hk.1.2.2.2.2.2⟩⟩⟩⟩⟩⟩)), (by refine pV ?_; exact Kd.V_mono HO_115004.out (fun _ hk => ⟨hk.1.2.2.1, ⟨hk.2, ⟨hk.1.2.1, ⟨hk.1.1, ⟨hk.1.2.2.2.1, ⟨hk.1.2.2.2.2.1, hk.1.2.2.2.2.2⟩⟩⟩⟩⟩⟩)), (pB BK101.out), (pB BK114.out), (pB BK121.out), (pE HB)⟩)
       rintro ⟨v124, v127, v130⟩ w39 ⟨hS_, h0_, h1_, h2_, h3_, h4_, h5_, h6_, h7_, h8_, h9_, h10_⟩
       have n0_ : Aside0 (Kd.R (Kd.int .i64) 3 w39 w.heap.size (fun k_ => some k_ ≠ (v127 : Value).ownBlock ∧ some k_ ≠ (v130 : Value).ownBlock ∧ some k_ ≠ (.slice Ao30 x10_1.length co30 : Value).ownBlock) v124 y123) := ⟨h0_⟩
       have n1_ : Aside0 (Kd.R (Kd.int .i64) 3 w39 w.heap.size (fun k_ => some k_ ≠ (v124 : Value).ownBlock ∧ some k_ ≠ (v130 : Value).ownBlock ∧ some k_ ≠ (.slice Ao30 x10_1.length co30 : Value).ownBlock) v127 y126) := ⟨h1_⟩
       have n2_ : Aside0 (Kd.R (Kd.int .i64) 3 w39 w.heap.size (fun k_ => some k_ ≠ (v124 : Value).ownBlock ∧ some k_ ≠ (v127 : Value).ownBlock ∧ some k_ ≠ (.slice Ao30 x10_1.length co30 : Value).ownBlock) v130 y129) := ⟨h2_⟩
       have n3_ : Aside0 (Kd.R (Kd.int .i64) 3 w39 w.heap.size (fun k_ => some k_ ≠ (v124 : Value).ownBlock ∧ some k_ ≠ (v127 : Value).ownBlock ∧ some k_ ≠ (v130 : Value).ownBlock) (.slice Ao30 x10_1.length co30) x10_1) := ⟨h3_⟩
       have n4_ : Aside0 (Kd.V k42 42 w39 w.heap.size (fun k_ => some k_ ≠ (v124 : Value).ownBlock ∧ some k_ ≠ (v127 : Value).ownBlock ∧ some k_ ≠ (v130 : Value).ownBlock ∧ some k_ ≠ (.slice Ao30 x10_1.length co30 : Value).ownBlock ∧ k_ ≠ gb101 ∧ k_ ≠ gb114 ∧ k_ ≠ gb121) (.slice Ao10 t102.length co10) t102) := ⟨h4_⟩
       have n5_ : Aside0 (Kd.V (Kd.int .i64) 3 w39 w.heap.size (fun k_ => some k_ ≠ (v124 : Value).ownBlock ∧ some k_ ≠ (v127 : Value).ownBlock ∧ some k_ ≠ (v130 : Value).ownBlock ∧ some k_ ≠ (.slice Ao30 x10_1.length co30 : Value).ownBlock ∧ k_ ≠ gb101 ∧ k_ ≠ gb114 ∧ k_ ≠ gb121) (.slice Ao13 t105.length co13) t105) := ⟨h5_⟩
       have n6_ : Aside0 (Kd.V k40 40 w39 w.heap.size (fun k_ => some k_ ≠ (v124 : Value).ownBlock ∧ some k_ ≠ (v127 : Value).ownBlock ∧ some k_ ≠ (v130 : Value).ownBlock ∧ some k_ ≠ (.slice Ao30 x10_1.length co30 : Value).ownBlock ∧ k_ ≠ gb101 ∧ k_ ≠ gb114 ∧ k_ ≠ gb121) (.slice Ao14 t110.length co14) t110) := ⟨h6_⟩
       have n7_ : Aside0 (w39.heap[gb101]? = some (.cells #[.slice A0_0 l0_0.length c0_0, .slice A0_1 l0_1.length c0_1, .int .i64 a0_2, .int .i64 a0_3] 32 (0, 0))) := ⟨h7_⟩
       have n8_ : Aside0 (w39.heap[gb114]? = some (.cells #[.slice Ao10 t102.length co10, .slice Ao13 t105.length co13, .int .i64 t108, .int .i64 t109, .slice Ao14 t110.length co14] 102 (0, 0))) := ⟨h8_⟩
       have n9_ : Aside0 (w39.heap[gb121]? = some (.cells #[.slice Ao29 x122000_1.length co29] 30 (0, 0))) := ⟨h9_⟩
       have n10_ : Aside0 (Below w.heap.size w w39) := ⟨h10_⟩
       clear HO_10 HO_115000 HO_115001 HO_115004 HO_122000 BK101 BK114 BK121 HB h0_ h1_ h2_ h3_ h4_ h5_ h6_ h7_ h8_ h9_ h10_
       have HO125 := n0_
       have HO128 := n1_
       have HO131 := n2_
       have HO_10 := n3_
       have HO_115000 := n4_
       have HO_115001 := n5_
       have HO_115004 := n6_
       have BK101 := n7_
       have BK114 := n8_
       have BK121 := n9_
       have HB := n10_
       clear n0_ n1_ n2_ n3_ n4_ n5_ n6_ n7_ n8_ n9_ n10_
       have hHeld : w39.cell? ⟨gb121, 0, none⟩ = some (.slice Ao29 x122000_1.length co29) ∧ w39.cell? ⟨gb114, 0, none⟩ = some (.slice Ao10 t102.length co10) ∧ w39.cell? ⟨gb114, 1, none⟩ = some (.slice Ao13 t105.length co13) ∧ w39.cell? ⟨gb114, 2, none⟩ = some (.int .i64 t108) ∧ w39.cell? ⟨gb114, 3, none⟩ = some (.int .i64 t109) ∧ w39.cell? ⟨gb114, 4, none⟩ = some (.slice Ao14 t110.length co14) := hS_
       obtain ⟨Ao41, co41, eo41⟩ := Kd.R_slice HO131.out
       (first | subst eo41 | (injection eo41 with f1_ f2_ f3_; have f4_ := f1_.symm; have f5_ := f3_.symm; clear f1_ f2_ f3_; subst f4_; subst f5_))
       refine norm_ (a' := ?_) ?_ ?_
       rotate_left
       ·simp only [putAll, Act.put, List.setIfInBounds_toArray, List.set_cons_zero, List.set_cons_succ]
        rfl
       refine on 10 (fun K hK => ?_)
       refine Kd.R_append_rows_step (Kd.int .i64) (w0 := w) w.heap.size (by rfl) (.tmp 42) (.tmp 44) 30 3 (.int .i64 0) 8 rfl Tryd.underlying30 info3 rfl (by decide) (by omega) (.slice Ao30 x10_1.length co30) x10_1 y129 _ _ _ (fun k_ => some k_ ≠ (v124 : Value).ownBlock ∧ some k_ ≠ (v127 : Value).ownBlock ∧ some k_ ≠ (.slice Ao41 y129.length co41 : Value).ownBlock) (fun _ => False) rfl rfl ?aO ?aR (fun _ _ h => h) (fun _ h => h.elim) ?aF ?aB ?aS ?aL ?_
       (case aR => exact pC (Kd.R_reads' HO131.out).2.2)
       (case aB => exact (pE HB))
       (case aF => exact (fun k_ hk => ⟨Kd.fresh' (Kd.R_lt (pR HO125.out)) k_ hk, Kd.fresh' (Kd.R_lt (pR HO128.out)) k_ hk, Kd.fresh' (Kd.R_lt (pR HO131.out)) k_ hk⟩))
       (case aO => exact (pR HO_10.out))
       (case aS => exact (below_size (pE HB)))
       (case aL => have := LMc28.out; omega)
       intro v133 w40 ho hb hg hat
       rw [← Ny132.out] at ho
       replace HO_115000 := Aside0.mk (Kd.V_afterv (ok := (fun k_ => some k_ ≠ (v124 : Value).ownBlock ∧ some k_ ≠ (v127 : Value).ownBlock ∧ some k_ ≠ (.slice Ao41 y129.length co41 : Value).ownBlock ∧ k_ ≠ gb101 ∧ k_ ≠ gb114 ∧ k_ ≠ gb121)) (by refine pV ?_; exact Kd.V_mono HO_115000.out (fun _ hk => ⟨⟨hk.1, ⟨hk.2.1, ⟨hk.2.2.1, ⟨hk.2.2.2.2.1, ⟨hk.2.2.2.2.2.1, hk.2.2.2.2.2.2⟩⟩⟩⟩⟩, hk.2.2.2.1⟩)) hg hat)
       replace HO_115001 := Aside0.mk (Kd.V_afterv (ok := (fun k_ => some k_ ≠ (v124 : Value).ownBlock ∧ some k_ ≠ (v127 : Value).ownBlock ∧ some k_ ≠ (.slice Ao41 y129.length co41 : Value).ownBlock ∧ k_ ≠ gb101 ∧ k_ ≠ gb114 ∧ k_ ≠ gb121)) (by refine pV ?_; exact Kd.V_mono HO_115001.out (fun _ hk => ⟨⟨hk.1, ⟨hk.2.1, ⟨hk.2.2.1, ⟨hk.2.2.2.2.1, ⟨hk.2.2.2.2.2.1, hk.2.2.2.2.2.2⟩⟩⟩⟩⟩, hk.2.2.2.1⟩)) hg hat)
       replace HO_115004 := Aside0.mk (Kd.V_afterv (ok := (fun k_ => some k_ ≠ (v124 : Value).ownBlock ∧ some k_ ≠ (v127 : Value).ownBlock ∧ some k_ ≠ (.slice Ao41 y129.length co41 : Value).ownBlock ∧ k_ ≠ gb101 ∧ k_ ≠ gb114 ∧ k_ ≠ gb121)) (by refine pV ?_; exact Kd.V_mono HO_115004.out (fun _ hk => ⟨⟨hk.1, ⟨hk.2.1, ⟨hk.2.2.1, ⟨hk.2.2.2.2.1, ⟨hk.2.2.2.2.2.1, hk.2.2.2.2.2.2⟩⟩⟩⟩⟩, hk.2.2.2.1⟩)) hg hat)
       replace BK101 := Aside0.mk (blk_grown (g := gb101) (o := .cells #[.slice A0_0 l0_0.length c0_0, .slice A0_1 l0_1.length c0_1, .int .i64 a0_2, .int .i64 a0_3] 32 (0, 0)) (pB BK101.out) hg (Kd.R_ne HO_10.out BK101.out (by decide)))
       replace BK114 := Aside0.mk (blk_grown (g := gb114) (o := .cells #[.slice Ao10 t102.length co10, .slice Ao13 t105.length co13, .int .i64 t108, .int .i64 t109, .slice Ao14 t110.length co14] 102 (0, 0)) (pB BK114.out) hg (Kd.R_ne HO_10.out BK114.out (by decide)))
       replace BK121 := Aside0.mk (blk_grown (g := gb121) (o := .cells #[.slice Ao29 x122000_1.length co29] 30 (0, 0)) (pB BK121.out) hg (Kd.R_ne HO_10.out BK121.out (by decide)))
       replace HO125 := Aside0.mk (Kd.R_after (ok := (fun k_ => some k_ ≠ (v127 : Value).ownBlock ∧ some k_ ≠ (.slice Ao41 y129.length co41 : Value).ownBlock)) (by refine pR ?_; exact Kd.R_mono HO125.out (fun _ hk => ⟨⟨hk.1, hk.2.1⟩, hk.2.2⟩)) hg hat)
       replace HO128 := Aside0.mk (Kd.R_after (ok := (fun k_ => some k_ ≠ (v124 : Value).ownBlock ∧ some k_ ≠ (.slice Ao41 y129.length co41 : Value).ownBlock)) (by refine pR ?_; exact Kd.R_mono HO128.out (fun _ hk => ⟨⟨hk.1, hk.2.1⟩, hk.2.2⟩)) hg hat)
       replace HO131 := Aside0.mk (Kd.R_after (ok := (fun k_ => some k_ ≠ (v124 : Value).ownBlock ∧ some k_ ≠ (v127 : Value).ownBlock)) (by refine pR ?_; exact Kd.R_mono HO131.out (fun _ hk => ⟨⟨hk.1, hk.2.1⟩, hk.2.2⟩)) hg hat)
       replace HB := Aside0.mk (hb)
       have HO134 := Aside0.mk (ho)
       clear HO_10 ho hb hg hat
       obtain ⟨Ao42, co42, eo42⟩ := Kd.R_slice HO128.out
       (first | subst eo42 | (injection eo42 with f1_ f2_ f3_; have f4_ := f1_.symm; have f5_ := f3_.symm; clear f1_ f2_ f3_; subst f4_; subst f5_))
       refine hK.out _ _ ⟨(blk_cell BK121.out 0).trans rfl, (blk_cell BK114.out 0).trans rfl, (blk_cell BK114.out 1).trans rfl, (blk_cell BK114.out 2).trans rfl, (blk_cell BK114.out 3).trans rfl, (blk_cell BK114.out 4).trans rfl⟩ (fun hHeld => ?_)
       clear hK K
       refine norm_ (a' := ?_) ?_ ?_
       rotate_left
       ·show Act.put _ (some 45) _ = _
        simp only [Act.put, List.setIfInBounds_toArray, List.set_cons_zero, List.set_cons_succ, i64_w, i32_w]
        rfl
       refine last_ (i := 11) (N := none) #[true, true, true, true, true, true, true, true, true, true, true, true, false] rfl rfl (one_of HT_.out (by kernel_rfl)) (by decide) (fun K hK => ?_)
       have hs43 : w40.cell? ⟨gb121, 0, none⟩ = some (.slice Ao29 x122000_1.length co29) := (blk_cell BK121.out 0).trans rfl
       have hfs43 := blk_frozen BK121.out 0
       have hns43_0 := NB101_121.out
       have hns43_1 := NB114_121.out
       have hms43_0 := NB121_101.out
       have hms43_1 := NB121_114.out
       refine skip_ (w1 := ?_) (by rfl) rfl ?_ ?_
       rotate_left
       ·go_simp
        rfl
       refine hK.out _ _ ?_
       clear hK K
       refine pu 12 10 ?_
       refine done_ (done_of HT_.out (by kernel_rfl)) ?_
       try go_wp2
       go_roundg k1
       case measure => have := HK1.out; omega
       case rel => exact ⟨(y132), (wrap64 (x32_1 + 1)), (y126), (.slice Ao42 y126.length co42), (by first | rfl | (simp; done) | (simp [*]; done)), H', ⟨by have := HK1.out; omega⟩, ⟨by (with_reducible repeat (first | apply Kd.R_alloc | apply Kd.R_drewN | apply Kd.R_drew)); exact Kd.R_mono (Kd.R_far (p := ⟨gb121, 0, none⟩) (Kd.R_types HO134.out BK121.out (by decide)) (fun _ hk => hk.2) (.slice Ao42 y126.length co42)) (fun _ hk => hk.1.2.1)⟩, ⟨by (with_reducible repeat (first | apply Kd.V_alloc | apply Kd.V_drewN | apply Kd.V_drew)); exact Kd.V_mono (Kd.V_far (p := ⟨gb121, 0, none⟩) (Kd.V_mono HO_115000.out (fun k_ hk => (⟨hk, hk.1.2.2.2.2.2⟩ : _ ∧ k_ ≠ gb121))) (fun _ hk => hk.2) (.slice Ao42 y126.length co42)) (fun _ hk => ⟨hk.1.2, ⟨hk.1.1.2.1, ⟨hk.1.1.2.2.2.1, ⟨hk.1.1.2.2.2.2.1, hk.1.1.2.2.2.2.2⟩⟩⟩⟩)⟩, ⟨by (with_reducible repeat (first | apply Kd.V_alloc | apply Kd.V_drewN | apply Kd.V_drew)); exact Kd.V_mono (Kd.V_far (p := ⟨gb121, 0, none⟩) (Kd.V_mono HO_115001.out (fun k_ hk => (⟨hk, hk.1.2.2.2.2.2⟩ : _ ∧ k_ ≠ gb121))) (fun _ hk => hk.2) (.slice Ao42 y126.length co42)) (fun _ hk => ⟨hk.1.2, ⟨hk.1.1.2.1, ⟨hk.1.1.2.2.2.1, ⟨hk.1.1.2.2.2.2.1, hk.1.1.2.2.2.2.2⟩⟩⟩⟩)⟩, ⟨by (with_reducible repeat (first | apply Kd.V_alloc | apply Kd.V_drewN | apply Kd.V_drew)); exact Kd.V_mono (Kd.V_far (p := ⟨gb121, 0, none⟩) (Kd.V_mono HO_115004.out (fun k_ hk => (⟨hk, hk.1.2.2.2.2.2⟩ : _ ∧ k_ ≠ gb121))) (fun _ hk => hk.2) (.slice Ao42 y126.length co42)) (fun _ hk => ⟨hk.1.2, ⟨hk.1.1.2.1, ⟨hk.1.1.2.2.2.1, ⟨hk.1.1.2.2.2.2.1, hk.1.1.2.2.2.2.2⟩⟩⟩⟩)⟩, ⟨by (with_reducible repeat (first | apply Kd.R_alloc | apply Kd.R_drewN | apply Kd.R_drew)); exact Kd.R_mono (Kd.R_far (p := ⟨gb121, 0, none⟩) (Kd.R_types HO128.out BK121.out (by decide)) (fun _ hk => hk.2) (.slice Ao42 y126.length co42)) (fun _ hk => hk.1.2)⟩, ⟨by refine pB ?_; refine blk_far ?_ NB101_121.out _; (with_reducible repeat (first | refine blk_drewN ?_ _ | refine blk_drew ?_ | refine blk_alloc ?_ _)); exact BK101.out⟩, ⟨by refine pB ?_; refine blk_far ?_ NB114_121.out _; (with_reducible repeat (first | refine blk_drewN ?_ _ | refine blk_drew ?_ | refine blk_alloc ?_ _)); exact BK114.out⟩, ⟨by refine pB ?_; refine blk_put (cs := #[.slice Ao29 x122000_1.length co29]) ?_ 0 _ rfl; (with_reducible repeat (first | refine blk_drewN ?_ _ | refine blk_drew ?_ | refine blk_alloc ?_ _)); exact BK121.out⟩, ⟨pE HB⟩⟩
      ·rw [if_neg c28] at H
       exact absurd H (by simp)
     ·rw [if_neg c27] at H
      exact absurd H (by simp)
    ·rw [if_neg c25] at H
     have c25b0 : decide (x32_1 < (l0_0.length : Int)) = false := decide_eq_false c25
     clear c25
     obtain ⟨t135, A44, H⟩ := bi H
     by_cases c45 : t135 = true
     ·subst c45
      rw [if_pos rfl] at H
      have H' := Aside0.mk H
      clear H
      obtain ⟨Ao46, co46, eo46⟩ := Kd.R_slice HO_10.out
      subst eo46
      obtain ⟨AoZ1, coZ1, eoZ1⟩ := Kd.R_slice HO_122000.out
      have HOZ1 := HO_122000.out
      rw [eoZ1] at HOZ1
      have EZ1 := Aside0.mk eoZ1
      clear eoZ1
      go_wp2_with (first | (go_at_call 50; (with_reducible refine (tenter_Order_1.calls k1 0 _ _ x10_1 gb121 AoZ1 coZ1 x122000_1 true _ ?side1 ?side2 ?side3 ?side4 ?side5 A44.out).mono ?_); (case side1 => exact pC (Kd.R_reads' HO_10.out).2.2); (case side2 => exact (Kd.R_reads' HO_10.out).2.1); (case side3 => exact by (with_reducible repeat (first | refine blk_drewN ?_ _ | refine blk_drew ?_ | refine blk_alloc ?_ _)); rw [← EZ1.out]; exact BK121.out); (case side4 => exact pC (Kd.R_reads' HOZ1).2.2); (case side5 => exact (Kd.R_reads' HOZ1).2.1); rintro e w47 ⟨rfl, hb⟩; replace HO_10 := rb HO_10 hb; replace HO_115000 := vb HO_115000 hb; replace HO_115001 := vb HO_115001 hb; replace HO_115004 := vb HO_115004 hb; replace HO_122000 := rb HO_122000 hb; replace BK101 := bb BK101 hb; replace BK114 := bb BK114 hb; replace BK121 := bb BK121 hb; replace HB := bs HB hb; (try clear hb); (try clear hb2); (try clear hk); (try clear hi); have hnb48 := NB101_114.out; have hnc48 := NB114_101.out; have hnb49 := NB101_121.out; have hnc49 := NB121_101.out; obtain ⟨hcz50_0, hcz50_1, hcz50_2, hcz50_3, hfz50_0, hfz50_1, hfz50_2, hfz50_3⟩ := cf4 BK101))
      go_loopg [6, 10, 55] k1 (fun kq v6 v10 v55 w' => ∃ (x6_2 : List Int) (x10_2 : List Int) (x55_2 : Int), v55 = .int .i64 x55_2 ∧ Aside0 (tenter_Order.l1 kq x6_2 x10_2 (l0_0.length : Int) x55_2 x122000_1 = some (r1, r2)) ∧ Aside0 (kq ≤ k1) ∧ Aside0 (Kd.R (Kd.int .i64) 3 w' w.heap.size (fun k_ => some k_ ≠ (v10 : Value).ownBlock ∧ some k_ ≠ (u122000 : Value).ownBlock) v6 x6_2) ∧ Aside0 (Kd.R (Kd.int .i64) 3 w' w.heap.size (fun k_ => some k_ ≠ (v6 : Value).ownBlock ∧ some k_ ≠ (u122000 : Value).ownBlock) v10 x10_2) ∧ Aside0 (Kd.V k42 42 w' w.heap.size (fun k_ => some k_ ≠ (v6 : Value).ownBlock ∧ some k_ ≠ (v10 : Value).ownBlock ∧ some k_ ≠ (u122000 : Value).ownBlock ∧ k_ ≠ gb101 ∧ k_ ≠ gb114 ∧ k_ ≠ gb121) (.slice Ao10 t102.length co10) t102) ∧ Aside0 (Kd.V (Kd.int .i64) 3 w' w.heap.size (fun k_ => some k_ ≠ (v6 : Value).ownBlock ∧ some k_ ≠ (v10 : Value).ownBlock ∧ some k_ ≠ (u122000 : Value).ownBlock ∧ k_ ≠ gb101 ∧ k_ ≠ gb114 ∧ k_ ≠ gb121) (.slice Ao13 t105.length co13) t105) ∧ Aside0 (Kd.V k40 40 w' w.heap.size (fun k_ => some k_ ≠ (v6 : Value).ownBlock ∧ some k_ ≠ (v10 : Value).ownBlock ∧ some k_ ≠ (u122000 : Value).ownBlock ∧ k_ ≠ gb101 ∧ k_ ≠ gb114 ∧ k_ ≠ gb121) (.slice Ao14 t110.length co14) t110) ∧ Aside0 (Kd.R (Kd.int .i64) 3 w' w.heap.size (fun k_ => some k_ ≠ (v6 : Value).ownBlock ∧ some k_ ≠ (v10 : Value).ownBlock) u122000 x122000_1) ∧ Aside0 (w'.heap[gb101]? = some (.cells #[(.slice A0_0 l0_0.length c0_0), (.slice A0_1 l0_1.length c0_1), .int .i64 a0_2, .int .i64 a0_3] 32 (0, 0))) ∧ Aside0 (w'.heap[gb114]? = some (.cells #[(.slice Ao10 t102.length co10), (.slice Ao13 t105.length co13), .int .i64 t108, .int .i64 t109, (.slice Ao14 t110.length co14)] 102 (0, 0))) ∧ Aside0 (w'.heap[gb121]? = some (.cells #[u122000] 30 (0, 0))) ∧ Aside0 (Below w.heap.size w w'))
      case atStart => exact ⟨(([] : List Int)), (x10_1), (0), (by first | rfl | (simp; done) | (simp [*]; done)), H', ⟨Nat.le_refl _⟩, ⟨by first | exact Kd.R_nil _ _ _ _ _ | exact Kd.N_nil _ _ _ _ _ | exact Kd.V_nil _ _ _ _ _ | exact Kd.Q_nil _ _ _ _ _ | exact Kd.S_nil _ _ _ _ _⟩, ⟨by (with_reducible repeat (first | apply Kd.R_alloc | apply Kd.R_drewN | apply Kd.R_drew)); exact Kd.R_mono HO_10.out (fun _ hk => ⟨(by simp [Value.ownBlock]), hk⟩)⟩, ⟨by (with_reducible repeat (first | apply Kd.V_alloc | apply Kd.V_drewN | apply Kd.V_drew)); exact Kd.V_mono HO_115000.out (fun _ hk => ⟨(by simp [Value.ownBlock]), ⟨hk.1, ⟨hk.2.1, ⟨hk.2.2.1, ⟨hk.2.2.2.1, hk.2.2.2.2⟩⟩⟩⟩⟩)⟩, ⟨by (with_reducible repeat (first | apply Kd.V_alloc | apply Kd.V_drewN | apply Kd.V_drew)); exact Kd.V_mono HO_115001.out (fun _ hk => ⟨(by simp [Value.ownBlock]), ⟨hk.1, ⟨hk.2.1, ⟨hk.2.2.1, ⟨hk.2.2.2.1, hk.2.2.2.2⟩⟩⟩⟩⟩)⟩, ⟨by (with_reducible repeat (first | apply Kd.V_alloc | apply Kd.V_drewN | apply Kd.V_drew)); exact Kd.V_mono HO_115004.out (fun _ hk => ⟨(by simp [Value.ownBlock]), ⟨hk.1, ⟨hk.2.1, ⟨hk.2.2.1, ⟨hk.2.2.2.1, hk.2.2.2.2⟩⟩⟩⟩⟩)⟩, ⟨by (with_reducible repeat (first | apply Kd.R_alloc | apply Kd.R_drewN | apply Kd.R_drew)); exact Kd.R_mono HO_122000.out (fun _ hk => ⟨(by simp [Value.ownBlock]), hk⟩)⟩, ⟨by (with_reducible repeat (first | refine blk_drewN ?_ _ | refine blk_drew ?_ | refine blk_alloc ?_ _)); exact BK101.out⟩, ⟨by (with_reducible repeat (first | refine blk_drewN ?_ _ | refine blk_drew ?_ | refine blk_alloc ?_ _)); exact BK114.out⟩, ⟨by (with_reducible repeat (first | refine blk_drewN ?_ _ | refine blk_drew ?_ | refine blk_alloc ?_ _)); exact BK121.out⟩, ⟨pE HB⟩⟩
      case round =>
       clear H'
       try clear c2
       try clear p2
       try clear c4
       try clear p6
       try clear c25
       try clear c25b0
       try clear c27
       try clear c28
       try clear c45
       try clear c48
       try clear c49
       try clear hcz50_0
       try clear hcz50_1
       try clear hcz50_2
       try clear hcz50_3
       try clear hfz50_0
       try clear hfz50_1
       try clear hfz50_2
       try clear hfz50_3
       obtain ⟨x6_2, x10_2, x55_2, rfl, HA, HK2, HO_6, HO_10, HO_115000, HO_115001, HO_115004, HO_122000, BK101, BK114, BK121, HB⟩ := hrel
       cases gk with
       | zero => exact absurd HA.out (by simp [tenter_Order.l1])
       | succ k2 =>
        have H := HA.out
        clear HA
        simp only [tenter_Order.l1] at H
        by_cases c51 : x55_2 < (l0_0.length : Int)
        ·rw [if_pos c51] at H
         have c51b0 : decide (x55_2 < (l0_0.length : Int)) = true := decide_eq_true c51
         clear c51
         have H' := Aside0.mk H
         clear H
         obtain ⟨Ao52, co52, eo52⟩ := Kd.R_slice HO_10.out
         subst eo52
         go_wp2
         go_loopg [6, 10, 60] k2 (fun kq v6 v10 v60 w' => ∃ (x6_3 : List Int) (x10_3 : List Int) (x60_3 : Int), v60 = .int .i64 x60_3 ∧ Aside0 (tenter_Order.l2 kq x6_3 x10_3 x55_2 (l0_0.length : Int) x55_2 x10_2 (x10_2.length : Int) x60_3 x122000_1 = some (r1, r2)) ∧ Aside0 (kq ≤ k2) ∧ Aside0 (Kd.R (Kd.int .i64) 3 w' w.heap.size (fun k_ => some k_ ≠ (v10 : Value).ownBlock ∧ some k_ ≠ ((.slice Ao52 x10_2.length co52) : Value).ownBlock ∧ some k_ ≠ (u122000 : Value).ownBlock) v6 x6_3) ∧ Aside0 (Kd.R (Kd.int .i64) 3 w' w.heap.size (fun k_ => some k_ ≠ (v6 : Value).ownBlock ∧ some k_ ≠ (u122000 : Value).ownBlock) v10 x10_3) ∧ Aside0 (Kd.R (Kd.int .i64) 3 w' w.heap.size (fun k_ => some k_ ≠ (v6 : Value).ownBlock ∧ some k_ ≠ (u122000 : Value).ownBlock) (.slice Ao52 x10_2.length co52) x10_2) ∧ Aside0 (Kd.V k42 42 w' w.heap.size (fun k_ => some k_ ≠ (v6 : Value).ownBlock ∧ some k_ ≠ (v10 : Value).ownBlock ∧ some k_ ≠ ((.slice Ao52 x10_2.length co52) : Value).ownBlock ∧ some k_ ≠ (u122000 : Value).ownBlock ∧ k_ ≠ gb101 ∧ k_ ≠ gb114 ∧ k_ ≠ gb121) (.slice Ao10 t102.length co10) t102) ∧ Aside0 (Kd.V (Kd.int .i64) 3 w' w.heap.size (fun k_ => some k_ ≠ (v6 : Value).ownBlock ∧ some k_ ≠ (v10 : Value).ownBlock ∧ some k_ ≠ ((.slice Ao52 x10_2.length co52) : Value).ownBlock ∧ some k_ ≠ (u122000 : Value).ownBlock ∧ k_ ≠ gb101 ∧ k_ ≠ gb114 ∧ k_ ≠ gb121) (.slice Ao13 t105.length co13) t105) ∧ Aside0 (Kd.V k40 40 w' w.heap.size (fun k_ => some k_ ≠ (v6 : Value).ownBlock ∧ some k_ ≠ (v10 : Value).ownBlock ∧ some k_ ≠ ((.slice Ao52 x10_2.length co52) : Value).ownBlock ∧ some k_ ≠ (u122000 : Value).ownBlock ∧ k_ ≠ gb101 ∧ k_ ≠ gb114 ∧ k_ ≠ gb121) (.slice Ao14 t110.length co14) t110) ∧ Aside0 (Kd.R (Kd.int .i64) 3 w' w.heap.size (fun k_ => some k_ ≠ (v6 : Value).ownBlock ∧ some k_ ≠ (v10 : Value).ownBlock ∧ some k_ ≠ ((.slice Ao52 x10_2.length co52) : Value).ownBlock) u122000 x122000_1) ∧ Aside0 (w'.heap[gb101]? = some (.cells #[(.slice A0_0 l0_0.length c0_0), (.slice A0_1 l0_1.length c0_1), .int .i64 a0_2, .int .i64 a0_3] 32 (0, 0))) ∧ Aside0 (w'.heap[gb114]? = some (.cells #[(.slice Ao10 t102.length co10), (.slice Ao13 t105.length co13), .int .i64 t108, .int .i64 t109, (.slice Ao14 t110.length co14)] 102 (0, 0))) ∧ Aside0 (w'.heap[gb121]? = some (.cells #[u122000] 30 (0, 0))) ∧ Aside0 (Below w.heap.size w w'))
         case atStart => exact ⟨(x6_2), (x10_2), (0), (by first | rfl | (simp; done) | (simp [*]; done)), H', ⟨Nat.le_refl _⟩, ⟨by (with_reducible repeat (first | apply Kd.R_alloc | apply Kd.R_drewN | apply Kd.R_drew)); exact Kd.R_mono HO_6.out (fun _ hk => ⟨hk.1, ⟨hk.1, hk.2⟩⟩)⟩, ⟨by (with_reducible repeat (first | apply Kd.R_alloc | apply Kd.R_drewN | apply Kd.R_drew)); exact HO_10.out⟩, ⟨by (with_reducible repeat (first | apply Kd.R_alloc | apply Kd.R_drewN | apply Kd.R_drew)); exact HO_10.out⟩, ⟨by (with_reducible repeat (first | apply Kd.V_alloc | apply Kd.V_drewN | apply Kd.V_drew)); exact Kd.V_mono HO_115000.out (fun _ hk => ⟨hk.1, ⟨hk.2.1, ⟨hk.2.1, ⟨hk.2.2.1, ⟨hk.2.2.2.1, ⟨hk.2.2.2.2.1, hk.2.2.2.2.2⟩⟩⟩⟩⟩⟩)⟩, ⟨by (with_reducible repeat (first | apply Kd.V_alloc | apply Kd.V_drewN | apply Kd.V_drew)); exact Kd.V_mono HO_115001.out (fun _ hk => ⟨hk.1, ⟨hk.2.1, ⟨hk.2.1, ⟨hk.2.2.1, ⟨hk.2.2.2.1, ⟨hk.2.2.2.2.1, hk.2.2.2.2.2⟩⟩⟩⟩⟩⟩)⟩, ⟨by (with_reducible repeat (first | apply Kd.V_alloc | apply Kd.V_drewN | apply Kd.V_drew)); exact Kd.V_mono HO_115004.out (fun _ hk => ⟨hk.1, ⟨hk.2.1, ⟨hk.2.1, ⟨hk.2.2.1, ⟨hk.2.2.2.1, ⟨hk.2.2.2.2.1, hk.2.2.2.2.2⟩⟩⟩⟩⟩⟩)⟩, ⟨by (with_reducible repeat (first | apply Kd.R_alloc | apply Kd.R_drewN | apply Kd.R_drew)); exact Kd.R_mono HO_122000.out (fun _ hk => ⟨hk.1, ⟨hk.2, hk.2⟩⟩)⟩, ⟨by (with_reducible repeat (first | refine blk_drewN ?_ _ | refine blk_drew ?_ | refine blk_alloc ?_ _)); exact BK101.out⟩, ⟨by (with_reducible repeat (first | refine blk_drewN ?_ _ | refine blk_drew ?_ | refine blk_alloc ?_ _)); exact BK114.out⟩, ⟨by (with_reducible repeat (first | refine blk_drewN ?_ _ | refine blk_drew ?_ | refine blk_alloc ?_ _)); exact BK121.out⟩, ⟨pE HB⟩⟩
         case round =>
          clear H'
          try clear c2
          try clear p2
          try clear c4
          try clear c5
          try clear p6
          try clear c25
          try clear c25b0
          try clear c27
          try clear c28
          try clear c45
          try clear c48
          try clear c49
          try clear c51
          try clear c51b0
          try clear hcz50_0
          try clear hcz50_1
          try clear hcz50_2
          try clear hcz50_3
          try clear hfz50_0
          try clear hfz50_1
          try clear hfz50_2
          try clear hfz50_3
          try clear p2
          try clear p6
          try clear HO_6
          try clear HO_10
          try clear HO_58
          try clear HO_115000
          try clear HO_115001
          try clear HO_115004
          try clear HO_122000
          try clear BK101
          try clear BK114
          try clear BK121
          try clear HB
          obtain ⟨x6_3, x10_3, x60_3, rfl, HA, HK3, HO_6, HO_10, HO_58, HO_115000, HO_115001, HO_115004, HO_122000, BK101, BK114, BK121, HB⟩ := hrel
          cases gk with
          | zero => exact absurd HA.out (by simp [tenter_Order.l2])
          | succ k3 =>
           have H := HA.out
           clear HA
           simp only [tenter_Order.l2] at H
           by_cases c53 : x60_3 < (x10_2.length : Int)
           ·rw [if_pos c53] at H
            have c53b0 : decide (x60_3 < (x10_2.length : Int)) = true := decide_eq_true c53
            clear c53
            by_cases c54 : 0 ≤ x60_3
            ·rw [if_pos c54] at H
             have c54b0 : decide (0 ≤ x60_3) = true := decide_eq_true c54
             clear c54
             by_cases c55 : x60_3 < (x10_2.length : Int)
             ·rw [if_pos c55] at H
              have c55b0 : decide (x60_3 < (x10_2.length : Int)) = true := decide_eq_true c55
              clear c55
              obtain ⟨t137, A56, H⟩ := bi H
              obtain ⟨t140, A57, H⟩ := bi H
              by_cases c58 : 0 ≤ (rd x10_2 x60_3)
              ·rw [if_pos c58] at H
               have c58b0 : decide (0 ≤ (rd x10_2 x60_3)) = true := decide_eq_true c58
               clear c58
               by_cases c59 : (rd x10_2 x60_3) < (x122000_1.length : Int)
               ·rw [if_pos c59] at H
                have c59b0 : decide ((rd x10_2 x60_3) < (x122000_1.length : Int)) = true := decide_eq_true c59
                clear c59
                by_cases c60 : (rd x122000_1 (rd x10_2 x60_3)) ≥ x55_2
                ·rw [if_pos c60] at H
                 have c60b0 : decide (x55_2 ≤ (rd x122000_1 (rd x10_2 x60_3))) = true := decide_eq_true c60
                 clear c60
                 obtain ⟨t144, A61, H⟩ := bi H
                 by_cases c62 : t144 = true
                 ·subst c62
                  rw [if_pos rfl] at H
                  obtain ⟨y145, hy145⟩ : ∃ y_ : List Int, y_ = (([rd x10_2 x60_3] : List Int)) := ⟨_, rfl⟩
                  replace H : (if x6_3.length + y145.length < 17592186044416 then (tenter_Order.l1 k3 (x6_3 ++ y145) t140 (l0_0.length : Int) (wrap64 (x55_2 + 1)) x122000_1) else (none)) = some (r1, r2) := yy hy145 H
                  have Ny145 := Aside0.mk hy145
                  clear hy145
                  by_cases c63 : x6_3.length + y145.length < 17592186044416
                  ·rw [if_pos c63] at H
                   have LMc63 := Aside0.mk c63
                   clear c63
                   obtain ⟨y148, hy148⟩ : ∃ y_ : List Int, y_ = (x6_3 ++ y145) := ⟨_, rfl⟩
                   replace H : (tenter_Order.l1 k3 y148 t140 (l0_0.length : Int) (wrap64 (x55_2 + 1)) x122000_1) = some (r1, r2) := yy hy148 H
                   have Ny148 := Aside0.mk hy148
                   clear hy148
                   have H' := Aside0.mk H
                   clear H
                   have p136 : 0 ≤ (x60_3 : Int) := dT
                   have q136 : x60_3 < (x10_2.length : Int) := dT
                   obtain ⟨ad136, e136, hx136_0⟩ := Kd.at_int (Kd.R_reads' HO_58.out).2.2 x60_3 p136 q136
                   cases e136
                   replace p136 := eq_true p136
                   replace q136 := eq_true q136
                   obtain ⟨Ao64, co64, eo64⟩ := Kd.R_slice HO_10.out
                   subst eo64
                   go_wp2_with (first | ((with_reducible refine gc 51 rfl ?_); refine gL 66 Tryd.func51 #[.slice Ao64 x10_3.length co64] ?_; (with_reducible refine (slices_Clone_int_int.calls _ _ x10_3 t137 _ ?side1 ?side2 A56.out).mono ?_); (case side1 => exact pC (Kd.R_reads' HO_10.out).2.2); (case side2 => exact (Kd.R_reads' HO_10.out).2.1); rintro e w65 ⟨v138, rfl, ho0, hb⟩; refine ⟨_, rfl, ?_⟩; replace HO_115000 := Aside0.mk (Kd.V_elder' (pV HO_115000.out) (Kd.R_base ho0) hb); replace HO_115001 := Aside0.mk (Kd.V_elder' (pV HO_115001.out) (Kd.R_base ho0) hb); replace HO_115004 := Aside0.mk (Kd.V_elder' (pV HO_115004.out) (Kd.R_base ho0) hb); have HO139 := Aside0.mk (Kd.R_lower (Kd.R_new' (Kd.R_new' (Kd.R_new' (Kd.R_new' ho0 (Kd.R_lt (pR HO_6.out))) (Kd.R_lt (pR HO_10.out))) (Kd.R_lt (pR HO_58.out))) (Kd.R_lt (pR HO_122000.out))) (below_size (pE HB))); replace HO_6 := re HO_6 ho0 hb; replace HO_10 := re HO_10 ho0 hb; replace HO_58 := re HO_58 ho0 hb; replace HO_122000 := re HO_122000 ho0 hb; replace BK101 := bb BK101 hb; replace BK114 := bb BK114 hb; replace BK121 := bb BK121 hb; replace HB := bs HB hb; clear hb ho0; obtain ⟨Ao66, co66, eo66⟩ := Kd.R_slice HO139.out; subst eo66) | ((with_reducible refine gc 54 rfl ?_); refine gL 70 Tryd.func54 #[.slice Ao66 t137.length co66, .int .i64 x60_3, .int .i64 (wrap64 (x60_3 + 1))] ?_; (with_reducible refine (slices_Delete_int_int.calls (fun k_ => some k_ = (.slice Ao66 t137.length co66 : Value).ownBlock) (.slice Ao66 t137.length co66) t137 x60_3 (wrap64 (x60_3 + 1)) t140 w _ ?side1 ?side2 A57.out).mono ?_); (case side1 => repeat (first | (with_reducible first | exact HB.out | apply below_alloc | apply pw_below_drewN | apply below_drew1 | refine below_set ?_ GE101.out | refine below_set ?_ GE114.out | refine below_set ?_ GE121.out) | exact HB.out)); (case side2 => exact Kd.R_tight rfl HO139.out); rintro e w67 ⟨v141, rfl, ho0, hb, hkp⟩; refine ⟨_, rfl, ?_⟩; replace HO_115000 := Aside0.mk (Kd.V_mono (ok' := fun k_ => some k_ ≠ (u6 : Value).ownBlock ∧ some k_ ≠ (.slice Ao64 x10_3.length co64 : Value).ownBlock ∧ some k_ ≠ (.slice (some ad136) x10_2.length co52 : Value).ownBlock ∧ some k_ ≠ (u122000 : Value).ownBlock ∧ k_ ≠ gb101 ∧ k_ ≠ gb114 ∧ k_ ≠ gb121 ∧ some k_ ≠ (v141 : Value).ownBlock) (Kd.V_keptB (HO_115000.out) hkp (fun k_ hk_ hs_ => (hk_.2) hs_)) (fun k_ hk_ => ⟨hk_.1.1.1, hk_.1.1.2.1, hk_.1.1.2.2.1, hk_.1.1.2.2.2.1, hk_.1.1.2.2.2.2.1, hk_.1.1.2.2.2.2.2.1, hk_.1.1.2.2.2.2.2.2, fun e_ => Or.elim (ho0.1 k_ e_.symm) (fun hs_ => hk_.2.1 hs_) (fun hn_ => Nat.not_le.2 hk_.2.2 hn_)⟩)); replace HO_115001 := Aside0.mk (Kd.V_mono (ok' := fun k_ => some k_ ≠ (u6 : Value).ownBlock ∧ some k_ ≠ (.slice Ao64 x10_3.length co64 : Value).ownBlock ∧ some k_ ≠ (.slice (some ad136) x10_2.length co52 : Value).ownBlock ∧ some k_ ≠ (u122000 : Value).ownBlock ∧ k_ ≠ gb101 ∧ k_ ≠ gb114 ∧ k_ ≠ gb121 ∧ some k_ ≠ (v141 : Value).ownBlock) (Kd.V_keptB (HO_115001.out) hkp (fun k_ hk_ hs_ => (hk_.2) hs_)) (fun k_ hk_ => ⟨hk_.1.1.1, hk_.1.1.2.1, hk_.1.1.2.2.1, hk_.1.1.2.2.2.1, hk_.1.1.2.2.2.2.1, hk_.1.1.2.2.2.2.2.1, hk_.1.1.2.2.2.2.2.2, fun e_ => Or.elim (ho0.1 k_ e_.symm) (fun hs_ => hk_.2.1 hs_) (fun hn_ => Nat.not_le.2 hk_.2.2 hn_)⟩)); replace HO_115004 := Aside0.mk (Kd.V_mono (ok' := fun k_ => some k_ ≠ (u6 : Value).ownBlock ∧ some k_ ≠ (.slice Ao64 x10_3.length co64 : Value).ownBlock ∧ some k_ ≠ (.slice (some ad136) x10_2.length co52 : Value).ownBlock ∧ some k_ ≠ (u122000 : Value).ownBlock ∧ k_ ≠ gb101 ∧ k_ ≠ gb114 ∧ k_ ≠ gb121 ∧ some k_ ≠ (v141 : Value).ownBlock) (Kd.V_keptB (HO_115004.out) hkp (fun k_ hk_ hs_ => (hk_.2) hs_)) (fun k_ hk_ => ⟨hk_.1.1.1, hk_.1.1.2.1, hk_.1.1.2.2.1, hk_.1.1.2.2.2.1, hk_.1.1.2.2.2.2.1, hk_.1.1.2.2.2.2.2.1, hk_.1.1.2.2.2.2.2.2, fun e_ => Or.elim (ho0.1 k_ e_.symm) (fun hs_ => hk_.2.1 hs_) (fun hn_ => Nat.not_le.2 hk_.2.2 hn_)⟩)); replace BK101 := Aside0.mk (blk_kept (pB BK101.out) hkp (fun hs_ => (fun e_ => (Kd.R_ne HO139.out BK101.out (by decide)) e_) hs_)); replace BK114 := Aside0.mk (blk_kept (pB BK114.out) hkp (fun hs_ => (fun e_ => (Kd.R_ne HO139.out BK114.out (by decide)) e_) hs_)); replace BK121 := Aside0.mk (blk_kept (pB BK121.out) hkp (fun hs_ => (fun e_ => (Kd.R_ne HO139.out BK121.out (by decide)) e_) hs_)); have HO142 := Aside0.mk (Kd.R_mono (ok' := fun k_ => some k_ ≠ (u6 : Value).ownBlock ∧ some k_ ≠ (.slice Ao64 x10_3.length co64 : Value).ownBlock ∧ some k_ ≠ (.slice (some ad136) x10_2.length co52 : Value).ownBlock ∧ some k_ ≠ (u122000 : Value).ownBlock) ho0 (fun k_ hk_ => ⟨Or.elim hk_ (fun hs_ => fun e_ => (((HO_6.out).1 k_ e_.symm).2) hs_) (fun hn_ => (Kd.fresh' (Kd.R_lt (pR HO_6.out)) k_ hn_)), Or.elim hk_ (fun hs_ => fun e_ => (((HO_10.out).1 k_ e_.symm).2) hs_) (fun hn_ => (Kd.fresh' (Kd.R_lt (pR HO_10.out)) k_ hn_)), Or.elim hk_ (fun hs_ => fun e_ => (((HO_58.out).1 k_ e_.symm).2) hs_) (fun hn_ => (Kd.fresh' (Kd.R_lt (pR HO_58.out)) k_ hn_)), Or.elim hk_ (fun hs_ => fun e_ => (((HO_122000.out).1 k_ e_.symm).2) hs_) (fun hn_ => (Kd.fresh' (Kd.R_lt (pR HO_122000.out)) k_ hn_))⟩)); replace HO_6 := Aside0.mk (Kd.R_mono (ok' := fun k_ => some k_ ≠ (.slice Ao64 x10_3.length co64 : Value).ownBlock ∧ some k_ ≠ (.slice (some ad136) x10_2.length co52 : Value).ownBlock ∧ some k_ ≠ (u122000 : Value).ownBlock ∧ some k_ ≠ (v141 : Value).ownBlock) (Kd.R_keptB (HO_6.out) hkp (fun k_ hk_ hs_ => (hk_.2) hs_)) (fun k_ hk_ => ⟨hk_.1.1.1, hk_.1.1.2.1, hk_.1.1.2.2, fun e_ => Or.elim (ho0.1 k_ e_.symm) (fun hs_ => hk_.2.1 hs_) (fun hn_ => Nat.not_le.2 hk_.2.2 hn_)⟩)); replace HO_10 := Aside0.mk (Kd.R_mono (ok' := fun k_ => some k_ ≠ (u6 : Value).ownBlock ∧ some k_ ≠ (u122000 : Value).ownBlock ∧ some k_ ≠ (v141 : Value).ownBlock) (Kd.R_keptB (HO_10.out) hkp (fun k_ hk_ hs_ => (hk_.2) hs_)) (fun k_ hk_ => ⟨hk_.1.1.1, hk_.1.1.2, fun e_ => Or.elim (ho0.1 k_ e_.symm) (fun hs_ => hk_.2.1 hs_) (fun hn_ => Nat.not_le.2 hk_.2.2 hn_)⟩)); replace HO_58 := Aside0.mk (Kd.R_mono (ok' := fun k_ => some k_ ≠ (u6 : Value).ownBlock ∧ some k_ ≠ (u122000 : Value).ownBlock ∧ some k_ ≠ (v141 : Value).ownBlock) (Kd.R_keptB (HO_58.out) hkp (fun k_ hk_ hs_ => (hk_.2) hs_)) (fun k_ hk_ => ⟨hk_.1.1.1, hk_.1.1.2, fun e_ => Or.elim (ho0.1 k_ e_.symm) (fun hs_ => hk_.2.1 hs_) (fun hn_ => Nat.not_le.2 hk_.2.2 hn_)⟩)); replace HO_122000 := Aside0.mk (Kd.R_mono (ok' := fun k_ => some k_ ≠ (u6 : Value).ownBlock ∧ some k_ ≠ (.slice Ao64 x10_3.length co64 : Value).ownBlock ∧ some k_ ≠ (.slice (some ad136) x10_2.length co52 : Value).ownBlock ∧ some k_ ≠ (v141 : Value).ownBlock) (Kd.R_keptB (HO_122000.out) hkp (fun k_ hk_ hs_ => (hk_.2) hs_)) (fun k_ hk_ => ⟨hk_.1.1.1, hk_.1.1.2.1, hk_.1.1.2.2, fun e_ => Or.elim (ho0.1 k_ e_.symm) (fun hs_ => hk_.2.1 hs_) (fun hn_ => Nat.not_le.2 hk_.2.2 hn_)⟩)); replace HB := Aside0.mk (hb); clear HO139; clear hb hkp ho0; have hnb68 := NB121_101.out; have hnc68 := NB101_121.out; have hnb69 := NB121_114.out; have hnc69 := NB114_121.out; obtain ⟨_, _⟩ := cf1 BK121; obtain ⟨Ao71, co71, eo71⟩ := Kd.R_slice HO_122000.out; subst eo71; have p143 : 0 ≤ ((rd x10_2 x60_3) : Int) := dT; have q143 : (rd x10_2 x60_3) < (x122000_1.length : Int) := dT; obtain ⟨ad143, e143, hx143_0⟩ := Kd.at_int (Kd.R_reads' HO_122000.out).2.2 (rd x10_2 x60_3) p143 q143; cases e143; replace p143 := eq_true p143; replace q143 := eq_true q143; obtain ⟨Ao72, co72, eo72⟩ := Kd.R_slice HO142.out; subst eo72) | (go_at_call 50; (with_reducible refine (tenter_Order_1.calls k3 (wrap64 (x55_2 + 1)) _ _ t140 gb121 (some ad143) co71 x122000_1 true _ ?side1 ?side2 ?side3 ?side4 ?side5 A61.out).mono ?_); (case side1 => exact pC (Kd.R_reads' HO142.out).2.2); (case side2 => exact (Kd.R_reads' HO142.out).2.1); (case side3 => exact pB BK121.out); (case side4 => exact pC (Kd.R_reads' HO_122000.out).2.2); (case side5 => exact (Kd.R_reads' HO_122000.out).2.1); rintro e w73 ⟨rfl, hb⟩; replace HO_6 := rb HO_6 hb; replace HO_10 := rb HO_10 hb; replace HO_58 := rb HO_58 hb; replace HO_115000 := vb HO_115000 hb; replace HO_115001 := vb HO_115001 hb; replace HO_115004 := vb HO_115004 hb; replace HO_122000 := rb HO_122000 hb; replace HO142 := rb HO142 hb; replace BK101 := bb BK101 hb; replace BK114 := bb BK114 hb; replace BK121 := bb BK121 hb; replace HB := bs HB hb; (try clear hb); (try clear hb2); (try clear hk); (try clear hi)) | ((with_reducible refine gate_dst (N := 86) rfl ?_); refine Kd.R_lit (Kd.int .i64) _ 3 ?hg (N := 86) ?hd (xs := ([rd x10_2 x60_3] : List Int)) (inner := [.int .i64 (rd x10_2 x60_3)]) (ok := fun _ => True) (okp := fun _ => True) ?hr ?hp (fun _ hk => hk) trivial (Below.refl _ _) (Nat.le_refl _) (by simp) ?_; (case hd => rfl); (case hg => rfl); (case hr => first | (go_simp; done) | (go_simp; rfl)); (case hp => exact (Reps.one (show Kd.M (Kd.int .i64) _ _ _ (rd x10_2 x60_3) [.int .i64 (rd x10_2 x60_3)] from rfl) (Reps.none _ _))); intro v146 w74 ho75 hb hg_ hnew_; clear hg_ hnew_; (first | rw [← Ny145.out] at ho75 | (simp only [Int.reduceToNat] at ho75; rw [← Ny145.out] at ho75)); replace HO_115000 := Aside0.mk (Kd.V_elder' (pV HO_115000.out) (Kd.R_base ho75) hb); replace HO_115001 := Aside0.mk (Kd.V_elder' (pV HO_115001.out) (Kd.R_base ho75) hb); replace HO_115004 := Aside0.mk (Kd.V_elder' (pV HO_115004.out) (Kd.R_base ho75) hb); have HO147 := Aside0.mk (Kd.R_lower (Kd.R_new' (Kd.R_new' (Kd.R_new' (Kd.R_new' (Kd.R_new' ho75 (Kd.R_lt (pR HO_6.out))) (Kd.R_lt (pR HO_10.out))) (Kd.R_lt (pR HO_58.out))) (Kd.R_lt (pR HO_122000.out))) (Kd.R_lt (pR HO142.out))) (below_size (pE HB))); replace HO_6 := re HO_6 ho75 hb; replace HO_10 := re HO_10 ho75 hb; replace HO_58 := re HO_58 ho75 hb; replace HO_122000 := re HO_122000 ho75 hb; replace HO142 := re HO142 ho75 hb; replace BK101 := bb BK101 hb; replace BK114 := bb BK114 hb; replace BK121 := bb BK121 hb; replace HB := bs HB hb; clear hb ho75; obtain ⟨Ao77, co77, eo77⟩ := Kd.R_slice HO147.out; subst eo77) | ((with_reducible refine gate_builtin (b := .append) (xs := #[.tmp 84, .tmp 86]) rfl ?_); at_builtin; refine Kd.R_append_rows (Kd.int .i64) (w0 := w) w.heap.size rfl (.tmp 84) (.tmp 86) 30 3 (.int .i64 0) 8 rfl Tryd.underlying30 info3 rfl (by decide) (by omega) u6 x6_3 y145 _ _ _ (fun k_ => some k_ ≠ (.slice Ao64 x10_3.length co64 : Value).ownBlock ∧ some k_ ≠ (.slice (some ad136) x10_2.length co52 : Value).ownBlock ∧ some k_ ≠ (.slice (some ad143) x122000_1.length co71 : Value).ownBlock ∧ some k_ ≠ (.slice Ao72 t140.length co72 : Value).ownBlock ∧ some k_ ≠ (.slice Ao77 y145.length co77 : Value).ownBlock) (fun _ => False) rfl rfl ?aO ?aR (fun _ _ h => h) (fun _ h => h.elim) ?aF ?aB ?aS ?aL ?_; (case aR => exact pC (Kd.R_reads' HO147.out).2.2); (case aB => exact (pE HB)); (case aF => exact (fun k_ hk => ⟨Kd.fresh' (Kd.R_lt (pR HO_10.out)) k_ hk, Kd.fresh' (Kd.R_lt (pR HO_58.out)) k_ hk, Kd.fresh' (Kd.R_lt (pR HO_122000.out)) k_ hk, Kd.fresh' (Kd.R_lt (pR HO142.out)) k_ hk, Kd.fresh' (Kd.R_lt (pR HO147.out)) k_ hk⟩)); (case aO => exact (by refine pR ?_; exact Kd.R_mono HO_6.out (fun _ hk => ⟨hk.1.1, ⟨hk.1.2.1, ⟨hk.1.2.2.1, ⟨hk.1.2.2.2, hk.2⟩⟩⟩⟩))); (case aS => exact (below_size (pE HB))); (case aL => have := LMc63.out; omega); intro v149 w76 ho hb hg hat; rw [← Ny148.out] at ho; replace HO_10 := Aside0.mk (Kd.R_after (ok := (fun k_ => some k_ ≠ (.slice (some ad143) x122000_1.length co71 : Value).ownBlock ∧ some k_ ≠ (.slice Ao72 t140.length co72 : Value).ownBlock ∧ some k_ ≠ (.slice Ao77 y145.length co77 : Value).ownBlock)) (by refine pR ?_; exact Kd.R_mono HO_10.out (fun _ hk => ⟨⟨hk.1.2.1, ⟨hk.1.2.2, hk.2⟩⟩, hk.1.1⟩)) hg hat); replace HO_58 := Aside0.mk (Kd.R_after (ok := (fun k_ => some k_ ≠ (.slice (some ad143) x122000_1.length co71 : Value).ownBlock ∧ some k_ ≠ (.slice Ao72 t140.length co72 : Value).ownBlock ∧ some k_ ≠ (.slice Ao77 y145.length co77 : Value).ownBlock)) (by refine pR ?_; exact Kd.R_mono HO_58.out (fun _ hk => ⟨⟨hk.1.2.1, ⟨hk.1.2.2, hk.2⟩⟩, hk.1.1⟩)) hg hat); replace HO_115000 := Aside0.mk (Kd.V_afterv (ok := (fun k_ => some k_ ≠ (.slice Ao64 x10_3.length co64 : Value).ownBlock ∧ some k_ ≠ (.slice (some ad136) x10_2.length co52 : Value).ownBlock ∧ some k_ ≠ (.slice (some ad143) x122000_1.length co71 : Value).ownBlock ∧ some k_ ≠ (.slice Ao72 t140.length co72 : Value).ownBlock ∧ some k_ ≠ (.slice Ao77 y145.length co77 : Value).ownBlock ∧ k_ ≠ gb101 ∧ k_ ≠ gb114 ∧ k_ ≠ gb121)) (by refine pV ?_; exact Kd.V_mono HO_115000.out (fun _ hk => ⟨⟨hk.1.2.1, ⟨hk.1.2.2.1, ⟨hk.1.2.2.2.1, ⟨hk.1.2.2.2.2.2.2.2, ⟨hk.2, ⟨hk.1.2.2.2.2.1, ⟨hk.1.2.2.2.2.2.1, hk.1.2.2.2.2.2.2.1⟩⟩⟩⟩⟩⟩⟩, hk.1.1⟩)) hg hat); replace HO_115001 := Aside0.mk (Kd.V_afterv (ok := (fun k_ => some k_ ≠ (.slice Ao64 x10_3.length co64 : Value).ownBlock ∧ some k_ ≠ (.slice (some ad136) x10_2.length co52 : Value).ownBlock ∧ some k_ ≠ (.slice (some ad143) x122000_1.length co71 : Value).ownBlock ∧ some k_ ≠ (.slice Ao72 t140.length co72 : Value).ownBlock ∧ some k_ ≠ (.slice Ao77 y145.length co77 : Value).ownBlock ∧ k_ ≠ gb101 ∧ k_ ≠ gb114 ∧ k_ ≠ gb121)) (by refine pV ?_; exact Kd.V_mono HO_115001.out (fun _ hk => ⟨⟨hk.1.2.1, ⟨hk.1.2.2.1, ⟨hk.1.2.2.2.1, ⟨hk.1.2.2.2.2.2.2.2, ⟨hk.2, ⟨hk.1.2.2.2.2.1, ⟨hk.1.2.2.2.2.2.1, hk.1.2.2.2.2.2.2.1⟩⟩⟩⟩⟩⟩⟩, hk.1.1⟩)) hg hat); replace HO_115004 := Aside0.mk (Kd.V_afterv (ok := (fun k_ => some k_ ≠ (.slice Ao64 x10_3.length co64 : Value).ownBlock ∧ some k_ ≠ (.slice (some ad136) x10_2.length co52 : Value).ownBlock ∧ some k_ ≠ (.slice (some ad143) x122000_1.length co71 : Value).ownBlock ∧ some k_ ≠ (.slice Ao72 t140.length co72 : Value).ownBlock ∧ some k_ ≠ (.slice Ao77 y145.length co77 : Value).ownBlock ∧ k_ ≠ gb101 ∧ k_ ≠ gb114 ∧ k_ ≠ gb121)) (by refine pV ?_; exact Kd.V_mono HO_115004.out (fun _ hk => ⟨⟨hk.1.2.1, ⟨hk.1.2.2.1, ⟨hk.1.2.2.2.1, ⟨hk.1.2.2.2.2.2.2.2, ⟨hk.2, ⟨hk.1.2.2.2.2.1, ⟨hk.1.2.2.2.2.2.1, hk.1.2.2.2.2.2.2.1⟩⟩⟩⟩⟩⟩⟩, hk.1.1⟩)) hg hat); replace HO_122000 := Aside0.mk (Kd.R_after (ok := (fun k_ => some k_ ≠ (.slice Ao64 x10_3.length co64 : Value).ownBlock ∧ some k_ ≠ (.slice (some ad136) x10_2.length co52 : Value).ownBlock ∧ some k_ ≠ (.slice Ao72 t140.length co72 : Value).ownBlock ∧ some k_ ≠ (.slice Ao77 y145.length co77 : Value).ownBlock)) (by refine pR ?_; exact Kd.R_mono HO_122000.out (fun _ hk => ⟨⟨hk.1.2.1, ⟨hk.1.2.2.1, ⟨hk.1.2.2.2, hk.2⟩⟩⟩, hk.1.1⟩)) hg hat); replace BK101 := Aside0.mk (blk_grown (g := gb101) (o := .cells #[.slice A0_0 l0_0.length c0_0, .slice A0_1 l0_1.length c0_1, .int .i64 a0_2, .int .i64 a0_3] 32 (0, 0)) (pB BK101.out) hg (Kd.R_ne HO_6.out BK101.out (by decide))); replace BK114 := Aside0.mk (blk_grown (g := gb114) (o := .cells #[.slice Ao10 t102.length co10, .slice Ao13 t105.length co13, .int .i64 t108, .int .i64 t109, .slice Ao14 t110.length co14] 102 (0, 0)) (pB BK114.out) hg (Kd.R_ne HO_6.out BK114.out (by decide))); replace BK121 := Aside0.mk (blk_grown (g := gb121) (o := .cells #[.slice (some ad143) x122000_1.length co71] 30 (0, 0)) (pB BK121.out) hg (Kd.R_ne HO_6.out BK121.out (by decide))); replace HO142 := Aside0.mk (Kd.R_after (ok := (fun k_ => some k_ ≠ (.slice Ao64 x10_3.length co64 : Value).ownBlock ∧ some k_ ≠ (.slice (some ad136) x10_2.length co52 : Value).ownBlock ∧ some k_ ≠ (.slice (some ad143) x122000_1.length co71 : Value).ownBlock ∧ some k_ ≠ (.slice Ao77 y145.length co77 : Value).ownBlock)) (by refine pR ?_; exact Kd.R_mono HO142.out (fun _ hk => ⟨⟨hk.1.2.1, ⟨hk.1.2.2.1, ⟨hk.1.2.2.2, hk.2⟩⟩⟩, hk.1.1⟩)) hg hat); replace HO147 := Aside0.mk (Kd.R_after (ok := (fun k_ => some k_ ≠ (.slice Ao64 x10_3.length co64 : Value).ownBlock ∧ some k_ ≠ (.slice (some ad136) x10_2.length co52 : Value).ownBlock ∧ some k_ ≠ (.slice (some ad143) x122000_1.length co71 : Value).ownBlock ∧ some k_ ≠ (.slice Ao72 t140.length co72 : Value).ownBlock)) (by refine pR ?_; exact Kd.R_mono HO147.out (fun _ hk => ⟨⟨hk.1.1.1.2, ⟨hk.1.1.2, ⟨hk.1.2, hk.2⟩⟩⟩, hk.1.1.1.1.2⟩)) hg hat); replace HB := Aside0.mk (hb); have HO150 := Aside0.mk (ho); clear HO_6; clear ho hb hg hat))
                   go_roundg k3
                   case measure => have := HK1.out; have := HK2.out; have := HK3.out; omega
                   case rel => exact ⟨(y148), (t140), (wrap64 (x55_2 + 1)), (by first | rfl | (simp; done) | (simp [*]; done)), H', ⟨by have := HK1.out; have := HK2.out; have := HK3.out; omega⟩, ⟨by (with_reducible repeat (first | apply Kd.R_alloc | apply Kd.R_drewN | apply Kd.R_drew)); exact Kd.R_mono HO150.out (fun _ hk => ⟨hk.2.2.2.1, hk.2.2.1⟩)⟩, ⟨by (with_reducible repeat (first | apply Kd.R_alloc | apply Kd.R_drewN | apply Kd.R_drew)); exact Kd.R_mono HO142.out (fun _ hk => ⟨hk.2, hk.1.2.2.1⟩)⟩, ⟨by (with_reducible repeat (first | apply Kd.V_alloc | apply Kd.V_drewN | apply Kd.V_drew)); exact Kd.V_mono HO_115000.out (fun _ hk => ⟨hk.2, ⟨hk.1.2.2.2.1, ⟨hk.1.2.2.1, ⟨hk.1.2.2.2.2.2.1, ⟨hk.1.2.2.2.2.2.2.1, hk.1.2.2.2.2.2.2.2⟩⟩⟩⟩⟩)⟩, ⟨by (with_reducible repeat (first | apply Kd.V_alloc | apply Kd.V_drewN | apply Kd.V_drew)); exact Kd.V_mono HO_115001.out (fun _ hk => ⟨hk.2, ⟨hk.1.2.2.2.1, ⟨hk.1.2.2.1, ⟨hk.1.2.2.2.2.2.1, ⟨hk.1.2.2.2.2.2.2.1, hk.1.2.2.2.2.2.2.2⟩⟩⟩⟩⟩)⟩, ⟨by (with_reducible repeat (first | apply Kd.V_alloc | apply Kd.V_drewN | apply Kd.V_drew)); exact Kd.V_mono HO_115004.out (fun _ hk => ⟨hk.2, ⟨hk.1.2.2.2.1, ⟨hk.1.2.2.1, ⟨hk.1.2.2.2.2.2.1, ⟨hk.1.2.2.2.2.2.2.1, hk.1.2.2.2.2.2.2.2⟩⟩⟩⟩⟩)⟩, ⟨by (with_reducible repeat (first | apply Kd.R_alloc | apply Kd.R_drewN | apply Kd.R_drew)); exact Kd.R_mono HO_122000.out (fun _ hk => ⟨hk.2, hk.1.2.2.1⟩)⟩, ⟨by (with_reducible repeat (first | refine blk_drewN ?_ _ | refine blk_drew ?_ | refine blk_alloc ?_ _)); exact BK101.out⟩, ⟨by (with_reducible repeat (first | refine blk_drewN ?_ _ | refine blk_drew ?_ | refine blk_alloc ?_ _)); exact BK114.out⟩, ⟨by (with_reducible repeat (first | refine blk_drewN ?_ _ | refine blk_drew ?_ | refine blk_alloc ?_ _)); exact BK121.out⟩, ⟨pE HB⟩⟩
                  ·rw [if_neg c63] at H
                   exact absurd H (by simp)
                 ·replace c62 := Bool.eq_false_iff.mpr c62
                  subst c62
                  rw [if_neg (show ¬ (false = true) by decide)] at H
                  have H' := Aside0.mk H
                  clear H
                  have p136 : 0 ≤ (x60_3 : Int) := dT
                  have q136 : x60_3 < (x10_2.length : Int) := dT
                  obtain ⟨ad136, e136, hx136_0⟩ := Kd.at_int (Kd.R_reads' HO_58.out).2.2 x60_3 p136 q136
                  cases e136
                  replace p136 := eq_true p136
                  replace q136 := eq_true q136
                  obtain ⟨Ao78, co78, eo78⟩ := Kd.R_slice HO_10.out
                  subst eo78
                  go_wp2_with (first | ((with_reducible refine gc 51 rfl ?_); refine gL 66 Tryd.func51 #[.slice Ao78 x10_3.length co78] ?_; (with_reducible refine (slices_Clone_int_int.calls _ _ x10_3 t137 _ ?side1 ?side2 A56.out).mono ?_); (case side1 => exact pC (Kd.R_reads' HO_10.out).2.2); (case side2 => exact (Kd.R_reads' HO_10.out).2.1); rintro e w79 ⟨v138, rfl, ho0, hb⟩; refine ⟨_, rfl, ?_⟩; replace HO_115000 := Aside0.mk (Kd.V_elder' (pV HO_115000.out) (Kd.R_base ho0) hb); replace HO_115001 := Aside0.mk (Kd.V_elder' (pV HO_115001.out) (Kd.R_base ho0) hb); replace HO_115004 := Aside0.mk (Kd.V_elder' (pV HO_115004.out) (Kd.R_base ho0) hb); have HO139 := Aside0.mk (Kd.R_lower (Kd.R_new' (Kd.R_new' (Kd.R_new' (Kd.R_new' ho0 (Kd.R_lt (pR HO_6.out))) (Kd.R_lt (pR HO_10.out))) (Kd.R_lt (pR HO_58.out))) (Kd.R_lt (pR HO_122000.out))) (below_size (pE HB))); replace HO_6 := re HO_6 ho0 hb; replace HO_10 := re HO_10 ho0 hb; replace HO_58 := re HO_58 ho0 hb; replace HO_122000 := re HO_122000 ho0 hb; replace BK101 := bb BK101 hb; replace BK114 := bb BK114 hb; replace BK121 := bb BK121 hb; replace HB := bs HB hb; clear hb ho0; obtain ⟨Ao80, co80, eo80⟩ := Kd.R_slice HO139.out; subst eo80) | ((with_reducible refine gc 54 rfl ?_); refine gL 70 Tryd.func54 #[.slice Ao80 t137.length co80, .int .i64 x60_3, .int .i64 (wrap64 (x60_3 + 1))] ?_; (with_reducible refine (slices_Delete_int_int.calls (fun k_ => some k_ = (.slice Ao80 t137.length co80 : Value).ownBlock) (.slice Ao80 t137.length co80) t137 x60_3 (wrap64 (x60_3 + 1)) t140 w _ ?side1 ?side2 A57.out).mono ?_); (case side1 => repeat (first | (with_reducible first | exact HB.out | apply below_alloc | apply pw_below_drewN | apply below_drew1 | refine below_set ?_ GE101.out | refine below_set ?_ GE114.out | refine below_set ?_ GE121.out) | exact HB.out)); (case side2 => exact Kd.R_tight rfl HO139.out); rintro e w81 ⟨v141, rfl, ho0, hb, hkp⟩; refine ⟨_, rfl, ?_⟩; replace HO_115000 := Aside0.mk (Kd.V_mono (ok' := fun k_ => some k_ ≠ (u6 : Value).ownBlock ∧ some k_ ≠ (.slice Ao78 x10_3.length co78 : Value).ownBlock ∧ some k_ ≠ (.slice (some ad136) x10_2.length co52 : Value).ownBlock ∧ some k_ ≠ (u122000 : Value).ownBlock ∧ k_ ≠ gb101 ∧ k_ ≠ gb114 ∧ k_ ≠ gb121 ∧ some k_ ≠ (v141 : Value).ownBlock) (Kd.V_keptB (HO_115000.out) hkp (fun k_ hk_ hs_ => (hk_.2) hs_)) (fun k_ hk_ => ⟨hk_.1.1.1, hk_.1.1.2.1, hk_.1.1.2.2.1, hk_.1.1.2.2.2.1, hk_.1.1.2.2.2.2.1, hk_.1.1.2.2.2.2.2.1, hk_.1.1.2.2.2.2.2.2, fun e_ => Or.elim (ho0.1 k_ e_.symm) (fun hs_ => hk_.2.1 hs_) (fun hn_ => Nat.not_le.2 hk_.2.2 hn_)⟩)); replace HO_115001 := Aside0.mk (Kd.V_mono (ok' := fun k_ => some k_ ≠ (u6 : Value).ownBlock ∧ some k_ ≠ (.slice Ao78 x10_3.length co78 : Value).ownBlock ∧ some k_ ≠ (.slice (some ad136) x10_2.length co52 : Value).ownBlock ∧ some k_ ≠ (u122000 : Value).ownBlock ∧ k_ ≠ gb101 ∧ k_ ≠ gb114 ∧ k_ ≠ gb121 ∧ some k_ ≠ (v141 : Value).ownBlock) (Kd.V_keptB (HO_115001.out) hkp (fun k_ hk_ hs_ => (hk_.2) hs_)) (fun k_ hk_ => ⟨hk_.1.1.1, hk_.1.1.2.1, hk_.1.1.2.2.1, hk_.1.1.2.2.2.1, hk_.1.1.2.2.2.2.1, hk_.1.1.2.2.2.2.2.1, hk_.1.1.2.2.2.2.2.2, fun e_ => Or.elim (ho0.1 k_ e_.symm) (fun hs_ => hk_.2.1 hs_) (fun hn_ => Nat.not_le.2 hk_.2.2 hn_)⟩)); replace HO_115004 := Aside0.mk (Kd.V_mono (ok' := fun k_ => some k_ ≠ (u6 : Value).ownBlock ∧ some k_ ≠ (.slice Ao78 x10_3.length co78 : Value).ownBlock ∧ some k_ ≠ (.slice (some ad136) x10_2.length co52 : Value).ownBlock ∧ some k_ ≠ (u122000 : Value).ownBlock ∧ k_ ≠ gb101 ∧ k_ ≠ gb114 ∧ k_ ≠ gb121 ∧ some k_ ≠ (v141 : Value).ownBlock) (Kd.V_keptB (HO_115004.out) hkp (fun k_ hk_ hs_ => (hk_.2) hs_)) (fun k_ hk_ => ⟨hk_.1.1.1, hk_.1.1.2.1, hk_.1.1.2.2.1, hk_.1.1.2.2.2.1, hk_.1.1.2.2.2.2.1, hk_.1.1.2.2.2.2.2.1, hk_.1.1.2.2.2.2.2.2, fun e_ => Or.elim (ho0.1 k_ e_.symm) (fun hs_ => hk_.2.1 hs_) (fun hn_ => Nat.not_le.2 hk_.2.2 hn_)⟩)); replace BK101 := Aside0.mk (blk_kept (pB BK101.out) hkp (fun hs_ => (fun e_ => (Kd.R_ne HO139.out BK101.out (by decide)) e_) hs_)); replace BK114 := Aside0.mk (blk_kept (pB BK114.out) hkp (fun hs_ => (fun e_ => (Kd.R_ne HO139.out BK114.out (by decide)) e_) hs_)); replace BK121 := Aside0.mk (blk_kept (pB BK121.out) hkp (fun hs_ => (fun e_ => (Kd.R_ne HO139.out BK121.out (by decide)) e_) hs_)); have HO142 := Aside0.mk (Kd.R_mono (ok' := fun k_ => some k_ ≠ (u6 : Value).ownBlock ∧ some k_ ≠ (.slice Ao78 x10_3.length co78 : Value).ownBlock ∧ some k_ ≠ (.slice (some ad136) x10_2.length co52 : Value).ownBlock ∧ some k_ ≠ (u122000 : Value).ownBlock) ho0 (fun k_ hk_ => ⟨Or.elim hk_ (fun hs_ => fun e_ => (((HO_6.out).1 k_ e_.symm).2) hs_) (fun hn_ => (Kd.fresh' (Kd.R_lt (pR HO_6.out)) k_ hn_)), Or.elim hk_ (fun hs_ => fun e_ => (((HO_10.out).1 k_ e_.symm).2) hs_) (fun hn_ => (Kd.fresh' (Kd.R_lt (pR HO_10.out)) k_ hn_)), Or.elim hk_ (fun hs_ => fun e_ => (((HO_58.out).1 k_ e_.symm).2) hs_) (fun hn_ => (Kd.fresh' (Kd.R_lt (pR HO_58.out)) k_ hn_)), Or.elim hk_ (fun hs_ => fun e_ => (((HO_122000.out).1 k_ e_.symm).2) hs_) (fun hn_ => (Kd.fresh' (Kd.R_lt (pR HO_122000.out)) k_ hn_))⟩)); replace HO_6 := Aside0.mk (Kd.R_mono (ok' := fun k_ => some k_ ≠ (.slice Ao78 x10_3.length co78 : Value).ownBlock ∧ some k_ ≠ (.slice (some ad136) x10_2.length co52 : Value).ownBlock ∧ some k_ ≠ (u122000 : Value).ownBlock ∧ some k_ ≠ (v141 : Value).ownBlock) (Kd.R_keptB (HO_6.out) hkp (fun k_ hk_ hs_ => (hk_.2) hs_)) (fun k_ hk_ => ⟨hk_.1.1.1, hk_.1.1.2.1, hk_.1.1.2.2, fun e_ => Or.elim (ho0.1 k_ e_.symm) (fun hs_ => hk_.2.1 hs_) (fun hn_ => Nat.not_le.2 hk_.2.2 hn_)⟩)); replace HO_10 := Aside0.mk (Kd.R_mono (ok' := fun k_ => some k_ ≠ (u6 : Value).ownBlock ∧ some k_ ≠ (u122000 : Value).ownBlock ∧ some k_ ≠ (v141 : Value).ownBlock) (Kd.R_keptB (HO_10.out) hkp (fun k_ hk_ hs_ => (hk_.2) hs_)) (fun k_ hk_ => ⟨hk_.1.1.1, hk_.1.1.2, fun e_ => Or.elim (ho0.1 k_ e_.symm) (fun hs_ => hk_.2.1 hs_) (fun hn_ => Nat.not_le.2 hk_.2.2 hn_)⟩)); replace HO_58 := Aside0.mk (Kd.R_mono (ok' := fun k_ => some k_ ≠ (u6 : Value).ownBlock ∧ some k_ ≠ (u122000 : Value).ownBlock ∧ some k_ ≠ (v141 : Value).ownBlock) (Kd.R_keptB (HO_58.out) hkp (fun k_ hk_ hs_ => (hk_.2) hs_)) (fun k_ hk_ => ⟨hk_.1.1.1, hk_.1.1.2, fun e_ => Or.elim (ho0.1 k_ e_.symm) (fun hs_ => hk_.2.1 hs_) (fun hn_ => Nat.not_le.2 hk_.2.2 hn_)⟩)); replace HO_122000 := Aside0.mk (Kd.R_mono (ok' := fun k_ => some k_ ≠ (u6 : Value).ownBlock ∧ some k_ ≠ (.slice Ao78 x10_3.length co78 : Value).ownBlock ∧ some k_ ≠ (.slice (some ad136) x10_2.length co52 : Value).ownBlock ∧ some k_ ≠ (v141 : Value).ownBlock) (Kd.R_keptB (HO_122000.out) hkp (fun k_ hk_ hs_ => (hk_.2) hs_)) (fun k_ hk_ => ⟨hk_.1.1.1, hk_.1.1.2.1, hk_.1.1.2.2, fun e_ => Or.elim (ho0.1 k_ e_.symm) (fun hs_ => hk_.2.1 hs_) (fun hn_ => Nat.not_le.2 hk_.2.2 hn_)⟩)); replace HB := Aside0.mk (hb); clear HO139; clear hb hkp ho0; have hnb82 := NB121_101.out; have hnc82 := NB101_121.out; have hnb83 := NB121_114.out; have hnc83 := NB114_121.out; obtain ⟨_, _⟩ := cf1 BK121; obtain ⟨Ao85, co85, eo85⟩ := Kd.R_slice HO_122000.out; subst eo85; have p143 : 0 ≤ ((rd x10_2 x60_3) : Int) := dT; have q143 : (rd x10_2 x60_3) < (x122000_1.length : Int) := dT; obtain ⟨ad143, e143, hx143_0⟩ := Kd.at_int (Kd.R_reads' HO_122000.out).2.2 (rd x10_2 x60_3) p143 q143; cases e143; replace p143 := eq_true p143; replace q143 := eq_true q143; obtain ⟨Ao86, co86, eo86⟩ := Kd.R_slice HO142.out; subst eo86) | (go_at_call 50; (with_reducible refine (tenter_Order_1.calls k3 (wrap64 (x55_2 + 1)) _ _ t140 gb121 (some ad143) co85 x122000_1 false _ ?side1 ?side2 ?side3 ?side4 ?side5 A61.out).mono ?_); (case side1 => exact pC (Kd.R_reads' HO142.out).2.2); (case side2 => exact (Kd.R_reads' HO142.out).2.1); (case side3 => exact pB BK121.out); (case side4 => exact pC (Kd.R_reads' HO_122000.out).2.2); (case side5 => exact (Kd.R_reads' HO_122000.out).2.1); rintro e w87 ⟨rfl, hb⟩; replace HO_6 := rb HO_6 hb; replace HO_10 := rb HO_10 hb; replace HO_58 := rb HO_58 hb; replace HO_115000 := vb HO_115000 hb; replace HO_115001 := vb HO_115001 hb; replace HO_115004 := vb HO_115004 hb; replace HO_122000 := rb HO_122000 hb; replace HO142 := rb HO142 hb; replace BK101 := bb BK101 hb; replace BK114 := bb BK114 hb; replace BK121 := bb BK121 hb; replace HB := bs HB hb; (try clear hb); (try clear hb2); (try clear hk); (try clear hi)))
                  go_roundg k3
                  case measure => have := HK1.out; have := HK2.out; have := HK3.out; omega
                  case rel => exact ⟨(x6_3), (x10_3), (wrap64 (x60_3 + 1)), (by first | rfl | (simp; done) | (simp [*]; done)), H', ⟨by have := HK1.out; have := HK2.out; have := HK3.out; omega⟩, ⟨by (with_reducible repeat (first | apply Kd.R_alloc | apply Kd.R_drewN | apply Kd.R_drew)); exact Kd.R_mono HO_6.out (fun _ hk => ⟨hk.1, ⟨hk.2.1, hk.2.2.1⟩⟩)⟩, ⟨by (with_reducible repeat (first | apply Kd.R_alloc | apply Kd.R_drewN | apply Kd.R_drew)); exact Kd.R_mono HO_10.out (fun _ hk => ⟨hk.1, hk.2.1⟩)⟩, ⟨by (with_reducible repeat (first | apply Kd.R_alloc | apply Kd.R_drewN | apply Kd.R_drew)); exact Kd.R_mono HO_58.out (fun _ hk => ⟨hk.1, hk.2.1⟩)⟩, ⟨by (with_reducible repeat (first | apply Kd.V_alloc | apply Kd.V_drewN | apply Kd.V_drew)); exact Kd.V_mono HO_115000.out (fun _ hk => ⟨hk.1, ⟨hk.2.1, ⟨hk.2.2.1, ⟨hk.2.2.2.1, ⟨hk.2.2.2.2.1, ⟨hk.2.2.2.2.2.1, hk.2.2.2.2.2.2.1⟩⟩⟩⟩⟩⟩)⟩, ⟨by (with_reducible repeat (first | apply Kd.V_alloc | apply Kd.V_drewN | apply Kd.V_drew)); exact Kd.V_mono HO_115001.out (fun _ hk => ⟨hk.1, ⟨hk.2.1, ⟨hk.2.2.1, ⟨hk.2.2.2.1, ⟨hk.2.2.2.2.1, ⟨hk.2.2.2.2.2.1, hk.2.2.2.2.2.2.1⟩⟩⟩⟩⟩⟩)⟩, ⟨by (with_reducible repeat (first | apply Kd.V_alloc | apply Kd.V_drewN | apply Kd.V_drew)); exact Kd.V_mono HO_115004.out (fun _ hk => ⟨hk.1, ⟨hk.2.1, ⟨hk.2.2.1, ⟨hk.2.2.2.1, ⟨hk.2.2.2.2.1, ⟨hk.2.2.2.2.2.1, hk.2.2.2.2.2.2.1⟩⟩⟩⟩⟩⟩)⟩, ⟨by (with_reducible repeat (first | apply Kd.R_alloc | apply Kd.R_drewN | apply Kd.R_drew)); exact Kd.R_mono HO_122000.out (fun _ hk => ⟨hk.1, ⟨hk.2.1, hk.2.2.1⟩⟩)⟩, ⟨by (with_reducible repeat (first | refine blk_drewN ?_ _ | refine blk_drew ?_ | refine blk_alloc ?_ _)); exact BK101.out⟩, ⟨by (with_reducible repeat (first | refine blk_drewN ?_ _ | refine blk_drew ?_ | refine blk_alloc ?_ _)); exact BK114.out⟩, ⟨by (with_reducible repeat (first | refine blk_drewN ?_ _ | refine blk_drew ?_ | refine blk_alloc ?_ _)); exact BK121.out⟩, ⟨pE HB⟩⟩
                ·rw [if_neg c60] at H
                 have c60b0 : decide (x55_2 ≤ (rd x122000_1 (rd x10_2 x60_3))) = false := decide_eq_false c60
                 clear c60
                 have H' := Aside0.mk H
                 clear H
                 have p136 : 0 ≤ (x60_3 : Int) := dT
                 have q136 : x60_3 < (x10_2.length : Int) := dT
                 obtain ⟨ad136, e136, hx136_0⟩ := Kd.at_int (Kd.R_reads' HO_58.out).2.2 x60_3 p136 q136
                 cases e136
                 replace p136 := eq_true p136
                 replace q136 := eq_true q136
                 obtain ⟨Ao88, co88, eo88⟩ := Kd.R_slice HO_10.out
                 subst eo88
                 go_wp2_with (first | ((with_reducible refine gc 51 rfl ?_); refine gL 66 Tryd.func51 #[.slice Ao88 x10_3.length co88] ?_; (with_reducible refine (slices_Clone_int_int.calls _ _ x10_3 t137 _ ?side1 ?side2 A56.out).mono ?_); (case side1 => exact pC (Kd.R_reads' HO_10.out).2.2); (case side2 => exact (Kd.R_reads' HO_10.out).2.1); rintro e w89 ⟨v138, rfl, ho0, hb⟩; refine ⟨_, rfl, ?_⟩; replace HO_115000 := Aside0.mk (Kd.V_elder' (pV HO_115000.out) (Kd.R_base ho0) hb); replace HO_115001 := Aside0.mk (Kd.V_elder' (pV HO_115001.out) (Kd.R_base ho0) hb); replace HO_115004 := Aside0.mk (Kd.V_elder' (pV HO_115004.out) (Kd.R_base ho0) hb); have HO139 := Aside0.mk (Kd.R_lower (Kd.R_new' (Kd.R_new' (Kd.R_new' (Kd.R_new' ho0 (Kd.R_lt (pR HO_6.out))) (Kd.R_lt (pR HO_10.out))) (Kd.R_lt (pR HO_58.out))) (Kd.R_lt (pR HO_122000.out))) (below_size (pE HB))); replace HO_6 := re HO_6 ho0 hb; replace HO_10 := re HO_10 ho0 hb; replace HO_58 := re HO_58 ho0 hb; replace HO_122000 := re HO_122000 ho0 hb; replace BK101 := bb BK101 hb; replace BK114 := bb BK114 hb; replace BK121 := bb BK121 hb; replace HB := bs HB hb; clear hb ho0; obtain ⟨Ao90, co90, eo90⟩ := Kd.R_slice HO139.out; subst eo90) | ((with_reducible refine gc 54 rfl ?_); refine gL 70 Tryd.func54 #[.slice Ao90 t137.length co90, .int .i64 x60_3, .int .i64 (wrap64 (x60_3 + 1))] ?_; (with_reducible refine (slices_Delete_int_int.calls (fun k_ => some k_ = (.slice Ao90 t137.length co90 : Value).ownBlock) (.slice Ao90 t137.length co90) t137 x60_3 (wrap64 (x60_3 + 1)) t140 w _ ?side1 ?side2 A57.out).mono ?_); (case side1 => repeat (first | (with_reducible first | exact HB.out | apply below_alloc | apply pw_below_drewN | apply below_drew1 | refine below_set ?_ GE101.out | refine below_set ?_ GE114.out | refine below_set ?_ GE121.out) | exact HB.out)); (case side2 => exact Kd.R_tight rfl HO139.out); rintro e w91 ⟨v141, rfl, ho0, hb, hkp⟩; refine ⟨_, rfl, ?_⟩; replace HO_115000 := Aside0.mk (Kd.V_mono (ok' := fun k_ => some k_ ≠ (u6 : Value).ownBlock ∧ some k_ ≠ (.slice Ao88 x10_3.length co88 : Value).ownBlock ∧ some k_ ≠ (.slice (some ad136) x10_2.length co52 : Value).ownBlock ∧ some k_ ≠ (u122000 : Value).ownBlock ∧ k_ ≠ gb101 ∧ k_ ≠ gb114 ∧ k_ ≠ gb121 ∧ some k_ ≠ (v141 : Value).ownBlock) (Kd.V_keptB (HO_115000.out) hkp (fun k_ hk_ hs_ => (hk_.2) hs_)) (fun k_ hk_ => ⟨hk_.1.1.1, hk_.1.1.2.1, hk_.1.1.2.2.1, hk_.1.1.2.2.2.1, hk_.1.1.2.2.2.2.1, hk_.1.1.2.2.2.2.2.1, hk_.1.1.2.2.2.2.2.2, fun e_ => Or.elim (ho0.1 k_ e_.symm) (fun hs_ => hk_.2.1 hs_) (fun hn_ => Nat.not_le.2 hk_.2.2 hn_)⟩)); replace HO_115001 := Aside0.mk (Kd.V_mono (ok' := fun k_ => some k_ ≠ (u6 : Value).ownBlock ∧ some k_ ≠ (.slice Ao88 x10_3.length co88 : Value).ownBlock ∧ some k_ ≠ (.slice (some ad136) x10_2.length co52 : Value).ownBlock ∧ some k_ ≠ (u122000 : Value).ownBlock ∧ k_ ≠ gb101 ∧ k_ ≠ gb114 ∧ k_ ≠ gb121 ∧ some k_ ≠ (v141 : Value).ownBlock) (Kd.V_keptB (HO_115001.out) hkp (fun k_ hk_ hs_ => (hk_.2) hs_)) (fun k_ hk_ => ⟨hk_.1.1.1, hk_.1.1.2.1, hk_.1.1.2.2.1, hk_.1.1.2.2.2.1, hk_.1.1.2.2.2.2.1, hk_.1.1.2.2.2.2.2.1, hk_.1.1.2.2.2.2.2.2, fun e_ => Or.elim (ho0.1 k_ e_.symm) (fun hs_ => hk_.2.1 hs_) (fun hn_ => Nat.not_le.2 hk_.2.2 hn_)⟩)); replace HO_115004 := Aside0.mk (Kd.V_mono (ok' := fun k_ => some k_ ≠ (u6 : Value).ownBlock ∧ some k_ ≠ (.slice Ao88 x10_3.length co88 : Value).ownBlock ∧ some k_ ≠ (.slice (some ad136) x10_2.length co52 : Value).ownBlock ∧ some k_ ≠ (u122000 : Value).ownBlock ∧ k_ ≠ gb101 ∧ k_ ≠ gb114 ∧ k_ ≠ gb121 ∧ some k_ ≠ (v141 : Value).ownBlock) (Kd.V_keptB (HO_115004.out) hkp (fun k_ hk_ hs_ => (hk_.2) hs_)) (fun k_ hk_ => ⟨hk_.1.1.1, hk_.1.1.2.1, hk_.1.1.2.2.1, hk_.1.1.2.2.2.1, hk_.1.1.2.2.2.2.1, hk_.1.1.2.2.2.2.2.1, hk_.1.1.2.2.2.2.2.2, fun e_ => Or.elim (ho0.1 k_ e_.symm) (fun hs_ => hk_.2.1 hs_) (fun hn_ => Nat.not_le.2 hk_.2.2 hn_)⟩)); replace BK101 := Aside0.mk (blk_kept (pB BK101.out) hkp (fun hs_ => (fun e_ => (Kd.R_ne HO139.out BK101.out (by decide)) e_) hs_)); replace BK114 := Aside0.mk (blk_kept (pB BK114.out) hkp (fun hs_ => (fun e_ => (Kd.R_ne HO139.out BK114.out (by decide)) e_) hs_)); replace BK121 := Aside0.mk (blk_kept (pB BK121.out) hkp (fun hs_ => (fun e_ => (Kd.R_ne HO139.out BK121.out (by decide)) e_) hs_)); have HO142 := Aside0.mk (Kd.R_mono (ok' := fun k_ => some k_ ≠ (u6 : Value).ownBlock ∧ some k_ ≠ (.slice Ao88 x10_3.length co88 : Value).ownBlock ∧ some k_ ≠ (.slice (some ad136) x10_2.length co52 : Value).ownBlock ∧ some k_ ≠ (u122000 : Value).ownBlock) ho0 (fun k_ hk_ => ⟨Or.elim hk_ (fun hs_ => fun e_ => (((HO_6.out).1 k_ e_.symm).2) hs_) (fun hn_ => (Kd.fresh' (Kd.R_lt (pR HO_6.out)) k_ hn_)), Or.elim hk_ (fun hs_ => fun e_ => (((HO_10.out).1 k_ e_.symm).2) hs_) (fun hn_ => (Kd.fresh' (Kd.R_lt (pR HO_10.out)) k_ hn_)), Or.elim hk_ (fun hs_ => fun e_ => (((HO_58.out).1 k_ e_.symm).2) hs_) (fun hn_ => (Kd.fresh' (Kd.R_lt (pR HO_58.out)) k_ hn_)), Or.elim hk_ (fun hs_ => fun e_ => (((HO_122000.out).1 k_ e_.symm).2) hs_) (fun hn_ => (Kd.fresh' (Kd.R_lt (pR HO_122000.out)) k_ hn_))⟩)); replace HO_6 := Aside0.mk (Kd.R_mono (ok' := fun k_ => some k_ ≠ (.slice Ao88 x10_3.length co88 : Value).ownBlock ∧ some k_ ≠ (.slice (some ad136) x10_2.length co52 : Value).ownBlock ∧ some k_ ≠ (u122000 : Value).ownBlock ∧ some k_ ≠ (v141 : Value).ownBlock) (Kd.R_keptB (HO_6.out) hkp (fun k_ hk_ hs_ => (hk_.2) hs_)) (fun k_ hk_ => ⟨hk_.1.1.1, hk_.1.1.2.1, hk_.1.1.2.2, fun e_ => Or.elim (ho0.1 k_ e_.symm) (fun hs_ => hk_.2.1 hs_) (fun hn_ => Nat.not_le.2 hk_.2.2 hn_)⟩)); replace HO_10 := Aside0.mk (Kd.R_mono (ok' := fun k_ => some k_ ≠ (u6 : Value).ownBlock ∧ some k_ ≠ (u122000 : Value).ownBlock ∧ some k_ ≠ (v141 : Value).ownBlock) (Kd.R_keptB (HO_10.out) hkp (fun k_ hk_ hs_ => (hk_.2) hs_)) (fun k_ hk_ => ⟨hk_.1.1.1, hk_.1.1.2, fun e_ => Or.elim (ho0.1 k_ e_.symm) (fun hs_ => hk_.2.1 hs_) (fun hn_ => Nat.not_le.2 hk_.2.2 hn_)⟩)); replace HO_58 := Aside0.mk (Kd.R_mono (ok' := fun k_ => some k_ ≠ (u6 : Value).ownBlock ∧ some k_ ≠ (u122000 : Value).ownBlock ∧ some k_ ≠ (v141 : Value).ownBlock) (Kd.R_keptB (HO_58.out) hkp (fun k_ hk_ hs_ => (hk_.2) hs_)) (fun k_ hk_ => ⟨hk_.1.1.1, hk_.1.1.2, fun e_ => Or.elim (ho0.1 k_ e_.symm) (fun hs_ => hk_.2.1 hs_) (fun hn_ => Nat.not_le.2 hk_.2.2 hn_)⟩)); replace HO_122000 := Aside0.mk (Kd.R_mono (ok' := fun k_ => some k_ ≠ (u6 : Value).ownBlock ∧ some k_ ≠ (.slice Ao88 x10_3.length co88 : Value).ownBlock ∧ some k_ ≠ (.slice (some ad136) x10_2.length co52 : Value).ownBlock ∧ some k_ ≠ (v141 : Value).ownBlock) (Kd.R_keptB (HO_122000.out) hkp (fun k_ hk_ hs_ => (hk_.2) hs_)) (fun k_ hk_ => ⟨hk_.1.1.1, hk_.1.1.2.1, hk_.1.1.2.2, fun e_ => Or.elim (ho0.1 k_ e_.symm) (fun hs_ => hk_.2.1 hs_) (fun hn_ => Nat.not_le.2 hk_.2.2 hn_)⟩)); replace HB := Aside0.mk (hb); clear HO139; clear hb hkp ho0; have hnb92 := NB121_101.out; have hnc92 := NB101_121.out; have hnb93 := NB121_114.out; have hnc93 := NB114_121.out; obtain ⟨_, _⟩ := cf1 BK121; obtain ⟨Ao95, co95, eo95⟩ := Kd.R_slice HO_122000.out; subst eo95; have p143 : 0 ≤ ((rd x10_2 x60_3) : Int) := dT; have q143 : (rd x10_2 x60_3) < (x122000_1.length : Int) := dT; obtain ⟨ad143, e143, hx143_0⟩ := Kd.at_int (Kd.R_reads' HO_122000.out).2.2 (rd x10_2 x60_3) p143 q143; cases e143; replace p143 := eq_true p143; replace q143 := eq_true q143))
                 go_roundg k3
                 case measure => have := HK1.out; have := HK2.out; have := HK3.out; omega
                 case rel => exact ⟨(x6_3), (x10_3), (wrap64 (x60_3 + 1)), (by first | rfl | (simp; done) | (simp [*]; done)), H', ⟨by have := HK1.out; have := HK2.out; have := HK3.out; omega⟩, ⟨by (with_reducible repeat (first | apply Kd.R_alloc | apply Kd.R_drewN | apply Kd.R_drew)); exact Kd.R_mono HO_6.out (fun _ hk => ⟨hk.1, ⟨hk.2.1, hk.2.2.1⟩⟩)⟩, ⟨by (with_reducible repeat (first | apply Kd.R_alloc | apply Kd.R_drewN | apply Kd.R_drew)); exact Kd.R_mono HO_10.out (fun _ hk => ⟨hk.1, hk.2.1⟩)⟩, ⟨by (with_reducible repeat (first | apply Kd.R_alloc | apply Kd.R_drewN | apply Kd.R_drew)); exact Kd.R_mono HO_58.out (fun _ hk => ⟨hk.1, hk.2.1⟩)⟩, ⟨by (with_reducible repeat (first | apply Kd.V_alloc | apply Kd.V_drewN | apply Kd.V_drew)); exact Kd.V_mono HO_115000.out (fun _ hk => ⟨hk.1, ⟨hk.2.1, ⟨hk.2.2.1, ⟨hk.2.2.2.1, ⟨hk.2.2.2.2.1, ⟨hk.2.2.2.2.2.1, hk.2.2.2.2.2.2.1⟩⟩⟩⟩⟩⟩)⟩, ⟨by (with_reducible repeat (first | apply Kd.V_alloc | apply Kd.V_drewN | apply Kd.V_drew)); exact Kd.V_mono HO_115001.out (fun _ hk => ⟨hk.1, ⟨hk.2.1, ⟨hk.2.2.1, ⟨hk.2.2.2.1, ⟨hk.2.2.2.2.1, ⟨hk.2.2.2.2.2.1, hk.2.2.2.2.2.2.1⟩⟩⟩⟩⟩⟩)⟩, ⟨by (with_reducible repeat (first | apply Kd.V_alloc | apply Kd.V_drewN | apply Kd.V_drew)); exact Kd.V_mono HO_115004.out (fun _ hk => ⟨hk.1, ⟨hk.2.1, ⟨hk.2.2.1, ⟨hk.2.2.2.1, ⟨hk.2.2.2.2.1, ⟨hk.2.2.2.2.2.1, hk.2.2.2.2.2.2.1⟩⟩⟩⟩⟩⟩)⟩, ⟨by (with_reducible repeat (first | apply Kd.R_alloc | apply Kd.R_drewN | apply Kd.R_drew)); exact Kd.R_mono HO_122000.out (fun _ hk => ⟨hk.1, ⟨hk.2.1, hk.2.2.1⟩⟩)⟩, ⟨by (with_reducible repeat (first | refine blk_drewN ?_ _ | refine blk_drew ?_ | refine blk_alloc ?_ _)); exact BK101.out⟩, ⟨by (with_reducible repeat (first | refine blk_drewN ?_ _ | refine blk_drew ?_ | refine blk_alloc ?_ _)); exact BK114.out⟩, ⟨by (with_reducible repeat (first | refine blk_drewN ?_ _ | refine blk_drew ?_ | refine blk_alloc ?_ _)); exact BK121.out⟩, ⟨pE HB⟩⟩
               ·rw [if_neg c59] at H
                exact absurd H (by simp)
              ·rw [if_neg c58] at H
               exact absurd H (by simp)
             ·rw [if_neg c55] at H
              exact absurd H (by simp)
            ·rw [if_neg c54] at H
             exact absurd H (by simp)
           ·rw [if_neg c53] at H
            have c53b0 : decide (x60_3 < (x10_2.length : Int)) = false := decide_eq_false c53
            clear c53
            have H' := Aside0.mk H
            clear H
            go_wp2
            go_roundg k3
            case measure => have := HK1.out; have := HK2.out; have := HK3.out; omega
            case rel => exact ⟨(x6_3), (x10_3), (wrap64 (x55_2 + 1)), (by first | rfl | (simp; done) | (simp [*]; done)), H', ⟨by have := HK1.out; have := HK2.out; have := HK3.out; omega⟩, ⟨by (with_reducible repeat (first | apply Kd.R_alloc | apply Kd.R_drewN | apply Kd.R_drew)); exact Kd.R_mono HO_6.out (fun _ hk => ⟨hk.1, hk.2.2⟩)⟩, ⟨by (with_reducible repeat (first | apply Kd.R_alloc | apply Kd.R_drewN | apply Kd.R_drew)); exact HO_10.out⟩, ⟨by (with_reducible repeat (first | apply Kd.V_alloc | apply Kd.V_drewN | apply Kd.V_drew)); exact Kd.V_mono HO_115000.out (fun _ hk => ⟨hk.1, ⟨hk.2.1, ⟨hk.2.2.2.1, ⟨hk.2.2.2.2.1, ⟨hk.2.2.2.2.2.1, hk.2.2.2.2.2.2⟩⟩⟩⟩⟩)⟩, ⟨by (with_reducible repeat (first | apply Kd.V_alloc | apply Kd.V_drewN | apply Kd.V_drew)); exact Kd.V_mono HO_115001.out (fun _ hk => ⟨hk.1, ⟨hk.2.1, ⟨hk.2.2.2.1, ⟨hk.2.2.2.2.1, ⟨hk.2.2.2.2.2.1, hk.2.2.2.2.2.2⟩⟩⟩⟩⟩)⟩, ⟨by (with_reducible repeat (first | apply Kd.V_alloc | apply Kd.V_drewN | apply Kd.V_drew)); exact Kd.V_mono HO_115004.out (fun _ hk => ⟨hk.1, ⟨hk.2.1, ⟨hk.2.2.2.1, ⟨hk.2.2.2.2.1, ⟨hk.2.2.2.2.2.1, hk.2.2.2.2.2.2⟩⟩⟩⟩⟩)⟩, ⟨by (with_reducible repeat (first | apply Kd.R_alloc | apply Kd.R_drewN | apply Kd.R_drew)); exact Kd.R_mono HO_122000.out (fun _ hk => ⟨hk.1, hk.2.1⟩)⟩, ⟨by (with_reducible repeat (first | refine blk_drewN ?_ _ | refine blk_drew ?_ | refine blk_alloc ?_ _)); exact BK101.out⟩, ⟨by (with_reducible repeat (first | refine blk_drewN ?_ _ | refine blk_drew ?_ | refine blk_alloc ?_ _)); exact BK114.out⟩, ⟨by (with_reducible repeat (first | refine blk_drewN ?_ _ | refine blk_drew ?_ | refine blk_alloc ?_ _)); exact BK121.out⟩, ⟨pE HB⟩⟩
        ·rw [if_neg c51] at H
         have c51b0 : decide (x55_2 < (l0_0.length : Int)) = false := decide_eq_false c51
         clear c51
         simp only [Option.some.injEq, Prod.mk.injEq] at H
         obtain ⟨rfl, rfl⟩ := H
         go_wp2
         go_ret2
         exact ⟨_, eT, by (with_reducible repeat (first | apply Kd.R_alloc | apply Kd.R_drewN | apply Kd.R_drew)); exact Kd.R_mono HO_6.out (fun _ hk => trivial), pE HB⟩
     ·replace c45 := Bool.eq_false_iff.mpr c45
      subst c45
      rw [if_neg (show ¬ (false = true) by decide)] at H
      simp only [Option.some.injEq, Prod.mk.injEq] at H
      obtain ⟨rfl, rfl⟩ := H
      obtain ⟨Ao96, co96, eo96⟩ := Kd.R_slice HO_10.out
      subst eo96
      obtain ⟨AoZ2, coZ2, eoZ2⟩ := Kd.R_slice HO_122000.out
      have HOZ2 := HO_122000.out
      rw [eoZ2] at HOZ2
      have EZ2 := Aside0.mk eoZ2
      clear eoZ2
      go_wp2_with (first | (go_at_call 50; (with_reducible refine (tenter_Order_1.calls k1 0 _ _ x10_1 gb121 AoZ2 coZ2 x122000_1 false _ ?side1 ?side2 ?side3 ?side4 ?side5 A44.out).mono ?_); (case side1 => exact pC (Kd.R_reads' HO_10.out).2.2); (case side2 => exact (Kd.R_reads' HO_10.out).2.1); (case side3 => exact by (with_reducible repeat (first | refine blk_drewN ?_ _ | refine blk_drew ?_ | refine blk_alloc ?_ _)); rw [← EZ2.out]; exact BK121.out); (case side4 => exact pC (Kd.R_reads' HOZ2).2.2); (case side5 => exact (Kd.R_reads' HOZ2).2.1); rintro e w97 ⟨rfl, hb⟩; replace HO_10 := rb HO_10 hb; replace HO_115000 := vb HO_115000 hb; replace HO_115001 := vb HO_115001 hb; replace HO_115004 := vb HO_115004 hb; replace HO_122000 := rb HO_122000 hb; replace BK101 := bb BK101 hb; replace BK114 := bb BK114 hb; replace BK121 := bb BK121 hb; replace HB := bs HB hb; (try clear hb); (try clear hb2); (try clear hk); (try clear hi)))
      go_ret2
      exact ⟨_, eT, by first | exact Kd.R_nil _ _ _ _ _ | exact Kd.N_nil _ _ _ _ _ | exact Kd.V_nil _ _ _ _ _ | exact Kd.Q_nil _ _ _ _ _ | exact Kd.S_nil _ _ _ _ _, pE HB⟩
 ·rw [if_neg c5] at H
  have c5b0 : (t113 == 0) = false := beq_eq_false_iff_ne.mpr c5
  have c5b1 : (t113 != 0) = true := bne_iff_ne.mpr c5
  simp only [Option.some.injEq, Prod.mk.injEq] at H
  obtain ⟨rfl, rfl⟩ := H
  go_enter Tryd.func23, Tryd.ntmps23
  go_wp2_with (first | ((with_reducible refine gate_dst (N := 3) rfl ?_); refine bx 3 #[.slice A0_0 l0_0.length c0_0, .slice A0_1 l0_1.length c0_1, .int .i64 a0_2, .int .i64 a0_3] 32 ?_; intro gb101 hg w98 hbox hb; have BK101 := hbox; have GW101 := gs HB hg; have GE101 := gs HB hg; replace HB := bs HB hb; clear hb hbox hg; obtain ⟨_, _, _, _, _, _, _, _⟩ := cf4 BK101) | ((with_reducible refine gc 48 rfl ?_); refine gL 21 Tryd.func48 #[.agg #[.slice A0_0 l0_0.length c0_0, .slice A0_1 l0_1.length c0_1, .int .i64 a0_2, .int .i64 a0_3], .slice A1 l1.length c1, .int .i64 a2] ?_; (with_reducible refine (tenter_newForecast.calls (fun k_ => k_ < w.heap.size) _ _ l0_0 (fun k_ => k_ < w.heap.size) _ _ l0_1 a0_2 a0_3 (fun k_ => k_ < w.heap.size) _ _ l1 a2 t102 t105 t108 t109 t110 t113 _ ?side1 ?side2 ?side3 A4.out).mono ?_); (case side1 => exact Kd.V_mk HC0_0.out (Kd.F_below (Kd.C_F k42_heap HR0_0.out) (pE HB))); (case side2 => exact Kd.V_mk HC0_1.out (Kd.F_below (Kd.C_F (Kd.heap_int .i64) HR0_1.out) (pE HB))); (case side3 => exact Kd.V_mk HC1.out (Kd.F_below (Kd.C_F k40_heap HR1.out) (pE HB))); rintro e w100 ⟨v103, v106, v111, rfl, ho0, ho1, ho2, hb⟩; refine ⟨_, rfl, ?_⟩; have HO104 := Aside0.mk (Kd.V_lower (Kd.V_mono (ok' := fun k_ => k_ ≠ gb101) ho0 (fun k_ hk_ => Or.elim hk_ (fun hs_ => Or.elim hs_ (fun hs_ => fun e_ => Nat.not_le.2 hs_ (by rw [e_]; exact GW101.out)) (fun hs_ => Or.elim hs_ (fun hs_ => fun e_ => Nat.not_le.2 hs_ (by rw [e_]; exact GW101.out)) (fun hs_ => fun e_ => Nat.not_le.2 hs_ (by rw [e_]; exact GW101.out)))) (fun hn_ => (Kd.freshB (g := gb101) (o := .cells #[.slice A0_0 l0_0.length c0_0, .slice A0_1 l0_1.length c0_1, .int .i64 a0_2, .int .i64 a0_3] 32 (0, 0)) (pB BK101.out) k_ hn_)))) (below_size (pE HB))); have HO107 := Aside0.mk (Kd.V_lower (Kd.V_mono (ok' := fun k_ => k_ ≠ gb101) ho1 (fun k_ hk_ => Or.elim hk_ (fun hs_ => Or.elim hs_ (fun hs_ => fun e_ => Nat.not_le.2 hs_ (by rw [e_]; exact GW101.out)) (fun hs_ => Or.elim hs_ (fun hs_ => fun e_ => Nat.not_le.2 hs_ (by rw [e_]; exact GW101.out)) (fun hs_ => fun e_ => Nat.not_le.2 hs_ (by rw [e_]; exact GW101.out)))) (fun hn_ => (Kd.freshB (g := gb101) (o := .cells #[.slice A0_0 l0_0.length c0_0, .slice A0_1 l0_1.length c0_1, .int .i64 a0_2, .int .i64 a0_3] 32 (0, 0)) (pB BK101.out) k_ hn_)))) (below_size (pE HB))); have HO112 := Aside0.mk (Kd.V_lower (Kd.V_mono (ok' := fun k_ => k_ ≠ gb101) ho2 (fun k_ hk_ => Or.elim hk_ (fun hs_ => Or.elim hs_ (fun hs_ => fun e_ => Nat.not_le.2 hs_ (by rw [e_]; exact GW101.out)) (fun hs_ => Or.elim hs_ (fun hs_ => fun e_ => Nat.not_le.2 hs_ (by rw [e_]; exact GW101.out)) (fun hs_ => fun e_ => Nat.not_le.2 hs_ (by rw [e_]; exact GW101.out)))) (fun hn_ => (Kd.freshB (g := gb101) (o := .cells #[.slice A0_0 l0_0.length c0_0, .slice A0_1 l0_1.length c0_1, .int .i64 a0_2, .int .i64 a0_3] 32 (0, 0)) (pB BK101.out) k_ hn_)))) (below_size (pE HB))); replace BK101 := bb BK101 hb; replace HB := bs HB hb; clear hb ho0 ho1 ho2) | ((with_reducible refine gate_dst (N := 8) rfl ?_); refine bx 8 #[.slice none 0 0, .slice none 0 0, .int .i64 0, .int .i64 0, .slice none 0 0] 102 ?_; intro gb114 hg w101 hbox hb; replace HO104 := ve HO104 hg hb; replace HO107 := ve HO107 hg hb; replace HO112 := ve HO112 hg hb; have BK114 := hbox; have GW114 := gs HB hg; have GE114 := gs HB hg; replace HB := bs HB hb; have NB101_114 := nl BK101 hg; have NB114_101 := nr BK101 hg; replace BK101 := bb BK101 hb; clear hb hbox hg; obtain ⟨Ao102, co102, eo102⟩ := Kd.V_slice HO104.out; subst eo102; have hnb103 := NB114_101.out; have hnc103 := NB101_114.out; obtain ⟨_, _, _, _, _, _, _, _, _, _⟩ := cf5 BK114; obtain ⟨Ao105, co105, eo105⟩ := Kd.V_slice HO107.out; subst eo105; obtain ⟨Ao106, co106, eo106⟩ := Kd.V_slice HO112.out; subst eo106))
  go_ret2
  exact ⟨_, eT, by first | exact Kd.R_nil _ _ _ _ _ | exact Kd.N_nil _ _ _ _ _ | exact Kd.V_nil _ _ _ _ _ | exact Kd.Q_nil _ _ _ _ _ | exact Kd.S_nil _ _ _ _ _, pE HB⟩
end Go.Proofs.YtikmfpjcdcckeaaDoor.P
namespace Go.Proofs.YtikmfpjcdcckeaaDoor.P
open Go.RowKit Go.Proofs.YtikmfpjcdcckeaaDoorW.PrintWords Go.Proofs.YtikmfpjcdcckeaaDoorW.PrintLast Go.Proofs.YtikmfpjcdcckeaaDoorW.PrintMore
theorem late_char (w : List S40) (hb : ∀ x ∈ w, 0 ≤ x.f0) (c : S42) (rain : Nat) (hr : rain ≤ w.length) :
    let L := lateO w rain c.f1.f1
    (-1 : Int) ≤ L ∧ L ≤ rain ∧ (0 ≤ L → (dryOf w L c).f1 ≤ (rain : Int)) ∧ (L + 1 ≤ rain → ¬ (dryOf w (L + 1) c).f1 ≤ (rain : Int)) := by
  have key : ∀ h : Nat, h ≤ rain → ((dryOf w (h : Int) c).f1 ≤ (rain : Int) ↔ c.f1.f1 - sumE S40.f0 ((w.drop h).take (rain - h)) ≤ 0) := fun h hle => by
    have := dr_le S40.f0 (w.drop h) (rain - h) c.f1.f1 h (by simp; omega) (fun y hy => hb y (List.mem_of_mem_drop hy))
    rw [show (h : Int) + ((rain - h : Nat) : Int) = (rain : Int) by omega] at this
    unfold dryOf
    simp only [Int.toNat_natCast]
    rw [this]; omega
  have main : ∀ h : Nat, h ≤ rain → (h + 1 ≤ rain → ¬ (dryOf w ((h : Int) + 1) c).f1 ≤ (rain : Int)) →
      -1 ≤ lateO w h (c.f1.f1 - sumE S40.f0 ((w.drop h).take (rain - h))) ∧ lateO w h (c.f1.f1 - sumE S40.f0 ((w.drop h).take (rain - h))) ≤ rain ∧
      (0 ≤ lateO w h (c.f1.f1 - sumE S40.f0 ((w.drop h).take (rain - h))) → (dryOf w (lateO w h (c.f1.f1 - sumE S40.f0 ((w.drop h).take (rain - h)))) c).f1 ≤ (rain : Int)) ∧
      (lateO w h (c.f1.f1 - sumE S40.f0 ((w.drop h).take (rain - h))) + 1 ≤ rain → ¬ (dryOf w (lateO w h (c.f1.f1 - sumE S40.f0 ((w.drop h).take (rain - h))) + 1) c).f1 ≤ (rain : Int)) := by
    intro h
    induction h with
    | zero =>
      intro hle hn
      unfold lateO
      by_cases hx : (dryOf w ((0 : Nat) : Int) c).f1 ≤ (rain : Int)
      · have := (key 0 hle).1 hx
        rw [if_neg (by omega)]
        exact ⟨by omega, by omega, fun _ => hx, fun h1 => hn (by omega)⟩
      · have := mt (key 0 hle).2 hx
        rw [if_pos (by omega)]
        exact ⟨by omega, by omega, fun h1 => by omega, fun _ => hx⟩
    | succ h ih =>
      intro hle hn
      unfold lateO
      by_cases hx : (dryOf w ((h + 1 : Nat) : Int) c).f1 ≤ (rain : Int)
      · rw [if_pos ((key (h + 1) hle).1 hx)]
        exact ⟨by omega, by omega, fun _ => hx, fun h1 => hn (by omega)⟩
      · have hlt : h < w.length := by omega
        have eg : w.getD h z40 = w[h] := by simp [List.getD_eq_getElem?_getD, List.getElem?_eq_getElem hlt]
        have es : c.f1.f1 - sumE S40.f0 ((w.drop (h + 1)).take (rain - (h + 1))) - w[h].f0 = c.f1.f1 - sumE S40.f0 ((w.drop h).take (rain - h)) := by
          rw [List.drop_eq_getElem_cons hlt, show rain - h = (rain - (h + 1)) + 1 by omega, List.take_succ_cons, sumE]; omega
        rw [if_neg (mt (key (h + 1) hle).2 hx), eg, es]
        exact ih (by omega) (fun _ => by rw [show (h : Int) + 1 = ((h + 1 : Nat) : Int) by omega]; exact hx)
  have := main rain (Nat.le_refl _) (fun h => by omega)
  simpa [sumE] using this
def inR (lt : List Int) (l : List Int) : Prop := ∀ x ∈ l, 0 ≤ x ∧ x < (lt.length : Int)
def smallK (lt : List Int) : Prop := ∀ x : Int, -1000 ≤ rd lt x ∧ rd lt x ≤ 1000
def srt (lt : List Int) (l : List Int) : Prop := l.Pairwise (fun a b => rd lt a ≤ rd lt b)
theorem rd_mid (p q : List Int) (x : Int) : rd (p ++ x :: q) (p.length : Int) = x := by
  unfold rd; simp [List.getD_eq_getElem?_getD]
theorem rd_mid1 (p q : List Int) (u x : Int) : rd (p ++ u :: x :: q) ((p.length + 1 : Nat) : Int) = x := by
  have := rd_mid (p ++ [u]) q x
  simpa using this
theorem swap_mid (u v : Int) (q : List Int) : ∀ p : List Int, ((p ++ u :: v :: q).set (p.length + 1) u).set p.length v = p ++ v :: u :: q
  | [] => rfl
  | a :: p => by simp [swap_mid u v q p]
theorem ins_l1 (lt : List Int) (hk : smallK lt) (b : Int) (r : List Int) (v : Int) (i : Int) : ∀ (m : Nat) (s1 s2 : List Int) (k : Nat), s1.length = m → m < k → (m + s2.length + r.length : Nat) < 1000 → inR lt (s1 ++ v :: (s2 ++ r)) → srt lt (s1 ++ s2) → (∀ y ∈ s2, rd lt v < rd lt y) →
    ∃ (s1' s2' : List Int) (k' : Nat), slices_insertionSortCmpFunc_int_at_tenter_Order_1_1.l1 k (s1 ++ v :: (s2 ++ r)) 0 b i m lt = slices_insertionSortCmpFunc_int_at_tenter_Order_1_1.l0 k' (s1' ++ v :: (s2' ++ r)) 0 b (wrap64 (i + 1)) lt ∧ k ≤ k' + m + 1 ∧ s1' ++ s2' = s1 ++ s2 ∧ (∀ y ∈ s2', rd lt v < rd lt y) ∧ (∀ y ∈ s1', rd lt y ≤ rd lt v)
  | 0, s1, s2, k, hm, hkk, hn, hr, hs, h2 => by
    obtain ⟨k, rfl⟩ : ∃ m, k = m + 1 := ⟨k - 1, by omega⟩
    obtain rfl : s1 = [] := List.eq_nil_of_length_eq_zero hm
    exact ⟨[], s2, k, by rw [slices_insertionSortCmpFunc_int_at_tenter_Order_1_1.l1, if_neg (by omega)], by omega, rfl, h2, fun y hy => (by cases hy)⟩
  | m + 1, s1, s2, k, hm, hkk, hn, hr, hs, h2 => by
    obtain ⟨k, rfl⟩ : ∃ m, k = m + 1 := ⟨k - 1, by omega⟩
    obtain ⟨p, u, rfl⟩ : ∃ p u, s1 = p ++ [u] := by
      have hne : s1 ≠ [] := by intro e; subst e; simp at hm
      exact ⟨s1.dropLast, s1.getLast hne, (List.dropLast_concat_getLast hne).symm⟩
    have hp : p.length = m := by simpa using hm
    subst hp
    have e0 : (p ++ [u]) ++ v :: (s2 ++ r) = p ++ u :: v :: (s2 ++ r) := by simp
    have hu := hr u (by simp)
    have hv := hr v (by simp)
    have ku := hk u
    have kv := hk v
    have ej : wrap64 (((p.length + 1 : Nat) : Int) - 1) = (p.length : Int) := by rw [w64_of (by omega) (by omega)]; omega
    have hlen : ((p ++ u :: v :: (s2 ++ r)).length : Int) = (p.length : Int) + 2 + s2.length + r.length := by simp; omega
    rw [e0, slices_insertionSortCmpFunc_int_at_tenter_Order_1_1.l1, if_pos (by omega), if_pos (by omega), hlen, if_pos (by omega), ej, if_pos (by omega), if_pos (by omega), rd_mid1, rd_mid]
    unfold tenter_Order_1_1.f
    rw [if_pos hv.1, if_pos hv.2, if_pos hu.1, if_pos hu.2, Option.bind_some, w64_of (n := rd lt v - rd lt u) (by omega) (by omega)]
    by_cases hc : rd lt v - rd lt u < 0
    · rw [if_pos hc, Int.toNat_natCast, Int.toNat_natCast, swap_mid]
      have e1 : p ++ v :: u :: (s2 ++ r) = p ++ v :: ((u :: s2) ++ r) := by simp
      rw [e1]
      obtain ⟨s1', s2', k', q1, q2, q3, q4, q5⟩ := ins_l1 lt hk b r v i p.length p (u :: s2) k rfl (by omega) (by simp; omega) (fun x hx => hr x (by simp at hx ⊢; rcases hx with h | h | h | h | h <;> simp [h])) (by simpa using hs) (fun y hy => by
        rcases List.mem_cons.1 hy with rfl | hy
        · omega
        · exact h2 y hy)
      exact ⟨s1', s2', k', q1, by omega, by rw [q3]; simp, q4, q5⟩
    · rw [if_neg hc]
      refine ⟨p ++ [u], s2, k, by rw [e0], by omega, rfl, h2, fun y hy => ?_⟩
      rcases List.mem_append.1 hy with hy | hy
      · have : srt lt (p ++ [u]) := List.Pairwise.sublist (List.sublist_append_left _ _) hs
        have := (List.pairwise_append.1 this).2.2 y hy u (by simp)
        omega
      · obtain rfl := List.mem_singleton.1 hy; omega
theorem ins_l0 (lt : List Int) (hk : smallK lt) : ∀ (d : Nat) (s r : List Int) (k : Nat), r.length = d → 20 * d < k → s.length + d ≤ 15 → inR lt (s ++ r) → srt lt s →
    ∃ ys, slices_insertionSortCmpFunc_int_at_tenter_Order_1_1.l0 k (s ++ r) 0 ((s.length + d : Nat) : Int) s.length lt = some ys ∧ ys.Perm (s ++ r) ∧ srt lt ys
  | 0, s, r, k, hd, hkk, hn, hr, hs => by
    obtain ⟨k, rfl⟩ : ∃ m, k = m + 1 := ⟨k - 1, by omega⟩
    obtain rfl : r = [] := List.eq_nil_of_length_eq_zero hd
    exact ⟨s ++ [], by rw [slices_insertionSortCmpFunc_int_at_tenter_Order_1_1.l0, if_neg (by omega)], List.Perm.refl _, by simpa using hs⟩
  | d + 1, s, r, k, hd, hkk, hn, hr, hs => by
    obtain ⟨k, rfl⟩ : ∃ m, k = m + 1 := ⟨k - 1, by omega⟩
    obtain ⟨v, r, rfl⟩ : ∃ v r', r = v :: r' := by cases r with | nil => cases hd | cons v r => exact ⟨v, r, rfl⟩
    have hrl : r.length = d := by simpa using hd
    rw [slices_insertionSortCmpFunc_int_at_tenter_Order_1_1.l0, if_pos (by omega)]
    obtain ⟨s1, s2, k', q1, q2, q3, q4, q5⟩ := ins_l1 lt hk ((s.length + (d + 1) : Nat) : Int) r v s.length s.length s [] k rfl (by omega) (by simp; omega) (by simpa using hr) (by simpa using hs) (fun y hy => (by cases hy))
    rw [List.nil_append] at q1
    rw [q1, nx s.length (by omega)]
    rw [List.append_nil] at q3
    have hl : (s1 ++ v :: s2).length = s.length + 1 := by rw [← q3]; simp; omega
    have hp1 : (s1 ++ v :: s2 ++ r).Perm (s ++ v :: r) := by
      rw [← q3, List.append_assoc, List.append_assoc]
      refine List.Perm.append_left s1 ?_
      rw [List.cons_append]
      exact List.perm_middle.symm
    have hs' : srt lt (s1 ++ v :: s2) := by
      rw [← q3] at hs
      obtain ⟨a1, a2, a3⟩ := List.pairwise_append.1 hs
      refine List.pairwise_append.2 ⟨a1, List.pairwise_cons.2 ⟨fun y hy => Int.le_of_lt (q4 y hy), a2⟩, fun x hx y hy => ?_⟩
      rcases List.mem_cons.1 hy with rfl | hy
      · exact q5 x hx
      · exact a3 x hx y hy
    obtain ⟨ys, y1, y2, y3⟩ := ins_l0 lt hk d (s1 ++ v :: s2) r k' hrl (by have := congrArg List.length q3; simp at this; omega) (by omega) (fun x hx => hr x (hp1.mem_iff.1 hx)) hs'
    refine ⟨ys, ?_, y2.trans hp1, y3⟩
    rw [hl] at y1
    rw [show s1 ++ v :: (s2 ++ r) = s1 ++ v :: s2 ++ r by simp, show s.length + (d + 1) = s.length + 1 + d by omega]
    exact y1
theorem len_some (k : Nat) (a : Int) : ∃ L, bits_Len.f (k + 1) a = some L := by
  have j : ∀ x n : Int, ∃ L, bits_Len64.j0 (k + 1) x n = some L := by
    intro x n
    have m0 : ∀ y : Int, 0 ≤ y % 256 := fun y => by omega
    have m1 : ∀ y : Int, y % 256 < 256 := fun y => by omega
    rw [bits_Len64.j0]
    split
    · split <;> (rw [if_pos (m0 _), if_pos (m1 _)]; exact ⟨_, rfl⟩)
    · split <;> (rw [if_pos (m0 _), if_pos (m1 _)]; exact ⟨_, rfl⟩)
  unfold bits_Len.f bits_Len64.f
  split
  · obtain ⟨L, e⟩ := j (a / 4294967296) 32
    exact ⟨L, by rw [e]; rfl⟩
  · obtain ⟨L, e⟩ := j a 0
    exact ⟨L, by rw [e]; rfl⟩
theorem sort_ok (lt : List Int) (hk : smallK lt) (l : List Int) (k : Nat) (hl : l.length ≤ 10) (hkk : 300 < k) (hr : inR lt l) :
    ∃ ys, slices_SortFunc_int_int_at_tenter_Order_1_1.f k l lt = some ys ∧ ys.Perm l ∧ srt lt ys := by
  obtain ⟨k, rfl⟩ : ∃ m, k = m + 1 := ⟨k - 1, by omega⟩
  obtain ⟨L, eL⟩ := len_some k (IntKind.u64.wrap (l.length : Int))
  have key : ∃ ys, slices_insertionSortCmpFunc_int_at_tenter_Order_1_1.f k l 0 (l.length : Int) lt = some ys ∧ ys.Perm l ∧ srt lt ys := by
    unfold slices_insertionSortCmpFunc_int_at_tenter_Order_1_1.f
    rw [show wrap64 (0 + 1) = 1 by rw [w64_of (by omega) (by omega)]; rfl]
    cases l with
    | nil =>
      obtain ⟨k, rfl⟩ : ∃ m, k = m + 1 := ⟨k - 1, by omega⟩
      exact ⟨[], by rw [slices_insertionSortCmpFunc_int_at_tenter_Order_1_1.l0, if_neg (by simp)], List.Perm.refl _, List.Pairwise.nil⟩
    | cons v r =>
      have := ins_l0 lt hk r.length [v] r k rfl (by simp at hl; omega) (by simp at hl ⊢; omega) hr (List.pairwise_singleton _ _)
      simpa [Nat.add_comm] using this
  obtain ⟨ys, y1, y2, y3⟩ := key
  refine ⟨ys, ?_, y2, y3⟩
  unfold slices_SortFunc_int_int_at_tenter_Order_1_1.f slices_pdqsortCmpFunc_int_at_tenter_Order_1_1.f
  rw [eL, Option.bind_some, slices_pdqsortCmpFunc_int_at_tenter_Order_1_1.l0, w64_of (n := (l.length : Int) - 0) (by omega) (by omega), if_pos (by omega), y1]
  rfl
def Feas (lt : List Int) (h : Int) (S : List Int) : Prop := ∃ p : List Int, p.Perm S ∧ ∀ (i : Nat) (hi : i < p.length), h + i ≤ rd lt p[i]
theorem feas_sorted (lt : List Int) (h : Int) (S ys : List Int) (hp : ys.Perm S) (hs : srt lt ys) : Feas lt h S ↔ ∀ (i : Nat) (hi : i < ys.length), h + i ≤ rd lt ys[i] := by
  constructor
  · rintro ⟨p, pS, pk⟩ i hi
    have hpy : p.Perm ys := pS.trans hp.symm
    let q : Int → Bool := fun x => decide (rd lt x ≤ rd lt ys[i])
    have c1 : i + 1 ≤ ys.countP q := by
      have e : ys.countP q = (ys.take (i + 1)).countP q + (ys.drop (i + 1)).countP q := by rw [← List.countP_append, List.take_append_drop]
      have a : (ys.take (i + 1)).countP q = (ys.take (i + 1)).length := by
        rw [List.countP_eq_length]
        intro x hx
        obtain ⟨j, hj, rfl⟩ := List.getElem_of_mem hx
        simp only [List.length_take] at hj
        rw [List.getElem_take]
        simp only [q, decide_eq_true_eq]
        rcases Nat.lt_or_ge j i with hji | hji
        · exact List.pairwise_iff_getElem.1 hs j i (by omega) hi hji
        · obtain rfl : j = i := by omega
          exact Int.le_refl _
      rw [List.length_take] at a
      omega
    have c2 : p.countP q = ys.countP q := hpy.countP_eq q
    have e : p.countP q = (p.take i).countP q + (p.drop i).countP q := by rw [← List.countP_append, List.take_append_drop]
    have a : (p.take i).countP q ≤ i := Nat.le_trans List.countP_le_length (by rw [List.length_take]; omega)
    have b : 0 < (p.drop i).countP q := by omega
    obtain ⟨x, hx, hq⟩ := List.countP_pos_iff.1 b
    obtain ⟨j, hj, rfl⟩ := List.getElem_of_mem hx
    rw [List.getElem_drop] at hq
    have := pk (i + j) (by rw [List.length_drop] at hj; omega)
    simp only [q, decide_eq_true_eq] at hq
    omega
  · exact fun hh => ⟨ys, hp, hh⟩
theorem can_l (lt : List Int) (hk : smallK lt) (ys : List Int) (hr : inR lt ys) (hl : ys.length ≤ 10) (h : Int) (h0 : 0 ≤ h) (h1 : h ≤ 100) : ∀ (d i k : Nat), i + d = ys.length → d < k →
    ∃ b, tenter_Order_1.l0 k h ys (ys.length : Int) i lt = some b ∧ (b = true ↔ ∀ (j : Nat) (hj : j < ys.length), i ≤ j → h + j ≤ rd lt ys[j])
  | 0, i, k, hd, hkk => by
    obtain ⟨k, rfl⟩ : ∃ m, k = m + 1 := ⟨k - 1, by omega⟩
    exact ⟨true, by rw [tenter_Order_1.l0, if_neg (by omega)], by simp; intro j hj hij; omega⟩
  | d + 1, i, k, hd, hkk => by
    obtain ⟨k, rfl⟩ : ∃ m, k = m + 1 := ⟨k - 1, by omega⟩
    have hi : i < ys.length := by omega
    have hy := hr ys[i] (List.getElem_mem _)
    rw [tenter_Order_1.l0, if_pos (by omega), if_pos (by omega), if_pos (by omega), rd_at ys i hi, if_pos hy.1, if_pos hy.2, w64_of (n := h + (i : Int)) (by omega) (by omega)]
    by_cases hc : rd lt ys[i] < h + (i : Int)
    · refine ⟨false, by rw [if_pos hc], ?_⟩
      simp only [Bool.false_eq_true, false_iff]
      intro hh
      have := hh i hi (Nat.le_refl _)
      omega
    · obtain ⟨b, e1, e2⟩ := can_l lt hk ys hr hl h h0 h1 d (i + 1) k (by omega) (by omega)
      refine ⟨b, by rw [if_neg hc, nx i (by omega)]; exact e1, e2.trans ⟨fun hh j hj hij => ?_, fun hh j hj hij => hh j hj (by omega)⟩⟩
      by_cases e : j = i
      · subst e; omega
      · exact hh j hj (by omega)
theorem clone_eq (l : List Int) (h : l.length ≤ 1000) : slices_Clone_int_int.f l = some l := by
  unfold slices_Clone_int_int.f
  simp only [Option.bind_some, List.nil_append, List.length_nil, Nat.zero_add]
  rw [if_pos (by omega)]
theorem can_eq (lt : List Int) (hk : smallK lt) (S : List Int) (hr : inR lt S) (hl : S.length ≤ 10) (h : Int) (h0 : 0 ≤ h) (h1 : h ≤ 100) (k : Nat) (hkk : 300 < k) :
    ∃ b, tenter_Order_1.f k h S lt = some b ∧ (b = true ↔ Feas lt h S) := by
  obtain ⟨ys, y1, y2, y3⟩ := sort_ok lt hk S k hl hkk hr
  have hyl : ys.length = S.length := y2.length_eq
  obtain ⟨b, b1, b2⟩ := can_l lt hk ys (fun x hx => hr x (y2.mem_iff.1 hx)) (by omega) h h0 h1 ys.length 0 k (by omega) (by omega)
  refine ⟨b, ?_, b2.trans ((feas_sorted lt h S ys y2 y3).trans ⟨fun hh j hj _ => hh j hj, fun hh j hj => hh j hj (Nat.zero_le _)⟩).symm⟩
  unfold tenter_Order_1.f
  rw [clone_eq S (by omega), Option.bind_some, y1, Option.bind_some, ← hyl]
  exact b1
def rng (n : Nat) : List Int := (List.range n).map (fun i : Nat => (i : Int))
theorem mem_rng {n : Nat} {x : Int} : x ∈ rng n ↔ 0 ≤ x ∧ x < (n : Int) := by
  unfold rng
  simp only [List.mem_map, List.mem_range]
  constructor
  · rintro ⟨i, h, rfl⟩; omega
  · exact fun h => ⟨x.toNat, by omega, by omega⟩
theorem rng_length (n : Nat) : (rng n).length = n := by simp [rng]
theorem rng_getElem (n i : Nat) (h : i < (rng n).length) : (rng n)[i] = (i : Int) := by simp [rng]
theorem rng_nodup (n : Nat) : (rng n).Nodup := by
  unfold rng
  refine List.nodup_iff_pairwise_ne.2 (List.pairwise_map.2 ?_)
  exact (List.nodup_iff_pairwise_ne.1 List.nodup_range).imp (fun h e => h (by omega))
def ordL (n : Nat) : Nat → List Int → List (List Int)
  | 0, b => [b]
  | d + 1, b => (rng n).flatMap fun i => if i ∈ b then [] else ordL n d (b ++ [i])
def okFrom (lt : List Int) : Nat → List Int → Bool
  | _, [] => true
  | i, x :: r => decide ((i : Int) ≤ rd lt x) && okFrom lt (i + 1) r
theorem okFrom_iff (lt : List Int) : ∀ (p : List Int) (h : Nat), okFrom lt h p = true ↔ ∀ (i : Nat) (hi : i < p.length), ((h : Int) + i ≤ rd lt p[i])
  | [], h => by simp [okFrom]
  | x :: r, h => by
    rw [okFrom, Bool.and_eq_true, decide_eq_true_eq, okFrom_iff lt r (h + 1)]
    constructor
    · rintro ⟨h1, h2⟩ i hi
      cases i with
      | zero => simpa using h1
      | succ i =>
        have := h2 i (by simpa using hi)
        simp only [List.getElem_cons_succ]
        omega
    · intro hh
      refine ⟨by have := hh 0 (by simp); simpa using this, fun i hi => ?_⟩
      have := hh (i + 1) (by simpa using hi)
      simp only [List.getElem_cons_succ] at this
      omega
def leftOf (n : Nat) (b : List Int) : List Int := (rng n).filter (fun i => decide (i ∉ b))
theorem leftOf_nodup (n : Nat) (b : List Int) : (leftOf n b).Nodup := (rng_nodup n).sublist List.filter_sublist
theorem leftOf_snoc (n : Nat) (b : List Int) (c : Int) : leftOf n (b ++ [c]) = (leftOf n b).erase c := by
  rw [(leftOf_nodup n b).erase_eq_filter, leftOf, leftOf, List.filter_filter]
  refine List.filter_congr fun x _ => ?_
  simp only [List.mem_append, List.mem_singleton, not_or, bne_iff_ne, ne_eq, Bool.decide_and]
  rw [Bool.and_comm]
  by_cases h : x = c <;> simp [h]
theorem mem_ordL (n : Nat) : ∀ (d : Nat) (b q : List Int), (leftOf n b).length = d → (q ∈ ordL n d b ↔ ∃ t : List Int, q = b ++ t ∧ t.Perm (leftOf n b))
  | 0, b, q, hd => by
    have : leftOf n b = [] := List.eq_nil_of_length_eq_zero hd
    rw [ordL, List.mem_singleton, this]
    constructor
    · rintro rfl; exact ⟨[], by simp, List.Perm.refl _⟩
    · rintro ⟨t, rfl, ht⟩; rw [ht.eq_nil]; simp
  | d + 1, b, q, hd => by
    rw [ordL, List.mem_flatMap]
    have hlen : ∀ i, i ∈ leftOf n b → (leftOf n (b ++ [i])).length = d := fun i hi => by
      rw [leftOf_snoc, List.length_erase_of_mem hi]; omega
    constructor
    · rintro ⟨i, hi, hq⟩
      split at hq
      · cases hq
      · rename_i hib
        have him : i ∈ leftOf n b := by unfold leftOf; simp [hi, hib]
        obtain ⟨t, rfl, ht⟩ := (mem_ordL n d (b ++ [i]) q (hlen i him)).1 hq
        rw [leftOf_snoc] at ht
        exact ⟨i :: t, by simp, List.cons_perm_iff_perm_erase.2 ⟨him, ht⟩⟩
    · rintro ⟨t, rfl, ht⟩
      cases t with
      | nil => have := ht.length_eq; rw [hd] at this; cases this
      | cons i t =>
        obtain ⟨him, ht'⟩ := List.cons_perm_iff_perm_erase.1 ht
        have hi' := him
        unfold leftOf at hi'
        simp only [List.mem_filter, decide_eq_true_eq] at hi'
        refine ⟨i, hi'.1, ?_⟩
        rw [if_neg hi'.2]
        exact (mem_ordL n d (b ++ [i]) _ (hlen i him)).2 ⟨t, by simp, by rw [leftOf_snoc]; exact ht'⟩
theorem okFrom_append (lt : List Int) : ∀ (a c : List Int) (h : Nat), okFrom lt h (a ++ c) = (okFrom lt h a && okFrom lt (h + a.length) c)
  | [], c, h => by simp [okFrom]
  | x :: r, c, h => by
    rw [List.cons_append, okFrom, okFrom, okFrom_append lt r c (h + 1), List.length_cons, Bool.and_assoc]
    congr 3
    omega
theorem find_none_iff (lt : List Int) (n d : Nat) (b : List Int) (hd : (leftOf n b).length = d) : (ordL n d b).find? (okFrom lt 0) = none ↔ ¬ (okFrom lt 0 b = true ∧ Feas lt b.length (leftOf n b)) := by
  rw [List.find?_eq_none]
  constructor
  · rintro hh ⟨h1, p, p1, p2⟩
    refine hh (b ++ p) ((mem_ordL n d b _ hd).2 ⟨p, rfl, p1⟩) ?_
    rw [okFrom_append, h1, Bool.true_and, Nat.zero_add, okFrom_iff]
    exact p2
  · intro hh q hq hok
    obtain ⟨t, rfl, ht⟩ := (mem_ordL n d b _ hd).1 hq
    rw [okFrom_append, Bool.and_eq_true, Nat.zero_add, okFrom_iff lt t] at hok
    exact hh ⟨hok.1, t, ht, hok.2⟩
theorem findSome_skip {α : Type} (b : List Int) (g : Int → Option α) : ∀ l : List Int, (l.findSome? fun i => if i ∈ b then none else g i) = (l.filter (fun i => decide (i ∉ b))).findSome? g
  | [] => rfl
  | x :: r => by
    rw [List.findSome?_cons, findSome_skip b g r, List.filter_cons]
    by_cases h : x ∈ b
    · simp [h]
    · simp [h, List.findSome?_cons]
theorem find_step (lt : List Int) (n d : Nat) (b : List Int) : (ordL n (d + 1) b).find? (okFrom lt 0) = (leftOf n b).findSome? fun c => (ordL n d (b ++ [c])).find? (okFrom lt 0) := by
  rw [ordL, List.find?_flatMap, leftOf, ← findSome_skip]
  congr 1
  funext i
  split <;> simp
theorem delete_eq (l : List Int) (i : Nat) (h : i < l.length) (hl : l.length ≤ 1000) : slices_Delete_int_int.f l i (wrap64 ((i : Int) + 1)) = some (l.eraseIdx i) := by
  unfold slices_Delete_int_int.f
  rw [if_pos rfl, nx i (by omega), if_neg (by omega), if_pos (by omega), if_pos (by omega), if_pos (by omega), if_pos (by omega)]
  simp
theorem erase_get {l : List Int} (h : l.Nodup) {j : Nat} (hj : j < l.length) : l.erase l[j] = l.eraseIdx j := by
  induction l generalizing j with
  | nil => simp at hj
  | cons x l ih =>
    rw [List.nodup_cons] at h
    cases j with
    | zero => simp
    | succ j =>
      have hj' : j < l.length := by simpa using hj
      rw [List.getElem_cons_succ, List.eraseIdx_cons_succ, List.erase_cons_tail, ih h.2 hj']
      have : x ≠ l[j] := fun e => h.1 (by rw [e]; exact List.getElem_mem hj')
      simpa using this
def pickP (lt : List Int) (h : Nat) (left : List Int) (j : Nat) : Prop := ∃ hj : j < left.length, (h : Int) ≤ rd lt left[j] ∧ Feas lt ((h + 1 : Nat) : Int) (left.eraseIdx j)
theorem order_l2 (lt : List Int) (hk : smallK lt) (left l : List Int) (hr : inR lt left) (hl : left.length ≤ 8) (hll : l.length ≤ 100) (h n : Nat) (hh : h ≤ 50) : ∀ (d i k : Nat), i + d = left.length → 320 + d < k → (∀ j, j < i → ¬ pickP lt h left j) → (∃ j, pickP lt h left j) →
    ∃ (j k' : Nat) (hj : j < left.length), pickP lt h left j ∧ (∀ j', j' < j → ¬ pickP lt h left j') ∧ k ≤ k' + d + 1 ∧
      tenter_Order.l2 k l left h n h left (left.length : Int) i lt = tenter_Order.l1 k' (l ++ [left[j]]) (left.eraseIdx j) n (wrap64 ((h : Int) + 1)) lt
  | 0, i, k, hd, hkk, hno, hex => by
    obtain ⟨j, hj⟩ := hex
    exact absurd hj (hno j (by have := hj.1; omega))
  | d + 1, i, k, hd, hkk, hno, hex => by
    obtain ⟨k, rfl⟩ : ∃ m, k = m + 1 := ⟨k - 1, by omega⟩
    have hi : i < left.length := by omega
    have hx := hr left[i] (List.getElem_mem _)
    have hS : inR lt (left.eraseIdx i) := fun x hx => hr x (List.mem_of_mem_eraseIdx hx)
    have hSl : (left.eraseIdx i).length ≤ 10 := by rw [List.length_eraseIdx]; split <;> omega
    obtain ⟨b, b1, b2⟩ := can_eq lt hk (left.eraseIdx i) hS hSl ((h + 1 : Nat) : Int) (by omega) (by omega) k (by omega)
    rw [tenter_Order.l2, if_pos (by omega), if_pos (by omega), if_pos (by omega), clone_eq left (by omega), Option.bind_some, delete_eq left i hi (by omega), Option.bind_some, rd_at left i hi, if_pos hx.1, if_pos hx.2, nx h (by omega), nx i (by omega)]
    have again : ¬ pickP lt h left i → ∃ (j k' : Nat) (hj : j < left.length), pickP lt h left j ∧ (∀ j', j' < j → ¬ pickP lt h left j') ∧ k + 1 ≤ k' + (d + 1) + 1 ∧
        tenter_Order.l2 k l left h n h left (left.length : Int) ((i + 1 : Nat) : Int) lt = tenter_Order.l1 k' (l ++ [left[j]]) (left.eraseIdx j) n ((h + 1 : Nat) : Int) lt := fun hni => by
      obtain ⟨j, k', hj, q1, q2, q3, q4⟩ := order_l2 lt hk left l hr hl hll h n hh d (i + 1) k (by omega) (by omega) (fun j hj => by
        by_cases e : j = i
        · subst e; exact hni
        · exact hno j (by omega)) hex
      exact ⟨j, k', hj, q1, q2, by omega, by rw [q4, nx h (by omega)]⟩
    by_cases hc : rd lt left[i] ≥ (h : Int)
    · rw [if_pos hc, b1, Option.bind_some]
      cases b with
      | true =>
        rw [if_pos rfl]
        simp only [Option.bind_some, List.length_cons, List.length_nil]
        rw [if_pos (by omega)]
        exact ⟨i, k, hi, ⟨hi, hc, b2.1 rfl⟩, hno, by omega, rfl⟩
      | false =>
        rw [if_neg (by simp)]
        exact again (fun ⟨_, _, hf⟩ => by have := b2.2 hf; cases this)
    · rw [if_neg hc]
      exact again (fun ⟨_, h1, _⟩ => hc h1)
theorem feas_pick (lt : List Int) (h : Nat) (left : List Int) (hnd : left.Nodup) (hne : left ≠ []) (hf : Feas lt h left) : ∃ j, pickP lt h left j := by
  obtain ⟨p, p1, p2⟩ := hf
  cases p with
  | nil => exact absurd p1.symm.eq_nil hne
  | cons c p =>
    obtain ⟨hc, hp⟩ := List.cons_perm_iff_perm_erase.1 p1
    obtain ⟨j, hj, rfl⟩ := List.getElem_of_mem hc
    refine ⟨j, hj, by have := p2 0 (by simp); simpa using this, p, ?_, fun i hi => ?_⟩
    · rw [← erase_get hnd hj]; exact hp
    · have := p2 (i + 1) (by simpa using hi)
      simp only [List.getElem_cons_succ] at this
      omega
theorem findSome_first {α : Type} (g : Int → Option α) (l : List Int) (j : Nat) (hj : j < l.length) (hno : ∀ j' (h : j' < j), g (l[j']'(by omega)) = none) {r : α} (hr : g l[j] = some r) : l.findSome? g = some r := by
  induction l generalizing j with
  | nil => simp at hj
  | cons x l ih =>
    cases j with
    | zero => simp at hr; simp [hr]
    | succ j =>
      have h0 := hno 0 (by omega)
      simp at h0
      rw [List.findSome?_cons, h0]
      exact ih j (by simpa using hj) (fun j' h => by have := hno (j' + 1) (by omega); simpa using this) (by simpa using hr)
theorem order_l1 (lt : List Int) (hk : smallK lt) (n : Nat) (hn : lt.length = n) (hn8 : n ≤ 8) : ∀ (d : Nat) (b : List Int) (k : Nat), (leftOf n b).length = d → b.length + d = n → 20 * (d + 1) + 330 < k → okFrom lt 0 b = true → Feas lt b.length (leftOf n b) →
    ∃ q, tenter_Order.l1 k b (leftOf n b) n b.length lt = some (q, 0) ∧ (ordL n d b).find? (okFrom lt 0) = some q
  | 0, b, k, hd, hb, hkk, hok, hf => by
    obtain ⟨k, rfl⟩ : ∃ m, k = m + 1 := ⟨k - 1, by omega⟩
    exact ⟨b, by rw [tenter_Order.l1, if_neg (by omega)], by rw [ordL, List.find?_cons, hok]⟩
  | d + 1, b, k, hd, hb, hkk, hok, hf => by
    obtain ⟨k, rfl⟩ : ∃ m, k = m + 1 := ⟨k - 1, by omega⟩
    have hnd := leftOf_nodup n b
    have hne : leftOf n b ≠ [] := by intro e; rw [e] at hd; cases hd
    have hr : inR lt (leftOf n b) := fun x hx => by
      unfold leftOf at hx
      have := mem_rng.1 (List.mem_filter.1 hx).1
      omega
    obtain ⟨j, k', hj, q1, q2, q3, q4⟩ := order_l2 lt hk (leftOf n b) b hr (by omega) (by omega) b.length n (by omega) (d + 1) 0 k (by omega) (by omega) (fun j hj => by omega) (feas_pick lt b.length (leftOf n b) hnd hne hf)
    have eid : ∀ j (hj : j < (leftOf n b).length), (leftOf n b).eraseIdx j = leftOf n (b ++ [(leftOf n b)[j]]) := fun j hj => by rw [leftOf_snoc, erase_get hnd hj]
    have hlen : ∀ j (hj : j < (leftOf n b).length), (leftOf n (b ++ [(leftOf n b)[j]])).length = d := fun j hj => by rw [← eid j hj, List.length_eraseIdx, if_pos hj]; omega
    have okS : ∀ c : Int, okFrom lt 0 (b ++ [c]) = true ↔ (b.length : Int) ≤ rd lt c := fun c => by
      rw [okFrom_append, hok, Bool.true_and, Nat.zero_add, okFrom, okFrom, Bool.and_true, decide_eq_true_eq]
    have pf : ∀ j (hj : j < (leftOf n b).length), pickP lt b.length (leftOf n b) j ↔ okFrom lt 0 (b ++ [(leftOf n b)[j]]) = true ∧ Feas lt (b ++ [(leftOf n b)[j]]).length (leftOf n (b ++ [(leftOf n b)[j]])) := fun j hj => by
      rw [okS, ← eid j hj, List.length_append]
      exact ⟨fun ⟨_, h1, h2⟩ => ⟨h1, h2⟩, fun ⟨h1, h2⟩ => ⟨hj, h1, h2⟩⟩
    rw [tenter_Order.l1, if_pos (by omega)]
    rw [show ((0 : Nat) : Int) = 0 from rfl] at q4
    rw [q4, nx b.length (by omega), eid j hj]
    obtain ⟨p1, p2⟩ := (pf j hj).1 q1
    obtain ⟨q, r1, r2⟩ := order_l1 lt hk n hn hn8 d (b ++ [(leftOf n b)[j]]) k' (hlen j hj) (by simp; omega) (by omega) p1 p2
    rw [show (b ++ [(leftOf n b)[j]]).length = b.length + 1 by simp] at r1
    refine ⟨q, r1, ?_⟩
    rw [find_step]
    refine findSome_first _ _ j hj (fun j' hj' => ?_) r2
    have hj2 : j' < (leftOf n b).length := by omega
    rw [find_none_iff lt n d _ (hlen j' hj2)]
    exact fun hh => q2 j' hj' ((pf j' hj2).2 hh)
def lates (cl : List S42) (w : List S40) (rain : Int) : List Int := (rng cl.length).map fun i => lateA cl w i rain
theorem lates_length (cl : List S42) (w : List S40) (rain : Int) : (lates cl w rain).length = cl.length := by simp [lates, rng_length]
theorem leftOf_nil (n : Nat) : leftOf n [] = rng n := by unfold leftOf; simp
def orderA (cl : List S42) (w : List S40) (rain : Int) : Option (List Int) := (ordL cl.length cl.length []).find? (okFrom (lates cl w rain) 0)
theorem lates_small (cl : List S42) (fr : List Int) (g s : Int) (w : List S40) (rain : Int) (hh : wx cl fr g s w rain = 0) : smallK (lates cl w rain) := by
  obtain ⟨hc, h1, h2, h3, h4, h5⟩ := wx_ok hh
  obtain ⟨r, rfl⟩ : ∃ r : Nat, rain = r := ⟨rain.toNat, by omega⟩
  intro x
  unfold rd
  rw [List.getD_eq_getElem?_getD]
  by_cases hx : x.toNat < (lates cl w r).length
  · rw [List.getElem?_eq_getElem hx, Option.getD_some]
    have ex : (lates cl w r)[x.toNat] = lateA cl w (x.toNat : Nat) r := by simp only [lates, List.getElem_map, rng_getElem]
    rw [ex]
    rw [lates_length] at hx
    have ch := late_char w (fun y hy => (h3 y hy).1) cl[x.toNat] r (by omega)
    simp only at ch
    unfold lateA
    rw [rd42_at cl x.toNat hx, Int.toNat_natCast]
    omega
  · rw [List.getElem?_eq_none (by omega), Option.getD_none]; omega
theorem rng_snoc (n : Nat) : rng (n + 1) = rng n ++ [(n : Int)] := by unfold rng; rw [List.range_succ, List.map_append]; rfl
theorem tOrder_l0 (cl : List S42) (fr : List Int) (g s : Int) (w : List S40) (rain : Int) (hh : wx cl fr g s w rain = 0) : ∀ (d i k : Nat), i + d = cl.length → 120 + d < k →
    ∃ k', tenter_Order.l0 k rain (rng i) (cl.length : Int) i cl fr g s cl fr g s w ((rng i).map fun i => lateA cl w i rain) = tenter_Order.l0 k' rain (rng cl.length) (cl.length : Int) (cl.length : Int) cl fr g s cl fr g s w (lates cl w rain) ∧ k ≤ k' + d
  | 0, i, k, hd, hk => by
    obtain rfl : i = cl.length := by omega
    exact ⟨k, rfl, by omega⟩
  | d + 1, i, k, hd, hk => by
    obtain ⟨k, rfl⟩ : ∃ m, k = m + 1 := ⟨k - 1, by omega⟩
    obtain ⟨hc, h1, h2, h3, h4, h5⟩ := wx_ok hh
    have hn := (chk_ok hc).1
    have hi : i < cl.length := by omega
    obtain ⟨r, rfl⟩ : ∃ r : Nat, rain = r := ⟨rain.toNat, by omega⟩
    have hw := cloth_water ((chk_ok hc).2.2.2.1 cl[i] (List.getElem_mem _))
    have e : tenter_forecast_late.f k cl fr g s w i (r : Int) = some (lateA cl w i r) := by
      unfold tenter_forecast_late.f lateA
      rw [if_pos (by omega), if_pos (by omega), rd42_at cl i hi, tLate_l cl fr g s w (by omega) (fun x hx => by have := h3 x hx; omega) r k _ (by omega) (by omega) (by omega) (by omega)]
      simp
    rw [tenter_Order.l0, if_pos (by omega), e]
    simp only [Option.bind_some, List.length_map, rng_length, List.length_cons, List.length_nil]
    rw [if_pos (by omega), if_pos (by omega), nx i (by omega), ← rng_snoc]
    obtain ⟨k', q1, q2⟩ := tOrder_l0 cl fr g s w r hh d (i + 1) k (by omega) (by omega)
    refine ⟨k', ?_, by omega⟩
    rw [← q1]
    congr 1
    rw [rng_snoc, List.map_append]; rfl
def ordR : Option (List Int) → List Int × Int
  | some q => (q, 0)
  | none => ([], 9)
theorem tOrder_eq (k : Nat) (cl : List S42) (fr : List Int) (g s : Int) (w : List S40) (rain : Int) (hk : 1000 < k) :
    tenter_Order.f k cl fr g s w rain = some (if wx cl fr g s w rain = 0 then ordR (orderA cl w rain) else ([], wx cl fr g s w rain)) := by
  unfold tenter_Order.f
  rw [newForecast_eq]
  simp only [Option.bind_some]
  by_cases hh : wx cl fr g s w rain = 0
  · rw [if_pos hh, if_pos hh]
    have hn := (chk_ok (wx_ok hh).1).1
    obtain ⟨k', q1, q2⟩ := tOrder_l0 cl fr g s w rain hh cl.length 0 k (by omega) (by omega)
    rw [show rng 0 = [] from rfl, List.map_nil, show ((0 : Nat) : Int) = 0 from rfl] at q1
    rw [q1]
    obtain ⟨k', rfl⟩ : ∃ m, k' = m + 1 := ⟨k' - 1, by omega⟩
    have hsm := lates_small cl fr g s w rain hh
    have hll := lates_length cl w rain
    have hr : inR (lates cl w rain) (rng cl.length) := fun x hx => by have := mem_rng.1 hx; omega
    obtain ⟨b, b1, b2⟩ := can_eq (lates cl w rain) hsm (rng cl.length) hr (by rw [rng_length]; omega) 0 (by omega) (by omega) k' (by omega)
    rw [tenter_Order.l0, if_neg (by omega), b1, Option.bind_some]
    have hd : (leftOf cl.length []).length = cl.length := by rw [leftOf_nil, rng_length]
    cases b with
    | true =>
      rw [if_pos rfl]
      obtain ⟨q, r1, r2⟩ := order_l1 (lates cl w rain) hsm cl.length hll (by omega) cl.length [] k' hd (by simp) (by omega) rfl (by rw [leftOf_nil]; exact b2.1 rfl)
      rw [leftOf_nil] at r1
      rw [show orderA cl w rain = some q from r2]
      exact r1
    | false =>
      rw [if_neg (by simp)]
      have : orderA cl w rain = none := (find_none_iff (lates cl w rain) cl.length cl.length [] hd).2 (fun ⟨_, hf⟩ => by
        rw [leftOf_nil] at hf
        have := b2.2 hf; cases this)
      rw [this]; rfl
  · rw [if_neg hh, if_neg hh]
theorem sumE_append (e : S40 → Int) : ∀ a b : List S40, sumE e (a ++ b) = sumE e a + sumE e b
  | [], b => by simp [sumE]
  | x :: a, b => by rw [List.cons_append, sumE, sumE, sumE_append e a b]; omega
theorem sumE_mapm_le (u : S40 → S40) : ∀ l : List S40, (∀ y ∈ l, y.f0 ≤ (u y).f0) → sumE S40.f0 l ≤ sumE S40.f0 (l.map u)
  | [], _ => by simp [sumE]
  | x :: a, hh => by
    have := hh x (by simp); have := sumE_mapm_le u a (fun y hy => hh y (by simp [hy]))
    rw [List.map_cons, sumE, sumE]; omega
def seg (w : List S40) (a b : Nat) : Int := sumE S40.f0 ((w.drop a).take (b - a))
theorem seg_map (u : S40 → S40) (w : List S40) (h : ∀ y ∈ w, y.f0 ≤ (u y).f0) (a b : Nat) : seg w a b ≤ seg (w.map u) a b := by
  unfold seg
  rw [← List.map_drop, ← List.map_take]
  exact sumE_mapm_le u _ (fun y hy => h y (List.mem_of_mem_drop (List.mem_of_mem_take hy)))
theorem seg_wider (w : List S40) (hb : ∀ y ∈ w, 0 ≤ y.f0) {a a' b b' : Nat} (h1 : a' ≤ a) (h2 : a ≤ b) (h3 : b ≤ b') : seg w a b ≤ seg w a' b' := by
  have nn : ∀ l : List S40, (∀ y ∈ l, y ∈ w) → 0 ≤ sumE S40.f0 l := fun l hl => sumE_nn S40.f0 l (fun y hy => hb y (hl y hy))
  have e1 : seg w a' b' = sumE S40.f0 ((w.drop a').take (a - a')) + seg w a b' := by
    unfold seg
    rw [show b' - a' = (a - a') + (b' - a) by omega, List.take_add, sumE_append, List.drop_drop, show a' + (a - a') = a by omega]
  have e2 : seg w a b' = seg w a b + sumE S40.f0 (((w.drop a).drop (b - a)).take (b' - b)) := by
    unfold seg
    rw [show b' - a = (b - a) + (b' - b) by omega, List.take_add, sumE_append]
  have p1 := nn ((w.drop a').take (a - a')) (fun y hy => List.mem_of_mem_drop (List.mem_of_mem_take hy))
  have p2 := nn (((w.drop a).drop (b - a)).take (b' - b)) (fun y hy => List.mem_of_mem_drop (List.mem_of_mem_drop (List.mem_of_mem_take hy)))
  omega
theorem late_seg (w : List S40) (hb : ∀ x ∈ w, 0 ≤ x.f0) (c : S42) (rain : Nat) (hr : rain ≤ w.length) :
    (-1 : Int) ≤ lateO w rain c.f1.f1 ∧ lateO w rain c.f1.f1 ≤ rain ∧ (∀ h : Nat, lateO w rain c.f1.f1 = h → c.f1.f1 ≤ seg w h rain) ∧ (∀ h : Nat, lateO w rain c.f1.f1 + 1 = h → h ≤ rain → ¬ c.f1.f1 ≤ seg w h rain) := by
  have key : ∀ h : Nat, h ≤ rain → ((dryOf w (h : Int) c).f1 ≤ (rain : Int) ↔ c.f1.f1 ≤ seg w h rain) := fun h hle => by
    have := dr_le S40.f0 (w.drop h) (rain - h) c.f1.f1 h (by simp; omega) (fun y hy => hb y (List.mem_of_mem_drop hy))
    rw [show (h : Int) + ((rain - h : Nat) : Int) = (rain : Int) by omega] at this
    unfold dryOf seg
    simp only [Int.toNat_natCast]
    exact this
  have ch := late_char w hb c rain hr
  simp only at ch
  obtain ⟨c1, c2, c3, c4⟩ := ch
  refine ⟨c1, c2, fun h e => ?_, fun h e hle => ?_⟩
  · rw [e] at c3 c2
    exact (key h (by omega)).1 (c3 (by omega))
  · rw [e] at c4
    exact fun x => c4 (by omega) ((key h hle).2 x)
theorem late_mono (u : S40 → S40) (w : List S40) (hb : ∀ x ∈ w, 0 ≤ x.f0) (hu : ∀ y ∈ w, y.f0 ≤ (u y).f0) (c : S42) (rain rain' : Nat) (hr : rain ≤ rain') (hr' : rain' ≤ w.length) : lateO w rain c.f1.f1 ≤ lateO (w.map u) rain' c.f1.f1 := by
  have hb' : ∀ x ∈ w.map u, 0 ≤ x.f0 := fun x hx => by
    obtain ⟨y, hy, rfl⟩ := List.mem_map.1 hx
    have := hb y hy; have := hu y hy; omega
  obtain ⟨a1, a2, a3, a4⟩ := late_seg w hb c rain (by omega)
  obtain ⟨b1, b2, b3, b4⟩ := late_seg (w.map u) hb' c rain' (by simpa using hr')
  by_cases hlt : lateO (w.map u) rain' c.f1.f1 < lateO w rain c.f1.f1
  · exfalso
    obtain ⟨L, hL⟩ : ∃ L : Nat, lateO w rain c.f1.f1 = L := ⟨(lateO w rain c.f1.f1).toNat, by omega⟩
    obtain ⟨M, hM⟩ : ∃ M : Nat, lateO (w.map u) rain' c.f1.f1 + 1 = M := ⟨(lateO (w.map u) rain' c.f1.f1 + 1).toNat, by omega⟩
    have h1 := a3 L hL
    have h2 := b4 M hM (by omega)
    have h3 := seg_map u w hu L rain
    have h4 := seg_wider (w.map u) hb' (a' := M) (a := L) (b := rain) (b' := rain') (by omega) (by omega) hr
    omega
  · omega
theorem rd_lates (cl : List S42) (w : List S40) (rain : Nat) (i : Nat) (hi : i < cl.length) : rd (lates cl w rain) (i : Int) = lateO w rain cl[i].f1.f1 := by
  rw [rd_at _ i (by rw [lates_length]; exact hi)]
  have ex : (lates cl w rain)[i]'(by rw [lates_length]; exact hi) = lateA cl w (i : Nat) rain := by simp only [lates, List.getElem_map, rng_getElem]
  rw [ex]
  unfold lateA
  rw [rd42_at cl i hi, Int.toNat_natCast]
theorem feas_mono {lt lt' : List Int} {h : Int} {S : List Int} (hm : ∀ x ∈ S, rd lt x ≤ rd lt' x) (hf : Feas lt h S) : Feas lt' h S := by
  obtain ⟨p, p1, p2⟩ := hf
  refine ⟨p, p1, fun i hi => ?_⟩
  have := p2 i hi
  have := hm p[i] (p1.mem_iff.1 (List.getElem_mem hi))
  omega
theorem orderA_iff (cl : List S42) (w : List S40) (rain : Int) : orderA cl w rain = none ↔ ¬ Feas (lates cl w rain) 0 (rng cl.length) := by
  have hd : (leftOf cl.length []).length = cl.length := by rw [leftOf_nil, rng_length]
  unfold orderA
  rw [find_none_iff _ _ _ _ hd, leftOf_nil]
  constructor
  · exact fun h hf => h ⟨rfl, hf⟩
  · exact fun h ⟨_, hf⟩ => h hf
theorem orderA_mono (u : S40 → S40) (cl : List S42) (w : List S40) (hb : ∀ x ∈ w, 0 ≤ x.f0) (hu : ∀ y ∈ w, y.f0 ≤ (u y).f0) (rain rain' : Nat) (hr : rain ≤ rain') (hr' : rain' ≤ w.length) (ho : orderA cl w rain ≠ none) : orderA cl (w.map u) rain' ≠ none := by
  rw [ne_eq, orderA_iff, Classical.not_not] at ho ⊢
  refine feas_mono (fun x hx => ?_) ho
  have hx' := mem_rng.1 hx
  obtain ⟨i, rfl⟩ : ∃ i : Nat, x = i := ⟨x.toNat, by omega⟩
  rw [rd_lates cl w rain i (by omega), rd_lates cl (w.map u) rain' i (by omega)]
  exact late_mono u w hb hu _ rain rain' hr hr'
theorem tLate_law (k : Nat) (cl : List S42) (fr : List Int) (g s : Int) (w : List S40) (i : Nat) (rain : Int) (hh : wx cl fr g s w rain = 0) (hi : i < cl.length) (hk : 100 < k) :
    ∃ n e, tenter_Late.f k cl fr g s w i rain = some (n, e) ∧ (if e = 0 then n else -1) = lateA cl w i rain := by
  have hn := (chk_ok (wx_ok hh).1).1
  obtain ⟨hc, h1, h2, h3, h4, h5⟩ := wx_ok hh
  obtain ⟨r, rfl⟩ : ∃ r : Nat, rain = r := ⟨rain.toNat, by omega⟩
  have ch := (late_seg w (fun x hx => (h3 x hx).1) cl[i] r (by omega)).1
  have e1 : lateA cl w i r = lateO w r cl[i].f1.f1 := by unfold lateA; rw [rd42_at cl i hi]; simp
  rw [tLate_eq k cl fr g s w i r (by omega) hk, if_pos hh, if_pos (isIn_iff.2 (by omega))]
  by_cases hl : lateA cl w i r ≥ 0
  · exact ⟨_, _, by rw [if_pos hl], by rw [if_pos rfl]⟩
  · exact ⟨_, _, by rw [if_neg hl], by rw [if_neg (by omega)]; omega⟩
end Go.Proofs.YtikmfpjcdcckeaaDoor.P
