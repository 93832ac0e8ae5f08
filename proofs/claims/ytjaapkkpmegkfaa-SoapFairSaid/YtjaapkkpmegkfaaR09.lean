/- Part 9 of what the law's proof needs: words, walks of functions and plain facts. -/
import Derived.Shelf.SlicesQ.Load
import Derived.Shelf.Abstract
import Derived.Lib.Hide
import Derived.Lib.BufferMore
import Derived.Lib.LazyBuf
import Derived.Test.YtjaapkkpmegkfaaR02
import Derived.Test.YtjaapkkpmegkfaaR08
set_option linter.unusedVariables false
set_option linter.unusedSimpArgs false
namespace Go.Proofs.Ytjaapkkpmegkfaa.P
open Go.RowKit Go.Shelf Go.Sort Go.Proofs.YtjaapkkpmegkfaaW.PrintWords Go.Proofs.YtjaapkkpmegkfaaW.PrintLast Go.Proofs.YtjaapkkpmegkfaaW.PrintMore
theorem Yp {l : List Int} : l.Pairwise (· ≤ ·) → ((∀ j, j < l.length → j = 0 ∨ l.toArray[j]! ≠ l.toArray[j - 1]!) ↔ l.Nodup) := by
 intro hs; have get : ∀ j, (h : j < l.length) → l.toArray[j]! = l[j] := fun j h => by simp [h]
 constructor
 ·intro h
  rw [List.nodup_iff_pairwise_ne, List.pairwise_iff_getElem]; intro i j hi hj hij e
  have mono : ∀ a b, (ha : a < l.length) → (hb : b < l.length) → a ≤ b → l[a] ≤ l[b] := fun a b ha hb hab => by
   rcases Nat.lt_or_eq_of_le hab with h | rfl
   ·exact List.pairwise_iff_getElem.1 hs a b ha hb h
   ·exact Int.le_refl _
  have h1 := h (i + 1) (by omega)
  rcases h1 with h1 | h1
  ·omega
  ·rw [get _ (by omega), Nat.add_sub_cancel, get _ hi] at h1
   have h2 := mono i (i + 1) hi (by omega) (by omega); have h3 := mono (i + 1) j (by omega) hj (by omega); omega
 ·intro h j hj
  rcases Nat.eq_zero_or_pos j with h0 | h0
  ·exact .inl h0
  ·right
   rw [get j hj, get (j - 1) (by omega)]; intro e; rw [List.nodup_iff_pairwise_ne, List.pairwise_iff_getElem] at h; exact h (j - 1) j (by omega) hj (by omega) e.symm
theorem Xd (l : List Int) : (Lib.compact (srt l)).length = l.length ↔ l.Nodup := by
 have hp : (srt l).Perm l := List.mergeSort_perm _ _
 have hs : (srt l).Pairwise (· ≤ ·) := by
  have := List.pairwise_mergeSort (le := fun x y : Int => decide (x ≤ y)) (fun a b c h1 h2 => by simp at *; omega) (fun a b => by simp; omega) l; exact this.imp (fun h => by simpa using h)
 rw [← hp.nodup_iff, ← Yp hs, ← Zq l]; unfold Lib.compact Lib.compactUpTo; rw [List.length_map]
 constructor
 ·intro h j hj
  have h2 := List.length_filter_eq_length_iff.1 (show (List.filter (Lib.keeps (srt l).toArray) (List.range (srt l).length)).length = (List.range (srt l).length).length by rw [h, List.length_range]) j (List.mem_range.2 hj)
  simpa [Lib.keeps] using h2
 ·intro h
  have h2 := List.length_filter_eq_length_iff.2 (fun j hj => by have := h j (List.mem_range.1 hj); simpa [Lib.keeps] using this : ∀ j ∈ List.range (srt l).length, Lib.keeps (srt l).toArray j = true); rw [h2, List.length_range]
theorem YG (l r : List Int) (h : l.length + r.length ≤ 1000000) : QK.f 6 [l, r] = some (l ++ r) := by
 have w1 : wrap64 (l.length : Int) = l.length := by unfold wrap64; omega
 have w2 : wrap64 ((l.length : Int) + (r.length : Int)) = (l.length : Int) + r.length := by unfold wrap64; omega
 have w3 : wrap64 1 = 1 := by unfold wrap64; omega
 have w4 : wrap64 2 = 2 := by unfold wrap64; omega
 have r0 : Jo [l, r] 0 = l := rfl; have r1 : Jo [l, r] 1 = r := rfl; have n1 : ¬ ((l.length : Int) < 0) := by omega
 have n2 : ¬ ((l.length : Int) + (r.length : Int) < 0) := by omega
 have n3 : 0 ≤ (l.length : Int) + (r.length : Int) ∧ (l.length : Int) + (r.length : Int) ≤ 1000000 := by omega
 have n4 : l.length < 17592186044416 := by omega
 have n5 : l.length + r.length < 17592186044416 := by omega
 unfold QK.f
 simp [QK.l0, QK.l1, w1, w2, w3, w4, r0, r1, n1, n2, n3, n4, n5]
def J8.f (l r : List Int) (t n : Int) : Option Bool :=
 if l.length + r.length ≤ 1000000 then
  (if l.length = r.length ∧ 0 < r.length then (Qk.f 0 (wrap64 (n - 1)) (l ++ r)).bind fun b => if b = true then (if (l ++ r).Nodup then Qk.f 0 2 [t] else some false) else some false else some false)
 else none
theorem XH {W : World} {g : Nat} {A0 A1 : Option Addr} {c0 c1 : Nat} {l0 l1 : List Int} (hb : W.heap[g]? = some (.cells #[.slice A0 l0.length c0, .slice A1 l1.length c1] 24 (0, 0))) (h0 : Kd.C (Kd.int .i64) W A0 l0.length l0) (h1 : Kd.C (Kd.int .i64) W A1 l1.length l1) (hc0 : l0.length ≤ c0) (hc1 : l1.length ≤ c1) :
  Kd.C (Kd.slice 3 (Kd.int .i64)) W (some ⟨g, 0, none⟩) [l0, l1].length [l0, l1] := by
 refine ⟨rfl, by simp, fun _ => ⟨_, rfl, fun j p hj => ?_⟩⟩
 match j with
 | 0 =>
  obtain rfl : l0 = p := by simpa using hj
  refine ⟨[.slice A0 l0.length c0], rfl, ⟨A0, c0, rfl, hc0, h0⟩, fun i u hu => ?_⟩
  match i with
  | 0 =>
   obtain rfl : Value.slice A0 l0.length c0 = u := by simpa using hu
   exact (Qb hb 0).trans rfl
  | i + 1 => simp at hu
 | 1 =>
  obtain rfl : l1 = p := by simpa using hj
  refine ⟨[.slice A1 l1.length c1], rfl, ⟨A1, c1, rfl, hc1, h1⟩, fun i u hu => ?_⟩
  match i with
  | 0 =>
   obtain rfl : Value.slice A1 l1.length c1 = u := by simpa using hu
   exact (Qb hb 1).trans rfl
  | i + 1 => simp at hu
 | j + 2 => simp at hj
theorem C_one {W : World} {g : Nat} {t : Int} (hb : W.heap[g]? = some (.cells #[.int .i64 t] 3 (0, 0))) : Kd.C (Kd.int .i64) W (some ⟨g, 0, none⟩) [t].length [t] := by
 refine ⟨rfl, by simp, fun _ => ⟨_, rfl, fun j p hj => ?_⟩⟩
 match j with
 | 0 =>
  obtain rfl : t = p := by simpa using hj
  refine ⟨[.int .i64 t], rfl, rfl, fun i u hu => ?_⟩
  match i with
  | 0 =>
   obtain rfl : Value.int .i64 t = u := by simpa using hu
   exact (Qb hb 0).trans rfl
  | i + 1 => simp at hu
 | j + 1 => simp at hj
set_option maxHeartbeats 4000000 in
set_option maxRecDepth 100000 in
theorem J8.calls (A0_0 : Option Addr) (c0_0 : Nat) (l0_0 : List Int) (A0_1 : Option Addr) (c0_1 : Nat) (l0_1 : List Int) (a0_2 a1 : Int) (r : Bool) (w : World) (hr0_0 : Kd.C (Kd.int .i64) w A0_0 l0_0.length l0_0) (hc0_0 : l0_0.length ≤ c0_0) (hr0_1 : Kd.C (Kd.int .i64) w A0_1 l0_1.length l0_1) (hc0_1 : l0_1.length ≤ c0_1) (h : J8.f l0_0 l0_1 a0_2 a1 = some r) :
  Calls Try.prog 52 #[.agg #[.slice A0_0 l0_0.length c0_0, .slice A0_1 l0_1.length c0_1, .int .i64 a0_2], .int .i64 a1] w fun e w' => e = .returned (.bool r) ∧ Below w.heap.size w w' := by
 have hu64 := Try.underlying64; unfold J8.f at h
 split at h
 case isFalse => cases h
 rename_i hlen
 obtain ⟨y, hy⟩ : ∃ y, y = l0_0 ++ l0_1 := ⟨_, rfl⟩
 rw [← hy] at h; have hyl : y.length = l0_0.length + l0_1.length := by rw [hy, List.length_append]
 have HC := Qa.mk (show QK.f 6 [l0_0, l0_1] = some y by rw [hy]; exact YG l0_0 l0_1 hlen); have HL := Qa.mk (show y.length ≤ 1000000 by omega); clear hy; have R0 := Qa.mk hr0_0; have R1 := Qa.mk hr0_1; have C0 := Qa.mk hc0_0; have C1 := Qa.mk hc0_1; clear hr0_0 hr0_1 hc0_0 hc0_1 hlen; by_cases he : l0_0.length = l0_1.length
 ·have hb1 : ((l0_0.length : Int) == (l0_1.length : Int)) = true := beq_iff_eq.2 (by omega)
  have hb1' : (l0_0.length == l0_1.length) = true := beq_iff_eq.2 he; by_cases hp : 0 < l0_1.length
  ·have hb2 : decide ((y.length : Int) > 0) = true := decide_eq_true (by omega)
   have hb2' : decide (0 < y.length) = true := decide_eq_true (by omega); clear hyl; rw [if_pos ⟨he, hp⟩] at h; obtain ⟨b, hwi, h⟩ := Option.bind_eq_some_iff.1 h; have HWI := Qa.mk hwi; clear he hp hwi
   cases b with
   | true =>
    rw [if_pos rfl] at h; by_cases hnd : y.Nodup
    ·rw [if_pos hnd] at h
     have HLA := Qa.mk h; have HCL := Qa.mk ((Xd _).2 hnd); have hb3 : ((y.length : Int) == (y.length : Int)) = true := beq_iff_eq.2 rfl; clear h hnd; go_enter Try.func52, Try.ntmps52
     go_wp2_with (first
      | ((with_reducible refine gd 2 ?_); refine Jl ?hg (N := 2) ?hd (cs := #[.slice A0_0 l0_0.length c0_0, .slice A0_1 l0_1.length c0_1, .int .i64 a0_2]) (t := 64) ?hr ?_; (case hd => rfl); (case hg => rfl); (case hr => first | (go_simp; done) | (go_simp; rfl)); intro gb hg w1 hx hb; have HG := Qa.mk hg; have BK := Qa.mk hx; have HB1 := Qa.mk hb; have hz0 : w1.cell? ⟨gb, 0, none⟩ = some (.slice A0_0 l0_0.length c0_0) := (Qb hx 0).trans rfl; have hz1 : w1.cell? ⟨gb, 1, none⟩ = some (.slice A0_1 l0_1.length c0_1) := (Qb hx 1).trans rfl; clear hg hx hb)
      | (go_at_call 67; refine (QK.calls 6 (some ⟨w1.heap.size, 0, none⟩) 2 [l0_0, l0_1] y _ ?s1 (by simp) HC.out).mono ?_; (case s1 => exact XH (by first | exact World.alloc_heap_new _ _ | exact JZ _ _) (Kd.C_alloc (Kd.C_below R0.out HB1.out) _) (Kd.C_alloc (Kd.C_below R1.out HB1.out) _) C0.out C1.out); rintro e w2 ⟨v1, rfl, ho, hb⟩; have HO1 := Qa.mk ho; have HB2 := Qa.mk hb; obtain ⟨A1, c1, rfl⟩ := Kd.R_slice ho; clear ho hb)
      | (go_at_call 69; refine (Zj _ _ _ _).mono ?_; rintro e w3 ⟨rfl, hw⟩; have HW := Qa.mk hw; clear hw)
      | (go_at_call 68; refine (Zi y A1 c1 w2.heap.size w3 ?s2 ?s3 ?s4).mono ?_; (case s2 => rw [HW.out]; exact JZ _ _); (case s3 => rw [HW.out]; exact Kd.C_alloc (Kd.R_reads' HO1.out).2.2 _); (case s4 => exact HL.out); rintro e w4 ⟨v2, rfl, ho, hb⟩; have HO2 := Qa.mk ho; have HB4 := Qa.mk hb; obtain ⟨A2, c2, rfl⟩ := Kd.R_slice ho; clear ho hb; have up3 := Qa.mk (show Below w2.heap.size w2 w3 from by rw [HW.out]; exact QO (Below.refl _ _) _); have up4 := Qa.mk (up3.out.trans (HB4.out.mono up3.out.size)); have hq2 := Qa.mk (show Below w1.heap.size w1 w2 from (QO (Below.refl _ _) _).trans (HB2.out.mono (by simp))); have hq4 := Qa.mk (hq2.out.trans (up4.out.mono hq2.out.size)); have BK4 := Qa.mk ((hq4.out.block _ (Jh BK.out)).trans BK.out); have hy0 : w4.cell? ⟨gb, 0, none⟩ = some (.slice A0_0 l0_0.length c0_0) := (Qb BK4.out 0).trans rfl; have hy1 : w4.cell? ⟨gb, 1, none⟩ = some (.slice A0_1 l0_1.length c0_1) := (Qb BK4.out 1).trans rfl; have HO4 := Qa.mk (Kd.R_below HO1.out up4.out); have HBE4 := Qa.mk (HB1.out.trans (hq4.out.mono HB1.out.size)); clear hz0 hz1)
      | (go_at_call 7; (with_reducible refine (Qk.calls 0 (wrap64 (a1 - 1)) A1 c1 y true w4 ?t1 ?t2 HWI.out).mono ?_); (case t1 => exact (Kd.R_reads' HO4.out).2.2); (case t2 => exact (Kd.R_reads' HO4.out).2.1); rintro e w5 ⟨rfl, hb⟩; have HB5 := Qa.mk hb; clear hb)
      | (go_at_call 70; refine (Xa (Kd.R_below HO2.out HB5.out) ?u1).mono ?_; (case u1 => rw [Zq]; exact HL.out); rintro e w6 ⟨A3, c3, rfl, hg⟩; have HG6 := Qa.mk hg; clear hg; rw [HCL.out]; have BK6 := Qa.mk (Ja ((HB5.out.block _ (Jh BK4.out)).trans BK4.out) HG6.out (fun e_ => by have h1_ := Kd.R_base HO2.out _ e_.symm; have h2_ := Jh BK.out; have h3_ := hq2.out.size; have h4_ := up3.out.size; omega)); have hz2 : w6.cell? ⟨gb, 2, none⟩ = some (.int .i64 a0_2) := (Qb BK6.out 2).trans rfl; have HBE6 := Qa.mk ((HBE4.out.trans (HB5.out.mono HBE4.out.size)).grown HG6.out (by have h5_ := HBE4.out.size; have h6_ := HB5.out.size; omega) (fun k e_ => by have h1_ := Kd.R_base HO2.out _ e_; have h7_ := HB1.out.size; have h3_ := hq2.out.size; have h4_ := up3.out.size; omega)))
      | (go_at_call 7; (refine (Qk.calls 0 2 (some ⟨w6.heap.size, 0, none⟩) 1 [a0_2] r _ ?t1 (by simp) HLA.out).mono ?_); (case t1 => exact C_one (JZ _ _)); rintro e w7 ⟨rfl, hb⟩; have HB7 := Qa.mk hb; clear hb))
     go_ret; exact ⟨eS, QV (QO HBE6.out _) HB7.out⟩
    ·rw [if_neg hnd] at h
     obtain rfl := Option.some.inj h; have hne : (Lib.compact (srt y)).length ≠ y.length := fun e => hnd ((Xd _).1 e)
     obtain ⟨m, hm⟩ : ∃ m, (Lib.compact (srt y)).length = m := ⟨_, rfl⟩
     rw [hm] at hne; have HCL := Qa.mk hm; have hb3 : ((m : Int) == (y.length : Int)) = false := beq_eq_false_iff_ne.2 (by omega); have hb3z : (m == y.length) = false := beq_eq_false_iff_ne.2 hne; clear h hnd hm hne; go_enter Try.func52, Try.ntmps52
     go_wp2_with (first
      | ((with_reducible refine gd 2 ?_); refine Jl ?hg (N := 2) ?hd (cs := #[.slice A0_0 l0_0.length c0_0, .slice A0_1 l0_1.length c0_1, .int .i64 a0_2]) (t := 64) ?hr ?_; (case hd => rfl); (case hg => rfl); (case hr => first | (go_simp; done) | (go_simp; rfl)); intro gb hg w1 hx hb; have HG := Qa.mk hg; have BK := Qa.mk hx; have HB1 := Qa.mk hb; have hz0 : w1.cell? ⟨gb, 0, none⟩ = some (.slice A0_0 l0_0.length c0_0) := (Qb hx 0).trans rfl; have hz1 : w1.cell? ⟨gb, 1, none⟩ = some (.slice A0_1 l0_1.length c0_1) := (Qb hx 1).trans rfl; clear hg hx hb)
      | (go_at_call 67; refine (QK.calls 6 (some ⟨w1.heap.size, 0, none⟩) 2 [l0_0, l0_1] y _ ?s1 (by simp) HC.out).mono ?_; (case s1 => exact XH (by first | exact World.alloc_heap_new _ _ | exact JZ _ _) (Kd.C_alloc (Kd.C_below R0.out HB1.out) _) (Kd.C_alloc (Kd.C_below R1.out HB1.out) _) C0.out C1.out); rintro e w2 ⟨v1, rfl, ho, hb⟩; have HO1 := Qa.mk ho; have HB2 := Qa.mk hb; obtain ⟨A1, c1, rfl⟩ := Kd.R_slice ho; clear ho hb)
      | (go_at_call 69; refine (Zj _ _ _ _).mono ?_; rintro e w3 ⟨rfl, hw⟩; have HW := Qa.mk hw; clear hw)
      | (go_at_call 68; refine (Zi y A1 c1 w2.heap.size w3 ?s2 ?s3 ?s4).mono ?_; (case s2 => rw [HW.out]; exact JZ _ _); (case s3 => rw [HW.out]; exact Kd.C_alloc (Kd.R_reads' HO1.out).2.2 _); (case s4 => exact HL.out); rintro e w4 ⟨v2, rfl, ho, hb⟩; have HO2 := Qa.mk ho; have HB4 := Qa.mk hb; obtain ⟨A2, c2, rfl⟩ := Kd.R_slice ho; clear ho hb; have up3 := Qa.mk (show Below w2.heap.size w2 w3 from by rw [HW.out]; exact QO (Below.refl _ _) _); have up4 := Qa.mk (up3.out.trans (HB4.out.mono up3.out.size)); have hq2 := Qa.mk (show Below w1.heap.size w1 w2 from (QO (Below.refl _ _) _).trans (HB2.out.mono (by simp))); have hq4 := Qa.mk (hq2.out.trans (up4.out.mono hq2.out.size)); have BK4 := Qa.mk ((hq4.out.block _ (Jh BK.out)).trans BK.out); have hy0 : w4.cell? ⟨gb, 0, none⟩ = some (.slice A0_0 l0_0.length c0_0) := (Qb BK4.out 0).trans rfl; have hy1 : w4.cell? ⟨gb, 1, none⟩ = some (.slice A0_1 l0_1.length c0_1) := (Qb BK4.out 1).trans rfl; have HO4 := Qa.mk (Kd.R_below HO1.out up4.out); have HBE4 := Qa.mk (HB1.out.trans (hq4.out.mono HB1.out.size)); clear hz0 hz1)
      | (go_at_call 7; (with_reducible refine (Qk.calls 0 (wrap64 (a1 - 1)) A1 c1 y true w4 ?t1 ?t2 HWI.out).mono ?_); (case t1 => exact (Kd.R_reads' HO4.out).2.2); (case t2 => exact (Kd.R_reads' HO4.out).2.1); rintro e w5 ⟨rfl, hb⟩; have HB5 := Qa.mk hb; clear hb)
      | (go_at_call 70; refine (Xa (Kd.R_below HO2.out HB5.out) ?u1).mono ?_; (case u1 => rw [Zq]; exact HL.out); rintro e w6 ⟨A3, c3, rfl, hg⟩; have HG6 := Qa.mk hg; clear hg; rw [HCL.out]; have BK6 := Qa.mk (Ja ((HB5.out.block _ (Jh BK4.out)).trans BK4.out) HG6.out (fun e_ => by have h1_ := Kd.R_base HO2.out _ e_.symm; have h2_ := Jh BK.out; have h3_ := hq2.out.size; have h4_ := up3.out.size; omega)); have hz2 : w6.cell? ⟨gb, 2, none⟩ = some (.int .i64 a0_2) := (Qb BK6.out 2).trans rfl; have HBE6 := Qa.mk ((HBE4.out.trans (HB5.out.mono HBE4.out.size)).grown HG6.out (by have h5_ := HBE4.out.size; have h6_ := HB5.out.size; omega) (fun k e_ => by have h1_ := Kd.R_base HO2.out _ e_; have h7_ := HB1.out.size; have h3_ := hq2.out.size; have h4_ := up3.out.size; omega))))
     go_ret; exact ⟨eS, HBE6.out⟩
   | false =>
    obtain rfl := Option.some.inj ((if_neg (by simp)).symm.trans h); clear h; go_enter Try.func52, Try.ntmps52
    go_wp2_with (first
     | ((with_reducible refine gd 2 ?_); refine Jl ?hg (N := 2) ?hd (cs := #[.slice A0_0 l0_0.length c0_0, .slice A0_1 l0_1.length c0_1, .int .i64 a0_2]) (t := 64) ?hr ?_; (case hd => rfl); (case hg => rfl); (case hr => first | (go_simp; done) | (go_simp; rfl)); intro gb hg w1 hx hb; have HG := Qa.mk hg; have BK := Qa.mk hx; have HB1 := Qa.mk hb; have hz0 : w1.cell? ⟨gb, 0, none⟩ = some (.slice A0_0 l0_0.length c0_0) := (Qb hx 0).trans rfl; have hz1 : w1.cell? ⟨gb, 1, none⟩ = some (.slice A0_1 l0_1.length c0_1) := (Qb hx 1).trans rfl; clear hg hx hb)
     | (go_at_call 67; refine (QK.calls 6 (some ⟨w1.heap.size, 0, none⟩) 2 [l0_0, l0_1] y _ ?s1 (by simp) HC.out).mono ?_; (case s1 => exact XH (by first | exact World.alloc_heap_new _ _ | exact JZ _ _) (Kd.C_alloc (Kd.C_below R0.out HB1.out) _) (Kd.C_alloc (Kd.C_below R1.out HB1.out) _) C0.out C1.out); rintro e w2 ⟨v1, rfl, ho, hb⟩; have HO1 := Qa.mk ho; have HB2 := Qa.mk hb; obtain ⟨A1, c1, rfl⟩ := Kd.R_slice ho; clear ho hb)
     | (go_at_call 69; refine (Zj _ _ _ _).mono ?_; rintro e w3 ⟨rfl, hw⟩; have HW := Qa.mk hw; clear hw)
     | (go_at_call 68; refine (Zi y A1 c1 w2.heap.size w3 ?s2 ?s3 ?s4).mono ?_; (case s2 => rw [HW.out]; exact JZ _ _); (case s3 => rw [HW.out]; exact Kd.C_alloc (Kd.R_reads' HO1.out).2.2 _); (case s4 => exact HL.out); rintro e w4 ⟨v2, rfl, ho, hb⟩; have HO2 := Qa.mk ho; have HB4 := Qa.mk hb; obtain ⟨A2, c2, rfl⟩ := Kd.R_slice ho; clear ho hb; have up3 := Qa.mk (show Below w2.heap.size w2 w3 from by rw [HW.out]; exact QO (Below.refl _ _) _); have up4 := Qa.mk (up3.out.trans (HB4.out.mono up3.out.size)); have hq2 := Qa.mk (show Below w1.heap.size w1 w2 from (QO (Below.refl _ _) _).trans (HB2.out.mono (by simp))); have hq4 := Qa.mk (hq2.out.trans (up4.out.mono hq2.out.size)); have BK4 := Qa.mk ((hq4.out.block _ (Jh BK.out)).trans BK.out); have hy0 : w4.cell? ⟨gb, 0, none⟩ = some (.slice A0_0 l0_0.length c0_0) := (Qb BK4.out 0).trans rfl; have hy1 : w4.cell? ⟨gb, 1, none⟩ = some (.slice A0_1 l0_1.length c0_1) := (Qb BK4.out 1).trans rfl; have HO4 := Qa.mk (Kd.R_below HO1.out up4.out); have HBE4 := Qa.mk (HB1.out.trans (hq4.out.mono HB1.out.size)); clear hz0 hz1)
     | (go_at_call 7; (with_reducible refine (Qk.calls 0 (wrap64 (a1 - 1)) A1 c1 y false w4 ?t1 ?t2 HWI.out).mono ?_); (case t1 => exact (Kd.R_reads' HO4.out).2.2); (case t2 => exact (Kd.R_reads' HO4.out).2.1); rintro e w5 ⟨rfl, hb⟩; have HB5 := Qa.mk hb; clear hb))
    go_ret; exact ⟨eS, QV HBE4.out HB5.out⟩
  ·have hb2 : decide ((y.length : Int) > 0) = false := decide_eq_false (by omega)
   have hb2' : decide (0 < y.length) = false := decide_eq_false (by omega); clear hyl; rw [if_neg (fun z => hp z.2)] at h; obtain rfl := Option.some.inj h; clear h he hp; go_enter Try.func52, Try.ntmps52
   go_wp2_with (first
    | ((with_reducible refine gd 2 ?_); refine Jl ?hg (N := 2) ?hd (cs := #[.slice A0_0 l0_0.length c0_0, .slice A0_1 l0_1.length c0_1, .int .i64 a0_2]) (t := 64) ?hr ?_; (case hd => rfl); (case hg => rfl); (case hr => first | (go_simp; done) | (go_simp; rfl)); intro gb hg w1 hx hb; have HG := Qa.mk hg; have BK := Qa.mk hx; have HB1 := Qa.mk hb; have hz0 : w1.cell? ⟨gb, 0, none⟩ = some (.slice A0_0 l0_0.length c0_0) := (Qb hx 0).trans rfl; have hz1 : w1.cell? ⟨gb, 1, none⟩ = some (.slice A0_1 l0_1.length c0_1) := (Qb hx 1).trans rfl; clear hg hx hb)
    | (go_at_call 67; refine (QK.calls 6 (some ⟨w1.heap.size, 0, none⟩) 2 [l0_0, l0_1] y _ ?s1 (by simp) HC.out).mono ?_; (case s1 => exact XH (by first | exact World.alloc_heap_new _ _ | exact JZ _ _) (Kd.C_alloc (Kd.C_below R0.out HB1.out) _) (Kd.C_alloc (Kd.C_below R1.out HB1.out) _) C0.out C1.out); rintro e w2 ⟨v1, rfl, ho, hb⟩; have HO1 := Qa.mk ho; have HB2 := Qa.mk hb; obtain ⟨A1, c1, rfl⟩ := Kd.R_slice ho; clear ho hb)
    | (go_at_call 69; refine (Zj _ _ _ _).mono ?_; rintro e w3 ⟨rfl, hw⟩; have HW := Qa.mk hw; clear hw)
    | (go_at_call 68; refine (Zi y A1 c1 w2.heap.size w3 ?s2 ?s3 ?s4).mono ?_; (case s2 => rw [HW.out]; exact JZ _ _); (case s3 => rw [HW.out]; exact Kd.C_alloc (Kd.R_reads' HO1.out).2.2 _); (case s4 => exact HL.out); rintro e w4 ⟨v2, rfl, ho, hb⟩; have HO2 := Qa.mk ho; have HB4 := Qa.mk hb; obtain ⟨A2, c2, rfl⟩ := Kd.R_slice ho; clear ho hb; have up3 := Qa.mk (show Below w2.heap.size w2 w3 from by rw [HW.out]; exact QO (Below.refl _ _) _); have up4 := Qa.mk (up3.out.trans (HB4.out.mono up3.out.size)); have hq2 := Qa.mk (show Below w1.heap.size w1 w2 from (QO (Below.refl _ _) _).trans (HB2.out.mono (by simp))); have hq4 := Qa.mk (hq2.out.trans (up4.out.mono hq2.out.size)); have BK4 := Qa.mk ((hq4.out.block _ (Jh BK.out)).trans BK.out); have hy0 : w4.cell? ⟨gb, 0, none⟩ = some (.slice A0_0 l0_0.length c0_0) := (Qb BK4.out 0).trans rfl; have hy1 : w4.cell? ⟨gb, 1, none⟩ = some (.slice A0_1 l0_1.length c0_1) := (Qb BK4.out 1).trans rfl; have HO4 := Qa.mk (Kd.R_below HO1.out up4.out); have HBE4 := Qa.mk (HB1.out.trans (hq4.out.mono HB1.out.size)); clear hz0 hz1))
   go_ret; exact ⟨eS, HBE4.out⟩
 ·have hb1 : ((l0_0.length : Int) == (l0_1.length : Int)) = false := beq_eq_false_iff_ne.2 (by omega)
  have hb1' : (l0_0.length == l0_1.length) = false := beq_eq_false_iff_ne.2 he; clear hyl; rw [if_neg (fun z => he z.1)] at h; obtain rfl := Option.some.inj h; clear h he; go_enter Try.func52, Try.ntmps52
  go_wp2_with (first
   | ((with_reducible refine gd 2 ?_); refine Jl ?hg (N := 2) ?hd (cs := #[.slice A0_0 l0_0.length c0_0, .slice A0_1 l0_1.length c0_1, .int .i64 a0_2]) (t := 64) ?hr ?_; (case hd => rfl); (case hg => rfl); (case hr => first | (go_simp; done) | (go_simp; rfl)); intro gb hg w1 hx hb; have HG := Qa.mk hg; have BK := Qa.mk hx; have HB1 := Qa.mk hb; have hz0 : w1.cell? ⟨gb, 0, none⟩ = some (.slice A0_0 l0_0.length c0_0) := (Qb hx 0).trans rfl; have hz1 : w1.cell? ⟨gb, 1, none⟩ = some (.slice A0_1 l0_1.length c0_1) := (Qb hx 1).trans rfl; clear hg hx hb)
   | (go_at_call 67; refine (QK.calls 6 (some ⟨w1.heap.size, 0, none⟩) 2 [l0_0, l0_1] y _ ?s1 (by simp) HC.out).mono ?_; (case s1 => exact XH (by first | exact World.alloc_heap_new _ _ | exact JZ _ _) (Kd.C_alloc (Kd.C_below R0.out HB1.out) _) (Kd.C_alloc (Kd.C_below R1.out HB1.out) _) C0.out C1.out); rintro e w2 ⟨v1, rfl, ho, hb⟩; have HO1 := Qa.mk ho; have HB2 := Qa.mk hb; obtain ⟨A1, c1, rfl⟩ := Kd.R_slice ho; clear ho hb)
   | (go_at_call 69; refine (Zj _ _ _ _).mono ?_; rintro e w3 ⟨rfl, hw⟩; have HW := Qa.mk hw; clear hw)
   | (go_at_call 68; refine (Zi y A1 c1 w2.heap.size w3 ?s2 ?s3 ?s4).mono ?_; (case s2 => rw [HW.out]; exact JZ _ _); (case s3 => rw [HW.out]; exact Kd.C_alloc (Kd.R_reads' HO1.out).2.2 _); (case s4 => exact HL.out); rintro e w4 ⟨v2, rfl, ho, hb⟩; have HO2 := Qa.mk ho; have HB4 := Qa.mk hb; obtain ⟨A2, c2, rfl⟩ := Kd.R_slice ho; clear ho hb; have up3 := Qa.mk (show Below w2.heap.size w2 w3 from by rw [HW.out]; exact QO (Below.refl _ _) _); have up4 := Qa.mk (up3.out.trans (HB4.out.mono up3.out.size)); have hq2 := Qa.mk (show Below w1.heap.size w1 w2 from (QO (Below.refl _ _) _).trans (HB2.out.mono (by simp))); have hq4 := Qa.mk (hq2.out.trans (up4.out.mono hq2.out.size)); have BK4 := Qa.mk ((hq4.out.block _ (Jh BK.out)).trans BK.out); have hy0 : w4.cell? ⟨gb, 0, none⟩ = some (.slice A0_0 l0_0.length c0_0) := (Qb BK4.out 0).trans rfl; have hy1 : w4.cell? ⟨gb, 1, none⟩ = some (.slice A0_1 l0_1.length c0_1) := (Qb BK4.out 1).trans rfl; have HO4 := Qa.mk (Kd.R_below HO1.out up4.out); have HBE4 := Qa.mk (HB1.out.trans (hq4.out.mono HB1.out.size)); clear hz0 hz1))
  go_ret; exact ⟨eS, HBE4.out⟩
end Go.Proofs.Ytjaapkkpmegkfaa.P
namespace Go.Proofs.Ytjaapkkpmegkfaa.P
open Go.RowKit Go.Proofs.YtjaapkkpmegkfaaW.PrintWords Go.Proofs.YtjaapkkpmegkfaaW.PrintLast Go.Proofs.YtjaapkkpmegkfaaW.PrintMore
attribute [local go_sem] JG JH JY JX Jv Ju JJ JK
def J3.f (l0_0 l0_1 : List Int) (a0_2 a1_0 : Int) : Option Bool := (J8.f l0_0 l0_1 a0_2 a1_0).bind fun t102 => (some (!t102))
set_option maxHeartbeats 8000000 in
set_option maxRecDepth 100000 in
theorem J3.calls (A0_0 : Option Addr) (c0_0 : Nat) (l0_0 : List Int) (A0_1 : Option Addr) (c0_1 : Nat) (l0_1 : List Int) (a0_2 : Int) (B1 : Nat) (a1_0 : Int) (r : Bool) (w : World) (hr0_0 : Kd.C (Kd.int .i64) w A0_0 l0_0.length l0_0) (hc0_0 : l0_0.length ≤ c0_0) (hr0_1 : Kd.C (Kd.int .i64) w A0_1 l0_1.length l0_1) (hc0_1 : l0_1.length ≤ c0_1) (hb1 : w.heap[B1]? = some (.cells #[.int .i64 a1_0] 3 (0, 0))) (h : J3.f l0_0 l0_1 a0_2 a1_0 = some r) :
  Calls Try.prog 51 #[.agg #[.slice A0_0 l0_0.length c0_0, .slice A0_1 l0_1.length c0_1, .int .i64 a0_2], .pointer (some ⟨B1, 0, none⟩)] w fun e w' => e = .returned (.bool r) ∧ Below w.heap.size w w' := by
 have hu64 := Try.underlying64; have HR0_0 := Qa.mk hr0_0; have HC0_0 := Qa.mk hc0_0; clear hr0_0 hc0_0; have HR0_1 := Qa.mk hr0_1; have HC0_1 := Qa.mk hc0_1; clear hr0_1 hc0_1; have BK1 := Qa.mk hb1; clear hb1; have HB := Qa.mk (Below.refl w.heap.size w); have H : ((J8.f l0_0 l0_1 a0_2 a1_0).bind fun t102 => (some (!t102))) = some r := h; clear h; obtain ⟨t102, A3, H⟩ := bi H; obtain rfl := Option.some.inj H; go_enter Try.func51, Try.ntmps51; go_wp2_with (first | (refine bx 2 #[.slice A0_0 l0_0.length c0_0, .slice A0_1 l0_1.length c0_1, .int .i64 a0_2] 64 ?_; intro gb101 hg w4 BK101 hb; have GW101 := gs HB hg; replace HB := bs HB hb; have NB1_101 := nl BK1 hg; have NB101_1 := nr BK1 hg; replace BK1 := bb BK1 hb; clear hb hg; have hnb5 := NB101_1.out; have hnc5 := NB1_101.out; obtain ⟨_, _, _, _, _, _⟩ := cf3 BK101; obtain ⟨_, _⟩ := cf1 BK1) | ((with_reducible refine gc 52 rfl ?_); refine gL 6 Try.func52 #[.agg #[.slice A0_0 l0_0.length c0_0, .slice A0_1 l0_1.length c0_1, .int .i64 a0_2], .int .i64 a1_0] ?_; (with_reducible refine (J8.calls _ _ l0_0 _ _ l0_1 a0_2 a1_0 t102 _ ?side1 ?side2 ?side3 ?side4 A3.out).mono ?_); (case side1 => exact pC (Kd.C_below HR0_0.out HB.out)); (case side2 => exact HC0_0.out); (case side3 => exact pC (Kd.C_below HR0_1.out HB.out)); (case side4 => exact HC0_1.out); rintro e w8 ⟨rfl, hb⟩; refine ⟨_, rfl, ?_⟩; replace BK1 := bb BK1 hb; replace BK101 := bb BK101 hb; replace HB := bs HB hb; clear hb)); go_ret; exact ⟨eT, pE HB⟩
set_option maxHeartbeats 4000000 in
set_option maxRecDepth 100000 in
theorem hof66.callsO (q : S64 → Option Bool) (g : Nat) (lb : Array Value) (eg : ∀ args w, (callFunc g args).run Try.prog w = .ok (.enter g args) w) (Ad : Option Addr) (c : Nat) (l : List S64) (r : Int) (w : World) (hr : Kd.C k64 w Ad l.length l)
  (hp : ∀ x ∈ l, ∀ b, q x = some b → ∀ (W : World) (B0_ : Option Addr) (d0_ : Nat) (B1_ : Option Addr) (d1_ : Nat), x.f0.length ≤ d0_ → Kd.C (Kd.int .i64) W B0_ x.f0.length x.f0 → x.f1.length ≤ d1_ → Kd.C (Kd.int .i64) W B1_ x.f1.length x.f1 → Below w.heap.size w W → Calls Try.prog g (#[.agg #[.slice B0_ x.f0.length d0_, .slice B1_ x.f1.length d1_, .int .i64 x.f2]] ++ lb) W fun e w' => e = .returned (.bool b) ∧ Below W.heap.size W w') (h : idxO q l 0 = some r) :
  Calls Try.prog 66 #[.slice Ad l.length c, .func (.func g) #[] lb] w fun e w' => e = .returned (.int .i64 r) ∧ Below w.heap.size w w' := by
 have hbig : l.length ≤ 9223372036854775807 := hr.2.1; have e0 := Lib.hid (Zx q l); have hr' := Lib.hid hr; have hp' := Lib.hid hp; have H0 : Hid (idxO q (l.drop 0) 0 = some r) := Lib.hid (by rw [List.drop_zero]; exact h); clear hr hp h; go_enter Try.func66, Try.ntmps66; go_wp2
 go_loopg [5, 8] l.length (fun gg _ s8 wr => ∃ kk : Nat, kk ≤ l.length ∧ l.length - kk ≤ gg ∧ s8 = .int .i64 kk ∧ Aside (Below w.heap.size w wr) ∧ Aside (idxO q (l.drop kk) kk = some r))
 case atStart => exact ⟨0, Nat.zero_le _, by omega, rfl, Below.refl _ w, H0.out⟩
 case round =>
  obtain ⟨kk, hkk, hg, rfl, BW, HE⟩ := hrel; by_cases hlt : kk < l.length
  ·have hltz : (kk : Int) < (l.length : Int) := by omega
   obtain ⟨ad, A0_, c0_, A1_, c1_, rfl, h0_, h1_, h2_, l0_, g0_, l1_, g1_⟩ := Xl (Kd.C_below hr'.out BW.out) (kk : Int) (by omega) (by omega); simp only [Int.toNat_natCast] at h0_ h1_ h2_; have hrd : Ql l (kk : Int) = l[kk] := by simp [Ql, List.getD_eq_getElem?_getD, List.getElem?_eq_getElem hlt]
   rw [hrd] at h0_ h1_ h2_ l0_ g0_ l1_ g1_; clear hrd; have H1 := HE.out; rw [e0.out kk hlt] at H1; obtain ⟨b, hb, H2⟩ := Option.bind_eq_some_iff.mp H1; have hcall := hp'.out l[kk] (List.getElem_mem hlt) b hb wr A0_ c0_ A1_ c1_ l0_ g0_ l1_ g1_ BW.out; generalize hy : l[kk] = y at h0_ h1_ h2_ l0_ g0_ l1_ g1_ hcall; have H2' := Lib.hid H2; clear hy H2 H1 hb
   cases b with
   | true =>
    go_wp2_with (go_at_fn g; refine hcall.mono ?_; rintro e w' ⟨rfl, hb'⟩); go_ret; refine ⟨?_, Below.trans BW.out (hb'.mono BW.out.size)⟩; have H3 := H2'.out; simp only [if_true] at H3; rw [← Option.some.inj H3]; rfl
   | false =>
    go_wp2_with (go_at_fn g; refine hcall.mono ?_; rintro e w' ⟨rfl, hb'⟩)
    go_roundg (l.length - (kk + 1))
    case measure => omega
    case rel =>
     refine ⟨kk + 1, by omega, by omega, by go_num, Below.trans BW.out (hb'.mono BW.out.size), (show Aside _ from ?_)⟩; have H3 := H2'.out; have H4 : idxO q (l.drop (kk + 1)) (kk + 1) = some r := by simpa using H3
     exact H4
  ·have hltz : ¬ (kk : Int) < (l.length : Int) := by omega
   have HK := Lib.hid (show l.length ≤ kk by omega); go_wp2; go_ret; refine ⟨?_, BW.out⟩; have H3 := HE.out; rw [List.drop_eq_nil_of_le HK.out] at H3; have H4 : some (-1 : Int) = some r := H3; rw [← Option.some.inj H4]; rfl
set_option maxHeartbeats 4000000 in
theorem hof50.callsO (q : S64 → Option Bool) (g : Nat) (lb : Array Value) (eg : ∀ args w, (callFunc g args).run Try.prog w = .ok (.enter g args) w) (Ad : Option Addr) (c : Nat) (l : List S64) (r : Bool) (w : World) (hr : Kd.C k64 w Ad l.length l)
  (hp : ∀ x ∈ l, ∀ b, q x = some b → ∀ (W : World) (B0_ : Option Addr) (d0_ : Nat) (B1_ : Option Addr) (d1_ : Nat), x.f0.length ≤ d0_ → Kd.C (Kd.int .i64) W B0_ x.f0.length x.f0 → x.f1.length ≤ d1_ → Kd.C (Kd.int .i64) W B1_ x.f1.length x.f1 → Below w.heap.size w W → Calls Try.prog g (#[.agg #[.slice B0_ x.f0.length d0_, .slice B1_ x.f1.length d1_, .int .i64 x.f2]] ++ lb) W fun e w' => e = .returned (.bool b) ∧ Below W.heap.size W w') (h : anyO q l = some r) :
  Calls Try.prog 50 #[.slice Ad l.length c, .func (.func g) #[] lb] w fun e w' => e = .returned (.bool r) ∧ Below w.heap.size w w' := by
 obtain ⟨j, h1, rfl⟩ := Zs q l 0 r h; have hcon := Lib.hid (hof66.callsO q g lb eg Ad c l j w hr hp h1); clear hr hp h1 h; go_enter Try.func50, Try.ntmps50; go_wp2_with (go_at_call 66; refine hcon.out.mono ?_; rintro e w' ⟨rfl, hb'⟩); go_ret; exact ⟨rfl, hb'⟩
def Jz.f (l : List S64) (v0_ : Int) : Option Bool := anyO (fun x => J3.f x.f0 x.f1 x.f2 v0_) l
theorem Jz.calls (Ad : Option Addr) (c : Nat) (l : List S64) (B0 : Nat) (v0_ : Int) (r : Bool) (w : World) (hr : Kd.C k64 w Ad l.length l) (hc : l.length ≤ c) (hb0 : w.heap[B0]? = some (.cells #[.int .i64 v0_] 3 (0, 0))) (h : Jz.f l v0_ = some r) :
  Calls Try.prog 50 #[.slice Ad l.length c, .func (.func 51) #[] #[.pointer (some ⟨B0, 0, none⟩)]] w fun e w' => e = .returned (.bool r) ∧ Below w.heap.size w w' :=
 hof50.callsO (fun x => J3.f x.f0 x.f1 x.f2 v0_) 51 _ (enters_of Try.func51 (by kernel_rfl) rfl) Ad c l r w hr (fun x hx b hq W B0_ d0_ B1_ d1_ lb0_ cb0_ lb1_ cb1_ hbW => by
  have hcl := J3.calls _ _ x.f0 _ _ x.f1 x.f2 B0 v0_ b W cb0_ lb0_ cb1_ lb1_ (QX hb0 hbW) hq; exact hcl) h
mutual
def Qs.j0 : Nat → List S64 → Int → List Int → Bool → Int → Option (List Int × Int)
 | 0, _, _, _, _, _ => none
 | k + 1, x1, x2, x6, x12, x102000 => if x12 = true then (some (([] : List Int), 3)) else (if (x1.length : Int) > 8 then (some (([] : List Int), 5)) else ((Jz.f x1 x102000).bind fun t110 => (if t110 = true then (some (([] : List Int), 2)) else (Qs.l0 k x1 x2 x6 x102000 0))))
def Qs.l0 : Nat → List S64 → Int → List Int → Int → Int → Option (List Int × Int)
 | 0, _, _, _, _, _ => none
 | k + 1, x1, x2, x6, x29, x30 => if x30 < x29 then (Qs.l1 k x1 x2 x6 x30 0 x29 x30 x1 (x1.length : Int) 0) else (if (x6.length : Int) = 0 then (some (([] : List Int), 9)) else (some (x6, 0)))
def Qs.l1 : Nat → List S64 → Int → List Int → Int → Int → Int → Int → List S64 → Int → Int → Option (List Int × Int)
 | 0, _, _, _, _, _, _, _, _, _, _ => none
 | k + 1, x1, x2, x6, x8, x9, x29, x30, x33, x34, x35 => if x35 < x34 then (if 0 ≤ x35 then (if x35 < (x33.length : Int) then ((Je.f k ((Ql x33 x35).f0) ((Ql x33 x35).f1) ((Ql x33 x35).f2) x8).bind fun t116 => (if t116 = ((Ql x33 x35).f2) then (if x9 > x2 then (Qs.l0 k x1 x2 x6 x29 (wrap64 (x30 + 1))) else (Qs.l1 k x1 x2 x6 x8 x9 x29 x30 x33 x34 (wrap64 (x35 + 1)))) else (if (wrap64 (x9 + 1)) > x2 then (Qs.l0 k x1 x2 x6 x29 (wrap64 (x30 + 1))) else (Qs.l1 k x1 x2 x6 x8 (wrap64 (x9 + 1)) x29 x30 x33 x34 (wrap64 (x35 + 1)))))) else (none)) else (none)) else (if x6.length < 17592186044416 then (Qs.l0 k x1 x2 (x6 ++ [x8]) x29 (wrap64 (x30 + 1))) else (none))
end
def Qs.f (k : Nat) (a0 : Int) (l1 : List S64) (a2 : Int) : Option (List Int × Int) := (Qk.f 2 12 (([a0] : List Int))).bind fun t105 => (if t105 = true then ((Qk.f 0 8 (([a2] : List Int))).bind fun t109 => (Qs.j0 k l1 a2 ([] : List Int) (!t109) a0)) else (Qs.j0 k l1 a2 ([] : List Int) (!t105) a0))
theorem Qs.mono_l : ∀ k, (∀ y0 y1 y2 y3 y4, LeO (Qs.j0 k y0 y1 y2 y3 y4) (Qs.j0 (k + 1) y0 y1 y2 y3 y4)) ∧ (∀ y0 y1 y2 y3 y4, LeO (Qs.l0 k y0 y1 y2 y3 y4) (Qs.l0 (k + 1) y0 y1 y2 y3 y4)) ∧ (∀ y0 y1 y2 y3 y4 y5 y6 y7 y8 y9, LeO (Qs.l1 k y0 y1 y2 y3 y4 y5 y6 y7 y8 y9) (Qs.l1 (k + 1) y0 y1 y2 y3 y4 y5 y6 y7 y8 y9))
 | 0 => ⟨fun _ _ _ _ _ r h => by simp [Qs.j0] at h, fun _ _ _ _ _ r h => by simp [Qs.l0] at h, fun _ _ _ _ _ _ _ _ _ _ r h => by simp [Qs.l1] at h⟩
 | k + 1 => by
  obtain ⟨ih0, ih1, ih2⟩ := Qs.mono_l k; refine ⟨?_, ?_, ?_⟩
  ·intro y0 y1 y2 y3 y4
   unfold Qs.j0
   repeat' first
   | (with_reducible exact ih0 _ _ _ _ _)
   | (with_reducible exact ih1 _ _ _ _ _)
   | (with_reducible exact ih2 _ _ _ _ _ _ _ _ _ _)
   | (with_reducible exact Je.mono _ _ _ _ _)
   | (with_reducible exact LeO.refl _)
   | (with_reducible exact LeO.none _)
   | (with_reducible refine LeO.ite ?_ ?_)
   | (with_reducible refine LeO.bind ?_ (fun _ => ?_))
  ·intro y0 y1 y2 y3 y4
   unfold Qs.l0
   repeat' first
   | (with_reducible exact ih0 _ _ _ _ _)
   | (with_reducible exact ih1 _ _ _ _ _)
   | (with_reducible exact ih2 _ _ _ _ _ _ _ _ _ _)
   | (with_reducible exact Je.mono _ _ _ _ _)
   | (with_reducible exact LeO.refl _)
   | (with_reducible exact LeO.none _)
   | (with_reducible refine LeO.ite ?_ ?_)
   | (with_reducible refine LeO.bind ?_ (fun _ => ?_))
  ·intro y0 y1 y2 y3 y4 y5 y6 y7 y8 y9
   unfold Qs.l1
   repeat' first
   | (with_reducible exact ih0 _ _ _ _ _)
   | (with_reducible exact ih1 _ _ _ _ _)
   | (with_reducible exact ih2 _ _ _ _ _ _ _ _ _ _)
   | (with_reducible exact Je.mono _ _ _ _ _)
   | (with_reducible exact LeO.refl _)
   | (with_reducible exact LeO.none _)
   | (with_reducible refine LeO.ite ?_ ?_)
   | (with_reducible refine LeO.bind ?_ (fun _ => ?_))
theorem Qs.mono : ∀ a0 a1 a2 k, LeO (Qs.f k a0 a1 a2) (Qs.f (k + 1) a0 a1 a2) := by
 intro a0 a1 a2 k; obtain ⟨ih0, ih1, ih2⟩ := Qs.mono_l k; unfold Qs.f
 repeat' first
   | (with_reducible exact ih0 _ _ _ _ _)
   | (with_reducible exact ih1 _ _ _ _ _)
   | (with_reducible exact ih2 _ _ _ _ _ _ _ _ _ _)
   | (with_reducible exact Je.mono _ _ _ _ _)
   | (with_reducible exact LeO.refl _)
   | (with_reducible exact LeO.none _)
   | (with_reducible refine LeO.ite ?_ ?_)
   | (with_reducible refine LeO.bind ?_ (fun _ => ?_))
set_option maxHeartbeats 8000000 in
set_option maxRecDepth 100000 in
theorem Qs.calls (k : Nat) (a0 : Int) (A1 : Option Addr) (c1 : Nat) (l1 : List S64) (a2 : Int) (r1 : List Int) (r2 : Int) (w : World) (hr1 : Kd.C k64 w A1 l1.length l1) (hc1 : l1.length ≤ c1) (h : Qs.f k a0 l1 a2 = some (r1, r2)) :
  Calls Try.prog 21 #[.int .i64 a0, .slice A1 l1.length c1, .int .i64 a2] w fun e w' => ∃ v0_ : Value, e = .returned (.tuple #[v0_, .int .i64 r2]) ∧ Kd.R (Kd.int .i64) 3 w' w.heap.size (fun _ => True) v0_ r1 ∧ Below w.heap.size w w' := by
 have hu64 := Try.underlying64; have HR1 := Qa.mk hr1; have HC1 := Qa.mk hc1; clear hr1 hc1; have HB := Qa.mk (Below.refl w.heap.size w); have H : ((Qk.f 2 12 (([a0] : List Int))).bind fun t105 => (if t105 = true then ((Qk.f 0 8 (([a2] : List Int))).bind fun t109 => (Qs.j0 k l1 a2 ([] : List Int) (!t109) a0)) else (Qs.j0 k l1 a2 ([] : List Int) (!t105) a0))) = some (r1, r2) := h; clear h; obtain ⟨y102, hy102⟩ : ∃ y_ : List Int, y_ = (([a0] : List Int)) := ⟨_, rfl⟩
 replace H : Option.bind (Qk.f 2 12 y102) _ = some (r1, r2) := yy hy102 H; have Ny102 := Qa.mk hy102; clear hy102; obtain ⟨t105, A4, H⟩ := bi H; have HC5 := Qa.mk H; clear H; go_enter Try.func21, Try.ntmps21
 go_upto_if 12 with (first | (with_reducible refine wp_scope_straight ?_) | (with_reducible refine wp_label ?_) | (refine bx 3 #[.int .i64 a0] 3 ?_; intro gb101 hg w6 BK101 hb; have GW101 := gs HB hg; replace HB := bs HB hb; clear hb hg; obtain ⟨hcz7_0, hfz7_0⟩ := cf1 BK101) | ((with_reducible refine gd 14 ?_); refine rL (Kd.int .i64) 3 14 ([a0] : List Int) [.int .i64 a0] (Reps.one (show Kd.M (Kd.int .i64) _ _ _ a0 [.int .i64 a0] from rfl) (Reps.none _ _)) ?_; intro v103 w8 ho9 hb; replace ho9 := yR Ny102 ho9; have HO104 := Qa.mk (Kd.R_lower (Kd.R_newB ho9 (g := gb101) (o := .cells #[.int .i64 a0] 3 (0, 0)) (pB BK101.out)) (Qr (pE HB))); replace BK101 := bb BK101 hb; replace HB := bs HB hb; clear hb ho9; obtain ⟨Ao10, co10, eo10⟩ := Kd.R_slice HO104.out; subst eo10) | ((with_reducible refine gc 7 rfl ?_); refine gL 15 Try.func7 #[.int .i64 2, .int .i64 12, .slice Ao10 y102.length co10] ?_; (with_reducible refine (Qk.calls 2 12 _ _ y102 t105 _ ?side1 ?side2 A4.out).mono ?_); (case side1 => exact pC (Kd.R_reads' HO104.out).2.2); (case side2 => exact (Kd.R_reads' HO104.out).2.1); rintro e w11 ⟨rfl, hb⟩; refine ⟨_, rfl, ?_⟩; replace HO104 := rb HO104 hb; replace BK101 := bb BK101 hb; replace HB := bs HB hb; clear hb))
 (try simp only [Act.put, List.setIfInBounds_toArray, List.set_cons_zero, List.set_cons_succ])
 go_cut [12] (fun v12 wc => ∃ (kq : Nat) (x12_4 : Bool), v12 = .bool x12_4 ∧ Qa (Qs.j0 kq l1 a2 ([] : List Int) x12_4 a0 = some (r1, r2)) ∧ Qa (kq ≤ k) ∧ Qa (Kd.R (Kd.int .i64) 3 wc w.heap.size (fun k_ => k_ ≠ gb101) (.slice none 0 0) ([] : List Int)) ∧ Qa (wc.heap[gb101]? = some (.cells #[.int .i64 a0] 3 (0, 0))) ∧ Qa (Below w.heap.size w wc))
 case first =>
  have H := HC5.out; clear HC5; by_cases c12 : t105 = true
  ·subst c12
   rw [if_pos rfl] at H; obtain ⟨y106, hy106⟩ : ∃ y_ : List Int, y_ = (([a2] : List Int)) := ⟨_, rfl⟩
   replace H : Option.bind (Qk.f 0 8 y106) _ = some (r1, r2) := yy hy106 H; have Ny106 := Qa.mk hy106; clear hy106; obtain ⟨t109, A13, H⟩ := bi H; have H' := Qa.mk H; clear H; go_wp2_with (first | (with_reducible refine wp_scope_straight ?_) | (with_reducible refine wp_label ?_) | ((with_reducible refine gd 18 ?_); refine rL (Kd.int .i64) 3 18 ([a2] : List Int) [.int .i64 a2] (Reps.one (show Kd.M (Kd.int .i64) _ _ _ a2 [.int .i64 a2] from rfl) (Reps.none _ _)) ?_; intro v107 w14 ho15 hb; replace ho15 := yR Ny106 ho15; have HO108 := Qa.mk (Kd.R_lower (Kd.R_newB (Kd.R_new' ho15 (Kd.R_lt (pR HO104.out))) (g := gb101) (o := .cells #[.int .i64 a0] 3 (0, 0)) (pB BK101.out)) (Qr (pE HB))); replace HO104 := re HO104 ho15 hb; replace BK101 := bb BK101 hb; replace HB := bs HB hb; clear hb ho15; obtain ⟨Ao16, co16, eo16⟩ := Kd.R_slice HO108.out; subst eo16) | ((with_reducible refine gc 7 rfl ?_); refine gL 19 Try.func7 #[.int .i64 0, .int .i64 8, .slice Ao16 y106.length co16] ?_; (with_reducible refine (Qk.calls 0 8 _ _ y106 t109 _ ?side1 ?side2 A13.out).mono ?_); (case side1 => exact pC (Kd.R_reads' HO108.out).2.2); (case side2 => exact (Kd.R_reads' HO108.out).2.1); rintro e w17 ⟨rfl, hb⟩; refine ⟨_, rfl, ?_⟩; replace HO104 := rb HO104 hb; replace HO108 := rb HO108 hb; replace BK101 := bb BK101 hb; replace HB := bs HB hb; clear hb))
   go_meet
   case rel => exact ⟨_, (!t109), eS, H', ⟨by first | omega | exact Nat.le_refl _⟩, ⟨nn_⟩, ⟨pB BK101.out⟩, ⟨pE HB⟩⟩
  ·replace c12 := Bool.eq_false_iff.mpr c12
   subst c12; rw [if_neg (show ¬ (false = true) by decide)] at H; have H' := Qa.mk H; clear H; go_wp2_with (first | (with_reducible refine wp_scope_straight ?_) | (with_reducible refine wp_label ?_))
   go_meet
   case rel => exact ⟨_, (!false), eS, H', ⟨by first | omega | exact Nat.le_refl _⟩, ⟨nn_⟩, ⟨pB BK101.out⟩, ⟨pE HB⟩⟩
 case rest =>
  clear HC5; try clear c1
  try clear p2
  try clear c4
  try clear c6
  try clear c12
  try clear hcz7_0
  try clear hfz7_0
  obtain ⟨kq, x12_4, rfl, HA, HJ4, HO_6, BK101, HB⟩ := hcut
  cases kq with
  | zero => exact absurd HA.out (by simp [Qs.j0])
  | succ kj4 =>
   have H := HA.out; clear HA; simp only [Qs.j0] at H; by_cases c18 : x12_4 = true
   ·subst c18
    rw [if_pos rfl] at H; simp only [Option.some.injEq, Prod.mk.injEq] at H; obtain ⟨rfl, rfl⟩ := H; go_wp2_with (first | (with_reducible refine wp_scope_straight ?_) | (with_reducible refine wp_label ?_))
    (try rw [Exit.noGoto_ret])
    go_ret2; exact ⟨_, eT, nn_, pE HB⟩
   ·replace c18 := Bool.eq_false_iff.mpr c18
    subst c18; rw [if_neg (show ¬ (false = true) by decide)] at H; by_cases c19 : (l1.length : Int) > 8
    ·rw [if_pos c19] at H
     have c19b0 : decide (8 < (l1.length : Int)) = true := decide_eq_true c19; have c19b1 : decide (8 < l1.length) = true := decide_eq_true (by omega); clear c19; simp only [Option.some.injEq, Prod.mk.injEq] at H; obtain ⟨rfl, rfl⟩ := H; go_wp2_with (first | (with_reducible refine wp_scope_straight ?_) | (with_reducible refine wp_label ?_))
     (try rw [Exit.noGoto_ret])
     go_ret2; exact ⟨_, eT, nn_, pE HB⟩
    ·rw [if_neg c19] at H
     have c19b0 : decide (8 < (l1.length : Int)) = false := decide_eq_false c19; have c19b1 : decide (8 < l1.length) = false := decide_eq_false (by omega); clear c19; obtain ⟨t110, A20, H⟩ := bi H; by_cases c21 : t110 = true
     ·subst c21
      rw [if_pos rfl] at H; simp only [Option.some.injEq, Prod.mk.injEq] at H; obtain ⟨rfl, rfl⟩ := H; go_wp2_with (first | (with_reducible refine wp_scope_straight ?_) | (with_reducible refine wp_label ?_) | ((with_reducible refine gc 50 rfl ?_); refine gL 28 Try.func50 #[.slice A1 l1.length c1, .func (.func 51) #[] #[.pointer (some ⟨gb101, 0, none⟩)]] ?_; (with_reducible refine (Jz.calls _ _ l1 gb101 a0 true _ ?side1 ?side2 ?side3 A20.out).mono ?_); (case side1 => exact pC (Kd.C_below HR1.out HB.out)); (case side2 => exact HC1.out); (case side3 => exact pB BK101.out); rintro e w22 ⟨rfl, hb⟩; refine ⟨_, rfl, ?_⟩; replace HO_6 := rb HO_6 hb; replace BK101 := bb BK101 hb; replace HB := bs HB hb; clear hb))
      (try rw [Exit.noGoto_ret])
      go_ret2; exact ⟨_, eT, nn_, pE HB⟩
     ·replace c21 := Bool.eq_false_iff.mpr c21
      subst c21; rw [if_neg (show ¬ (false = true) by decide)] at H; have H' := Qa.mk H; clear H; go_wp2_with (first | (with_reducible refine wp_scope_straight ?_) | (with_reducible refine wp_label ?_) | ((with_reducible refine gc 50 rfl ?_); refine gL 28 Try.func50 #[.slice A1 l1.length c1, .func (.func 51) #[] #[.pointer (some ⟨gb101, 0, none⟩)]] ?_; (with_reducible refine (Jz.calls _ _ l1 gb101 a0 false _ ?side1 ?side2 ?side3 A20.out).mono ?_); (case side1 => exact pC (Kd.C_below HR1.out HB.out)); (case side2 => exact HC1.out); (case side3 => exact pB BK101.out); rintro e w23 ⟨rfl, hb⟩; refine ⟨_, rfl, ?_⟩; replace HO_6 := rb HO_6 hb; replace BK101 := bb BK101 hb; replace HB := bs HB hb; clear hb; obtain ⟨hcz24_0, hfz24_0⟩ := cf1 BK101))
      go_loopg [6, 30] kj4 (fun kq v6 v30 w' => ∃ (x6_2 : List Int) (x30_2 : Int), v30 = .int .i64 x30_2 ∧ Qa (Qs.l0 kq l1 a2 x6_2 a0 x30_2 = some (r1, r2)) ∧ Qa (kq ≤ kj4) ∧ Qa (Kd.R (Kd.int .i64) 3 w' w.heap.size (fun k_ => k_ ≠ gb101) v6 x6_2) ∧ Qa (w'.heap[gb101]? = some (.cells #[.int .i64 a0] 3 (0, 0))) ∧ Qa (Below w.heap.size w w') ∧ Qa (x6_2 = [] → v6 = .slice none 0 0))
      case atStart => exact ⟨(([] : List Int)), (0), eS, H', ⟨Nat.le_refl _⟩, ⟨by (with_reducible repeat (first | apply Kd.R_alloc | apply Kd.R_drewN | apply Kd.R_drew)); exact HO_6.out⟩, ⟨pB BK101.out⟩, ⟨pE HB⟩, ⟨fun _ => by first | rfl | exact HNIL0.out⟩⟩
      case round =>
       clear H'; try clear c1
       try clear c2
       try clear p2
       try clear c4
       try clear c6
       try clear c7
       try clear c12
       try clear c18
       try clear c19
       try clear c19b0
       try clear c19b1
       try clear c21
       try clear hcz24_0
       try clear hcz7_0
       try clear hfz24_0
       try clear hfz7_0
       try clear p2
       obtain ⟨x6_2, x30_2, rfl, HA, HK2, HO_6, BK101, HB, HNIL⟩ := hrel
       cases gk with
       | zero => exact absurd HA.out (by simp [Qs.l0])
       | succ k2 =>
        have H := HA.out; clear HA; simp only [Qs.l0] at H; by_cases c25 : x30_2 < a0
        ·rw [if_pos c25] at H
         have c25b0 : decide (x30_2 < a0) = true := decide_eq_true c25; clear c25; have H' := Qa.mk H; clear H; go_wp2_with (first | (with_reducible refine wp_scope_straight ?_) | (with_reducible refine wp_label ?_))
         go_loopg [9, 35] k2 (fun kq v9 v35 w' => ∃ (x9_3 : Int) (x35_3 : Int), v9 = .int .i64 x9_3 ∧ v35 = .int .i64 x35_3 ∧ Qa (Qs.l1 kq l1 a2 x6_2 x30_2 x9_3 a0 x30_2 l1 (l1.length : Int) x35_3 = some (r1, r2)) ∧ Qa (kq ≤ k2) ∧ Qa (Kd.R (Kd.int .i64) 3 w' w.heap.size (fun k_ => k_ ≠ gb101) u6 x6_2) ∧ Qa (w'.heap[gb101]? = some (.cells #[.int .i64 a0] 3 (0, 0))) ∧ Qa (Below w.heap.size w w'))
         case atStart => exact ⟨(0), (0), eS, eS, H', ⟨Nat.le_refl _⟩, ⟨by (with_reducible repeat (first | apply Kd.R_alloc | apply Kd.R_drewN | apply Kd.R_drew)); exact HO_6.out⟩, ⟨pB BK101.out⟩, ⟨pE HB⟩⟩
         case round =>
          clear H'; try clear c1
          try clear c2
          try clear p2
          try clear c4
          try clear c6
          try clear c7
          try clear c12
          try clear c18
          try clear c19
          try clear c19b0
          try clear c19b1
          try clear c21
          try clear c25
          try clear c25b0
          try clear hcz24_0
          try clear hcz7_0
          try clear hfz24_0
          try clear hfz7_0
          try clear p2
          obtain ⟨x9_3, x35_3, rfl, rfl, HA, HK3, HO_6, BK101, HB⟩ := hrel
          cases gk with
          | zero => exact absurd HA.out (by simp [Qs.l1])
          | succ k3 =>
           have H := HA.out; clear HA; simp only [Qs.l1] at H; by_cases c26 : x35_3 < (l1.length : Int)
           ·rw [if_pos c26] at H
            have c26b0 : decide (x35_3 < (l1.length : Int)) = true := decide_eq_true c26; clear c26; by_cases c27 : 0 ≤ x35_3
            ·rw [if_pos c27] at H
             have c27b0 : decide (0 ≤ x35_3) = true := decide_eq_true c27; clear c27; by_cases c28 : x35_3 < (l1.length : Int)
             ·rw [if_pos c28] at H
              have c28b0 : decide (x35_3 < (l1.length : Int)) = true := decide_eq_true c28; clear c28; obtain ⟨t116, A29, H⟩ := bi H; by_cases c30 : t116 = ((Ql l1 x35_3).f2)
              ·rw [if_pos c30] at H
               have c30b0 : (t116 == ((Ql l1 x35_3).f2)) = true := beq_iff_eq.mpr c30; have c30b1 : (t116 != ((Ql l1 x35_3).f2)) = false := bne_eq_false_iff_eq.mpr c30; clear c30; by_cases c31 : x9_3 > a2
               ·rw [if_pos c31] at H
                have c31b0 : decide (a2 < x9_3) = true := decide_eq_true c31; clear c31; have H' := Qa.mk H; clear H; have p114 : 0 ≤ (x35_3 : Int) := dT; have q114 : x35_3 < (l1.length : Int) := dT; obtain ⟨ad114, A114_0, c114_0, A114_1, c114_1, e114, hx114_0, hx114_1, hx114_2, hl114_0, hi114_0, hl114_1, hi114_1⟩ := Xl HR1.out x35_3 p114 q114
                cases e114
                replace hx114_0 := cut_ HB hx114_0; replace hx114_1 := cut_ HB hx114_1; replace hx114_2 := cut_ HB hx114_2; have HR114_0 := Qa.mk hi114_0; have HC114_0 := Qa.mk hl114_0; clear hi114_0 hl114_0; have HR114_1 := Qa.mk hi114_1; have HC114_1 := Qa.mk hl114_1; clear hi114_1 hl114_1; replace p114 := eq_true p114; replace q114 := eq_true q114
                try go_wp2_with (first | (with_reducible refine wp_scope_straight ?_) | (with_reducible refine wp_label ?_) | (refine bx 11 #[.slice none 0 0, .slice none 0 0, .int .i64 0] 64 ?_; intro gb115 hg w32 hbox hb; replace HO_6 := rb HO_6 hb; have BK115 := hbox; have GW115 := gs HB hg; replace HB := bs HB hb; have NB101_115 := nl BK101 hg; have NB115_101 := nr BK101 hg; replace BK101 := bb BK101 hb; clear hb hg; have hnb33 := NB115_101.out; have hnc33 := NB101_115.out; obtain ⟨_, _, _, _, _, _⟩ := cf3 BK115))
                have n0_ : Qa (Kd.R (Kd.int .i64) 3 (((w32.setCell ⟨gb115, 0, none⟩ (.slice A114_0 ((Ql l1 x35_3).f0).length c114_0)).setCell ⟨gb115, 1, none⟩ (.slice A114_1 ((Ql l1 x35_3).f1).length c114_1)).setCell ⟨gb115, 2, none⟩ (.int .i64 ((Ql l1 x35_3).f2))) w.heap.size (fun k_ => k_ ≠ gb101) u6 x6_2) := ⟨by (with_reducible repeat (first | apply Kd.R_alloc | apply Kd.R_drewN | apply Kd.R_drew)); exact Kd.R_mono (Rf3 (g := gb115) (Kd.R_types HO_6.out BK115.out (by decide))) (fun _ hk => hk.1)⟩; have n1_ : Qa ((((w32.setCell ⟨gb115, 0, none⟩ (.slice A114_0 ((Ql l1 x35_3).f0).length c114_0)).setCell ⟨gb115, 1, none⟩ (.slice A114_1 ((Ql l1 x35_3).f1).length c114_1)).setCell ⟨gb115, 2, none⟩ (.int .i64 ((Ql l1 x35_3).f2))).heap[gb101]? = some (.cells #[.int .i64 a0] 3 (0, 0))) := ⟨pF BK101⟩; have n2_ : Qa ((((w32.setCell ⟨gb115, 0, none⟩ (.slice A114_0 ((Ql l1 x35_3).f0).length c114_0)).setCell ⟨gb115, 1, none⟩ (.slice A114_1 ((Ql l1 x35_3).f1).length c114_1)).setCell ⟨gb115, 2, none⟩ (.int .i64 ((Ql l1 x35_3).f2))).heap[gb115]? = some (.cells #[.slice A114_0 ((Ql l1 x35_3).f0).length c114_0, .slice A114_1 ((Ql l1 x35_3).f1).length c114_1, .int .i64 ((Ql l1 x35_3).f2)] 64 (0, 0))) := ⟨by refine pB ?_; refine Qg (cs := #[.slice A114_0 ((Ql l1 x35_3).f0).length c114_0, .slice A114_1 ((Ql l1 x35_3).f1).length c114_1, .int .i64 0]) ?_ 2 _ rfl; refine pB ?_; refine Qg (cs := #[.slice A114_0 ((Ql l1 x35_3).f0).length c114_0, .slice none 0 0, .int .i64 0]) ?_ 1 _ rfl; refine pB ?_; refine Qg (cs := #[.slice none 0 0, .slice none 0 0, .int .i64 0]) ?_ 0 _ rfl; (with_reducible repeat (first | refine Qt ?_ _ | refine Qh ?_ | refine blk_alloc ?_ _)); exact BK115.out⟩; have n3_ : Qa (Below w.heap.size w (((w32.setCell ⟨gb115, 0, none⟩ (.slice A114_0 ((Ql l1 x35_3).f0).length c114_0)).setCell ⟨gb115, 1, none⟩ (.slice A114_1 ((Ql l1 x35_3).f1).length c114_1)).setCell ⟨gb115, 2, none⟩ (.int .i64 ((Ql l1 x35_3).f2)))) := ⟨pE HB⟩
                (try clear HO_6)
                (try clear BK101)
                (try clear BK115)
                (try clear HB)
                generalize (((w32.setCell ⟨gb115, 0, none⟩ (.slice A114_0 ((Ql l1 x35_3).f0).length c114_0)).setCell ⟨gb115, 1, none⟩ (.slice A114_1 ((Ql l1 x35_3).f1).length c114_1)).setCell ⟨gb115, 2, none⟩ (.int .i64 ((Ql l1 x35_3).f2))) = w35 at n0_ n1_ n2_ n3_ ⊢; have HO_6 := n0_; have BK101 := n1_; have BK115 := n2_; have HB := n3_; clear n0_ n1_ n2_ n3_; replace HO_6 := Qa.mk (Kd.R_drew HO_6.out); replace BK101 := Qa.mk (Qh BK101.out); replace BK115 := Qa.mk (Qh BK115.out); replace HB := Qa.mk (QM HB.out); refine JS (n := 6) (S := fun w' => w'.cell? ⟨gb115, 0, none⟩ = some (.slice A114_0 ((Ql l1 x35_3).f0).length c114_0) ∧ w'.cell? ⟨gb115, 1, none⟩ = some (.slice A114_1 ((Ql l1 x35_3).f1).length c114_1) ∧ w'.cell? ⟨gb115, 2, none⟩ = some (.int .i64 ((Ql l1 x35_3).f2))) (ds := []) #[false, false, false, false, false, false] (by kernel_rfl) rfl rfl ⟨cz0 BK115, cz1 BK115, cz2 BK115⟩ (fun hHeld => ?_); generalize w35.drew = w36 at HO_6 BK101 BK115 HB hHeld ⊢; refine pu 1 40 ?_; refine pu 3 42 ?_; refine tk 0 39 hHeld ?_; refine tk 4 43 hHeld ?_; refine on 2 (fun K hK => ?_); refine gO Try.func53 #[.agg #[.slice A114_0 ((Ql l1 x35_3).f0).length c114_0, .slice A114_1 ((Ql l1 x35_3).f1).length c114_1, .int .i64 ((Ql l1 x35_3).f2)], .int .i64 x30_2] ?_
                with_reducible refine (Je.calls k3 _ _ ((Ql l1 x35_3).f0) _ _ ((Ql l1 x35_3).f1) ((Ql l1 x35_3).f2) x30_2 t116 _ ?side1 ?side2 ?side3 ?side4 A29.out).mono ?_
                (case side1 => exact pC (Kd.C_below HR114_0.out HB.out))
                (case side2 => exact HC114_0.out)
                (case side3 => exact pC (Kd.C_below HR114_1.out HB.out))
                (case side4 => exact HC114_1.out)
                rintro e w37 ⟨rfl, hb⟩; refine ⟨_, rfl, ?_⟩; replace HO_6 := rb HO_6 hb; replace BK101 := bb BK101 hb; replace BK115 := bb BK115 hb; replace HB := bs HB hb
                (try clear hb)
                (try clear hb2)
                (try clear hk)
                (try clear hi)
                refine hK.out _ _ ⟨cz0 BK115, cz1 BK115, cz2 BK115⟩ (fun hHeld => ?_); clear hK K; refine QY (a' := ?_) ?_ ?_
                rotate_left
                ·show Act.put _ (some 41) _ = _
                 simp only [Act.put, List.setIfInBounds_toArray, List.set_cons_zero, List.set_cons_succ, QR, QU]; rfl
                refine pu 5 44 ?_; refine JD (by kernel_rfl) ?_
                try go_wp2_with (first | (with_reducible refine wp_scope_straight ?_) | (with_reducible refine wp_label ?_))
                go_roundg k3
                case measure => have := HJ4.out; have := HK2.out; have := HK3.out; omega
                case rel => exact ⟨(x6_2), (wrap64 (x30_2 + 1)), eS, H', ⟨by have := HJ4.out; have := HK2.out; have := HK3.out; omega⟩, ⟨by (with_reducible repeat (first | apply Kd.R_alloc | apply Kd.R_drewN | apply Kd.R_drew)); exact HO_6.out⟩, ⟨pB BK101.out⟩, ⟨pE HB⟩, ⟨HNIL.out⟩⟩
               ·rw [if_neg c31] at H
                have c31b0 : decide (a2 < x9_3) = false := decide_eq_false c31; clear c31; have H' := Qa.mk H; clear H; have p114 : 0 ≤ (x35_3 : Int) := dT; have q114 : x35_3 < (l1.length : Int) := dT; obtain ⟨ad114, A114_0, c114_0, A114_1, c114_1, e114, hx114_0, hx114_1, hx114_2, hl114_0, hi114_0, hl114_1, hi114_1⟩ := Xl HR1.out x35_3 p114 q114
                cases e114
                replace hx114_0 := cut_ HB hx114_0; replace hx114_1 := cut_ HB hx114_1; replace hx114_2 := cut_ HB hx114_2; have HR114_0 := Qa.mk hi114_0; have HC114_0 := Qa.mk hl114_0; clear hi114_0 hl114_0; have HR114_1 := Qa.mk hi114_1; have HC114_1 := Qa.mk hl114_1; clear hi114_1 hl114_1; replace p114 := eq_true p114; replace q114 := eq_true q114
                try go_wp2_with (first | (with_reducible refine wp_scope_straight ?_) | (with_reducible refine wp_label ?_) | (refine bx 11 #[.slice none 0 0, .slice none 0 0, .int .i64 0] 64 ?_; intro gb115 hg w38 hbox hb; replace HO_6 := rb HO_6 hb; have BK115 := hbox; have GW115 := gs HB hg; replace HB := bs HB hb; have NB101_115 := nl BK101 hg; have NB115_101 := nr BK101 hg; replace BK101 := bb BK101 hb; clear hb hg; have hnb39 := NB115_101.out; have hnc39 := NB101_115.out; obtain ⟨_, _, _, _, _, _⟩ := cf3 BK115))
                have n0_ : Qa (Kd.R (Kd.int .i64) 3 (((w38.setCell ⟨gb115, 0, none⟩ (.slice A114_0 ((Ql l1 x35_3).f0).length c114_0)).setCell ⟨gb115, 1, none⟩ (.slice A114_1 ((Ql l1 x35_3).f1).length c114_1)).setCell ⟨gb115, 2, none⟩ (.int .i64 ((Ql l1 x35_3).f2))) w.heap.size (fun k_ => k_ ≠ gb101) u6 x6_2) := ⟨by (with_reducible repeat (first | apply Kd.R_alloc | apply Kd.R_drewN | apply Kd.R_drew)); exact Kd.R_mono (Rf3 (g := gb115) (Kd.R_types HO_6.out BK115.out (by decide))) (fun _ hk => hk.1)⟩; have n1_ : Qa ((((w38.setCell ⟨gb115, 0, none⟩ (.slice A114_0 ((Ql l1 x35_3).f0).length c114_0)).setCell ⟨gb115, 1, none⟩ (.slice A114_1 ((Ql l1 x35_3).f1).length c114_1)).setCell ⟨gb115, 2, none⟩ (.int .i64 ((Ql l1 x35_3).f2))).heap[gb101]? = some (.cells #[.int .i64 a0] 3 (0, 0))) := ⟨pF BK101⟩; have n2_ : Qa ((((w38.setCell ⟨gb115, 0, none⟩ (.slice A114_0 ((Ql l1 x35_3).f0).length c114_0)).setCell ⟨gb115, 1, none⟩ (.slice A114_1 ((Ql l1 x35_3).f1).length c114_1)).setCell ⟨gb115, 2, none⟩ (.int .i64 ((Ql l1 x35_3).f2))).heap[gb115]? = some (.cells #[.slice A114_0 ((Ql l1 x35_3).f0).length c114_0, .slice A114_1 ((Ql l1 x35_3).f1).length c114_1, .int .i64 ((Ql l1 x35_3).f2)] 64 (0, 0))) := ⟨by refine pB ?_; refine Qg (cs := #[.slice A114_0 ((Ql l1 x35_3).f0).length c114_0, .slice A114_1 ((Ql l1 x35_3).f1).length c114_1, .int .i64 0]) ?_ 2 _ rfl; refine pB ?_; refine Qg (cs := #[.slice A114_0 ((Ql l1 x35_3).f0).length c114_0, .slice none 0 0, .int .i64 0]) ?_ 1 _ rfl; refine pB ?_; refine Qg (cs := #[.slice none 0 0, .slice none 0 0, .int .i64 0]) ?_ 0 _ rfl; (with_reducible repeat (first | refine Qt ?_ _ | refine Qh ?_ | refine blk_alloc ?_ _)); exact BK115.out⟩; have n3_ : Qa (Below w.heap.size w (((w38.setCell ⟨gb115, 0, none⟩ (.slice A114_0 ((Ql l1 x35_3).f0).length c114_0)).setCell ⟨gb115, 1, none⟩ (.slice A114_1 ((Ql l1 x35_3).f1).length c114_1)).setCell ⟨gb115, 2, none⟩ (.int .i64 ((Ql l1 x35_3).f2)))) := ⟨pE HB⟩
                (try clear HO_6)
                (try clear BK101)
                (try clear BK115)
                (try clear HB)
                generalize (((w38.setCell ⟨gb115, 0, none⟩ (.slice A114_0 ((Ql l1 x35_3).f0).length c114_0)).setCell ⟨gb115, 1, none⟩ (.slice A114_1 ((Ql l1 x35_3).f1).length c114_1)).setCell ⟨gb115, 2, none⟩ (.int .i64 ((Ql l1 x35_3).f2))) = w41 at n0_ n1_ n2_ n3_ ⊢; have HO_6 := n0_; have BK101 := n1_; have BK115 := n2_; have HB := n3_; clear n0_ n1_ n2_ n3_; replace HO_6 := Qa.mk (Kd.R_drew HO_6.out); replace BK101 := Qa.mk (Qh BK101.out); replace BK115 := Qa.mk (Qh BK115.out); replace HB := Qa.mk (QM HB.out); refine JS (n := 6) (S := fun w' => w'.cell? ⟨gb115, 0, none⟩ = some (.slice A114_0 ((Ql l1 x35_3).f0).length c114_0) ∧ w'.cell? ⟨gb115, 1, none⟩ = some (.slice A114_1 ((Ql l1 x35_3).f1).length c114_1) ∧ w'.cell? ⟨gb115, 2, none⟩ = some (.int .i64 ((Ql l1 x35_3).f2))) (ds := []) #[false, false, false, false, false, false] (by kernel_rfl) rfl rfl ⟨cz0 BK115, cz1 BK115, cz2 BK115⟩ (fun hHeld => ?_); generalize w41.drew = w42 at HO_6 BK101 BK115 HB hHeld ⊢; refine pu 1 40 ?_; refine pu 3 42 ?_; refine tk 0 39 hHeld ?_; refine tk 4 43 hHeld ?_; refine on 2 (fun K hK => ?_); refine gO Try.func53 #[.agg #[.slice A114_0 ((Ql l1 x35_3).f0).length c114_0, .slice A114_1 ((Ql l1 x35_3).f1).length c114_1, .int .i64 ((Ql l1 x35_3).f2)], .int .i64 x30_2] ?_
                with_reducible refine (Je.calls k3 _ _ ((Ql l1 x35_3).f0) _ _ ((Ql l1 x35_3).f1) ((Ql l1 x35_3).f2) x30_2 t116 _ ?side1 ?side2 ?side3 ?side4 A29.out).mono ?_
                (case side1 => exact pC (Kd.C_below HR114_0.out HB.out))
                (case side2 => exact HC114_0.out)
                (case side3 => exact pC (Kd.C_below HR114_1.out HB.out))
                (case side4 => exact HC114_1.out)
                rintro e w43 ⟨rfl, hb⟩; refine ⟨_, rfl, ?_⟩; replace HO_6 := rb HO_6 hb; replace BK101 := bb BK101 hb; replace BK115 := bb BK115 hb; replace HB := bs HB hb
                (try clear hb)
                (try clear hb2)
                (try clear hk)
                (try clear hi)
                refine hK.out _ _ ⟨cz0 BK115, cz1 BK115, cz2 BK115⟩ (fun hHeld => ?_); clear hK K; refine QY (a' := ?_) ?_ ?_
                rotate_left
                ·show Act.put _ (some 41) _ = _
                 simp only [Act.put, List.setIfInBounds_toArray, List.set_cons_zero, List.set_cons_succ, QR, QU]; rfl
                refine pu 5 44 ?_; refine JD (by kernel_rfl) ?_
                try go_wp2_with (first | (with_reducible refine wp_scope_straight ?_) | (with_reducible refine wp_label ?_))
                go_roundg k3
                case measure => have := HJ4.out; have := HK2.out; have := HK3.out; omega
                case rel => exact ⟨(x9_3), (wrap64 (x35_3 + 1)), eS, eS, H', ⟨by have := HJ4.out; have := HK2.out; have := HK3.out; omega⟩, ⟨by (with_reducible repeat (first | apply Kd.R_alloc | apply Kd.R_drewN | apply Kd.R_drew)); exact HO_6.out⟩, ⟨pB BK101.out⟩, ⟨pE HB⟩⟩
              ·rw [if_neg c30] at H
               have c30b0 : (t116 == ((Ql l1 x35_3).f2)) = false := beq_eq_false_iff_ne.mpr c30; have c30b1 : (t116 != ((Ql l1 x35_3).f2)) = true := bne_iff_ne.mpr c30; by_cases c44 : (wrap64 (x9_3 + 1)) > a2
               ·rw [if_pos c44] at H
                have c44b0 : decide (a2 < (wrap64 (x9_3 + 1))) = true := decide_eq_true c44; clear c44; have H' := Qa.mk H; clear H; have p114 : 0 ≤ (x35_3 : Int) := dT; have q114 : x35_3 < (l1.length : Int) := dT; obtain ⟨ad114, A114_0, c114_0, A114_1, c114_1, e114, hx114_0, hx114_1, hx114_2, hl114_0, hi114_0, hl114_1, hi114_1⟩ := Xl HR1.out x35_3 p114 q114
                cases e114
                replace hx114_0 := cut_ HB hx114_0; replace hx114_1 := cut_ HB hx114_1; replace hx114_2 := cut_ HB hx114_2; have HR114_0 := Qa.mk hi114_0; have HC114_0 := Qa.mk hl114_0; clear hi114_0 hl114_0; have HR114_1 := Qa.mk hi114_1; have HC114_1 := Qa.mk hl114_1; clear hi114_1 hl114_1; replace p114 := eq_true p114; replace q114 := eq_true q114
                try go_wp2_with (first | (with_reducible refine wp_scope_straight ?_) | (with_reducible refine wp_label ?_) | (refine bx 11 #[.slice none 0 0, .slice none 0 0, .int .i64 0] 64 ?_; intro gb115 hg w45 hbox hb; replace HO_6 := rb HO_6 hb; have BK115 := hbox; have GW115 := gs HB hg; replace HB := bs HB hb; have NB101_115 := nl BK101 hg; have NB115_101 := nr BK101 hg; replace BK101 := bb BK101 hb; clear hb hg; have hnb46 := NB115_101.out; have hnc46 := NB101_115.out; obtain ⟨_, _, _, _, _, _⟩ := cf3 BK115))
                have n0_ : Qa (Kd.R (Kd.int .i64) 3 (((w45.setCell ⟨gb115, 0, none⟩ (.slice A114_0 ((Ql l1 x35_3).f0).length c114_0)).setCell ⟨gb115, 1, none⟩ (.slice A114_1 ((Ql l1 x35_3).f1).length c114_1)).setCell ⟨gb115, 2, none⟩ (.int .i64 ((Ql l1 x35_3).f2))) w.heap.size (fun k_ => k_ ≠ gb101) u6 x6_2) := ⟨by (with_reducible repeat (first | apply Kd.R_alloc | apply Kd.R_drewN | apply Kd.R_drew)); exact Kd.R_mono (Rf3 (g := gb115) (Kd.R_types HO_6.out BK115.out (by decide))) (fun _ hk => hk.1)⟩; have n1_ : Qa ((((w45.setCell ⟨gb115, 0, none⟩ (.slice A114_0 ((Ql l1 x35_3).f0).length c114_0)).setCell ⟨gb115, 1, none⟩ (.slice A114_1 ((Ql l1 x35_3).f1).length c114_1)).setCell ⟨gb115, 2, none⟩ (.int .i64 ((Ql l1 x35_3).f2))).heap[gb101]? = some (.cells #[.int .i64 a0] 3 (0, 0))) := ⟨pF BK101⟩; have n2_ : Qa ((((w45.setCell ⟨gb115, 0, none⟩ (.slice A114_0 ((Ql l1 x35_3).f0).length c114_0)).setCell ⟨gb115, 1, none⟩ (.slice A114_1 ((Ql l1 x35_3).f1).length c114_1)).setCell ⟨gb115, 2, none⟩ (.int .i64 ((Ql l1 x35_3).f2))).heap[gb115]? = some (.cells #[.slice A114_0 ((Ql l1 x35_3).f0).length c114_0, .slice A114_1 ((Ql l1 x35_3).f1).length c114_1, .int .i64 ((Ql l1 x35_3).f2)] 64 (0, 0))) := ⟨by refine pB ?_; refine Qg (cs := #[.slice A114_0 ((Ql l1 x35_3).f0).length c114_0, .slice A114_1 ((Ql l1 x35_3).f1).length c114_1, .int .i64 0]) ?_ 2 _ rfl; refine pB ?_; refine Qg (cs := #[.slice A114_0 ((Ql l1 x35_3).f0).length c114_0, .slice none 0 0, .int .i64 0]) ?_ 1 _ rfl; refine pB ?_; refine Qg (cs := #[.slice none 0 0, .slice none 0 0, .int .i64 0]) ?_ 0 _ rfl; (with_reducible repeat (first | refine Qt ?_ _ | refine Qh ?_ | refine blk_alloc ?_ _)); exact BK115.out⟩; have n3_ : Qa (Below w.heap.size w (((w45.setCell ⟨gb115, 0, none⟩ (.slice A114_0 ((Ql l1 x35_3).f0).length c114_0)).setCell ⟨gb115, 1, none⟩ (.slice A114_1 ((Ql l1 x35_3).f1).length c114_1)).setCell ⟨gb115, 2, none⟩ (.int .i64 ((Ql l1 x35_3).f2)))) := ⟨pE HB⟩
                (try clear HO_6)
                (try clear BK101)
                (try clear BK115)
                (try clear HB)
                generalize (((w45.setCell ⟨gb115, 0, none⟩ (.slice A114_0 ((Ql l1 x35_3).f0).length c114_0)).setCell ⟨gb115, 1, none⟩ (.slice A114_1 ((Ql l1 x35_3).f1).length c114_1)).setCell ⟨gb115, 2, none⟩ (.int .i64 ((Ql l1 x35_3).f2))) = w48 at n0_ n1_ n2_ n3_ ⊢; have HO_6 := n0_; have BK101 := n1_; have BK115 := n2_; have HB := n3_; clear n0_ n1_ n2_ n3_; replace HO_6 := Qa.mk (Kd.R_drew HO_6.out); replace BK101 := Qa.mk (Qh BK101.out); replace BK115 := Qa.mk (Qh BK115.out); replace HB := Qa.mk (QM HB.out); refine JS (n := 6) (S := fun w' => w'.cell? ⟨gb115, 0, none⟩ = some (.slice A114_0 ((Ql l1 x35_3).f0).length c114_0) ∧ w'.cell? ⟨gb115, 1, none⟩ = some (.slice A114_1 ((Ql l1 x35_3).f1).length c114_1) ∧ w'.cell? ⟨gb115, 2, none⟩ = some (.int .i64 ((Ql l1 x35_3).f2))) (ds := []) #[false, false, false, false, false, false] (by kernel_rfl) rfl rfl ⟨cz0 BK115, cz1 BK115, cz2 BK115⟩ (fun hHeld => ?_); generalize w48.drew = w49 at HO_6 BK101 BK115 HB hHeld ⊢; refine pu 1 40 ?_; refine pu 3 42 ?_; refine tk 0 39 hHeld ?_; refine tk 4 43 hHeld ?_; refine on 2 (fun K hK => ?_); refine gO Try.func53 #[.agg #[.slice A114_0 ((Ql l1 x35_3).f0).length c114_0, .slice A114_1 ((Ql l1 x35_3).f1).length c114_1, .int .i64 ((Ql l1 x35_3).f2)], .int .i64 x30_2] ?_
                with_reducible refine (Je.calls k3 _ _ ((Ql l1 x35_3).f0) _ _ ((Ql l1 x35_3).f1) ((Ql l1 x35_3).f2) x30_2 t116 _ ?side1 ?side2 ?side3 ?side4 A29.out).mono ?_
                (case side1 => exact pC (Kd.C_below HR114_0.out HB.out))
                (case side2 => exact HC114_0.out)
                (case side3 => exact pC (Kd.C_below HR114_1.out HB.out))
                (case side4 => exact HC114_1.out)
                rintro e w50 ⟨rfl, hb⟩; refine ⟨_, rfl, ?_⟩; replace HO_6 := rb HO_6 hb; replace BK101 := bb BK101 hb; replace BK115 := bb BK115 hb; replace HB := bs HB hb
                (try clear hb)
                (try clear hb2)
                (try clear hk)
                (try clear hi)
                refine hK.out _ _ ⟨cz0 BK115, cz1 BK115, cz2 BK115⟩ (fun hHeld => ?_); clear hK K; refine QY (a' := ?_) ?_ ?_
                rotate_left
                ·show Act.put _ (some 41) _ = _
                 simp only [Act.put, List.setIfInBounds_toArray, List.set_cons_zero, List.set_cons_succ, QR, QU]; rfl
                refine pu 5 44 ?_; refine JD (by kernel_rfl) ?_
                try go_wp2_with (first | (with_reducible refine wp_scope_straight ?_) | (with_reducible refine wp_label ?_))
                go_roundg k3
                case measure => have := HJ4.out; have := HK2.out; have := HK3.out; omega
                case rel => exact ⟨(x6_2), (wrap64 (x30_2 + 1)), eS, H', ⟨by have := HJ4.out; have := HK2.out; have := HK3.out; omega⟩, ⟨by (with_reducible repeat (first | apply Kd.R_alloc | apply Kd.R_drewN | apply Kd.R_drew)); exact HO_6.out⟩, ⟨pB BK101.out⟩, ⟨pE HB⟩, ⟨HNIL.out⟩⟩
               ·rw [if_neg c44] at H
                have c44b0 : decide (a2 < (wrap64 (x9_3 + 1))) = false := decide_eq_false c44; clear c44; have H' := Qa.mk H; clear H; have p114 : 0 ≤ (x35_3 : Int) := dT; have q114 : x35_3 < (l1.length : Int) := dT; obtain ⟨ad114, A114_0, c114_0, A114_1, c114_1, e114, hx114_0, hx114_1, hx114_2, hl114_0, hi114_0, hl114_1, hi114_1⟩ := Xl HR1.out x35_3 p114 q114
                cases e114
                replace hx114_0 := cut_ HB hx114_0; replace hx114_1 := cut_ HB hx114_1; replace hx114_2 := cut_ HB hx114_2; have HR114_0 := Qa.mk hi114_0; have HC114_0 := Qa.mk hl114_0; clear hi114_0 hl114_0; have HR114_1 := Qa.mk hi114_1; have HC114_1 := Qa.mk hl114_1; clear hi114_1 hl114_1; replace p114 := eq_true p114; replace q114 := eq_true q114
                try go_wp2_with (first | (with_reducible refine wp_scope_straight ?_) | (with_reducible refine wp_label ?_) | (refine bx 11 #[.slice none 0 0, .slice none 0 0, .int .i64 0] 64 ?_; intro gb115 hg w51 hbox hb; replace HO_6 := rb HO_6 hb; have BK115 := hbox; have GW115 := gs HB hg; replace HB := bs HB hb; have NB101_115 := nl BK101 hg; have NB115_101 := nr BK101 hg; replace BK101 := bb BK101 hb; clear hb hg; have hnb52 := NB115_101.out; have hnc52 := NB101_115.out; obtain ⟨_, _, _, _, _, _⟩ := cf3 BK115))
                have n0_ : Qa (Kd.R (Kd.int .i64) 3 (((w51.setCell ⟨gb115, 0, none⟩ (.slice A114_0 ((Ql l1 x35_3).f0).length c114_0)).setCell ⟨gb115, 1, none⟩ (.slice A114_1 ((Ql l1 x35_3).f1).length c114_1)).setCell ⟨gb115, 2, none⟩ (.int .i64 ((Ql l1 x35_3).f2))) w.heap.size (fun k_ => k_ ≠ gb101) u6 x6_2) := ⟨by (with_reducible repeat (first | apply Kd.R_alloc | apply Kd.R_drewN | apply Kd.R_drew)); exact Kd.R_mono (Rf3 (g := gb115) (Kd.R_types HO_6.out BK115.out (by decide))) (fun _ hk => hk.1)⟩; have n1_ : Qa ((((w51.setCell ⟨gb115, 0, none⟩ (.slice A114_0 ((Ql l1 x35_3).f0).length c114_0)).setCell ⟨gb115, 1, none⟩ (.slice A114_1 ((Ql l1 x35_3).f1).length c114_1)).setCell ⟨gb115, 2, none⟩ (.int .i64 ((Ql l1 x35_3).f2))).heap[gb101]? = some (.cells #[.int .i64 a0] 3 (0, 0))) := ⟨pF BK101⟩; have n2_ : Qa ((((w51.setCell ⟨gb115, 0, none⟩ (.slice A114_0 ((Ql l1 x35_3).f0).length c114_0)).setCell ⟨gb115, 1, none⟩ (.slice A114_1 ((Ql l1 x35_3).f1).length c114_1)).setCell ⟨gb115, 2, none⟩ (.int .i64 ((Ql l1 x35_3).f2))).heap[gb115]? = some (.cells #[.slice A114_0 ((Ql l1 x35_3).f0).length c114_0, .slice A114_1 ((Ql l1 x35_3).f1).length c114_1, .int .i64 ((Ql l1 x35_3).f2)] 64 (0, 0))) := ⟨by refine pB ?_; refine Qg (cs := #[.slice A114_0 ((Ql l1 x35_3).f0).length c114_0, .slice A114_1 ((Ql l1 x35_3).f1).length c114_1, .int .i64 0]) ?_ 2 _ rfl; refine pB ?_; refine Qg (cs := #[.slice A114_0 ((Ql l1 x35_3).f0).length c114_0, .slice none 0 0, .int .i64 0]) ?_ 1 _ rfl; refine pB ?_; refine Qg (cs := #[.slice none 0 0, .slice none 0 0, .int .i64 0]) ?_ 0 _ rfl; (with_reducible repeat (first | refine Qt ?_ _ | refine Qh ?_ | refine blk_alloc ?_ _)); exact BK115.out⟩; have n3_ : Qa (Below w.heap.size w (((w51.setCell ⟨gb115, 0, none⟩ (.slice A114_0 ((Ql l1 x35_3).f0).length c114_0)).setCell ⟨gb115, 1, none⟩ (.slice A114_1 ((Ql l1 x35_3).f1).length c114_1)).setCell ⟨gb115, 2, none⟩ (.int .i64 ((Ql l1 x35_3).f2)))) := ⟨pE HB⟩
                (try clear HO_6)
                (try clear BK101)
                (try clear BK115)
                (try clear HB)
                generalize (((w51.setCell ⟨gb115, 0, none⟩ (.slice A114_0 ((Ql l1 x35_3).f0).length c114_0)).setCell ⟨gb115, 1, none⟩ (.slice A114_1 ((Ql l1 x35_3).f1).length c114_1)).setCell ⟨gb115, 2, none⟩ (.int .i64 ((Ql l1 x35_3).f2))) = w54 at n0_ n1_ n2_ n3_ ⊢; have HO_6 := n0_; have BK101 := n1_; have BK115 := n2_; have HB := n3_; clear n0_ n1_ n2_ n3_; replace HO_6 := Qa.mk (Kd.R_drew HO_6.out); replace BK101 := Qa.mk (Qh BK101.out); replace BK115 := Qa.mk (Qh BK115.out); replace HB := Qa.mk (QM HB.out); refine JS (n := 6) (S := fun w' => w'.cell? ⟨gb115, 0, none⟩ = some (.slice A114_0 ((Ql l1 x35_3).f0).length c114_0) ∧ w'.cell? ⟨gb115, 1, none⟩ = some (.slice A114_1 ((Ql l1 x35_3).f1).length c114_1) ∧ w'.cell? ⟨gb115, 2, none⟩ = some (.int .i64 ((Ql l1 x35_3).f2))) (ds := []) #[false, false, false, false, false, false] (by kernel_rfl) rfl rfl ⟨cz0 BK115, cz1 BK115, cz2 BK115⟩ (fun hHeld => ?_); generalize w54.drew = w55 at HO_6 BK101 BK115 HB hHeld ⊢; refine pu 1 40 ?_; refine pu 3 42 ?_; refine tk 0 39 hHeld ?_; refine tk 4 43 hHeld ?_; refine on 2 (fun K hK => ?_); refine gO Try.func53 #[.agg #[.slice A114_0 ((Ql l1 x35_3).f0).length c114_0, .slice A114_1 ((Ql l1 x35_3).f1).length c114_1, .int .i64 ((Ql l1 x35_3).f2)], .int .i64 x30_2] ?_
                with_reducible refine (Je.calls k3 _ _ ((Ql l1 x35_3).f0) _ _ ((Ql l1 x35_3).f1) ((Ql l1 x35_3).f2) x30_2 t116 _ ?side1 ?side2 ?side3 ?side4 A29.out).mono ?_
                (case side1 => exact pC (Kd.C_below HR114_0.out HB.out))
                (case side2 => exact HC114_0.out)
                (case side3 => exact pC (Kd.C_below HR114_1.out HB.out))
                (case side4 => exact HC114_1.out)
                rintro e w56 ⟨rfl, hb⟩; refine ⟨_, rfl, ?_⟩; replace HO_6 := rb HO_6 hb; replace BK101 := bb BK101 hb; replace BK115 := bb BK115 hb; replace HB := bs HB hb
                (try clear hb)
                (try clear hb2)
                (try clear hk)
                (try clear hi)
                refine hK.out _ _ ⟨cz0 BK115, cz1 BK115, cz2 BK115⟩ (fun hHeld => ?_); clear hK K; refine QY (a' := ?_) ?_ ?_
                rotate_left
                ·show Act.put _ (some 41) _ = _
                 simp only [Act.put, List.setIfInBounds_toArray, List.set_cons_zero, List.set_cons_succ, QR, QU]; rfl
                refine pu 5 44 ?_; refine JD (by kernel_rfl) ?_
                try go_wp2_with (first | (with_reducible refine wp_scope_straight ?_) | (with_reducible refine wp_label ?_))
                go_roundg k3
                case measure => have := HJ4.out; have := HK2.out; have := HK3.out; omega
                case rel => exact ⟨(wrap64 (x9_3 + 1)), (wrap64 (x35_3 + 1)), eS, eS, H', ⟨by have := HJ4.out; have := HK2.out; have := HK3.out; omega⟩, ⟨by (with_reducible repeat (first | apply Kd.R_alloc | apply Kd.R_drewN | apply Kd.R_drew)); exact HO_6.out⟩, ⟨pB BK101.out⟩, ⟨pE HB⟩⟩
             ·rw [if_neg c28] at H
              exact absurd H (by simp)
            ·rw [if_neg c27] at H
             exact absurd H (by simp)
           ·rw [if_neg c26] at H
            have c26b0 : decide (x35_3 < (l1.length : Int)) = false := decide_eq_false c26; clear c26; by_cases c57 : x6_2.length < 17592186044416
            ·rw [if_pos c57] at H
             have LMc57 := Qa.mk c57; clear c57; obtain ⟨y111, hy111⟩ : ∃ y_ : List Int, y_ = (x6_2 ++ [x30_2]) := ⟨_, rfl⟩
             replace H : (Qs.l0 k3 l1 a2 y111 a0 (wrap64 (x30_2 + 1))) = some (r1, r2) := yy hy111 H; have Ny111 := Qa.mk hy111; clear hy111; have H' := Qa.mk H; clear H; go_wp2_with (first | (with_reducible refine wp_scope_straight ?_) | (with_reducible refine wp_label ?_) | ((with_reducible refine JA (b := .append) (xs := #[.tmp 51, .tmp 53]) rfl ?_); at_builtin; refine Kd.R_append (Kd.int .i64) (w0 := w) w.heap.size rfl (.tmp 51) (.tmp 53) 24 3 (.int .i64 0) 8 rfl Try.underlying24 J5 rfl (by decide) (by omega) u6 x6_2 x30_2 [.int .i64 x30_2] (fun k_ => k_ ≠ gb101) (fun _ => False) rfl rfl ?aP (fun _ hk => hk.elim) ?aF ?aO ?aB ?aS ?aL ?_; (case aP => exact rfl); (case aB => exact (pE HB)); (case aF => exact (fun k_ hk => Kd.freshB (g := gb101) (o := .cells #[.int .i64 a0] 3 (0, 0)) (pB BK101.out) k_ hk)); (case aO => exact (pR HO_6.out)); (case aS => exact (Qr (pE HB))); (case aL => have := LMc57.out; omega); intro v112 w58 ho hb hg hat; rw [← Ny111.out] at ho; replace BK101 := Qa.mk (Ja (g := gb101) (o := .cells #[.int .i64 a0] 3 (0, 0)) (pB BK101.out) hg (Kd.R_away HO_6.out (fun _ hk => hk))); replace HB := Qa.mk (hb); have HO113 := Qa.mk (ho); clear HO_6; clear ho hb hg hat))
             go_roundg k3
             case measure => have := HJ4.out; have := HK2.out; have := HK3.out; omega
             case rel => exact ⟨(y111), (wrap64 (x30_2 + 1)), eS, H', ⟨by have := HJ4.out; have := HK2.out; have := HK3.out; omega⟩, ⟨by (with_reducible repeat (first | apply Kd.R_alloc | apply Kd.R_drewN | apply Kd.R_drew)); exact HO113.out⟩, ⟨pB BK101.out⟩, ⟨pE HB⟩, ⟨fun e_ => by rw [Ny111.out] at e_; simp at e_⟩⟩
            ·rw [if_neg c57] at H
             exact absurd H (by simp)
        ·rw [if_neg c25] at H
         have c25b0 : decide (x30_2 < a0) = false := decide_eq_false c25; clear c25; by_cases c59 : (x6_2.length : Int) = 0
         ·rw [if_pos c59] at H
          have c59b0 : ((x6_2.length : Int) == 0) = true := beq_iff_eq.mpr c59; have c59b1 : ((x6_2.length : Int) != 0) = false := bne_eq_false_iff_eq.mpr c59; simp only [Option.some.injEq, Prod.mk.injEq] at H; obtain ⟨rfl, rfl⟩ := H; obtain rfl : x6_2 = [] := List.eq_nil_of_length_eq_zero (by omega); obtain rfl := HNIL.out rfl; clear c59; have hnl := fun (w_ : World) => Lib.run_eql_slice_nil_nil (P := Try.prog) w_ (t := 24) 0 0 Try.underlying24
          go_wp2_with (first | (with_reducible refine wp_scope_straight ?_) | (with_reducible refine wp_label ?_))
          (try rw [Exit.noGoto_ret])
          go_ret2; exact ⟨_, eT, nn_, pE HB⟩
         ·rw [if_neg c59] at H
          have c59b0 : ((x6_2.length : Int) == 0) = false := beq_eq_false_iff_ne.mpr c59; have c59b1 : ((x6_2.length : Int) != 0) = true := bne_iff_ne.mpr c59; have c59b2 : ¬ (x6_2 = []) := fun h_ => c59 (by rw [h_]; rfl)
          simp only [Option.some.injEq, Prod.mk.injEq] at H; obtain ⟨rfl, rfl⟩ := H; obtain ⟨go9, co9, eo9, _, _, _⟩ := Kd.R_form HO_6.out (by omega); subst eo9; clear c59; have hnl := fun (w_ : World) (n_ c_ : Nat) => Lib.run_eql_slice_nil (P := Try.prog) w_ 24 3 (some ⟨go9, 0, none⟩) n_ c_ 0 0 Try.underlying24
          go_wp2_with (first | (with_reducible refine wp_scope_straight ?_) | (with_reducible refine wp_label ?_))
          (try rw [Exit.noGoto_ret])
          go_ret2; exact ⟨_, eT, by (with_reducible repeat (first | apply Kd.R_alloc | apply Kd.R_drewN | apply Kd.R_drew)); exact Kd.R_mono HO_6.out (fun _ hk => trivial), pE HB⟩
def QT.l0 : Nat → Int → Int → Option (Int × Int)
 | 0, _, _ => none
 | k + 1, x4, x7 => if x7 > 1 then (QT.l0 k (wrap64 (x4 + 1)) (wrap64 (Int.tdiv (wrap64 (x7 + 2)) 3))) else (some (x4, 0))
def QT.f (k : Nat) (a0 : Int) (l1 : List S64) : Option (Int × Int) := (Qs.f k a0 l1 0).bind fun bt101 => (if bt101.2 = 0 then (QT.l0 k 0 (bt101.1.length : Int)) else (some (0, bt101.2)))
theorem QT.mono_l : ∀ k, (∀ y0 y1, LeO (QT.l0 k y0 y1) (QT.l0 (k + 1) y0 y1))
 | 0 => fun _ _ r h => by simp [QT.l0] at h
 | k + 1 => by
  have ih0 := QT.mono_l k
  ·intro y0 y1
   unfold QT.l0
   repeat' first
   | (with_reducible exact ih0 _ _)
   | (with_reducible exact Qs.mono _ _ _ _)
   | (with_reducible exact LeO.refl _)
   | (with_reducible exact LeO.none _)
   | (with_reducible refine LeO.ite ?_ ?_)
   | (with_reducible refine LeO.bind ?_ (fun _ => ?_))
theorem QT.mono : ∀ a0 a1 k, LeO (QT.f k a0 a1) (QT.f (k + 1) a0 a1) := by
 intro a0 a1 k; have ih0 := QT.mono_l k; unfold QT.f
 repeat' first
   | (with_reducible exact ih0 _ _)
   | (with_reducible exact Qs.mono _ _ _ _)
   | (with_reducible exact LeO.refl _)
   | (with_reducible exact LeO.none _)
   | (with_reducible refine LeO.ite ?_ ?_)
   | (with_reducible refine LeO.bind ?_ (fun _ => ?_))
set_option maxHeartbeats 8000000 in
set_option maxRecDepth 100000 in
theorem QT.calls (k : Nat) (a0 : Int) (A1 : Option Addr) (c1 : Nat) (l1 : List S64) (r1 r2 : Int) (w : World) (hr1 : Kd.C k64 w A1 l1.length l1) (hc1 : l1.length ≤ c1) (h : QT.f k a0 l1 = some (r1, r2)) :
  Calls Try.prog 23 #[.int .i64 a0, .slice A1 l1.length c1] w fun e w' => e = .returned (.tuple #[.int .i64 r1, .int .i64 r2]) ∧ Below w.heap.size w w' := by
 have HR1 := Qa.mk hr1; have HC1 := Qa.mk hc1; clear hr1 hc1; have HB := Qa.mk (Below.refl w.heap.size w); have H : ((Qs.f k a0 l1 0).bind fun bt101 => (if bt101.2 = 0 then (QT.l0 k 0 (bt101.1.length : Int)) else (some (0, bt101.2)))) = some (r1, r2) := h; clear h; obtain ⟨⟨t101, t102⟩, A3, H⟩ := bi H; by_cases c4 : t102 = 0
 ·rw [if_pos c4] at H
  have c4b0 : (t102 == 0) = true := beq_iff_eq.mpr c4; have c4b1 : (t102 != 0) = false := bne_eq_false_iff_eq.mpr c4; clear c4; have H' := Qa.mk H; clear H; go_enter Try.func23, Try.ntmps23; go_wp2_with (first | ((with_reducible refine gc 21 rfl ?_); refine gL 11 Try.func21 #[.int .i64 a0, .slice A1 l1.length c1, .int .i64 0] ?_; (with_reducible refine (Qs.calls k a0 _ _ l1 0 t101 t102 _ ?side1 ?side2 A3.out).mono ?_); (case side1 => exact pC HR1.out); (case side2 => exact HC1.out); rintro e w5 ⟨v103, rfl, ho0, hb⟩; refine ⟨_, rfl, ?_⟩; have HO104 := rl ho0 HB; replace HB := bs HB hb; clear hb ho0; obtain ⟨Ao6, co6, eo6⟩ := Kd.R_slice HO104.out; subst eo6))
  go_loopg [4, 7] k (fun kq v4 v7 w' => ∃ (x4_1 : Int) (x7_1 : Int), v4 = .int .i64 x4_1 ∧ v7 = .int .i64 x7_1 ∧ Qa (QT.l0 kq x4_1 x7_1 = some (r1, r2)) ∧ Qa (kq ≤ k) ∧ Qa (Below w.heap.size w w'))
  case atStart => exact ⟨(0), ((t101.length : Int)), eS, eS, H', ⟨Nat.le_refl _⟩, ⟨pE HB⟩⟩
  case round =>
   clear H'; try clear c1
   try clear p2
   try clear c4
   try clear c4b0
   try clear c4b1
   obtain ⟨x4_1, x7_1, rfl, rfl, HA, HK1, HB⟩ := hrel
   cases gk with
   | zero => exact absurd HA.out (by simp [QT.l0])
   | succ k1 =>
    have H := HA.out; clear HA; simp only [QT.l0] at H; by_cases c7 : x7_1 > 1
    ·rw [if_pos c7] at H
     have c7b0 : decide (1 < x7_1) = true := decide_eq_true c7; clear c7; have H' := Qa.mk H; clear H; go_wp2
     go_roundg k1
     case measure => have := HK1.out; omega
     case rel => exact ⟨(wrap64 (x4_1 + 1)), (wrap64 (Int.tdiv (wrap64 (x7_1 + 2)) 3)), eS, eS, H', ⟨by have := HK1.out; omega⟩, ⟨pE HB⟩⟩
    ·rw [if_neg c7] at H
     have c7b0 : decide (1 < x7_1) = false := decide_eq_false c7; clear c7; simp only [Option.some.injEq, Prod.mk.injEq] at H; obtain ⟨rfl, rfl⟩ := H; go_wp2; go_ret2; exact ⟨eT, pE HB⟩
 ·rw [if_neg c4] at H
  have c4b0 : (t102 == 0) = false := beq_eq_false_iff_ne.mpr c4; have c4b1 : (t102 != 0) = true := bne_iff_ne.mpr c4; simp only [Option.some.injEq, Prod.mk.injEq] at H; obtain ⟨rfl, rfl⟩ := H; go_enter Try.func23, Try.ntmps23; go_wp2_with (first | ((with_reducible refine gc 21 rfl ?_); refine gL 11 Try.func21 #[.int .i64 a0, .slice A1 l1.length c1, .int .i64 0] ?_; (with_reducible refine (Qs.calls k a0 _ _ l1 0 t101 t102 _ ?side1 ?side2 A3.out).mono ?_); (case side1 => exact pC HR1.out); (case side2 => exact HC1.out); rintro e w8 ⟨v103, rfl, ho0, hb⟩; refine ⟨_, rfl, ?_⟩; have HO104 := rl ho0 HB; replace HB := bs HB hb; clear hb ho0)); go_ret2; exact ⟨eT, pE HB⟩
def J9.f (a0 a1 a2_0 : Int) (l3_0 : List Int) (a4_0 : Int) : Option Int := if 0 ≤ a1 then (if a1 < (l3_0.length : Int) then (if a4_0 = 0 then (none) else (if 0 ≤ a0 then (if a0 < (l3_0.length : Int) then (some (wrap64 ((Int.tmod (wrap64 (a2_0 * (rd l3_0 a1))) a4_0) - (Int.tmod (wrap64 (a2_0 * (rd l3_0 a0))) a4_0)))) else (none)) else (none))) else (none)) else (none)
set_option maxHeartbeats 8000000 in
set_option maxRecDepth 100000 in
theorem J9.calls (a0 a1 : Int) (B2 : Nat) (a2_0 : Int) (B3 : Nat) (A3_0 : Option Addr) (c3_0 : Nat) (l3_0 : List Int) (B4 : Nat) (a4_0 r : Int) (w : World) (hb2 : w.heap[B2]? = some (.cells #[.int .i64 a2_0] 3 (0, 0))) (hb3 : w.heap[B3]? = some (.cells #[.slice A3_0 l3_0.length c3_0] 24 (0, 0))) (nb2_3 : B2 ≠ B3) (hr3_0 : Kd.C (Kd.int .i64) w A3_0 l3_0.length l3_0) (hc3_0 : l3_0.length ≤ c3_0) (hb4 : w.heap[B4]? = some (.cells #[.int .i64 a4_0] 3 (0, 0))) (nb2_4 : B2 ≠ B4) (nb3_4 : B3 ≠ B4) (h : J9.f a0 a1 a2_0 l3_0 a4_0 = some r) :
  Calls Try.prog 10 #[.int .i64 a0, .int .i64 a1, .pointer (some ⟨B2, 0, none⟩), .pointer (some ⟨B3, 0, none⟩), .pointer (some ⟨B4, 0, none⟩)] w fun e w' => e = .returned (.int .i64 r) ∧ JB w w' := by
 have HR3_0 := Qa.mk hr3_0; have HC3_0 := Qa.mk hc3_0; clear hr3_0 hc3_0; have BK2 := Qa.mk hb2; clear hb2; have BK3 := Qa.mk hb3; clear hb3; have NB2_3 := Qa.mk nb2_3; have NB3_2 := Qa.mk nb2_3.symm; clear nb2_3; have BK4 := Qa.mk hb4; clear hb4; have NB2_4 := Qa.mk nb2_4; have NB4_2 := Qa.mk nb2_4.symm; clear nb2_4; have NB3_4 := Qa.mk nb3_4; have NB4_3 := Qa.mk nb3_4.symm; clear nb3_4; have H : (if 0 ≤ a1 then (if a1 < (l3_0.length : Int) then (if a4_0 = 0 then (none) else (if 0 ≤ a0 then (if a0 < (l3_0.length : Int) then (some (wrap64 ((Int.tmod (wrap64 (a2_0 * (rd l3_0 a1))) a4_0) - (Int.tmod (wrap64 (a2_0 * (rd l3_0 a0))) a4_0)))) else (none)) else (none))) else (none)) else (none)) = some r := h; clear h; by_cases c6 : 0 ≤ a1
 ·rw [if_pos c6] at H
  have c6b0 : decide (0 ≤ a1) = true := decide_eq_true c6; clear c6; by_cases c7 : a1 < (l3_0.length : Int)
  ·rw [if_pos c7] at H
   have c7b0 : decide (a1 < (l3_0.length : Int)) = true := decide_eq_true c7; clear c7; by_cases c8 : a4_0 = 0
   ·rw [if_pos c8] at H
    exact absurd H (by simp)
   ·rw [if_neg c8] at H
    have c8b0 : (a4_0 == 0) = false := beq_eq_false_iff_ne.mpr c8; have c8b1 : (a4_0 != 0) = true := bne_iff_ne.mpr c8; by_cases c9 : 0 ≤ a0
    ·rw [if_pos c9] at H
     have c9b0 : decide (0 ≤ a0) = true := decide_eq_true c9; clear c9; by_cases c10 : a0 < (l3_0.length : Int)
     ·rw [if_pos c10] at H
      have c10b0 : decide (a0 < (l3_0.length : Int)) = true := decide_eq_true c10; clear c10; obtain rfl := Option.some.inj H; have hnb11 := NB2_3.out; have hnc11 := NB3_2.out; have hnb12 := NB2_4.out; have hnc12 := NB4_2.out; obtain ⟨_, _⟩ := cf1 BK2; have hnb14 := NB3_4.out; have hnc14 := NB4_3.out; obtain ⟨_, _⟩ := cf1 BK3; have p101 : 0 ≤ (a1 : Int) := dT; have q101 : a1 < (l3_0.length : Int) := dT; obtain ⟨ad101, e101, hx101_0⟩ := Kd.at_int HR3_0.out a1 p101 q101
      cases e101
      replace p101 := eq_true p101; replace q101 := eq_true q101; obtain ⟨_, _⟩ := cf1 BK4; have p102 : 0 ≤ (a0 : Int) := dT; have q102 : a0 < (l3_0.length : Int) := dT; obtain ⟨ad102, e102, hx102_0⟩ := Kd.at_int HR3_0.out a0 p102 q102; obtain rfl : ad101 = ad102 := (by injection e102); replace p102 := eq_true p102; replace q102 := eq_true q102; go_enter Try.func10, Try.ntmps10; go_wp2
      repeat (go_quiet (fail); try go_wp2)
      go_ret; exact ⟨eS, dS⟩
     ·rw [if_neg c10] at H
      exact absurd H (by simp)
    ·rw [if_neg c9] at H
     exact absurd H (by simp)
  ·rw [if_neg c7] at H
   exact absurd H (by simp)
 ·rw [if_neg c6] at H
  exact absurd H (by simp)
end Go.Proofs.Ytjaapkkpmegkfaa.P
