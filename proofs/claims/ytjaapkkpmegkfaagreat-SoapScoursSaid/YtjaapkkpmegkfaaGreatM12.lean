/- Part 12 of what the law's proof needs: words, walks of functions and plain facts. -/
import Derived.Test.YtjaapkkpmegkfaaGreatM02
import Derived.Test.YtjaapkkpmegkfaaGreatM04
import Derived.Test.YtjaapkkpmegkfaaGreatM05
import Derived.Test.YtjaapkkpmegkfaaGreatM07
set_option linter.unusedVariables false
set_option linter.unusedSimpArgs false
namespace Go.Proofs.YtjaapkkpmegkfaaGreat.P
open Go.RowKit Go.Proofs.YtjaapkkpmegkfaaGreatW.PrintWords Go.Proofs.YtjaapkkpmegkfaaGreatW.PrintLast Go.Proofs.YtjaapkkpmegkfaaGreatW.PrintMore
def Q2.f (a0_0 a0_1 a0_2 a0_3 a0_4 : Int) (l : List S100) (n : Int) : Option (Int × Int × Int × Int × Int × List S100) :=
 if 0 ≤ n ∧ n < (l.length : Int) ∧ l.length ≤ 1000 then some (a0_0, a0_1, a0_2, a0_3, a0_4, l.set n.toNat { (Qf l n) with f3 := 0 }) else none
set_option maxHeartbeats 1000000 in
theorem Q2.ptr (g o : Nat) (x : Value) (w : World) (hc : w.cell? ⟨g, o + 4, none⟩ = some x) (hf : w.frozen? ⟨g, o + 4, none⟩ = false) :
  Calls Tryz.prog 83 #[.pointer (some ⟨g, o, none⟩)] w fun e w' => e = .returned (.tuple #[]) ∧ w' = w.setCell ⟨g, o + 4, none⟩ (.int .i64 0) := by
 have hu100 := Tryz.underlying100
 go_enter Tryz.func83, Tryz.ntmps83
 go_wp2
 go_end0
 exact ⟨rfl, rfl⟩
set_option maxHeartbeats 8000000 in
set_option maxRecDepth 100000 in
theorem Q2.calls (a0_0 a0_1 a0_2 a0_3 a0_4 : Int) (A0 : Option Addr) (c0 : Nat) (l : List S100) (n r1 r2 r3 r4 r5 : Int) (r6 : List S100) (w : World) (hr0 : Kd.C k100 w A0 l.length l) (hc0 : l.length ≤ c0)
    (h : Q2.f a0_0 a0_1 a0_2 a0_3 a0_4 l n = some (r1, r2, r3, r4, r5, r6)) :
    Calls Tryz.prog 82 #[.agg #[.int .i64 a0_0, .int .i64 a0_1, .int .i64 a0_2, .int .i64 a0_3, .int .i64 a0_4, .slice A0 l.length c0], .int .i64 n, .func (.func 83) #[] #[]] w fun e w' => ∃ v6 : Value, e = .returned (.agg #[.int .i64 r1, .int .i64 r2, .int .i64 r3, .int .i64 r4, .int .i64 r5, v6]) ∧ Kd.R k100 100 w' w.heap.size (fun _ => True) v6 r6 ∧ Below w.heap.size w w' := by
  unfold Q2.f at h
  split at h
  case isFalse => cases h
  rename_i hcond
  obtain ⟨h1, h2, h3⟩ := hcond
  simp only [Option.some.injEq, Prod.mk.injEq] at h
  obtain ⟨rfl, rfl, rfl, rfl, rfl, rfl⟩ := h
  have hcl : Q6.f l = some l := by
    unfold Q6.f
    rw [Option.bind_some, if_pos (by simp; omega)]
    rfl
  have hu120 := Tryz.underlying120
  have p1 : (0 ≤ n) = True := eq_true h1
  have q1 : (n < (l.length : Int)) = True := eq_true h2
  have HR := Qa.mk hr0
  have HC := Qa.mk hc0
  have HL := Qa.mk hcl
  have H1 := Qa.mk h1
  have H2 := Qa.mk h2
  clear hr0 hc0 hcl h1 h2
  have HB := Qa.mk (Below.refl w.heap.size w)
  go_enter Tryz.func82, Tryz.ntmps82
  go_wp2_with (first
    | ((with_reducible refine gd 3 ?_); refine Jl ?hg (N := 3) ?hd (cs := #[.int .i64 a0_0, .int .i64 a0_1, .int .i64 a0_2, .int .i64 a0_3, .int .i64 a0_4, .slice A0 l.length c0]) (t := 120) ?hr ?_; (case hd => rfl); (case hg => rfl); (case hr => first | (go_simp; done) | (go_simp; rfl)); intro gb3 hg w1 hx hb
       have HG3 := Qa.mk hg; have BK3 := Qa.mk hx; have n0_ := Qa.mk (QV HB.out hb); clear HB; have HB := n0_; clear n0_ hg hx hb)
    | ((with_reducible refine gd 6 ?_); refine Jl ?hg (N := 6) ?hd (cs := #[.int .i64 0, .int .i64 0, .int .i64 0, .int .i64 0, .int .i64 0, .slice none 0 0]) (t := 120) ?hr ?_; (case hd => rfl); (case hg => rfl); (case hr => first | (go_simp; done) | (go_simp; rfl)); intro gb6 hg w2 hx hb
       have HG6 := Qa.mk hg; have BK6 := Qa.mk hx; have n0_ := Qa.mk (QV HB.out hb); have n1_ := Qa.mk (QX BK3.out hb); have HLT := Qa.mk (Array.getElem?_eq_some_iff.1 BK3.out).1; clear HB BK3; have HB := n0_; have BK3 := n1_; clear n0_ n1_ hg hx hb
       have c5 : w2.cell? ⟨gb3, 5, none⟩ = some (.slice A0 l.length c0) := (Qb BK3.out 5).trans rfl)
    | ((with_reducible refine gc 90 rfl ?_); refine XE (some 9) rfl rfl Tryz.func90 (by kernel_rfl) rfl #[.slice A0 l.length c0] rfl (by (try simp only [List.map_toArray, List.map_cons, List.map_nil]); first | done | rfl) ?_
       refine (Q6.calls A0 c0 l l _ (Kd.C_below HR.out HB.out) HC.out HL.out).mono ?_
       rintro e w9 ⟨v0, rfl, ho, hb⟩
       refine ⟨_, rfl, ?_⟩
       clear c5
       have n0_ := Qa.mk (QV HB.out hb); have n1_ := Qa.mk (QX BK3.out hb); have n2_ := Qa.mk (QX BK6.out hb); have HS := Qa.mk (show w.heap.size ≤ w2.heap.size from HB.out.size)
       have HLT2 := Qa.mk (show gb3 < w2.heap.size ∧ gb6 < w2.heap.size from ⟨(Array.getElem?_eq_some_iff.1 BK3.out).1, (Array.getElem?_eq_some_iff.1 BK6.out).1⟩)
       clear HB BK3 BK6; have HB := n0_; have BK3 := n1_; have BK6 := n2_; clear n0_ n1_ n2_ hb
       obtain ⟨g, cap, rfl, hgb, hgl, hgc⟩ := Kd.R_form ho (by have := H1.out; have := H2.out; omega)
       have HO := Qa.mk ho; have HGB := Qa.mk hgb
       clear ho hgb hgl hgc
       have c5 : w9.cell? ⟨gb3, 5, none⟩ = some (.slice A0 l.length c0) := (Qb BK3.out 5).trans rfl
       have f5 := Qq BK3.out 5)
    | (go_at_call 83
       obtain ⟨w10, hw10⟩ : ∃ w_, w9.setCell ⟨gb3, 5, none⟩ (.slice (some ⟨g, 0, none⟩) l.length cap) = w_ := ⟨_, rfl⟩
       rw [hw10]
       have hg3 : g ≠ gb3 := by have := HGB.out; have := HLT2.out.1; omega
       have hg6 : g ≠ gb6 := by have := HGB.out; have := HLT2.out.2; omega
       have h63 : gb6 ≠ gb3 := by have := HG6.out; have := HLT.out; omega
       have b3 : w10.heap[gb3]? = some (.cells #[.int .i64 a0_0, .int .i64 a0_1, .int .i64 a0_2, .int .i64 a0_3, .int .i64 a0_4, .slice (some ⟨g, 0, none⟩) l.length cap] 120 (0, 0)) := by
         rw [← hw10]; exact Qg (cs := #[.int .i64 a0_0, .int .i64 a0_1, .int .i64 a0_2, .int .i64 a0_3, .int .i64 a0_4, .slice A0 l.length c0]) BK3.out 5 _ rfl
       have b6 : w10.heap[gb6]? = some (.cells #[.int .i64 0, .int .i64 0, .int .i64 0, .int .i64 0, .int .i64 0, .slice none 0 0] 120 (0, 0)) := by
         rw [← hw10]; exact Qx BK6.out h63 _
       have hR : Kd.R k100 100 w10 w.heap.size (fun _ => True) (.slice (some ⟨g, 0, none⟩) l.length cap) l := by
         rw [← hw10]; exact Kd.R_lower (Kd.R_mono (Kd.R_far (p := ⟨gb3, 5, none⟩) (Kd.R_types HO.out BK3.out (by decide)) (fun _ hk => hk.2) _) (fun _ _ => trivial)) HS.out
       have hB10 : Below w.heap.size w w10 := by rw [← hw10]; exact HB.out.setCell (p := ⟨gb3, 5, none⟩) (by have := HG3.out; simp; omega) _
       obtain ⟨cs, hcl, hM, hcc, hfr⟩ := Kd.R_elem hR z100 n H1.out H2.out
       obtain rfl := ZH hM
       have HP := (Kd.R_seg hR n H1.out H2.out (seg := [.int .i64 0]) (j := 4) hcl hcc (show 4 + 1 ≤ 5 from by decide) (x' := { (Qf l n) with f3 := 0 }) (ZM _ _ _ { (Qf l n) with f3 := 0 }) (fun _ hk => hk)).1
       have hc4 : w10.cell? ⟨g, n.toNat * 5 + 4, none⟩ = some (.int .i64 (Qf l n).f3) := hcc 4 _ rfl
       have hf4 : w10.frozen? ⟨g, n.toNat * 5 + 4, none⟩ = false := hfr 4
       clear hcl hM hcc hfr hw10 c5 f5
       refine (Q2.ptr g (n.toNat * 5) _ w10 hc4 hf4).mono ?_
       clear hc4 hf4
       rintro e w11 ⟨rfl, hw11⟩
       replace HP : Kd.R k100 100 w11 w.heap.size (fun _ => True) (.slice (some ⟨g, 0, none⟩) l.length cap) (l.set n.toNat { (Qf l n) with f3 := 0 }) := by rw [hw11]; exact HP
       replace b3 : w11.heap[gb3]? = some (.cells #[.int .i64 a0_0, .int .i64 a0_1, .int .i64 a0_2, .int .i64 a0_3, .int .i64 a0_4, .slice (some ⟨g, 0, none⟩) l.length cap] 120 (0, 0)) := by rw [hw11]; exact Qx b3 hg3.symm _
       replace b6 : w11.heap[gb6]? = some (.cells #[.int .i64 0, .int .i64 0, .int .i64 0, .int .i64 0, .int .i64 0, .slice none 0 0] 120 (0, 0)) := by rw [hw11]; exact Qx b6 hg6.symm _
       replace hB10 : Below w.heap.size w w11 := by rw [hw11]; exact hB10.setCell (p := ⟨g, _, none⟩) (by have := HGB.out; have := HS.out; simp; omega) _
       clear hw11 hg3 hg6 hR
       have z0 : w11.cell? ⟨gb3, 0, none⟩ = some (.int .i64 a0_0) := (Qb b3 0).trans rfl
       have z1 : w11.cell? ⟨gb3, 1, none⟩ = some (.int .i64 a0_1) := (Qb b3 1).trans rfl
       have z2 : w11.cell? ⟨gb3, 2, none⟩ = some (.int .i64 a0_2) := (Qb b3 2).trans rfl
       have z3 : w11.cell? ⟨gb3, 3, none⟩ = some (.int .i64 a0_3) := (Qb b3 3).trans rfl
       have z4 : w11.cell? ⟨gb3, 4, none⟩ = some (.int .i64 a0_4) := (Qb b3 4).trans rfl
       have z5 : w11.cell? ⟨gb3, 5, none⟩ = some (.slice (some ⟨g, 0, none⟩) l.length cap) := (Qb b3 5).trans rfl
       have y0 : w11.cell? ⟨gb6, 0, none⟩ = some (.int .i64 0) := (Qb b6 0).trans rfl
       have y1 : w11.cell? ⟨gb6, 1, none⟩ = some (.int .i64 0) := (Qb b6 1).trans rfl
       have y2 : w11.cell? ⟨gb6, 2, none⟩ = some (.int .i64 0) := (Qb b6 2).trans rfl
       have y3 : w11.cell? ⟨gb6, 3, none⟩ = some (.int .i64 0) := (Qb b6 3).trans rfl
       have y4 : w11.cell? ⟨gb6, 4, none⟩ = some (.int .i64 0) := (Qb b6 4).trans rfl
       have y5 : w11.cell? ⟨gb6, 5, none⟩ = some (.slice none 0 0) := (Qb b6 5).trans rfl
       have v0 := Qq b6 0; have v1 := Qq b6 1; have v2 := Qq b6 2; have v3 := Qq b6 3; have v4 := Qq b6 4; have v5 := Qq b6 5
       have B3 := Qa.mk b3; have B6 := Qa.mk b6; have HP' := Qa.mk HP; have HB' := Qa.mk hB10
       clear b3 b6 HP hB10))
  have hg6 : w.heap.size ≤ gb6 := by have := HG6.out; have := HLT.out; have := HG3.out; omega
  have q0 : (w11.setCell ⟨gb6, 0, none⟩ (.int .i64 a0_0)).heap[gb6]? = some (.cells #[.int .i64 a0_0, .int .i64 0, .int .i64 0, .int .i64 0, .int .i64 0, .slice none 0 0] 120 (0, 0)) := Qg (cs := #[.int .i64 0, .int .i64 0, .int .i64 0, .int .i64 0, .int .i64 0, .slice none 0 0]) B6.out 0 _ rfl
  have q1 : ((w11.setCell ⟨gb6, 0, none⟩ (.int .i64 a0_0)).setCell ⟨gb6, 1, none⟩ (.int .i64 a0_1)).heap[gb6]? = some (.cells #[.int .i64 a0_0, .int .i64 a0_1, .int .i64 0, .int .i64 0, .int .i64 0, .slice none 0 0] 120 (0, 0)) := Qg (cs := #[.int .i64 a0_0, .int .i64 0, .int .i64 0, .int .i64 0, .int .i64 0, .slice none 0 0]) q0 1 _ rfl
  have q2 : (((w11.setCell ⟨gb6, 0, none⟩ (.int .i64 a0_0)).setCell ⟨gb6, 1, none⟩ (.int .i64 a0_1)).setCell ⟨gb6, 2, none⟩ (.int .i64 a0_2)).heap[gb6]? = some (.cells #[.int .i64 a0_0, .int .i64 a0_1, .int .i64 a0_2, .int .i64 0, .int .i64 0, .slice none 0 0] 120 (0, 0)) := Qg (cs := #[.int .i64 a0_0, .int .i64 a0_1, .int .i64 0, .int .i64 0, .int .i64 0, .slice none 0 0]) q1 2 _ rfl
  have q3 : ((((w11.setCell ⟨gb6, 0, none⟩ (.int .i64 a0_0)).setCell ⟨gb6, 1, none⟩ (.int .i64 a0_1)).setCell ⟨gb6, 2, none⟩ (.int .i64 a0_2)).setCell ⟨gb6, 3, none⟩ (.int .i64 a0_3)).heap[gb6]? = some (.cells #[.int .i64 a0_0, .int .i64 a0_1, .int .i64 a0_2, .int .i64 a0_3, .int .i64 0, .slice none 0 0] 120 (0, 0)) := Qg (cs := #[.int .i64 a0_0, .int .i64 a0_1, .int .i64 a0_2, .int .i64 0, .int .i64 0, .slice none 0 0]) q2 3 _ rfl
  have q4 : (((((w11.setCell ⟨gb6, 0, none⟩ (.int .i64 a0_0)).setCell ⟨gb6, 1, none⟩ (.int .i64 a0_1)).setCell ⟨gb6, 2, none⟩ (.int .i64 a0_2)).setCell ⟨gb6, 3, none⟩ (.int .i64 a0_3)).setCell ⟨gb6, 4, none⟩ (.int .i64 a0_4)).heap[gb6]? = some (.cells #[.int .i64 a0_0, .int .i64 a0_1, .int .i64 a0_2, .int .i64 a0_3, .int .i64 a0_4, .slice none 0 0] 120 (0, 0)) := Qg (cs := #[.int .i64 a0_0, .int .i64 a0_1, .int .i64 a0_2, .int .i64 a0_3, .int .i64 0, .slice none 0 0]) q3 4 _ rfl
  have q5 : ((((((w11.setCell ⟨gb6, 0, none⟩ (.int .i64 a0_0)).setCell ⟨gb6, 1, none⟩ (.int .i64 a0_1)).setCell ⟨gb6, 2, none⟩ (.int .i64 a0_2)).setCell ⟨gb6, 3, none⟩ (.int .i64 a0_3)).setCell ⟨gb6, 4, none⟩ (.int .i64 a0_4)).setCell ⟨gb6, 5, none⟩ (.slice (some ⟨g, 0, none⟩) l.length cap)).heap[gb6]? = some (.cells #[.int .i64 a0_0, .int .i64 a0_1, .int .i64 a0_2, .int .i64 a0_3, .int .i64 a0_4, .slice (some ⟨g, 0, none⟩) l.length cap] 120 (0, 0)) := Qg (cs := #[.int .i64 a0_0, .int .i64 a0_1, .int .i64 a0_2, .int .i64 a0_3, .int .i64 a0_4, .slice none 0 0]) q4 5 _ rfl
  refine bodyPost_ret (results_cell_row rfl _ _ gb6 120 #[.int .i64 a0_0, .int .i64 a0_1, .int .i64 a0_2, .int .i64 a0_3, .int .i64 a0_4, .slice (some ⟨g, 0, none⟩) l.length cap] (0, 0) _ rfl q5 Tryz.underlying120 rfl (by kernel_rfl)) rfl ?_
  exact ⟨_, rfl, Kd.R_mono (Kd.R_far (p := ⟨gb6, 5, none⟩) (Kd.R_far (p := ⟨gb6, 4, none⟩) (Kd.R_far (p := ⟨gb6, 3, none⟩) (Kd.R_far (p := ⟨gb6, 2, none⟩) (Kd.R_far (p := ⟨gb6, 1, none⟩) (Kd.R_far (p := ⟨gb6, 0, none⟩) (Kd.R_types HP'.out B6.out (by decide)) (fun _ hk => hk.2) (.int .i64 a0_0)) (fun _ hk => hk.2) (.int .i64 a0_1)) (fun _ hk => hk.2) (.int .i64 a0_2)) (fun _ hk => hk.2) (.int .i64 a0_3)) (fun _ hk => hk.2) (.int .i64 a0_4)) (fun _ hk => hk.2) (.slice (some ⟨g, 0, none⟩) l.length cap)) (fun _ _ => trivial), Below.setCell (p := ⟨gb6, 5, none⟩) (Below.setCell (p := ⟨gb6, 4, none⟩) (Below.setCell (p := ⟨gb6, 3, none⟩) (Below.setCell (p := ⟨gb6, 2, none⟩) (Below.setCell (p := ⟨gb6, 1, none⟩) (Below.setCell (p := ⟨gb6, 0, none⟩) (HB'.out) hg6 (.int .i64 a0_0)) hg6 (.int .i64 a0_1)) hg6 (.int .i64 a0_2)) hg6 (.int .i64 a0_3)) hg6 (.int .i64 a0_4)) hg6 (.slice (some ⟨g, 0, none⟩) l.length cap)⟩
def QQ.f (a0_0 a0_1 a0_2 a0_3 a0_4 : Int) (l : List S100) (n far : Int) : Option (Int × Int × Int × Int × Int × List S100) :=
 if 0 ≤ n ∧ n < (l.length : Int) ∧ l.length ≤ 1000 then some (a0_0, a0_1, a0_2, a0_3, a0_4, l.set n.toNat { (Qf l n) with f1 := far }) else none
set_option maxHeartbeats 1000000 in
theorem QQ.ptr (g o : Nat) (x : Value) (B : Nat) (far : Int) (w : World) (hc : w.cell? ⟨g, o + 2, none⟩ = some x) (hf : w.frozen? ⟨g, o + 2, none⟩ = false) (hb : w.heap[B]? = some (.cells #[.int .i64 far] 3 (0, 0))) :
  Calls Tryz.prog 85 #[.pointer (some ⟨g, o, none⟩), .pointer (some ⟨B, 0, none⟩)] w fun e w' => e = .returned (.tuple #[]) ∧ w' = w.setCell ⟨g, o + 2, none⟩ (.int .i64 far) := by
 have hu100 := Tryz.underlying100
 have hcb : w.cell? ⟨B, 0, none⟩ = some (.int .i64 far) := (Qb hb 0).trans rfl
 go_enter Tryz.func85, Tryz.ntmps85
 go_wp2
 go_end0
 exact ⟨rfl, rfl⟩
set_option maxHeartbeats 8000000 in
set_option maxRecDepth 100000 in
theorem QQ.calls (a0_0 a0_1 a0_2 a0_3 a0_4 : Int) (A0 : Option Addr) (c0 : Nat) (l : List S100) (n : Int) (B : Nat) (far r1 r2 r3 r4 r5 : Int) (r6 : List S100) (w : World) (hr0 : Kd.C k100 w A0 l.length l) (hc0 : l.length ≤ c0) (hb : w.heap[B]? = some (.cells #[.int .i64 far] 3 (0, 0)))
    (h : QQ.f a0_0 a0_1 a0_2 a0_3 a0_4 l n far = some (r1, r2, r3, r4, r5, r6)) :
    Calls Tryz.prog 82 #[.agg #[.int .i64 a0_0, .int .i64 a0_1, .int .i64 a0_2, .int .i64 a0_3, .int .i64 a0_4, .slice A0 l.length c0], .int .i64 n, .func (.func 85) #[] #[.pointer (some ⟨B, 0, none⟩)]] w fun e w' => ∃ v6 : Value, e = .returned (.agg #[.int .i64 r1, .int .i64 r2, .int .i64 r3, .int .i64 r4, .int .i64 r5, v6]) ∧ Kd.R k100 100 w' w.heap.size (fun _ => True) v6 r6 ∧ Below w.heap.size w w' := by
  unfold QQ.f at h
  split at h
  case isFalse => cases h
  rename_i hcond
  obtain ⟨h1, h2, h3⟩ := hcond
  simp only [Option.some.injEq, Prod.mk.injEq] at h
  obtain ⟨rfl, rfl, rfl, rfl, rfl, rfl⟩ := h
  have hcl : Q6.f l = some l := by
    unfold Q6.f
    rw [Option.bind_some, if_pos (by simp; omega)]
    rfl
  have hu120 := Tryz.underlying120
  have p1 : (0 ≤ n) = True := eq_true h1
  have q1 : (n < (l.length : Int)) = True := eq_true h2
  have HR := Qa.mk hr0
  have HC := Qa.mk hc0
  have HL := Qa.mk hcl
  have H1 := Qa.mk h1
  have H2 := Qa.mk h2
  clear hr0 hc0 hcl h1 h2
  have HB := Qa.mk (Below.refl w.heap.size w)
  go_enter Tryz.func82, Tryz.ntmps82
  go_wp2_with (first
    | ((with_reducible refine gd 3 ?_); refine Jl ?hg (N := 3) ?hd (cs := #[.int .i64 a0_0, .int .i64 a0_1, .int .i64 a0_2, .int .i64 a0_3, .int .i64 a0_4, .slice A0 l.length c0]) (t := 120) ?hr ?_; (case hd => rfl); (case hg => rfl); (case hr => first | (go_simp; done) | (go_simp; rfl)); intro gb3 hg w1 hx hb
       have HG3 := Qa.mk hg; have BK3 := Qa.mk hx; have n0_ := Qa.mk (QV HB.out hb); clear HB; have HB := n0_; clear n0_ hg hx hb)
    | ((with_reducible refine gd 6 ?_); refine Jl ?hg (N := 6) ?hd (cs := #[.int .i64 0, .int .i64 0, .int .i64 0, .int .i64 0, .int .i64 0, .slice none 0 0]) (t := 120) ?hr ?_; (case hd => rfl); (case hg => rfl); (case hr => first | (go_simp; done) | (go_simp; rfl)); intro gb6 hg w2 hx hb
       have HG6 := Qa.mk hg; have BK6 := Qa.mk hx; have n0_ := Qa.mk (QV HB.out hb); have n1_ := Qa.mk (QX BK3.out hb); have HLT := Qa.mk (Array.getElem?_eq_some_iff.1 BK3.out).1; clear HB BK3; have HB := n0_; have BK3 := n1_; clear n0_ n1_ hg hx hb
       have c5 : w2.cell? ⟨gb3, 5, none⟩ = some (.slice A0 l.length c0) := (Qb BK3.out 5).trans rfl)
    | ((with_reducible refine gc 90 rfl ?_); refine XE (some 9) rfl rfl Tryz.func90 (by kernel_rfl) rfl #[.slice A0 l.length c0] rfl (by (try simp only [List.map_toArray, List.map_cons, List.map_nil]); first | done | rfl) ?_
       refine (Q6.calls A0 c0 l l _ (Kd.C_below HR.out HB.out) HC.out HL.out).mono ?_
       rintro e w9 ⟨v0, rfl, ho, hb⟩
       refine ⟨_, rfl, ?_⟩
       clear c5
       have n0_ := Qa.mk (QV HB.out hb); have n1_ := Qa.mk (QX BK3.out hb); have n2_ := Qa.mk (QX BK6.out hb); have HS := Qa.mk (show w.heap.size ≤ w2.heap.size from HB.out.size)
       have HLT2 := Qa.mk (show gb3 < w2.heap.size ∧ gb6 < w2.heap.size from ⟨(Array.getElem?_eq_some_iff.1 BK3.out).1, (Array.getElem?_eq_some_iff.1 BK6.out).1⟩)
       clear HB BK3 BK6; have HB := n0_; have BK3 := n1_; have BK6 := n2_; clear n0_ n1_ n2_ hb
       obtain ⟨g, cap, rfl, hgb, hgl, hgc⟩ := Kd.R_form ho (by have := H1.out; have := H2.out; omega)
       have HO := Qa.mk ho; have HGB := Qa.mk hgb
       clear ho hgb hgl hgc
       have c5 : w9.cell? ⟨gb3, 5, none⟩ = some (.slice A0 l.length c0) := (Qb BK3.out 5).trans rfl
       have f5 := Qq BK3.out 5)
    | (go_at_call 85
       obtain ⟨w10, hw10⟩ : ∃ w_, w9.setCell ⟨gb3, 5, none⟩ (.slice (some ⟨g, 0, none⟩) l.length cap) = w_ := ⟨_, rfl⟩
       rw [hw10]
       have hg3 : g ≠ gb3 := by have := HGB.out; have := HLT2.out.1; omega
       have hg6 : g ≠ gb6 := by have := HGB.out; have := HLT2.out.2; omega
       have h63 : gb6 ≠ gb3 := by have := HG6.out; have := HLT.out; omega
       have b3 : w10.heap[gb3]? = some (.cells #[.int .i64 a0_0, .int .i64 a0_1, .int .i64 a0_2, .int .i64 a0_3, .int .i64 a0_4, .slice (some ⟨g, 0, none⟩) l.length cap] 120 (0, 0)) := by
         rw [← hw10]; exact Qg (cs := #[.int .i64 a0_0, .int .i64 a0_1, .int .i64 a0_2, .int .i64 a0_3, .int .i64 a0_4, .slice A0 l.length c0]) BK3.out 5 _ rfl
       have b6 : w10.heap[gb6]? = some (.cells #[.int .i64 0, .int .i64 0, .int .i64 0, .int .i64 0, .int .i64 0, .slice none 0 0] 120 (0, 0)) := by
         rw [← hw10]; exact Qx BK6.out h63 _
       have hR : Kd.R k100 100 w10 w.heap.size (fun _ => True) (.slice (some ⟨g, 0, none⟩) l.length cap) l := by
         rw [← hw10]; exact Kd.R_lower (Kd.R_mono (Kd.R_far (p := ⟨gb3, 5, none⟩) (Kd.R_types HO.out BK3.out (by decide)) (fun _ hk => hk.2) _) (fun _ _ => trivial)) HS.out
       have hB10 : Below w.heap.size w w10 := by rw [← hw10]; exact HB.out.setCell (p := ⟨gb3, 5, none⟩) (by have := HG3.out; simp; omega) _
       obtain ⟨cs, hcl, hM, hcc, hfr⟩ := Kd.R_elem hR z100 n H1.out H2.out
       obtain rfl := ZH hM
       have HP := (Kd.R_seg hR n H1.out H2.out (seg := [.int .i64 far]) (j := 2) hcl hcc (show 2 + 1 ≤ 5 from by decide) (x' := { (Qf l n) with f1 := far }) (ZM _ _ _ { (Qf l n) with f1 := far }) (fun _ hk => hk)).1
       have hc4 : w10.cell? ⟨g, n.toNat * 5 + 2, none⟩ = some (.int .i64 (Qf l n).f1) := hcc 2 _ rfl
       have hf4 : w10.frozen? ⟨g, n.toNat * 5 + 2, none⟩ = false := hfr 2
       clear hcl hM hcc hfr hw10 c5 f5
       refine (QQ.ptr g (n.toNat * 5) _ B far w10 hc4 hf4 ((hB10.block _ (Array.getElem?_eq_some_iff.1 hb).1).trans hb)).mono ?_
       clear hc4 hf4
       rintro e w11 ⟨rfl, hw11⟩
       replace HP : Kd.R k100 100 w11 w.heap.size (fun _ => True) (.slice (some ⟨g, 0, none⟩) l.length cap) (l.set n.toNat { (Qf l n) with f1 := far }) := by rw [hw11]; exact HP
       replace b3 : w11.heap[gb3]? = some (.cells #[.int .i64 a0_0, .int .i64 a0_1, .int .i64 a0_2, .int .i64 a0_3, .int .i64 a0_4, .slice (some ⟨g, 0, none⟩) l.length cap] 120 (0, 0)) := by rw [hw11]; exact Qx b3 hg3.symm _
       replace b6 : w11.heap[gb6]? = some (.cells #[.int .i64 0, .int .i64 0, .int .i64 0, .int .i64 0, .int .i64 0, .slice none 0 0] 120 (0, 0)) := by rw [hw11]; exact Qx b6 hg6.symm _
       replace hB10 : Below w.heap.size w w11 := by rw [hw11]; exact hB10.setCell (p := ⟨g, _, none⟩) (by have := HGB.out; have := HS.out; simp; omega) _
       clear hw11 hg3 hg6 hR
       have z0 : w11.cell? ⟨gb3, 0, none⟩ = some (.int .i64 a0_0) := (Qb b3 0).trans rfl
       have z1 : w11.cell? ⟨gb3, 1, none⟩ = some (.int .i64 a0_1) := (Qb b3 1).trans rfl
       have z2 : w11.cell? ⟨gb3, 2, none⟩ = some (.int .i64 a0_2) := (Qb b3 2).trans rfl
       have z3 : w11.cell? ⟨gb3, 3, none⟩ = some (.int .i64 a0_3) := (Qb b3 3).trans rfl
       have z4 : w11.cell? ⟨gb3, 4, none⟩ = some (.int .i64 a0_4) := (Qb b3 4).trans rfl
       have z5 : w11.cell? ⟨gb3, 5, none⟩ = some (.slice (some ⟨g, 0, none⟩) l.length cap) := (Qb b3 5).trans rfl
       have y0 : w11.cell? ⟨gb6, 0, none⟩ = some (.int .i64 0) := (Qb b6 0).trans rfl
       have y1 : w11.cell? ⟨gb6, 1, none⟩ = some (.int .i64 0) := (Qb b6 1).trans rfl
       have y2 : w11.cell? ⟨gb6, 2, none⟩ = some (.int .i64 0) := (Qb b6 2).trans rfl
       have y3 : w11.cell? ⟨gb6, 3, none⟩ = some (.int .i64 0) := (Qb b6 3).trans rfl
       have y4 : w11.cell? ⟨gb6, 4, none⟩ = some (.int .i64 0) := (Qb b6 4).trans rfl
       have y5 : w11.cell? ⟨gb6, 5, none⟩ = some (.slice none 0 0) := (Qb b6 5).trans rfl
       have v0 := Qq b6 0; have v1 := Qq b6 1; have v2 := Qq b6 2; have v3 := Qq b6 3; have v4 := Qq b6 4; have v5 := Qq b6 5
       have B3 := Qa.mk b3; have B6 := Qa.mk b6; have HP' := Qa.mk HP; have HB' := Qa.mk hB10
       clear b3 b6 HP hB10))
  have hg6 : w.heap.size ≤ gb6 := by have := HG6.out; have := HLT.out; have := HG3.out; omega
  have q0 : (w11.setCell ⟨gb6, 0, none⟩ (.int .i64 a0_0)).heap[gb6]? = some (.cells #[.int .i64 a0_0, .int .i64 0, .int .i64 0, .int .i64 0, .int .i64 0, .slice none 0 0] 120 (0, 0)) := Qg (cs := #[.int .i64 0, .int .i64 0, .int .i64 0, .int .i64 0, .int .i64 0, .slice none 0 0]) B6.out 0 _ rfl
  have q1 : ((w11.setCell ⟨gb6, 0, none⟩ (.int .i64 a0_0)).setCell ⟨gb6, 1, none⟩ (.int .i64 a0_1)).heap[gb6]? = some (.cells #[.int .i64 a0_0, .int .i64 a0_1, .int .i64 0, .int .i64 0, .int .i64 0, .slice none 0 0] 120 (0, 0)) := Qg (cs := #[.int .i64 a0_0, .int .i64 0, .int .i64 0, .int .i64 0, .int .i64 0, .slice none 0 0]) q0 1 _ rfl
  have q2 : (((w11.setCell ⟨gb6, 0, none⟩ (.int .i64 a0_0)).setCell ⟨gb6, 1, none⟩ (.int .i64 a0_1)).setCell ⟨gb6, 2, none⟩ (.int .i64 a0_2)).heap[gb6]? = some (.cells #[.int .i64 a0_0, .int .i64 a0_1, .int .i64 a0_2, .int .i64 0, .int .i64 0, .slice none 0 0] 120 (0, 0)) := Qg (cs := #[.int .i64 a0_0, .int .i64 a0_1, .int .i64 0, .int .i64 0, .int .i64 0, .slice none 0 0]) q1 2 _ rfl
  have q3 : ((((w11.setCell ⟨gb6, 0, none⟩ (.int .i64 a0_0)).setCell ⟨gb6, 1, none⟩ (.int .i64 a0_1)).setCell ⟨gb6, 2, none⟩ (.int .i64 a0_2)).setCell ⟨gb6, 3, none⟩ (.int .i64 a0_3)).heap[gb6]? = some (.cells #[.int .i64 a0_0, .int .i64 a0_1, .int .i64 a0_2, .int .i64 a0_3, .int .i64 0, .slice none 0 0] 120 (0, 0)) := Qg (cs := #[.int .i64 a0_0, .int .i64 a0_1, .int .i64 a0_2, .int .i64 0, .int .i64 0, .slice none 0 0]) q2 3 _ rfl
  have q4 : (((((w11.setCell ⟨gb6, 0, none⟩ (.int .i64 a0_0)).setCell ⟨gb6, 1, none⟩ (.int .i64 a0_1)).setCell ⟨gb6, 2, none⟩ (.int .i64 a0_2)).setCell ⟨gb6, 3, none⟩ (.int .i64 a0_3)).setCell ⟨gb6, 4, none⟩ (.int .i64 a0_4)).heap[gb6]? = some (.cells #[.int .i64 a0_0, .int .i64 a0_1, .int .i64 a0_2, .int .i64 a0_3, .int .i64 a0_4, .slice none 0 0] 120 (0, 0)) := Qg (cs := #[.int .i64 a0_0, .int .i64 a0_1, .int .i64 a0_2, .int .i64 a0_3, .int .i64 0, .slice none 0 0]) q3 4 _ rfl
  have q5 : ((((((w11.setCell ⟨gb6, 0, none⟩ (.int .i64 a0_0)).setCell ⟨gb6, 1, none⟩ (.int .i64 a0_1)).setCell ⟨gb6, 2, none⟩ (.int .i64 a0_2)).setCell ⟨gb6, 3, none⟩ (.int .i64 a0_3)).setCell ⟨gb6, 4, none⟩ (.int .i64 a0_4)).setCell ⟨gb6, 5, none⟩ (.slice (some ⟨g, 0, none⟩) l.length cap)).heap[gb6]? = some (.cells #[.int .i64 a0_0, .int .i64 a0_1, .int .i64 a0_2, .int .i64 a0_3, .int .i64 a0_4, .slice (some ⟨g, 0, none⟩) l.length cap] 120 (0, 0)) := Qg (cs := #[.int .i64 a0_0, .int .i64 a0_1, .int .i64 a0_2, .int .i64 a0_3, .int .i64 a0_4, .slice none 0 0]) q4 5 _ rfl
  refine bodyPost_ret (results_cell_row rfl _ _ gb6 120 #[.int .i64 a0_0, .int .i64 a0_1, .int .i64 a0_2, .int .i64 a0_3, .int .i64 a0_4, .slice (some ⟨g, 0, none⟩) l.length cap] (0, 0) _ rfl q5 Tryz.underlying120 rfl (by kernel_rfl)) rfl ?_
  exact ⟨_, rfl, Kd.R_mono (Kd.R_far (p := ⟨gb6, 5, none⟩) (Kd.R_far (p := ⟨gb6, 4, none⟩) (Kd.R_far (p := ⟨gb6, 3, none⟩) (Kd.R_far (p := ⟨gb6, 2, none⟩) (Kd.R_far (p := ⟨gb6, 1, none⟩) (Kd.R_far (p := ⟨gb6, 0, none⟩) (Kd.R_types HP'.out B6.out (by decide)) (fun _ hk => hk.2) (.int .i64 a0_0)) (fun _ hk => hk.2) (.int .i64 a0_1)) (fun _ hk => hk.2) (.int .i64 a0_2)) (fun _ hk => hk.2) (.int .i64 a0_3)) (fun _ hk => hk.2) (.int .i64 a0_4)) (fun _ hk => hk.2) (.slice (some ⟨g, 0, none⟩) l.length cap)) (fun _ _ => trivial), Below.setCell (p := ⟨gb6, 5, none⟩) (Below.setCell (p := ⟨gb6, 4, none⟩) (Below.setCell (p := ⟨gb6, 3, none⟩) (Below.setCell (p := ⟨gb6, 2, none⟩) (Below.setCell (p := ⟨gb6, 1, none⟩) (Below.setCell (p := ⟨gb6, 0, none⟩) (HB'.out) hg6 (.int .i64 a0_0)) hg6 (.int .i64 a0_1)) hg6 (.int .i64 a0_2)) hg6 (.int .i64 a0_3)) hg6 (.int .i64 a0_4)) hg6 (.slice (some ⟨g, 0, none⟩) l.length cap)⟩
end Go.Proofs.YtjaapkkpmegkfaaGreat.P
namespace Go.Proofs.YtjaapkkpmegkfaaGreat.P
open Go.RowKit Go.Proofs.YtjaapkkpmegkfaaGreatW.PrintWords Go.Proofs.YtjaapkkpmegkfaaGreatW.PrintLast Go.Proofs.YtjaapkkpmegkfaaGreatW.PrintMore
attribute [local go_sem] JG JH JY JX Jv Ju JJ JK
def QZ.f (k : Nat) (a0 a1_0 a1_1 a1_2 a1_3 a1_4 : Int) (l1_5 : List S100) (a2_0 : Int) (a3_0 : Bool) (a4_0 a4_1 a4_2 a4_3 a4_4 : Int) (l4_5 : List S100) (l5_0 : List Int) : Option Bool := (QQ.f a1_0 a1_1 a1_2 a1_3 a1_4 l1_5 a2_0 a0).bind fun bt102 => ((Qv.f k bt102.1 bt102.2.1 bt102.2.2.1 bt102.2.2.2.1 bt102.2.2.2.2.1 bt102.2.2.2.2.2).bind fun bt111 => (if bt111.2 = true then (if a3_0 = true then ((Qi.f k bt102.1 bt102.2.1 bt102.2.2.1 bt102.2.2.2.1 bt102.2.2.2.2.1 bt102.2.2.2.2.2 bt111.1).bind fun t115 => ((Qi.f k a4_0 a4_1 a4_2 a4_3 a4_4 l4_5 l5_0).bind fun t116 => (some (decide (t115 < t116))))) else (some true)) else (some false)))
theorem QZ.mono : ∀ a0 a1 a2 a3 a4 a5 a6 a7 a8 a9 a10 a11 a12 a13 a14 a15 k, LeO (QZ.f k a0 a1 a2 a3 a4 a5 a6 a7 a8 a9 a10 a11 a12 a13 a14 a15) (QZ.f (k + 1) a0 a1 a2 a3 a4 a5 a6 a7 a8 a9 a10 a11 a12 a13 a14 a15) := by
 intro a0 a1 a2 a3 a4 a5 a6 a7 a8 a9 a10 a11 a12 a13 a14 a15 k
 unfold QZ.f
 repeat' first
   | (with_reducible exact Qv.mono _ _ _ _ _ _ _)
   | (with_reducible exact Qi.mono _ _ _ _ _ _ _ _)
   | (with_reducible exact LeO.refl _)
   | (with_reducible exact LeO.none _)
   | (with_reducible refine LeO.ite ?_ ?_)
   | (with_reducible refine LeO.bind ?_ (fun _ => ?_))
def QZ.T3 : Bool × List (List Nat × List Nat) := (true, [([], []), ([0], [0]), ([1], [1]), ([2, 1], [1, 2]), ([3, 1, 1], [1, 3]), ([4], [4]), ([4], [4]), ([5, 6, 4, 4], [4, 5, 6]), ([4], [4]), ([4], [4]), ([8, 9, 7, 4], [4, 8, 9]), ([7, 10, 4], [4, 7, 10]), ([4, 11, 1], [1, 4, 11]), ([1, 12], [1, 12]), ([13, 10, 0, 1, 2, 3, 4, 5, 6, 7, 8, 9, 10, 11, 12, 13], [13])])
def QZ.B3 : List Nat := [0, 1, 3, 7, 15, 31, 31, 127, 31, 31, 1023, 2047, 4095, 8191, 16383]
theorem QZ.tab3 : rtab .any (ZG Tryz.f84 3) = QZ.T3 := by kernel_rfl
theorem QZ.bits3 : J0 QZ.T3.2 QZ.B3 = true := by kernel_rfl
set_option maxHeartbeats 8000000 in
set_option maxRecDepth 100000 in
theorem QZ.calls (k : Nat) (a0 : Int) (B1 : Nat) (a1_0 a1_1 a1_2 a1_3 a1_4 : Int) (A1_5 : Option Addr) (c1_5 : Nat) (l1_5 : List S100) (B2 : Nat) (a2_0 : Int) (B3 : Nat) (a3_0 : Bool) (B4 : Nat) (a4_0 a4_1 a4_2 a4_3 a4_4 : Int) (A4_5 : Option Addr) (c4_5 : Nat) (l4_5 : List S100) (B5 : Nat) (A5_0 : Option Addr) (c5_0 : Nat) (l5_0 : List Int) (r : Bool) (w : World) (hb1 : w.heap[B1]? = some (.cells #[.int .i64 a1_0, .int .i64 a1_1, .int .i64 a1_2, .int .i64 a1_3, .int .i64 a1_4, .slice A1_5 l1_5.length c1_5] 120 (0, 0))) (hr1_5 : Kd.C k100 w A1_5 l1_5.length l1_5) (hc1_5 : l1_5.length ≤ c1_5) (hb2 : w.heap[B2]? = some (.cells #[.int .i64 a2_0] 3 (0, 0))) (nb1_2 : B1 ≠ B2) (hb3 : w.heap[B3]? = some (.cells #[.bool a3_0] 4 (0, 0))) (nb1_3 : B1 ≠ B3) (nb2_3 : B2 ≠ B3) (hb4 : w.heap[B4]? = some (.cells #[.int .i64 a4_0, .int .i64 a4_1, .int .i64 a4_2, .int .i64 a4_3, .int .i64 a4_4, .slice A4_5 l4_5.length c4_5] 120 (0, 0))) (nb1_4 : B1 ≠ B4) (nb2_4 : B2 ≠ B4) (nb3_4 : B3 ≠ B4) (hr4_5 : Kd.C k100 w A4_5 l4_5.length l4_5) (hc4_5 : l4_5.length ≤ c4_5) (hb5 : w.heap[B5]? = some (.cells #[.slice A5_0 l5_0.length c5_0] 27 (0, 0))) (nb1_5 : B1 ≠ B5) (nb2_5 : B2 ≠ B5) (nb3_5 : B3 ≠ B5) (nb4_5 : B4 ≠ B5) (hr5_0 : Kd.C (Kd.int .i64) w A5_0 l5_0.length l5_0) (hc5_0 : l5_0.length ≤ c5_0) (h : QZ.f k a0 a1_0 a1_1 a1_2 a1_3 a1_4 l1_5 a2_0 a3_0 a4_0 a4_1 a4_2 a4_3 a4_4 l4_5 l5_0 = some r) :
  Calls Tryz.prog 84 #[.int .i64 a0, .pointer (some ⟨B1, 0, none⟩), .pointer (some ⟨B2, 0, none⟩), .pointer (some ⟨B3, 0, none⟩), .pointer (some ⟨B4, 0, none⟩), .pointer (some ⟨B5, 0, none⟩)] w fun e w' => e = .returned (.bool r) ∧ Below w.heap.size w w' := by
 have hu120 := Tryz.underlying120
 have HR1_5 := Qa.mk hr1_5
 have HC1_5 := Qa.mk hc1_5
 clear hr1_5 hc1_5
 have HR4_5 := Qa.mk hr4_5
 have HC4_5 := Qa.mk hc4_5
 clear hr4_5 hc4_5
 have HR5_0 := Qa.mk hr5_0
 have HC5_0 := Qa.mk hc5_0
 clear hr5_0 hc5_0
 have BK1 := Qa.mk hb1
 clear hb1
 have BK2 := Qa.mk hb2
 clear hb2
 have NB1_2 := Qa.mk nb1_2
 have NB2_1 := Qa.mk nb1_2.symm
 clear nb1_2
 have BK3 := Qa.mk hb3
 clear hb3
 have NB1_3 := Qa.mk nb1_3
 have NB3_1 := Qa.mk nb1_3.symm
 clear nb1_3
 have NB2_3 := Qa.mk nb2_3
 have NB3_2 := Qa.mk nb2_3.symm
 clear nb2_3
 have BK4 := Qa.mk hb4
 clear hb4
 have NB1_4 := Qa.mk nb1_4
 have NB4_1 := Qa.mk nb1_4.symm
 clear nb1_4
 have NB2_4 := Qa.mk nb2_4
 have NB4_2 := Qa.mk nb2_4.symm
 clear nb2_4
 have NB3_4 := Qa.mk nb3_4
 have NB4_3 := Qa.mk nb3_4.symm
 clear nb3_4
 have BK5 := Qa.mk hb5
 clear hb5
 have NB1_5 := Qa.mk nb1_5
 have NB5_1 := Qa.mk nb1_5.symm
 clear nb1_5
 have NB2_5 := Qa.mk nb2_5
 have NB5_2 := Qa.mk nb2_5.symm
 clear nb2_5
 have NB3_5 := Qa.mk nb3_5
 have NB5_3 := Qa.mk nb3_5.symm
 clear nb3_5
 have NB4_5 := Qa.mk nb4_5
 have NB5_4 := Qa.mk nb4_5.symm
 clear nb4_5
 have HB := Qa.mk (Below.refl w.heap.size w)
 have H : ((QQ.f a1_0 a1_1 a1_2 a1_3 a1_4 l1_5 a2_0 a0).bind fun bt102 => ((Qv.f k bt102.1 bt102.2.1 bt102.2.2.1 bt102.2.2.2.1 bt102.2.2.2.2.1 bt102.2.2.2.2.2).bind fun bt111 => (if bt111.2 = true then (if a3_0 = true then ((Qi.f k bt102.1 bt102.2.1 bt102.2.2.1 bt102.2.2.2.1 bt102.2.2.2.2.1 bt102.2.2.2.2.2 bt111.1).bind fun t115 => ((Qi.f k a4_0 a4_1 a4_2 a4_3 a4_4 l4_5 l5_0).bind fun t116 => (some (decide (t115 < t116))))) else (some true)) else (some false)))) = some r := h
 clear h
 obtain ⟨⟨t102, t103, t104, t105, t106, t107⟩, A7, H⟩ := bi H
 obtain ⟨⟨t111, t114⟩, A8, H⟩ := bi H
 by_cases c9 : t114 = true
 ·subst c9
  rw [if_pos rfl] at H
  by_cases c10 : a3_0 = true
  ·subst c10
   rw [if_pos rfl] at H
   obtain ⟨t115, A11, H⟩ := bi H
   obtain ⟨t116, A12, H⟩ := bi H
   obtain rfl := Option.some.inj H
   go_enter Tryz.func84, Tryz.ntmps84
   try go_wp2_with (first | ((with_reducible refine gd 6 ?_); refine bx 6 #[.int .i64 a0] 3 ?_; intro gb101 hg w13 BK101 hb; have GW101 := gs HB hg; replace HB := bs HB hb; have NB1_101 := nl BK1 hg; have NB101_1 := nr BK1 hg; replace BK1 := bb BK1 hb; have NB2_101 := nl BK2 hg; have NB101_2 := nr BK2 hg; replace BK2 := bb BK2 hb; have NB3_101 := nl BK3 hg; have NB101_3 := nr BK3 hg; replace BK3 := bb BK3 hb; have NB4_101 := nl BK4 hg; have NB101_4 := nr BK4 hg; replace BK4 := bb BK4 hb; have NB5_101 := nl BK5 hg; have NB101_5 := nr BK5 hg; replace BK5 := bb BK5 hb; clear hb hg; have hnb14 := NB1_2.out; have hnc14 := NB2_1.out; have hnb15 := NB1_3.out; have hnc15 := NB3_1.out; have hnb16 := NB1_4.out; have hnc16 := NB4_1.out; have hnb17 := NB1_5.out; have hnc17 := NB5_1.out; have hnb18 := NB1_101.out; have hnc18 := NB101_1.out; obtain ⟨_, _, _, _, _, _, _, _, _, _, _, _⟩ := cf6 BK1; have hnb20 := NB2_3.out; have hnc20 := NB3_2.out; have hnb21 := NB2_4.out; have hnc21 := NB4_2.out; have hnb22 := NB2_5.out; have hnc22 := NB5_2.out; have hnb23 := NB2_101.out; have hnc23 := NB101_2.out; obtain ⟨_, _⟩ := cf1 BK2) | ((with_reducible refine gc 82 rfl ?_); refine gL 14 Tryz.func82 #[.agg #[.int .i64 a1_0, .int .i64 a1_1, .int .i64 a1_2, .int .i64 a1_3, .int .i64 a1_4, .slice A1_5 l1_5.length c1_5], .int .i64 a2_0, .func (.func 85) #[] #[.pointer (some ⟨gb101, 0, none⟩)]] ?_; (with_reducible refine (QQ.calls a1_0 a1_1 a1_2 a1_3 a1_4 _ _ l1_5 a2_0 gb101 a0 t102 t103 t104 t105 t106 t107 _ ?side1 ?side2 ?side3 A7.out).mono ?_); (case side1 => exact pC (Kd.C_below HR1_5.out HB.out)); (case side2 => exact HC1_5.out); (case side3 => exact pB BK101.out); rintro e w25 ⟨v108, rfl, ho0, hb⟩; refine ⟨_, rfl, ?_⟩; have HO109 := rl ho0 HB; replace BK1 := bb BK1 hb; replace BK2 := bb BK2 hb; replace BK3 := bb BK3 hb; replace BK4 := bb BK4 hb; replace BK5 := bb BK5 hb; replace BK101 := bb BK101 hb; replace HB := bs HB hb; clear hb ho0) | ((with_reducible refine gd 8 ?_); refine bx 8 #[.int .i64 0, .int .i64 0, .int .i64 0, .int .i64 0, .int .i64 0, .slice none 0 0] 120 ?_; intro gb110 hg w26 hbox hb; replace HO109 := rb HO109 hb; have BK110 := hbox; have GW110 := gs HB hg; replace HB := bs HB hb; have NB1_110 := nl BK1 hg; have NB110_1 := nr BK1 hg; replace BK1 := bb BK1 hb; have NB2_110 := nl BK2 hg; have NB110_2 := nr BK2 hg; replace BK2 := bb BK2 hb; have NB3_110 := nl BK3 hg; have NB110_3 := nr BK3 hg; replace BK3 := bb BK3 hb; have NB4_110 := nl BK4 hg; have NB110_4 := nr BK4 hg; replace BK4 := bb BK4 hb; have NB5_110 := nl BK5 hg; have NB110_5 := nr BK5 hg; replace BK5 := bb BK5 hb; have NB101_110 := nl BK101 hg; have NB110_101 := nr BK101 hg; replace BK101 := bb BK101 hb; clear hb hg; have hnb27 := NB110_1.out; have hnc27 := NB1_110.out; have hnb28 := NB110_2.out; have hnc28 := NB2_110.out; have hnb29 := NB110_3.out; have hnc29 := NB3_110.out; have hnb30 := NB110_4.out; have hnc30 := NB4_110.out; have hnb31 := NB110_5.out; have hnc31 := NB5_110.out; have hnb32 := NB110_101.out; have hnc32 := NB101_110.out; obtain ⟨_, _, _, _, _, _, _, _, _, _, _, _⟩ := cf6 BK110; obtain ⟨Ao34, co34, eo34⟩ := Kd.R_slice HO109.out; subst eo34) | ((with_reducible refine gc 79 rfl ?_); refine gL 17 Tryz.func79 #[.agg #[.int .i64 t102, .int .i64 t103, .int .i64 t104, .int .i64 t105, .int .i64 t106, .slice Ao34 t107.length co34]] ?_; (with_reducible refine (Qv.calls k t102 t103 t104 t105 t106 _ _ t107 t111 true _ ?side1 ?side2 A8.out).mono ?_); (case side1 => refine (Kd.R_reads' (e := 100) (base := w.heap.size) (ok := fun k_ => True) (n := t107.length) (c := co34) ?_).2.2; exact (by refine pR ?_; exact (Kd.R_mono (Kd.R_far (p := ⟨gb110, 5, none⟩) (Kd.R_far (p := ⟨gb110, 4, none⟩) (Kd.R_far (p := ⟨gb110, 3, none⟩) (Kd.R_far (p := ⟨gb110, 2, none⟩) (Kd.R_far (p := ⟨gb110, 1, none⟩) (Kd.R_far (p := ⟨gb110, 0, none⟩) (Kd.R_types HO109.out BK110.out (by decide)) (fun _ hk => hk.2) (.int .i64 t102)) (fun _ hk => hk.2) (.int .i64 t103)) (fun _ hk => hk.2) (.int .i64 t104)) (fun _ hk => hk.2) (.int .i64 t105)) (fun _ hk => hk.2) (.int .i64 t106)) (fun _ hk => hk.2) (.slice Ao34 t107.length co34)) (fun _ h_ => h_.1)))); (case side2 => exact (Kd.R_reads' HO109.out).2.1); rintro e w35 ⟨v112, rfl, ho0, hb⟩; refine ⟨_, rfl, ?_⟩; replace HO109 := Qa.mk (Kd.R_below (by refine pR ?_; exact (Kd.R_mono (Kd.R_far (p := ⟨gb110, 5, none⟩) (Kd.R_far (p := ⟨gb110, 4, none⟩) (Kd.R_far (p := ⟨gb110, 3, none⟩) (Kd.R_far (p := ⟨gb110, 2, none⟩) (Kd.R_far (p := ⟨gb110, 1, none⟩) (Kd.R_far (p := ⟨gb110, 0, none⟩) (Kd.R_types HO109.out BK110.out (by decide)) (fun _ hk => hk.2) (.int .i64 t102)) (fun _ hk => hk.2) (.int .i64 t103)) (fun _ hk => hk.2) (.int .i64 t104)) (fun _ hk => hk.2) (.int .i64 t105)) (fun _ hk => hk.2) (.int .i64 t106)) (fun _ hk => hk.2) (.slice Ao34 t107.length co34)) (fun _ h_ => h_.1))) hb); have HO113 := Qa.mk (Kd.R_lower (Kd.R_newB (Kd.R_newB ho0 (g := B2) (o := .cells #[.int .i64 a2_0] 3 (0, 0)) (pF BK2)) (g := gb101) (o := .cells #[.int .i64 a0] 3 (0, 0)) (pF BK101)) (Qr (pE HB))); replace BK1 := bf BK1 hb; replace BK2 := bf BK2 hb; replace BK3 := bf BK3 hb; replace BK4 := bf BK4 hb; replace BK5 := bf BK5 hb; replace BK101 := bf BK101 hb; replace BK110 := Qa.mk (QX (g := gb110) (o := .cells #[.int .i64 t102, .int .i64 t103, .int .i64 t104, .int .i64 t105, .int .i64 t106, .slice Ao34 t107.length co34] 120 (0, 0)) (by refine pB ?_; refine Qg (cs := #[.int .i64 t102, .int .i64 t103, .int .i64 t104, .int .i64 t105, .int .i64 t106, .slice none 0 0]) ?_ 5 _ rfl; refine pB ?_; refine Qg (cs := #[.int .i64 t102, .int .i64 t103, .int .i64 t104, .int .i64 t105, .int .i64 0, .slice none 0 0]) ?_ 4 _ rfl; refine pB ?_; refine Qg (cs := #[.int .i64 t102, .int .i64 t103, .int .i64 t104, .int .i64 0, .int .i64 0, .slice none 0 0]) ?_ 3 _ rfl; refine pB ?_; refine Qg (cs := #[.int .i64 t102, .int .i64 t103, .int .i64 0, .int .i64 0, .int .i64 0, .slice none 0 0]) ?_ 2 _ rfl; refine pB ?_; refine Qg (cs := #[.int .i64 t102, .int .i64 0, .int .i64 0, .int .i64 0, .int .i64 0, .slice none 0 0]) ?_ 1 _ rfl; refine pB ?_; refine Qg (cs := #[.int .i64 0, .int .i64 0, .int .i64 0, .int .i64 0, .int .i64 0, .slice none 0 0]) ?_ 0 _ rfl; (with_reducible repeat (first | refine Qt ?_ _ | refine Qh ?_ | refine blk_alloc ?_ _)); exact BK110.out) hb); replace HB := bs HB hb; clear hb ho0))
   replace HO109 := Qa.mk (Kd.R_drew HO109.out)
   replace HO113 := Qa.mk (Kd.R_drew HO113.out)
   replace BK1 := Qa.mk (Qh BK1.out)
   replace BK2 := Qa.mk (Qh BK2.out)
   replace BK3 := Qa.mk (Qh BK3.out)
   replace BK4 := Qa.mk (Qh BK4.out)
   replace BK5 := Qa.mk (Qh BK5.out)
   replace BK101 := Qa.mk (Qh BK101.out)
   replace BK110 := Qa.mk (Qh BK110.out)
   replace HB := Qa.mk (QM HB.out)
   obtain ⟨Ao37, co37, eo37⟩ := Kd.R_slice HO113.out
   (first | subst eo37 | (injection eo37 with f1_ f2_ f3_; have f4_ := f1_.symm; have f5_ := f3_.symm; clear f1_ f2_ f3_; subst f4_; subst f5_))
   refine JS (n := 15) (S := fun w' => w'.cell? ⟨B3, 0, none⟩ = some (.bool true) ∧ w'.cell? ⟨gb110, 0, none⟩ = some (.int .i64 t102) ∧ w'.cell? ⟨gb110, 1, none⟩ = some (.int .i64 t103) ∧ w'.cell? ⟨gb110, 2, none⟩ = some (.int .i64 t104) ∧ w'.cell? ⟨gb110, 3, none⟩ = some (.int .i64 t105) ∧ w'.cell? ⟨gb110, 4, none⟩ = some (.int .i64 t106) ∧ w'.cell? ⟨gb110, 5, none⟩ = some (.slice Ao34 t107.length co34) ∧ w'.cell? ⟨B4, 0, none⟩ = some (.int .i64 a4_0) ∧ w'.cell? ⟨B4, 1, none⟩ = some (.int .i64 a4_1) ∧ w'.cell? ⟨B4, 2, none⟩ = some (.int .i64 a4_2) ∧ w'.cell? ⟨B4, 3, none⟩ = some (.int .i64 a4_3) ∧ w'.cell? ⟨B4, 4, none⟩ = some (.int .i64 a4_4) ∧ w'.cell? ⟨B4, 5, none⟩ = some (.slice A4_5 l4_5.length c4_5) ∧ w'.cell? ⟨B5, 0, none⟩ = some (.slice A5_0 l5_0.length c5_0)) (ds := []) #[false, false, false, false, false, false, false, false, false, false, false, false, false, false, false] (by kernel_rfl) rfl rfl ⟨(Qb BK3.out 0).trans rfl, (Qb BK110.out 0).trans rfl, (Qb BK110.out 1).trans rfl, (Qb BK110.out 2).trans rfl, (Qb BK110.out 3).trans rfl, (Qb BK110.out 4).trans rfl, (Qb BK110.out 5).trans rfl, (Qb BK4.out 0).trans rfl, (Qb BK4.out 1).trans rfl, (Qb BK4.out 2).trans rfl, (Qb BK4.out 3).trans rfl, (Qb BK4.out 4).trans rfl, (Qb BK4.out 5).trans rfl, (Qb BK5.out 0).trans rfl⟩ (fun hHeld => ?_); refine Jk QZ.tab3 QZ.bits3 (fun HT_ HW_ => ?_)
   generalize w35.drew = w36 at HO109 HO113 BK1 BK2 BK3 BK4 BK5 BK101 BK110 HB hHeld ⊢
   refine pu 0 20 ?_
   refine pu 1 21 ?_
   refine tk 2 22 hHeld ?_
   refine pu 3 23 ?_
   refine pu 4 24 ?_
   refine pu 6 26 ?_
   refine tk 5 25 hHeld ?_
   refine tk 8 28 hHeld ?_
   refine tk 9 29 hHeld ?_
   refine on 7 (fun K hK => ?_)
   refine gO Tryz.func74 #[.agg #[.int .i64 t102, .int .i64 t103, .int .i64 t104, .int .i64 t105, .int .i64 t106, .slice Ao34 t107.length co34], .slice Ao37 t111.length co37, .func (.func 80) #[] #[]] ?_
   with_reducible refine (Qi.calls k t102 t103 t104 t105 t106 _ _ t107 _ _ t111  t115 _ ?side1 ?side2 ?side3 ?side4 A11.out).mono ?_
   (case side1 => exact pC (Kd.R_reads' HO109.out).2.2)
   (case side2 => exact (Kd.R_reads' HO109.out).2.1)
   (case side3 => exact pC (Kd.R_reads' HO113.out).2.2)
   (case side4 => exact (Kd.R_reads' HO113.out).2.1)
   rintro e w38 ⟨rfl, hb⟩
   refine ⟨_, rfl, ?_⟩
   replace HO109 := rb HO109 hb
   replace HO113 := rb HO113 hb
   replace BK1 := bb BK1 hb
   replace BK2 := bb BK2 hb
   replace BK3 := bb BK3 hb
   replace BK4 := bb BK4 hb
   replace BK5 := bb BK5 hb
   replace BK101 := bb BK101 hb
   replace BK110 := bb BK110 hb
   replace HB := bs HB hb
   (try clear hb)
   (try clear hb2)
   (try clear hk)
   (try clear hi)
   refine hK.out _ _ ⟨(Qb BK3.out 0).trans rfl, (Qb BK110.out 0).trans rfl, (Qb BK110.out 1).trans rfl, (Qb BK110.out 2).trans rfl, (Qb BK110.out 3).trans rfl, (Qb BK110.out 4).trans rfl, (Qb BK110.out 5).trans rfl, (Qb BK4.out 0).trans rfl, (Qb BK4.out 1).trans rfl, (Qb BK4.out 2).trans rfl, (Qb BK4.out 3).trans rfl, (Qb BK4.out 4).trans rfl, (Qb BK4.out 5).trans rfl, (Qb BK5.out 0).trans rfl⟩ (fun hHeld => ?_)
   clear hK K
   refine QY (a' := ?_) ?_ ?_
   rotate_left
   ·show Act.put _ (some 27) _ = _
    simp only [Act.put, List.setIfInBounds_toArray, List.set_cons_zero, List.set_cons_succ, QR, QU]
    rfl
   refine on 10 (fun K hK => ?_)
   refine gO Tryz.func74 #[.agg #[.int .i64 a4_0, .int .i64 a4_1, .int .i64 a4_2, .int .i64 a4_3, .int .i64 a4_4, .slice A4_5 l4_5.length c4_5], .slice A5_0 l5_0.length c5_0, .func (.func 80) #[] #[]] ?_
   with_reducible refine (Qi.calls k a4_0 a4_1 a4_2 a4_3 a4_4 _ _ l4_5 _ _ l5_0  t116 _ ?side1 ?side2 ?side3 ?side4 A12.out).mono ?_
   (case side1 => exact pC (Kd.C_below HR4_5.out HB.out))
   (case side2 => exact HC4_5.out)
   (case side3 => exact pC (Kd.C_below HR5_0.out HB.out))
   (case side4 => exact HC5_0.out)
   rintro e w39 ⟨rfl, hb⟩
   refine ⟨_, rfl, ?_⟩
   replace HO109 := rb HO109 hb
   replace HO113 := rb HO113 hb
   replace BK1 := bb BK1 hb
   replace BK2 := bb BK2 hb
   replace BK3 := bb BK3 hb
   replace BK4 := bb BK4 hb
   replace BK5 := bb BK5 hb
   replace BK101 := bb BK101 hb
   replace BK110 := bb BK110 hb
   replace HB := bs HB hb
   (try clear hb)
   (try clear hb2)
   (try clear hk)
   (try clear hi)
   refine hK.out _ _ ⟨(Qb BK3.out 0).trans rfl, (Qb BK110.out 0).trans rfl, (Qb BK110.out 1).trans rfl, (Qb BK110.out 2).trans rfl, (Qb BK110.out 3).trans rfl, (Qb BK110.out 4).trans rfl, (Qb BK110.out 5).trans rfl, (Qb BK4.out 0).trans rfl, (Qb BK4.out 1).trans rfl, (Qb BK4.out 2).trans rfl, (Qb BK4.out 3).trans rfl, (Qb BK4.out 4).trans rfl, (Qb BK4.out 5).trans rfl, (Qb BK5.out 0).trans rfl⟩ (fun hHeld => ?_)
   clear hK K
   refine QY (a' := ?_) ?_ ?_
   rotate_left
   ·show Act.put _ (some 30) _ = _
    simp only [Act.put, List.setIfInBounds_toArray, List.set_cons_zero, List.set_cons_succ, QR, QU]
    rfl
   refine pu 11 31 ?_
   refine pu 12 32 ?_
   refine pu 13 33 ?_
   refine pu 14 7 ?_
   refine JD (JM HT_.out (by kernel_rfl)) ?_
   try go_wp2
   go_ret
   exact ⟨eT, pE HB⟩
  ·replace c10 := Bool.eq_false_iff.mpr c10
   subst c10
   rw [if_neg (show ¬ (false = true) by decide)] at H
   obtain rfl := Option.some.inj H
   go_enter Tryz.func84, Tryz.ntmps84
   try go_wp2_with (first | ((with_reducible refine gd 6 ?_); refine bx 6 #[.int .i64 a0] 3 ?_; intro gb101 hg w40 BK101 hb; have GW101 := gs HB hg; replace HB := bs HB hb; have NB1_101 := nl BK1 hg; have NB101_1 := nr BK1 hg; replace BK1 := bb BK1 hb; have NB2_101 := nl BK2 hg; have NB101_2 := nr BK2 hg; replace BK2 := bb BK2 hb; have NB3_101 := nl BK3 hg; have NB101_3 := nr BK3 hg; replace BK3 := bb BK3 hb; have NB4_101 := nl BK4 hg; have NB101_4 := nr BK4 hg; replace BK4 := bb BK4 hb; have NB5_101 := nl BK5 hg; have NB101_5 := nr BK5 hg; replace BK5 := bb BK5 hb; clear hb hg; have hnb41 := NB1_2.out; have hnc41 := NB2_1.out; have hnb42 := NB1_3.out; have hnc42 := NB3_1.out; have hnb43 := NB1_4.out; have hnc43 := NB4_1.out; have hnb44 := NB1_5.out; have hnc44 := NB5_1.out; have hnb45 := NB1_101.out; have hnc45 := NB101_1.out; obtain ⟨_, _, _, _, _, _, _, _, _, _, _, _⟩ := cf6 BK1; have hnb47 := NB2_3.out; have hnc47 := NB3_2.out; have hnb48 := NB2_4.out; have hnc48 := NB4_2.out; have hnb49 := NB2_5.out; have hnc49 := NB5_2.out; have hnb50 := NB2_101.out; have hnc50 := NB101_2.out; obtain ⟨_, _⟩ := cf1 BK2) | ((with_reducible refine gc 82 rfl ?_); refine gL 14 Tryz.func82 #[.agg #[.int .i64 a1_0, .int .i64 a1_1, .int .i64 a1_2, .int .i64 a1_3, .int .i64 a1_4, .slice A1_5 l1_5.length c1_5], .int .i64 a2_0, .func (.func 85) #[] #[.pointer (some ⟨gb101, 0, none⟩)]] ?_; (with_reducible refine (QQ.calls a1_0 a1_1 a1_2 a1_3 a1_4 _ _ l1_5 a2_0 gb101 a0 t102 t103 t104 t105 t106 t107 _ ?side1 ?side2 ?side3 A7.out).mono ?_); (case side1 => exact pC (Kd.C_below HR1_5.out HB.out)); (case side2 => exact HC1_5.out); (case side3 => exact pB BK101.out); rintro e w52 ⟨v108, rfl, ho0, hb⟩; refine ⟨_, rfl, ?_⟩; have HO109 := rl ho0 HB; replace BK1 := bb BK1 hb; replace BK2 := bb BK2 hb; replace BK3 := bb BK3 hb; replace BK4 := bb BK4 hb; replace BK5 := bb BK5 hb; replace BK101 := bb BK101 hb; replace HB := bs HB hb; clear hb ho0) | ((with_reducible refine gd 8 ?_); refine bx 8 #[.int .i64 0, .int .i64 0, .int .i64 0, .int .i64 0, .int .i64 0, .slice none 0 0] 120 ?_; intro gb110 hg w53 hbox hb; replace HO109 := rb HO109 hb; have BK110 := hbox; have GW110 := gs HB hg; replace HB := bs HB hb; have NB1_110 := nl BK1 hg; have NB110_1 := nr BK1 hg; replace BK1 := bb BK1 hb; have NB2_110 := nl BK2 hg; have NB110_2 := nr BK2 hg; replace BK2 := bb BK2 hb; have NB3_110 := nl BK3 hg; have NB110_3 := nr BK3 hg; replace BK3 := bb BK3 hb; have NB4_110 := nl BK4 hg; have NB110_4 := nr BK4 hg; replace BK4 := bb BK4 hb; have NB5_110 := nl BK5 hg; have NB110_5 := nr BK5 hg; replace BK5 := bb BK5 hb; have NB101_110 := nl BK101 hg; have NB110_101 := nr BK101 hg; replace BK101 := bb BK101 hb; clear hb hg; have hnb54 := NB110_1.out; have hnc54 := NB1_110.out; have hnb55 := NB110_2.out; have hnc55 := NB2_110.out; have hnb56 := NB110_3.out; have hnc56 := NB3_110.out; have hnb57 := NB110_4.out; have hnc57 := NB4_110.out; have hnb58 := NB110_5.out; have hnc58 := NB5_110.out; have hnb59 := NB110_101.out; have hnc59 := NB101_110.out; obtain ⟨_, _, _, _, _, _, _, _, _, _, _, _⟩ := cf6 BK110; obtain ⟨Ao61, co61, eo61⟩ := Kd.R_slice HO109.out; subst eo61) | ((with_reducible refine gc 79 rfl ?_); refine gL 17 Tryz.func79 #[.agg #[.int .i64 t102, .int .i64 t103, .int .i64 t104, .int .i64 t105, .int .i64 t106, .slice Ao61 t107.length co61]] ?_; (with_reducible refine (Qv.calls k t102 t103 t104 t105 t106 _ _ t107 t111 true _ ?side1 ?side2 A8.out).mono ?_); (case side1 => refine (Kd.R_reads' (e := 100) (base := w.heap.size) (ok := fun k_ => True) (n := t107.length) (c := co61) ?_).2.2; exact (by refine pR ?_; exact (Kd.R_mono (Kd.R_far (p := ⟨gb110, 5, none⟩) (Kd.R_far (p := ⟨gb110, 4, none⟩) (Kd.R_far (p := ⟨gb110, 3, none⟩) (Kd.R_far (p := ⟨gb110, 2, none⟩) (Kd.R_far (p := ⟨gb110, 1, none⟩) (Kd.R_far (p := ⟨gb110, 0, none⟩) (Kd.R_types HO109.out BK110.out (by decide)) (fun _ hk => hk.2) (.int .i64 t102)) (fun _ hk => hk.2) (.int .i64 t103)) (fun _ hk => hk.2) (.int .i64 t104)) (fun _ hk => hk.2) (.int .i64 t105)) (fun _ hk => hk.2) (.int .i64 t106)) (fun _ hk => hk.2) (.slice Ao61 t107.length co61)) (fun _ h_ => h_.1)))); (case side2 => exact (Kd.R_reads' HO109.out).2.1); rintro e w62 ⟨v112, rfl, ho0, hb⟩; refine ⟨_, rfl, ?_⟩; replace HO109 := Qa.mk (Kd.R_below (by refine pR ?_; exact (Kd.R_mono (Kd.R_far (p := ⟨gb110, 5, none⟩) (Kd.R_far (p := ⟨gb110, 4, none⟩) (Kd.R_far (p := ⟨gb110, 3, none⟩) (Kd.R_far (p := ⟨gb110, 2, none⟩) (Kd.R_far (p := ⟨gb110, 1, none⟩) (Kd.R_far (p := ⟨gb110, 0, none⟩) (Kd.R_types HO109.out BK110.out (by decide)) (fun _ hk => hk.2) (.int .i64 t102)) (fun _ hk => hk.2) (.int .i64 t103)) (fun _ hk => hk.2) (.int .i64 t104)) (fun _ hk => hk.2) (.int .i64 t105)) (fun _ hk => hk.2) (.int .i64 t106)) (fun _ hk => hk.2) (.slice Ao61 t107.length co61)) (fun _ h_ => h_.1))) hb); have HO113 := Qa.mk (Kd.R_lower (Kd.R_newB (Kd.R_newB ho0 (g := B2) (o := .cells #[.int .i64 a2_0] 3 (0, 0)) (pF BK2)) (g := gb101) (o := .cells #[.int .i64 a0] 3 (0, 0)) (pF BK101)) (Qr (pE HB))); replace BK1 := bf BK1 hb; replace BK2 := bf BK2 hb; replace BK3 := bf BK3 hb; replace BK4 := bf BK4 hb; replace BK5 := bf BK5 hb; replace BK101 := bf BK101 hb; replace BK110 := Qa.mk (QX (g := gb110) (o := .cells #[.int .i64 t102, .int .i64 t103, .int .i64 t104, .int .i64 t105, .int .i64 t106, .slice Ao61 t107.length co61] 120 (0, 0)) (by refine pB ?_; refine Qg (cs := #[.int .i64 t102, .int .i64 t103, .int .i64 t104, .int .i64 t105, .int .i64 t106, .slice none 0 0]) ?_ 5 _ rfl; refine pB ?_; refine Qg (cs := #[.int .i64 t102, .int .i64 t103, .int .i64 t104, .int .i64 t105, .int .i64 0, .slice none 0 0]) ?_ 4 _ rfl; refine pB ?_; refine Qg (cs := #[.int .i64 t102, .int .i64 t103, .int .i64 t104, .int .i64 0, .int .i64 0, .slice none 0 0]) ?_ 3 _ rfl; refine pB ?_; refine Qg (cs := #[.int .i64 t102, .int .i64 t103, .int .i64 0, .int .i64 0, .int .i64 0, .slice none 0 0]) ?_ 2 _ rfl; refine pB ?_; refine Qg (cs := #[.int .i64 t102, .int .i64 0, .int .i64 0, .int .i64 0, .int .i64 0, .slice none 0 0]) ?_ 1 _ rfl; refine pB ?_; refine Qg (cs := #[.int .i64 0, .int .i64 0, .int .i64 0, .int .i64 0, .int .i64 0, .slice none 0 0]) ?_ 0 _ rfl; (with_reducible repeat (first | refine Qt ?_ _ | refine Qh ?_ | refine blk_alloc ?_ _)); exact BK110.out) hb); replace HB := bs HB hb; clear hb ho0))
   replace HO109 := Qa.mk (Kd.R_drew HO109.out)
   replace HO113 := Qa.mk (Kd.R_drew HO113.out)
   replace BK1 := Qa.mk (Qh BK1.out)
   replace BK2 := Qa.mk (Qh BK2.out)
   replace BK3 := Qa.mk (Qh BK3.out)
   replace BK4 := Qa.mk (Qh BK4.out)
   replace BK5 := Qa.mk (Qh BK5.out)
   replace BK101 := Qa.mk (Qh BK101.out)
   replace BK110 := Qa.mk (Qh BK110.out)
   replace HB := Qa.mk (QM HB.out)
   refine JS (n := 15) (S := fun w' => w'.cell? ⟨B3, 0, none⟩ = some (.bool false)) (ds := []) #[false, false, false, false, false, false, false, false, false, false, false, false, false, false, false] (by kernel_rfl) rfl rfl ((Qb BK3.out 0).trans rfl) (fun hHeld => ?_); refine Jk QZ.tab3 QZ.bits3 (fun HT_ HW_ => ?_)
   generalize w62.drew = w63 at HO109 HO113 BK1 BK2 BK3 BK4 BK5 BK101 BK110 HB hHeld ⊢
   refine pu 0 20 ?_
   refine pu 1 21 ?_
   refine X3 (i := 2) (N := some 22) (v := ?_) (a' := ?_) #[true, true, true, false, false, false, false, false, false, false, false, false, false, false, false] rfl rfl (Ye HT_.out HW_.out (by kernel_rfl)) (fun _ _ _ h => h) (Or.inl ⟨by rfl, ?_⟩) hHeld ?_ ?_
   rotate_left
   ·intro w' s0
    go_simp
    with_reducible rfl
   rotate_left
   ·simp only [Act.put, List.setIfInBounds_toArray, List.set_cons_zero, List.set_cons_succ, QR, QU]
    rfl
   refine pu 3 23 ?_
   refine pu 4 24 ?_
   refine pd 5 25 ?_
   refine pd 6 26 ?_
   refine pd 7 27 ?_
   refine pd 8 28 ?_
   refine pd 9 29 ?_
   refine pd 10 30 ?_
   refine pd 11 31 ?_
   refine pu 12 32 ?_
   refine pu 13 33 ?_
   refine pu 14 7 ?_
   refine JD (JM HT_.out (by kernel_rfl)) ?_
   try go_wp2
   go_ret
   exact ⟨eT, pE HB⟩
 ·replace c9 := Bool.eq_false_iff.mpr c9
  subst c9
  rw [if_neg (show ¬ (false = true) by decide)] at H
  obtain rfl := Option.some.inj H
  go_enter Tryz.func84, Tryz.ntmps84
  try go_wp2_with (first | ((with_reducible refine gd 6 ?_); refine bx 6 #[.int .i64 a0] 3 ?_; intro gb101 hg w64 BK101 hb; have GW101 := gs HB hg; replace HB := bs HB hb; have NB1_101 := nl BK1 hg; have NB101_1 := nr BK1 hg; replace BK1 := bb BK1 hb; have NB2_101 := nl BK2 hg; have NB101_2 := nr BK2 hg; replace BK2 := bb BK2 hb; have NB3_101 := nl BK3 hg; have NB101_3 := nr BK3 hg; replace BK3 := bb BK3 hb; have NB4_101 := nl BK4 hg; have NB101_4 := nr BK4 hg; replace BK4 := bb BK4 hb; have NB5_101 := nl BK5 hg; have NB101_5 := nr BK5 hg; replace BK5 := bb BK5 hb; clear hb hg; have hnb65 := NB1_2.out; have hnc65 := NB2_1.out; have hnb66 := NB1_3.out; have hnc66 := NB3_1.out; have hnb67 := NB1_4.out; have hnc67 := NB4_1.out; have hnb68 := NB1_5.out; have hnc68 := NB5_1.out; have hnb69 := NB1_101.out; have hnc69 := NB101_1.out; obtain ⟨_, _, _, _, _, _, _, _, _, _, _, _⟩ := cf6 BK1; have hnb71 := NB2_3.out; have hnc71 := NB3_2.out; have hnb72 := NB2_4.out; have hnc72 := NB4_2.out; have hnb73 := NB2_5.out; have hnc73 := NB5_2.out; have hnb74 := NB2_101.out; have hnc74 := NB101_2.out; obtain ⟨_, _⟩ := cf1 BK2) | ((with_reducible refine gc 82 rfl ?_); refine gL 14 Tryz.func82 #[.agg #[.int .i64 a1_0, .int .i64 a1_1, .int .i64 a1_2, .int .i64 a1_3, .int .i64 a1_4, .slice A1_5 l1_5.length c1_5], .int .i64 a2_0, .func (.func 85) #[] #[.pointer (some ⟨gb101, 0, none⟩)]] ?_; (with_reducible refine (QQ.calls a1_0 a1_1 a1_2 a1_3 a1_4 _ _ l1_5 a2_0 gb101 a0 t102 t103 t104 t105 t106 t107 _ ?side1 ?side2 ?side3 A7.out).mono ?_); (case side1 => exact pC (Kd.C_below HR1_5.out HB.out)); (case side2 => exact HC1_5.out); (case side3 => exact pB BK101.out); rintro e w76 ⟨v108, rfl, ho0, hb⟩; refine ⟨_, rfl, ?_⟩; have HO109 := rl ho0 HB; replace BK1 := bb BK1 hb; replace BK2 := bb BK2 hb; replace BK3 := bb BK3 hb; replace BK4 := bb BK4 hb; replace BK5 := bb BK5 hb; replace BK101 := bb BK101 hb; replace HB := bs HB hb; clear hb ho0) | ((with_reducible refine gd 8 ?_); refine bx 8 #[.int .i64 0, .int .i64 0, .int .i64 0, .int .i64 0, .int .i64 0, .slice none 0 0] 120 ?_; intro gb110 hg w77 hbox hb; replace HO109 := rb HO109 hb; have BK110 := hbox; have GW110 := gs HB hg; replace HB := bs HB hb; have NB1_110 := nl BK1 hg; have NB110_1 := nr BK1 hg; replace BK1 := bb BK1 hb; have NB2_110 := nl BK2 hg; have NB110_2 := nr BK2 hg; replace BK2 := bb BK2 hb; have NB3_110 := nl BK3 hg; have NB110_3 := nr BK3 hg; replace BK3 := bb BK3 hb; have NB4_110 := nl BK4 hg; have NB110_4 := nr BK4 hg; replace BK4 := bb BK4 hb; have NB5_110 := nl BK5 hg; have NB110_5 := nr BK5 hg; replace BK5 := bb BK5 hb; have NB101_110 := nl BK101 hg; have NB110_101 := nr BK101 hg; replace BK101 := bb BK101 hb; clear hb hg; have hnb78 := NB110_1.out; have hnc78 := NB1_110.out; have hnb79 := NB110_2.out; have hnc79 := NB2_110.out; have hnb80 := NB110_3.out; have hnc80 := NB3_110.out; have hnb81 := NB110_4.out; have hnc81 := NB4_110.out; have hnb82 := NB110_5.out; have hnc82 := NB5_110.out; have hnb83 := NB110_101.out; have hnc83 := NB101_110.out; obtain ⟨_, _, _, _, _, _, _, _, _, _, _, _⟩ := cf6 BK110; obtain ⟨Ao85, co85, eo85⟩ := Kd.R_slice HO109.out; subst eo85) | ((with_reducible refine gc 79 rfl ?_); refine gL 17 Tryz.func79 #[.agg #[.int .i64 t102, .int .i64 t103, .int .i64 t104, .int .i64 t105, .int .i64 t106, .slice Ao85 t107.length co85]] ?_; (with_reducible refine (Qv.calls k t102 t103 t104 t105 t106 _ _ t107 t111 false _ ?side1 ?side2 A8.out).mono ?_); (case side1 => refine (Kd.R_reads' (e := 100) (base := w.heap.size) (ok := fun k_ => True) (n := t107.length) (c := co85) ?_).2.2; exact (by refine pR ?_; exact (Kd.R_mono (Kd.R_far (p := ⟨gb110, 5, none⟩) (Kd.R_far (p := ⟨gb110, 4, none⟩) (Kd.R_far (p := ⟨gb110, 3, none⟩) (Kd.R_far (p := ⟨gb110, 2, none⟩) (Kd.R_far (p := ⟨gb110, 1, none⟩) (Kd.R_far (p := ⟨gb110, 0, none⟩) (Kd.R_types HO109.out BK110.out (by decide)) (fun _ hk => hk.2) (.int .i64 t102)) (fun _ hk => hk.2) (.int .i64 t103)) (fun _ hk => hk.2) (.int .i64 t104)) (fun _ hk => hk.2) (.int .i64 t105)) (fun _ hk => hk.2) (.int .i64 t106)) (fun _ hk => hk.2) (.slice Ao85 t107.length co85)) (fun _ h_ => h_.1)))); (case side2 => exact (Kd.R_reads' HO109.out).2.1); rintro e w86 ⟨v112, rfl, ho0, hb⟩; refine ⟨_, rfl, ?_⟩; replace HO109 := Qa.mk (Kd.R_below (by refine pR ?_; exact (Kd.R_mono (Kd.R_far (p := ⟨gb110, 5, none⟩) (Kd.R_far (p := ⟨gb110, 4, none⟩) (Kd.R_far (p := ⟨gb110, 3, none⟩) (Kd.R_far (p := ⟨gb110, 2, none⟩) (Kd.R_far (p := ⟨gb110, 1, none⟩) (Kd.R_far (p := ⟨gb110, 0, none⟩) (Kd.R_types HO109.out BK110.out (by decide)) (fun _ hk => hk.2) (.int .i64 t102)) (fun _ hk => hk.2) (.int .i64 t103)) (fun _ hk => hk.2) (.int .i64 t104)) (fun _ hk => hk.2) (.int .i64 t105)) (fun _ hk => hk.2) (.int .i64 t106)) (fun _ hk => hk.2) (.slice Ao85 t107.length co85)) (fun _ h_ => h_.1))) hb); have HO113 := Qa.mk (Kd.R_lower (Kd.R_newB (Kd.R_newB ho0 (g := B2) (o := .cells #[.int .i64 a2_0] 3 (0, 0)) (pF BK2)) (g := gb101) (o := .cells #[.int .i64 a0] 3 (0, 0)) (pF BK101)) (Qr (pE HB))); replace BK1 := bf BK1 hb; replace BK2 := bf BK2 hb; replace BK3 := bf BK3 hb; replace BK4 := bf BK4 hb; replace BK5 := bf BK5 hb; replace BK101 := bf BK101 hb; replace BK110 := Qa.mk (QX (g := gb110) (o := .cells #[.int .i64 t102, .int .i64 t103, .int .i64 t104, .int .i64 t105, .int .i64 t106, .slice Ao85 t107.length co85] 120 (0, 0)) (by refine pB ?_; refine Qg (cs := #[.int .i64 t102, .int .i64 t103, .int .i64 t104, .int .i64 t105, .int .i64 t106, .slice none 0 0]) ?_ 5 _ rfl; refine pB ?_; refine Qg (cs := #[.int .i64 t102, .int .i64 t103, .int .i64 t104, .int .i64 t105, .int .i64 0, .slice none 0 0]) ?_ 4 _ rfl; refine pB ?_; refine Qg (cs := #[.int .i64 t102, .int .i64 t103, .int .i64 t104, .int .i64 0, .int .i64 0, .slice none 0 0]) ?_ 3 _ rfl; refine pB ?_; refine Qg (cs := #[.int .i64 t102, .int .i64 t103, .int .i64 0, .int .i64 0, .int .i64 0, .slice none 0 0]) ?_ 2 _ rfl; refine pB ?_; refine Qg (cs := #[.int .i64 t102, .int .i64 0, .int .i64 0, .int .i64 0, .int .i64 0, .slice none 0 0]) ?_ 1 _ rfl; refine pB ?_; refine Qg (cs := #[.int .i64 0, .int .i64 0, .int .i64 0, .int .i64 0, .int .i64 0, .slice none 0 0]) ?_ 0 _ rfl; (with_reducible repeat (first | refine Qt ?_ _ | refine Qh ?_ | refine blk_alloc ?_ _)); exact BK110.out) hb); replace HB := bs HB hb; clear hb ho0))
  replace HO109 := Qa.mk (Kd.R_drew HO109.out)
  replace HO113 := Qa.mk (Kd.R_drew HO113.out)
  replace BK1 := Qa.mk (Qh BK1.out)
  replace BK2 := Qa.mk (Qh BK2.out)
  replace BK3 := Qa.mk (Qh BK3.out)
  replace BK4 := Qa.mk (Qh BK4.out)
  replace BK5 := Qa.mk (Qh BK5.out)
  replace BK101 := Qa.mk (Qh BK101.out)
  replace BK110 := Qa.mk (Qh BK110.out)
  replace HB := Qa.mk (QM HB.out)
  refine JS (n := 15) (S := fun w' => True) (ds := []) #[false, false, false, false, false, false, false, false, false, false, false, false, false, false, false] (by kernel_rfl) rfl rfl trivial (fun hHeld => ?_); refine Jk QZ.tab3 QZ.bits3 (fun HT_ HW_ => ?_)
  generalize w86.drew = w87 at HO109 HO113 BK1 BK2 BK3 BK4 BK5 BK101 BK110 HB hHeld ⊢
  refine pu 0 20 ?_
  refine pu 1 21 ?_
  refine pd 2 22 ?_
  refine pd 3 23 ?_
  refine pd 4 24 ?_
  refine pd 5 25 ?_
  refine pd 6 26 ?_
  refine pd 7 27 ?_
  refine pd 8 28 ?_
  refine pd 9 29 ?_
  refine pd 10 30 ?_
  refine pd 11 31 ?_
  refine pd 12 32 ?_
  refine pu 13 33 ?_
  refine pu 14 7 ?_
  refine JD (JM HT_.out (by kernel_rfl)) ?_
  try go_wp2
  go_ret
  exact ⟨eT, pE HB⟩
end Go.Proofs.YtjaapkkpmegkfaaGreat.P
namespace Go.Proofs.YtjaapkkpmegkfaaGreat.P
open Go.RowKit Go.Proofs.YtjaapkkpmegkfaaGreatW.PrintWords Go.Proofs.YtjaapkkpmegkfaaGreatW.PrintLast Go.Proofs.YtjaapkkpmegkfaaGreatW.PrintMore
def J6 (p : Int → Option Bool) : Nat → Int → Int → Option Int
 | 0, _, _ => none
 | k + 1, x5, x6 => if x5 < x6 then ((p (wrap64 ((IntKind.u64.wrap (wrap64 (x5 + x6))) / 2))).bind fun t101 => (if t101 = true then (J6 p k x5 (wrap64 ((IntKind.u64.wrap (wrap64 (x5 + x6))) / 2))) else (J6 p k (wrap64 ((wrap64 ((IntKind.u64.wrap (wrap64 (x5 + x6))) / 2)) + 1)) x6))) else (some x5)
theorem ZL {p q : Int → Option Bool} (h : ∀ x, LeO (p x) (q x)) : ∀ k x y, LeO (J6 p k x y) (J6 q (k + 1) x y)
 | 0, _, _ => LeO.none _
 | k + 1, x, y => by
  unfold J6
  refine LeO.ite (LeO.bind (h _) fun b => LeO.ite (ZL h k _ _) (ZL h k _ _)) (LeO.refl _)
set_option maxHeartbeats 8000000 in
set_option maxRecDepth 100000 in
theorem search_Dear_3.calls (k : Nat) (p : Int → Option Bool) (a0 : Int) (B : Nat) (r : Int) (w : World)
  (hp : ∀ x b w', Below w.heap.size w w' → p x = some b → Calls Tryz.prog 87 #[.int .i64 x, .pointer (some ⟨B, 0, none⟩)] w' fun e w'' => e = .returned (.bool b) ∧ Below w'.heap.size w' w'') (h : J6 p k 0 a0 = some r) :
  Calls Tryz.prog 86 #[.int .i64 a0, .func (.func 87) #[] #[.pointer (some ⟨B, 0, none⟩)]] w fun e w' => e = .returned (.int .i64 r) ∧ Below w.heap.size w w' := by
 have HP := Qa.mk hp
 clear hp
 have HB := Qa.mk (Below.refl w.heap.size w)
 have H : (J6 p k 0 a0) = some r := h
 clear h
 have H' := Qa.mk H
 clear H
 go_enter Tryz.func86, Tryz.ntmps86
 go_wp2
 go_loopg [5, 6] k (fun kq v5 v6 w' => ∃ (x5_1 : Int) (x6_1 : Int), v5 = .int .i64 x5_1 ∧ v6 = .int .i64 x6_1 ∧ Qa (J6 p kq x5_1 x6_1 = some r) ∧ Qa (kq ≤ k) ∧ Qa (Below w.heap.size w w'))
 case atStart => exact ⟨(0), (a0), eS, eS, H', ⟨Nat.le_refl _⟩, ⟨pE HB⟩⟩
 case round =>
  clear H'
  try clear p2
  obtain ⟨x5_1, x6_1, rfl, rfl, HA, HK1, HB⟩ := hrel
  cases gk with
  | zero => exact absurd HA.out (by simp [J6])
  | succ k1 =>
   have H := HA.out
   clear HA
   simp only [J6] at H
   by_cases c3 : x5_1 < x6_1
   ·rw [if_pos c3] at H
    have c3b0 : decide (x5_1 < x6_1) = true := decide_eq_true c3
    clear c3
    obtain ⟨t101, A4, H⟩ := bi H
    by_cases c5 : t101 = true
    ·subst c5
     rw [if_pos rfl] at H
     have H' := Qa.mk H
     clear H
     go_wp2_with (first | (go_at_call 87; refine (HP.out _ _ _ HB.out A4.out).mono ?_; rintro e w2 ⟨rfl, hb⟩; have n0_ := Qa.mk (QV HB.out hb); clear HB; have HB := n0_; clear n0_ hb))
     go_roundg k1
     case measure => have := HK1.out; omega
     case rel => exact ⟨(x5_1), (wrap64 ((IntKind.u64.wrap (wrap64 (x5_1 + x6_1))) / 2)), eS, eS, H', ⟨by have := HK1.out; omega⟩, ⟨pE HB⟩⟩
    ·replace c5 := Bool.eq_false_iff.mpr c5
     subst c5
     rw [if_neg (show ¬ (false = true) by decide)] at H
     have H' := Qa.mk H
     clear H
     go_wp2_with (first | (go_at_call 87; refine (HP.out _ _ _ HB.out A4.out).mono ?_; rintro e w2 ⟨rfl, hb⟩; have n0_ := Qa.mk (QV HB.out hb); clear HB; have HB := n0_; clear n0_ hb))
     go_roundg k1
     case measure => have := HK1.out; omega
     case rel => exact ⟨(wrap64 ((wrap64 ((IntKind.u64.wrap (wrap64 (x5_1 + x6_1))) / 2)) + 1)), (x6_1), eS, eS, H', ⟨by have := HK1.out; omega⟩, ⟨pE HB⟩⟩
   ·rw [if_neg c3] at H
    have c3b0 : decide (x5_1 < x6_1) = false := decide_eq_false c3
    clear c3
    obtain rfl := Option.some.inj H
    go_wp2
    go_ret
    exact ⟨eT, pE HB⟩
end Go.Proofs.YtjaapkkpmegkfaaGreat.P
namespace Go.Proofs.YtjaapkkpmegkfaaGreat.P
open Go.RowKit Go.Proofs.YtjaapkkpmegkfaaGreatW.PrintWords Go.Proofs.YtjaapkkpmegkfaaGreatW.PrintLast Go.Proofs.YtjaapkkpmegkfaaGreatW.PrintMore
attribute [local go_sem] JG JH JY JX Jv Ju JJ JK
def Q7.tail (k : Nat) (j0 j1 j2 j3 j4 : Int) (jl : List S100) (n : Int) (has : Bool) (w0 w1 w2 w3 w4 : Int) (wl : List S100) (other : List Int) : Option (Int × Int) :=
 (J6 (fun x => (QZ.f k x j0 j1 j2 j3 j4 jl n has w0 w1 w2 w3 w4 wl other).bind fun b => some (!b)) k 0 501).bind fun first => if first = 0 then some (0, 9) else some (wrap64 (first - 1), 0)
theorem Q7.tail_mono (k : Nat) (j0 j1 j2 j3 j4 : Int) (jl : List S100) (n : Int) (has : Bool) (w0 w1 w2 w3 w4 : Int) (wl : List S100) (other : List Int) : LeO (Q7.tail k j0 j1 j2 j3 j4 jl n has w0 w1 w2 w3 w4 wl other) (Q7.tail (k + 1) j0 j1 j2 j3 j4 jl n has w0 w1 w2 w3 w4 wl other) := by
 unfold Q7.tail
 exact LeO.bind (ZL (fun x => LeO.bind (QZ.mono _ _ _ _ _ _ _ _ _ _ _ _ _ _ _ _ _) fun _ => LeO.refl _) _ _ _) fun _ => LeO.refl _
theorem XP {P : Program} {w : World} {a : Addr} {m : Mode} (f : Fn) (ts cs : Array Value) : (store a (.func f ts cs) m).run P w = stored P w a (.func f ts cs) m := run_store P w a _ m rfl
attribute [local go_sem] XP
set_option maxHeartbeats 8000000 in
set_option maxRecDepth 100000 in
theorem Yn.calls (k B : Nat) (x : Int) (b : Bool) (caps : Array Value) (w : World) (hb : w.heap[B]? = some (.cells #[.func (.func 84) #[] caps] 132 (0, 0)))
  (h : Calls Tryz.prog 84 (#[.int .i64 x] ++ caps) w fun e w' => e = .returned (.bool b) ∧ Below w.heap.size w w') :
  Calls Tryz.prog 87 #[.int .i64 x, .pointer (some ⟨B, 0, none⟩)] w fun e w' => e = .returned (.bool (!b)) ∧ Below w.heap.size w w' := by
 have hc : w.cell? ⟨B, 0, none⟩ = some (.func (.func 84) #[] caps) := (Qb hb 0).trans rfl
 have H := Qa.mk h
 clear h hb
 go_enter Tryz.func87, Tryz.ntmps87
 go_wp2_with (first | (go_at_call 84; refine H.out.mono ?_; rintro e w2 ⟨rfl, hb⟩; have HB := Qa.mk hb; clear hb))
 go_ret
 exact ⟨by first | rfl | (simp; done), HB.out⟩
def Q7.f (k : Nat) (l0 : List S100) (a1_0 a1_1 a1_2 a1_3 a1_4 a2 : Int) : Option (Int × Int) := (Jd.f l0 a1_0 a1_1 a1_2 a1_3 a1_4).bind fun bt103 => (if bt103.2.2.2.2.2.2 = 0 then ((Qk.f 0 (wrap64 ((l0.length : Int) - 1)) (([a2] : List Int))).bind fun t116 => (if t116 = true then ((Q2.f bt103.1 bt103.2.1 bt103.2.2.1 bt103.2.2.2.1 bt103.2.2.2.2.1 bt103.2.2.2.2.2.1 a2).bind fun bt117 => ((Qv.f k bt117.1 bt117.2.1 bt117.2.2.1 bt117.2.2.2.1 bt117.2.2.2.2.1 bt117.2.2.2.2.2).bind fun bt126 => (Q7.tail k bt103.1 bt103.2.1 bt103.2.2.1 bt103.2.2.2.1 bt103.2.2.2.2.1 bt103.2.2.2.2.2.1 a2 bt126.2 bt117.1 bt117.2.1 bt117.2.2.1 bt117.2.2.2.1 bt117.2.2.2.2.1 bt117.2.2.2.2.2 bt126.1))) else (some (0, 7)))) else (some (0, bt103.2.2.2.2.2.2)))
theorem Q7.mono : ∀ a0 a1 a2 a3 a4 a5 a6 k, LeO (Q7.f k a0 a1 a2 a3 a4 a5 a6) (Q7.f (k + 1) a0 a1 a2 a3 a4 a5 a6) := by
 intro a0 a1 a2 a3 a4 a5 a6 k
 unfold Q7.f
 repeat' first
   | (with_reducible exact Q7.tail_mono _ _ _ _ _ _ _ _ _ _ _ _ _ _ _ _)
   | (with_reducible exact Qv.mono _ _ _ _ _ _ _)
   | (with_reducible exact LeO.refl _)
   | (with_reducible exact LeO.none _)
   | (with_reducible refine LeO.ite ?_ ?_)
   | (with_reducible refine LeO.bind ?_ (fun _ => ?_))
set_option maxHeartbeats 8000000 in
set_option maxRecDepth 100000 in
theorem Q7.calls (k : Nat) (A0 : Option Addr) (c0 : Nat) (l0 : List S100) (a1_0 a1_1 a1_2 a1_3 a1_4 a2 r1 r2 : Int) (w : World) (hr0 : Kd.C k100 w A0 l0.length l0) (hc0 : l0.length ≤ c0) (h : Q7.f k l0 a1_0 a1_1 a1_2 a1_3 a1_4 a2 = some (r1, r2)) :
  Calls Tryz.prog 35 #[.slice A0 l0.length c0, .agg #[.int .i64 a1_0, .int .i64 a1_1, .int .i64 a1_2, .int .i64 a1_3, .int .i64 a1_4], .int .i64 a2] w fun e w' => e = .returned (.tuple #[.int .i64 r1, .int .i64 r2]) ∧ Below w.heap.size w w' := by
 have hu26 := Tryz.underlying26
 have hu120 := Tryz.underlying120
 have HR0 := Qa.mk hr0
 have HC0 := Qa.mk hc0
 clear hr0 hc0
 have HB := Qa.mk (Below.refl w.heap.size w)
 have H : ((Jd.f l0 a1_0 a1_1 a1_2 a1_3 a1_4).bind fun bt103 => (if bt103.2.2.2.2.2.2 = 0 then ((Qk.f 0 (wrap64 ((l0.length : Int) - 1)) (([a2] : List Int))).bind fun t116 => (if t116 = true then ((Q2.f bt103.1 bt103.2.1 bt103.2.2.1 bt103.2.2.2.1 bt103.2.2.2.2.1 bt103.2.2.2.2.2.1 a2).bind fun bt117 => ((Qv.f k bt117.1 bt117.2.1 bt117.2.2.1 bt117.2.2.2.1 bt117.2.2.2.2.1 bt117.2.2.2.2.2).bind fun bt126 => (Q7.tail k bt103.1 bt103.2.1 bt103.2.2.1 bt103.2.2.2.1 bt103.2.2.2.2.1 bt103.2.2.2.2.2.1 a2 bt126.2 bt117.1 bt117.2.1 bt117.2.2.1 bt117.2.2.2.1 bt117.2.2.2.2.1 bt117.2.2.2.2.2 bt126.1))) else (some (0, 7)))) else (some (0, bt103.2.2.2.2.2.2)))) = some (r1, r2) := h
 clear h
 obtain ⟨⟨t103, t104, t105, t106, t107, t108, t111⟩, A4, H⟩ := bi H
 by_cases c5 : t111 = 0
 ·rw [if_pos c5] at H
  have c5b0 : (t111 == 0) = true := beq_iff_eq.mpr c5
  have c5b1 : (t111 != 0) = false := bne_eq_false_iff_eq.mpr c5
  clear c5
  obtain ⟨y113, hy113⟩ : ∃ y_ : List Int, y_ = (([a2] : List Int)) := ⟨_, rfl⟩
  replace H : Option.bind (Qk.f 0 (wrap64 ((l0.length : Int) - 1)) y113) _ = some (r1, r2) := yy hy113 H
  have Ny113 := Qa.mk hy113
  clear hy113
  obtain ⟨t116, A6, H⟩ := bi H
  by_cases c7 : t116 = true
  ·subst c7
   rw [if_pos rfl] at H
   obtain ⟨⟨t117, t118, t119, t120, t121, t122⟩, A8, H⟩ := bi H
   obtain ⟨⟨t126, t129⟩, A9, H⟩ := bi H
   obtain ⟨first, hS, H⟩ := Option.bind_eq_some_iff.1 H
   have HS := Qa.mk hS
   clear hS
   have HT := Qa.mk H
   clear H
   go_enter Tryz.func35, Tryz.ntmps35
   go_wp2_with (first | ((with_reducible refine gd 4 ?_); refine bx 4 #[.int .i64 a1_0, .int .i64 a1_1, .int .i64 a1_2, .int .i64 a1_3, .int .i64 a1_4] 26 ?_; intro gb101 hg w10 BK101 hb; have GW101 := gs HB hg; replace HB := bs HB hb; clear hb hg) | ((with_reducible refine gd 5 ?_); refine bx 5 #[.int .i64 a2] 3 ?_; intro gb102 hg w11 BK102 hb; have GW102 := gs HB hg; replace HB := bs HB hb; have NB101_102 := nl BK101 hg; have NB102_101 := nr BK101 hg; replace BK101 := bb BK101 hb; clear hb hg; have hnb12 := NB101_102.out; have hnc12 := NB102_101.out; obtain ⟨_, _, _, _, _, _, _, _, _, _⟩ := cf5 BK101) | ((with_reducible refine gc 78 rfl ?_); refine gL 18 Tryz.func78 #[.slice A0 l0.length c0, .agg #[.int .i64 a1_0, .int .i64 a1_1, .int .i64 a1_2, .int .i64 a1_3, .int .i64 a1_4]] ?_; (with_reducible refine (Jd.calls (fun k_ => k_ < w.heap.size) _ _ l0 a1_0 a1_1 a1_2 a1_3 a1_4 t103 t104 t105 t106 t107 t108 t111 _ ?side1 A4.out).mono ?_); (case side1 => exact Kd.V_mk HC0.out (Kd.F_below (Kd.C_F JT HR0.out) (pE HB))); rintro e w14 ⟨v109, rfl, ho0, hb⟩; refine ⟨_, rfl, ?_⟩; have HO110 := Qa.mk (Kd.V_lower (Kd.V_mono (ok' := fun k_ => k_ ≠ gb101 ∧ k_ ≠ gb102) ho0 (fun k_ hk_ => ⟨Or.elim hk_ (fun hs_ => fun e_ => Nat.not_le.2 hs_ (by rw [e_]; exact GW101.out)) (fun hn_ => (Kd.freshB (g := gb101) (o := .cells #[.int .i64 a1_0, .int .i64 a1_1, .int .i64 a1_2, .int .i64 a1_3, .int .i64 a1_4] 26 (0, 0)) (pB BK101.out) k_ hn_)), Or.elim hk_ (fun hs_ => fun e_ => Nat.not_le.2 hs_ (by rw [e_]; exact GW102.out)) (fun hn_ => (Kd.freshB (g := gb102) (o := .cells #[.int .i64 a2] 3 (0, 0)) (pB BK102.out) k_ hn_))⟩)) (Qr (pE HB))); replace BK101 := bb BK101 hb; replace BK102 := bb BK102 hb; replace HB := bs HB hb; clear hb ho0) | ((with_reducible refine gd 8 ?_); refine bx 8 #[.int .i64 0, .int .i64 0, .int .i64 0, .int .i64 0, .int .i64 0, .slice none 0 0] 120 ?_; intro gb112 hg w15 hbox hb; replace HO110 := ve HO110 hg hb; have BK112 := hbox; have GW112 := gs HB hg; replace HB := bs HB hb; have NB101_112 := nl BK101 hg; have NB112_101 := nr BK101 hg; replace BK101 := bb BK101 hb; have NB102_112 := nl BK102 hg; have NB112_102 := nr BK102 hg; replace BK102 := bb BK102 hb; clear hb hg; have hnb16 := NB112_101.out; have hnc16 := NB101_112.out; have hnb17 := NB112_102.out; have hnc17 := NB102_112.out; obtain ⟨_, _, _, _, _, _, _, _, _, _, _, _⟩ := cf6 BK112; obtain ⟨Ao19, co19, eo19⟩ := Kd.V_slice HO110.out; subst eo19; obtain ⟨_, _⟩ := cf1 BK102) | ((with_reducible refine gd 30 ?_); refine Kd.R_lit (Kd.int .i64) _ 3 ?hg (N := 30) ?hd (xs := ([a2] : List Int)) (inner := [.int .i64 a2]) (ok := fun _ => True) (okp := fun _ => True) ?hr ?hp (fun _ hk => hk) trivial (Below.refl _ _) (Nat.le_refl _) (by simp) ?_; (case hd => rfl); (case hg => rfl); (case hr => first | (go_simp; done) | (go_simp; rfl)); (case hp => exact (Reps.one (show Kd.M (Kd.int .i64) _ _ _ a2 [.int .i64 a2] from rfl) (Reps.none _ _))); intro v114 w21 ho22 hb hg_ hnew_; clear hg_ hnew_; (first | rw [← Ny113.out] at ho22 | (simp only [Int.reduceToNat] at ho22; rw [← Ny113.out] at ho22)); replace HO110 := Qa.mk (Kd.V_elder' (by refine pV ?_; exact (Kd.V_mono (Kd.V_far (p := ⟨gb112, 5, none⟩) (Kd.V_far (p := ⟨gb112, 4, none⟩) (Kd.V_far (p := ⟨gb112, 3, none⟩) (Kd.V_far (p := ⟨gb112, 2, none⟩) (Kd.V_far (p := ⟨gb112, 1, none⟩) (Kd.V_far (p := ⟨gb112, 0, none⟩) (Kd.V_mono HO110.out (fun k_ hk => (⟨hk, hk.2⟩ : _ ∧ k_ ≠ gb112))) (fun _ hk => hk.2) (.int .i64 t103)) (fun _ hk => hk.2) (.int .i64 t104)) (fun _ hk => hk.2) (.int .i64 t105)) (fun _ hk => hk.2) (.int .i64 t106)) (fun _ hk => hk.2) (.int .i64 t107)) (fun _ hk => hk.2) (.slice Ao19 t108.length co19)) (fun _ h_ => h_.1))) (Kd.R_base ho22) hb); have HO115 := Qa.mk (Kd.R_lower (Kd.R_newB ho22 (g := gb102) (o := .cells #[.int .i64 a2] 3 (0, 0)) (pF BK102)) (Qr (pE HB))); replace BK101 := bf BK101 hb; replace BK102 := bf BK102 hb; replace BK112 := Qa.mk (QX (g := gb112) (o := .cells #[.int .i64 t103, .int .i64 t104, .int .i64 t105, .int .i64 t106, .int .i64 t107, .slice Ao19 t108.length co19] 120 (0, 0)) (by refine pB ?_; refine Qg (cs := #[.int .i64 t103, .int .i64 t104, .int .i64 t105, .int .i64 t106, .int .i64 t107, .slice none 0 0]) ?_ 5 _ rfl; refine pB ?_; refine Qg (cs := #[.int .i64 t103, .int .i64 t104, .int .i64 t105, .int .i64 t106, .int .i64 0, .slice none 0 0]) ?_ 4 _ rfl; refine pB ?_; refine Qg (cs := #[.int .i64 t103, .int .i64 t104, .int .i64 t105, .int .i64 0, .int .i64 0, .slice none 0 0]) ?_ 3 _ rfl; refine pB ?_; refine Qg (cs := #[.int .i64 t103, .int .i64 t104, .int .i64 0, .int .i64 0, .int .i64 0, .slice none 0 0]) ?_ 2 _ rfl; refine pB ?_; refine Qg (cs := #[.int .i64 t103, .int .i64 0, .int .i64 0, .int .i64 0, .int .i64 0, .slice none 0 0]) ?_ 1 _ rfl; refine pB ?_; refine Qg (cs := #[.int .i64 0, .int .i64 0, .int .i64 0, .int .i64 0, .int .i64 0, .slice none 0 0]) ?_ 0 _ rfl; (with_reducible repeat (first | refine Qt ?_ _ | refine Qh ?_ | refine blk_alloc ?_ _)); exact BK112.out) hb); replace HB := bs HB hb; clear hb ho22; obtain ⟨Ao23, co23, eo23⟩ := Kd.R_slice HO115.out; subst eo23) | ((with_reducible refine gc 68 rfl ?_); refine gL 31 Tryz.func68 #[.int .i64 0, .int .i64 (wrap64 ((l0.length : Int) - 1)), .slice Ao23 y113.length co23] ?_; (with_reducible refine (Qk.calls 0 (wrap64 ((l0.length : Int) - 1)) _ _ y113 true _ ?side1 ?side2 A6.out).mono ?_); (case side1 => exact pC (Kd.R_reads' HO115.out).2.2); (case side2 => exact (Kd.R_reads' HO115.out).2.1); rintro e w24 ⟨rfl, hb⟩; refine ⟨_, rfl, ?_⟩; replace HO110 := vb HO110 hb; replace HO115 := rb HO115 hb; replace BK101 := bb BK101 hb; replace BK102 := bb BK102 hb; replace BK112 := bb BK112 hb; replace HB := bs HB hb; clear hb; obtain ⟨_, _, _, _, _, _, _, _, _, _, _, _⟩ := cf6 BK112; obtain ⟨_, _⟩ := cf1 BK102) | ((with_reducible refine gc 82 rfl ?_); refine gL 35 Tryz.func82 #[.agg #[.int .i64 t103, .int .i64 t104, .int .i64 t105, .int .i64 t106, .int .i64 t107, .slice Ao19 t108.length co19], .int .i64 a2, .func (.func 83) #[] #[]] ?_; (with_reducible refine (Q2.calls t103 t104 t105 t106 t107 _ _ t108 a2  t117 t118 t119 t120 t121 t122 _ ?side1 ?side2 A8.out).mono ?_); (case side1 => exact pC (Kd.V_reads' HO110.out).2.2); (case side2 => exact (Kd.V_reads' HO110.out).2.1); rintro e w27 ⟨v123, rfl, ho0, hb⟩; refine ⟨_, rfl, ?_⟩; replace HO110 := Qa.mk (Kd.V_elder' (pV HO110.out) (Kd.R_base ho0) hb); replace HO115 := rb HO115 hb; have HO124 := rl ho0 HB; replace BK101 := bb BK101 hb; replace BK102 := bb BK102 hb; replace BK112 := bb BK112 hb; replace HB := bs HB hb; clear hb ho0) | ((with_reducible refine gd 10 ?_); refine bx 10 #[.int .i64 0, .int .i64 0, .int .i64 0, .int .i64 0, .int .i64 0, .slice none 0 0] 120 ?_; intro gb125 hg w28 hbox hb; replace HO110 := ve HO110 hg hb; replace HO115 := rb HO115 hb; replace HO124 := rb HO124 hb; have BK125 := hbox; have GW125 := gs HB hg; replace HB := bs HB hb; have NB101_125 := nl BK101 hg; have NB125_101 := nr BK101 hg; replace BK101 := bb BK101 hb; have NB102_125 := nl BK102 hg; have NB125_102 := nr BK102 hg; replace BK102 := bb BK102 hb; have NB112_125 := nl BK112 hg; have NB125_112 := nr BK112 hg; replace BK112 := bb BK112 hb; clear hb hg; have hnb29 := NB125_101.out; have hnc29 := NB101_125.out; have hnb30 := NB125_102.out; have hnc30 := NB102_125.out; have hnb31 := NB125_112.out; have hnc31 := NB112_125.out; obtain ⟨_, _, _, _, _, _, _, _, _, _, _, _⟩ := cf6 BK125; obtain ⟨Ao33, co33, eo33⟩ := Kd.R_slice HO124.out; subst eo33) | ((with_reducible refine gc 79 rfl ?_); refine gL 38 Tryz.func79 #[.agg #[.int .i64 t117, .int .i64 t118, .int .i64 t119, .int .i64 t120, .int .i64 t121, .slice Ao33 t122.length co33]] ?_; (with_reducible refine (Qv.calls k t117 t118 t119 t120 t121 _ _ t122 t126 t129 _ ?side1 ?side2 A9.out).mono ?_); (case side1 => refine (Kd.R_reads' (e := 100) (base := w.heap.size) (ok := fun k_ => True) (n := t122.length) (c := co33) ?_).2.2; exact (by refine pR ?_; exact (Kd.R_mono (Kd.R_far (p := ⟨gb125, 5, none⟩) (Kd.R_far (p := ⟨gb125, 4, none⟩) (Kd.R_far (p := ⟨gb125, 3, none⟩) (Kd.R_far (p := ⟨gb125, 2, none⟩) (Kd.R_far (p := ⟨gb125, 1, none⟩) (Kd.R_far (p := ⟨gb125, 0, none⟩) (Kd.R_types HO124.out BK125.out (by decide)) (fun _ hk => hk.2) (.int .i64 t117)) (fun _ hk => hk.2) (.int .i64 t118)) (fun _ hk => hk.2) (.int .i64 t119)) (fun _ hk => hk.2) (.int .i64 t120)) (fun _ hk => hk.2) (.int .i64 t121)) (fun _ hk => hk.2) (.slice Ao33 t122.length co33)) (fun _ h_ => h_.1)))); (case side2 => exact (Kd.R_reads' HO124.out).2.1); rintro e w34 ⟨v127, rfl, ho0, hb⟩; refine ⟨_, rfl, ?_⟩; replace HO110 := Qa.mk (Kd.V_elder' (by refine pV ?_; exact (Kd.V_mono (Kd.V_far (p := ⟨gb125, 5, none⟩) (Kd.V_far (p := ⟨gb125, 4, none⟩) (Kd.V_far (p := ⟨gb125, 3, none⟩) (Kd.V_far (p := ⟨gb125, 2, none⟩) (Kd.V_far (p := ⟨gb125, 1, none⟩) (Kd.V_far (p := ⟨gb125, 0, none⟩) (Kd.V_mono HO110.out (fun k_ hk => (⟨hk, hk.2⟩ : _ ∧ k_ ≠ gb125))) (fun _ hk => hk.2) (.int .i64 t117)) (fun _ hk => hk.2) (.int .i64 t118)) (fun _ hk => hk.2) (.int .i64 t119)) (fun _ hk => hk.2) (.int .i64 t120)) (fun _ hk => hk.2) (.int .i64 t121)) (fun _ hk => hk.2) (.slice Ao33 t122.length co33)) (fun _ h_ => h_.1))) (Kd.R_base ho0) hb); replace HO124 := Qa.mk (Kd.R_below (by refine pR ?_; exact (Kd.R_mono (Kd.R_far (p := ⟨gb125, 5, none⟩) (Kd.R_far (p := ⟨gb125, 4, none⟩) (Kd.R_far (p := ⟨gb125, 3, none⟩) (Kd.R_far (p := ⟨gb125, 2, none⟩) (Kd.R_far (p := ⟨gb125, 1, none⟩) (Kd.R_far (p := ⟨gb125, 0, none⟩) (Kd.R_types HO124.out BK125.out (by decide)) (fun _ hk => hk.2) (.int .i64 t117)) (fun _ hk => hk.2) (.int .i64 t118)) (fun _ hk => hk.2) (.int .i64 t119)) (fun _ hk => hk.2) (.int .i64 t120)) (fun _ hk => hk.2) (.int .i64 t121)) (fun _ hk => hk.2) (.slice Ao33 t122.length co33)) (fun _ h_ => h_.1))) hb); have HO128 := Qa.mk (Kd.R_lower (Kd.R_newB (Kd.R_new' ho0 (Kd.R_lt (by refine pR ?_; exact (Kd.R_mono (Kd.R_far (p := ⟨gb125, 5, none⟩) (Kd.R_far (p := ⟨gb125, 4, none⟩) (Kd.R_far (p := ⟨gb125, 3, none⟩) (Kd.R_far (p := ⟨gb125, 2, none⟩) (Kd.R_far (p := ⟨gb125, 1, none⟩) (Kd.R_far (p := ⟨gb125, 0, none⟩) (Kd.R_types HO115.out BK125.out (by decide)) (fun _ hk => hk.2) (.int .i64 t117)) (fun _ hk => hk.2) (.int .i64 t118)) (fun _ hk => hk.2) (.int .i64 t119)) (fun _ hk => hk.2) (.int .i64 t120)) (fun _ hk => hk.2) (.int .i64 t121)) (fun _ hk => hk.2) (.slice Ao33 t122.length co33)) (fun _ h_ => h_.1))))) (g := gb102) (o := .cells #[.int .i64 a2] 3 (0, 0)) (pF BK102)) (Qr (pE HB))); replace HO115 := Qa.mk (Kd.R_elder' (by refine pR ?_; exact (Kd.R_mono (Kd.R_far (p := ⟨gb125, 5, none⟩) (Kd.R_far (p := ⟨gb125, 4, none⟩) (Kd.R_far (p := ⟨gb125, 3, none⟩) (Kd.R_far (p := ⟨gb125, 2, none⟩) (Kd.R_far (p := ⟨gb125, 1, none⟩) (Kd.R_far (p := ⟨gb125, 0, none⟩) (Kd.R_types HO115.out BK125.out (by decide)) (fun _ hk => hk.2) (.int .i64 t117)) (fun _ hk => hk.2) (.int .i64 t118)) (fun _ hk => hk.2) (.int .i64 t119)) (fun _ hk => hk.2) (.int .i64 t120)) (fun _ hk => hk.2) (.int .i64 t121)) (fun _ hk => hk.2) (.slice Ao33 t122.length co33)) (fun _ h_ => h_.1))) (Kd.R_base ho0) hb); replace BK101 := bf BK101 hb; replace BK102 := bf BK102 hb; replace BK112 := bf BK112 hb; replace BK125 := Qa.mk (QX (g := gb125) (o := .cells #[.int .i64 t117, .int .i64 t118, .int .i64 t119, .int .i64 t120, .int .i64 t121, .slice Ao33 t122.length co33] 120 (0, 0)) (by refine pB ?_; refine Qg (cs := #[.int .i64 t117, .int .i64 t118, .int .i64 t119, .int .i64 t120, .int .i64 t121, .slice none 0 0]) ?_ 5 _ rfl; refine pB ?_; refine Qg (cs := #[.int .i64 t117, .int .i64 t118, .int .i64 t119, .int .i64 t120, .int .i64 0, .slice none 0 0]) ?_ 4 _ rfl; refine pB ?_; refine Qg (cs := #[.int .i64 t117, .int .i64 t118, .int .i64 t119, .int .i64 0, .int .i64 0, .slice none 0 0]) ?_ 3 _ rfl; refine pB ?_; refine Qg (cs := #[.int .i64 t117, .int .i64 t118, .int .i64 0, .int .i64 0, .int .i64 0, .slice none 0 0]) ?_ 2 _ rfl; refine pB ?_; refine Qg (cs := #[.int .i64 t117, .int .i64 0, .int .i64 0, .int .i64 0, .int .i64 0, .slice none 0 0]) ?_ 1 _ rfl; refine pB ?_; refine Qg (cs := #[.int .i64 0, .int .i64 0, .int .i64 0, .int .i64 0, .int .i64 0, .slice none 0 0]) ?_ 0 _ rfl; (with_reducible repeat (first | refine Qt ?_ _ | refine Qh ?_ | refine blk_alloc ?_ _)); exact BK125.out) hb); replace HB := bs HB hb; clear hb ho0) | ((with_reducible refine gd 11 ?_); refine bx 11 #[.slice none 0 0] 27 ?_; intro gb130 hg w35 hbox hb; replace HO110 := ve HO110 hg hb; replace HO115 := rb HO115 hb; replace HO124 := rb HO124 hb; replace HO128 := rb HO128 hb; have BK130 := hbox; have GW130 := gs HB hg; replace HB := bs HB hb; have NB101_130 := nl BK101 hg; have NB130_101 := nr BK101 hg; replace BK101 := bb BK101 hb; have NB102_130 := nl BK102 hg; have NB130_102 := nr BK102 hg; replace BK102 := bb BK102 hb; have NB112_130 := nl BK112 hg; have NB130_112 := nr BK112 hg; replace BK112 := bb BK112 hb; have NB125_130 := nl BK125 hg; have NB130_125 := nr BK125 hg; replace BK125 := bb BK125 hb; clear hb hg) | ((with_reducible refine gd 12 ?_); refine bx 12 #[.bool false] 4 ?_; intro gb131 hg w36 hbox hb; replace HO110 := ve HO110 hg hb; replace HO115 := rb HO115 hb; replace HO124 := rb HO124 hb; replace HO128 := rb HO128 hb; have BK131 := hbox; have GW131 := gs HB hg; replace HB := bs HB hb; have NB101_131 := nl BK101 hg; have NB131_101 := nr BK101 hg; replace BK101 := bb BK101 hb; have NB102_131 := nl BK102 hg; have NB131_102 := nr BK102 hg; replace BK102 := bb BK102 hb; have NB112_131 := nl BK112 hg; have NB131_112 := nr BK112 hg; replace BK112 := bb BK112 hb; have NB125_131 := nl BK125 hg; have NB131_125 := nr BK125 hg; replace BK125 := bb BK125 hb; have NB130_131 := nl BK130 hg; have NB131_130 := nr BK130 hg; replace BK130 := bb BK130 hb; clear hb hg; obtain ⟨Ao37, co37, eo37⟩ := Kd.R_slice HO128.out; subst eo37; have hnb38 := NB130_101.out; have hnc38 := NB101_130.out; have hnb39 := NB130_102.out; have hnc39 := NB102_130.out; have hnb40 := NB130_112.out; have hnc40 := NB112_130.out; have hnb41 := NB130_125.out; have hnc41 := NB125_130.out; have hnb42 := NB130_131.out; have hnc42 := NB131_130.out; obtain ⟨_, _⟩ := cf1 BK130; have hnb44 := NB131_101.out; have hnc44 := NB101_131.out; have hnb45 := NB131_102.out; have hnc45 := NB102_131.out; have hnb46 := NB131_112.out; have hnc46 := NB112_131.out; have hnb47 := NB131_125.out; have hnc47 := NB125_131.out; obtain ⟨_, _⟩ := cf1 BK131) | ((with_reducible refine gd 41 ?_); obtain ⟨w37, hw37⟩ : ∃ w_, (w36.setCell ⟨gb130, 0, none⟩ (.slice Ao37 t126.length co37)).setCell ⟨gb131, 0, none⟩ (.bool t129) = w_ := ⟨_, rfl⟩; rw [hw37]; have b112 : w37.heap[gb112]? = some (.cells #[.int .i64 t103, .int .i64 t104, .int .i64 t105, .int .i64 t106, .int .i64 t107, .slice Ao19 t108.length co19] 120 (0, 0)) := (by rw [← hw37]; exact Qx (Qx BK112.out NB112_130.out _) NB112_131.out _); have b102 : w37.heap[gb102]? = some (.cells #[.int .i64 a2] 3 (0, 0)) := (by rw [← hw37]; exact Qx (Qx BK102.out NB102_130.out _) NB102_131.out _); have b125 : w37.heap[gb125]? = some (.cells #[.int .i64 t117, .int .i64 t118, .int .i64 t119, .int .i64 t120, .int .i64 t121, .slice Ao33 t122.length co33] 120 (0, 0)) := (by rw [← hw37]; exact Qx (Qx BK125.out NB125_130.out _) NB125_131.out _); have b130 : w37.heap[gb130]? = some (.cells #[.slice Ao37 t126.length co37] 27 (0, 0)) := (by rw [← hw37]; exact Qx (Qg (cs := #[.slice none 0 0]) BK130.out 0 _ rfl) NB130_131.out _); have b131 : w37.heap[gb131]? = some (.cells #[.bool t129] 4 (0, 0)) := (by rw [← hw37]; exact Qg (cs := #[.bool false]) (Qx BK131.out NB131_130.out _) 0 _ rfl); have rj := (Kd.V_reads' (show Kd.V k100 100 w37 w.heap.size _ (.slice Ao19 t108.length co19) t108 from (by rw [← hw37]; exact Kd.V_far (p := ⟨gb131, 0, none⟩) (Kd.V_far (p := ⟨gb130, 0, none⟩) HO110.out (fun k hk => by simp only; omega) _) (fun k hk => by simp only; omega) _))).2; have rw_ := (Kd.R_reads' (show Kd.R k100 100 w37 w.heap.size _ (.slice Ao33 t122.length co33) t122 from (by rw [← hw37]; exact Kd.R_far (p := ⟨gb131, 0, none⟩) (Kd.R_far (p := ⟨gb130, 0, none⟩) (Kd.R_types (Kd.R_types HO124.out BK130.out (by decide)) BK131.out (by decide)) (fun _ hk => hk.1.2) _) (fun _ hk => hk.2) _))).2; have ro := (Kd.R_reads' (show Kd.R (Kd.int .i64) 3 w37 w.heap.size _ (.slice Ao37 t126.length co37) t126 from (by rw [← hw37]; exact Kd.R_far (p := ⟨gb131, 0, none⟩) (Kd.R_far (p := ⟨gb130, 0, none⟩) (Kd.R_types (Kd.R_types HO128.out BK130.out (by decide)) BK131.out (by decide)) (fun _ hk => hk.1.2) _) (fun _ hk => hk.2) _))).2; have hB37 : Below w.heap.size w w37 := (by rw [← hw37]; exact (HB.out.setCell (p := ⟨gb130, 0, none⟩) GW130.out _).setCell (p := ⟨gb131, 0, none⟩) GW131.out _); have C112 := Qa.mk b112; have C102 := Qa.mk b102; have C125 := Qa.mk b125; have C130 := Qa.mk b130; have C131 := Qa.mk b131; have RJ := Qa.mk rj; have RW := Qa.mk rw_; have RO := Qa.mk ro; have HB37 := Qa.mk hB37; clear b112 b102 b125 b130 b131 rj rw_ ro hB37 hw37) | ((with_reducible refine gd 13 ?_); refine Jl ?hg (N := 13) ?hd (cs := #[.nilFunc]) (t := 132) ?hr ?_; (case hd => rfl); (case hg => rfl); (case hr => first | (go_simp; done) | (go_simp; rfl)); intro gb13 hg w38 hx hb; have C13 := Qa.mk hx; have HG13 := Qa.mk hg; have HB38 := Qa.mk hb; have hc13 : w38.cell? ⟨gb13, 0, none⟩ = some .nilFunc := (Qb hx 0).trans rfl; have hf13 := Qq hx 0; clear hx hg hb))
   obtain ⟨w39, hw39⟩ : ∃ w_, w38.setCell ⟨gb13, 0, none⟩ (.func (.func 84) #[] #[.pointer (some ⟨gb112, 0, none⟩), .pointer (some ⟨gb102, 0, none⟩), .pointer (some ⟨gb131, 0, none⟩), .pointer (some ⟨gb125, 0, none⟩), .pointer (some ⟨gb130, 0, none⟩)]) = w_ := ⟨_, rfl⟩
   rw [hw39]
   have e13 : w39.heap[gb13]? = some (.cells #[.func (.func 84) #[] #[.pointer (some ⟨gb112, 0, none⟩), .pointer (some ⟨gb102, 0, none⟩), .pointer (some ⟨gb131, 0, none⟩), .pointer (some ⟨gb125, 0, none⟩), .pointer (some ⟨gb130, 0, none⟩)]] 132 (0, 0)) := by rw [← hw39]; exact Qg (cs := #[.nilFunc]) C13.out 0 _ rfl
   have hB39 : Below w37.heap.size w37 w39 := by rw [← hw39]; exact HB38.out.setCell (p := ⟨gb13, 0, none⟩) (Nat.le_of_eq HG13.out.symm) _
   have E13 := Qa.mk e13
   have HB39 := Qa.mk hB39
   clear e13 hB39 hw39 hc13 hf13
   refine (search_Dear_3.calls k _ 501 gb13 first w39 ?hp HS.out).mono ?_
   case hp =>
    intro x b w' hbw hpx
    obtain ⟨b0, hf0, hb0⟩ := Option.bind_eq_some_iff.1 hpx
    obtain rfl := Option.some.inj hb0
    have hb' := HB39.out.trans (hbw.mono HB39.out.size)
    have up := fun {g : Nat} {o : Obj} (h : w37.heap[g]? = some o) => (hb'.block g (Array.getElem?_eq_some_iff.1 h).1).trans h
    exact Yn.calls k gb13 x b0 _ w' ((hbw.block _ (Array.getElem?_eq_some_iff.1 E13.out).1).trans E13.out) (QZ.calls k x gb112 t103 t104 t105 t106 t107 Ao19 co19 t108 gb102 a2 gb131 t129 gb125 t117 t118 t119 t120 t121 Ao33 co33 t122 gb130 Ao37 co37 t126 b0 w' (up C112.out) (Kd.C_below RJ.out.2 hb') RJ.out.1 (up C102.out) NB112_102.out (up C131.out) NB112_131.out NB102_131.out (up C125.out) NB112_125.out NB102_125.out NB131_125.out (Kd.C_below RW.out.2 hb') RW.out.1 (up C130.out) NB112_130.out NB102_130.out NB131_130.out NB125_130.out (Kd.C_below RO.out.2 hb') RO.out.1 hf0)
   rintro e w40 ⟨rfl, hb⟩
   have HB40 := Qa.mk hb
   clear hb
   have HBF := Qa.mk (QV HB37.out (HB39.out.trans (HB40.out.mono HB39.out.size)))
   clear HB HB37 HB38 HB39 HB40
   by_cases cf : first = 0
   ·have HT2 := HT.out
    rw [if_pos cf] at HT2
    simp only [Option.some.injEq, Prod.mk.injEq] at HT2
    obtain ⟨rfl, rfl⟩ := HT2
    have cfb : (first == 0) = true := beq_iff_eq.mpr cf
    clear cf
    go_wp2
    go_ret2
    exact ⟨rfl, HBF.out⟩
   ·have HT2 := HT.out
    rw [if_neg cf] at HT2
    simp only [Option.some.injEq, Prod.mk.injEq] at HT2
    obtain ⟨rfl, rfl⟩ := HT2
    have cfb : (first == 0) = false := beq_eq_false_iff_ne.mpr cf
    clear cf
    go_wp2
    go_ret2
    exact ⟨rfl, HBF.out⟩
  ·replace c7 := Bool.eq_false_iff.mpr c7
   subst c7
   rw [if_neg (show ¬ (false = true) by decide)] at H
   simp only [Option.some.injEq, Prod.mk.injEq] at H
   obtain ⟨rfl, rfl⟩ := H
   go_enter Tryz.func35, Tryz.ntmps35
   go_wp2_with (first | ((with_reducible refine gd 4 ?_); refine bx 4 #[.int .i64 a1_0, .int .i64 a1_1, .int .i64 a1_2, .int .i64 a1_3, .int .i64 a1_4] 26 ?_; intro gb101 hg w49 BK101 hb; have GW101 := gs HB hg; replace HB := bs HB hb; clear hb hg) | ((with_reducible refine gd 5 ?_); refine bx 5 #[.int .i64 a2] 3 ?_; intro gb102 hg w50 BK102 hb; have GW102 := gs HB hg; replace HB := bs HB hb; have NB101_102 := nl BK101 hg; have NB102_101 := nr BK101 hg; replace BK101 := bb BK101 hb; clear hb hg; have hnb51 := NB101_102.out; have hnc51 := NB102_101.out; obtain ⟨_, _, _, _, _, _, _, _, _, _⟩ := cf5 BK101) | ((with_reducible refine gc 78 rfl ?_); refine gL 18 Tryz.func78 #[.slice A0 l0.length c0, .agg #[.int .i64 a1_0, .int .i64 a1_1, .int .i64 a1_2, .int .i64 a1_3, .int .i64 a1_4]] ?_; (with_reducible refine (Jd.calls (fun k_ => k_ < w.heap.size) _ _ l0 a1_0 a1_1 a1_2 a1_3 a1_4 t103 t104 t105 t106 t107 t108 t111 _ ?side1 A4.out).mono ?_); (case side1 => exact Kd.V_mk HC0.out (Kd.F_below (Kd.C_F JT HR0.out) (pE HB))); rintro e w53 ⟨v109, rfl, ho0, hb⟩; refine ⟨_, rfl, ?_⟩; have HO110 := Qa.mk (Kd.V_lower (Kd.V_mono (ok' := fun k_ => k_ ≠ gb101 ∧ k_ ≠ gb102) ho0 (fun k_ hk_ => ⟨Or.elim hk_ (fun hs_ => fun e_ => Nat.not_le.2 hs_ (by rw [e_]; exact GW101.out)) (fun hn_ => (Kd.freshB (g := gb101) (o := .cells #[.int .i64 a1_0, .int .i64 a1_1, .int .i64 a1_2, .int .i64 a1_3, .int .i64 a1_4] 26 (0, 0)) (pB BK101.out) k_ hn_)), Or.elim hk_ (fun hs_ => fun e_ => Nat.not_le.2 hs_ (by rw [e_]; exact GW102.out)) (fun hn_ => (Kd.freshB (g := gb102) (o := .cells #[.int .i64 a2] 3 (0, 0)) (pB BK102.out) k_ hn_))⟩)) (Qr (pE HB))); replace BK101 := bb BK101 hb; replace BK102 := bb BK102 hb; replace HB := bs HB hb; clear hb ho0) | ((with_reducible refine gd 8 ?_); refine bx 8 #[.int .i64 0, .int .i64 0, .int .i64 0, .int .i64 0, .int .i64 0, .slice none 0 0] 120 ?_; intro gb112 hg w54 hbox hb; replace HO110 := ve HO110 hg hb; have BK112 := hbox; have GW112 := gs HB hg; replace HB := bs HB hb; have NB101_112 := nl BK101 hg; have NB112_101 := nr BK101 hg; replace BK101 := bb BK101 hb; have NB102_112 := nl BK102 hg; have NB112_102 := nr BK102 hg; replace BK102 := bb BK102 hb; clear hb hg; have hnb55 := NB112_101.out; have hnc55 := NB101_112.out; have hnb56 := NB112_102.out; have hnc56 := NB102_112.out; obtain ⟨_, _, _, _, _, _, _, _, _, _, _, _⟩ := cf6 BK112; obtain ⟨Ao58, co58, eo58⟩ := Kd.V_slice HO110.out; subst eo58; obtain ⟨_, _⟩ := cf1 BK102) | ((with_reducible refine gd 30 ?_); refine Kd.R_lit (Kd.int .i64) _ 3 ?hg (N := 30) ?hd (xs := ([a2] : List Int)) (inner := [.int .i64 a2]) (ok := fun _ => True) (okp := fun _ => True) ?hr ?hp (fun _ hk => hk) trivial (Below.refl _ _) (Nat.le_refl _) (by simp) ?_; (case hd => rfl); (case hg => rfl); (case hr => first | (go_simp; done) | (go_simp; rfl)); (case hp => exact (Reps.one (show Kd.M (Kd.int .i64) _ _ _ a2 [.int .i64 a2] from rfl) (Reps.none _ _))); intro v114 w60 ho61 hb hg_ hnew_; clear hg_ hnew_; (first | rw [← Ny113.out] at ho61 | (simp only [Int.reduceToNat] at ho61; rw [← Ny113.out] at ho61)); replace HO110 := Qa.mk (Kd.V_elder' (by refine pV ?_; exact (Kd.V_mono (Kd.V_far (p := ⟨gb112, 5, none⟩) (Kd.V_far (p := ⟨gb112, 4, none⟩) (Kd.V_far (p := ⟨gb112, 3, none⟩) (Kd.V_far (p := ⟨gb112, 2, none⟩) (Kd.V_far (p := ⟨gb112, 1, none⟩) (Kd.V_far (p := ⟨gb112, 0, none⟩) (Kd.V_mono HO110.out (fun k_ hk => (⟨hk, hk.2⟩ : _ ∧ k_ ≠ gb112))) (fun _ hk => hk.2) (.int .i64 t103)) (fun _ hk => hk.2) (.int .i64 t104)) (fun _ hk => hk.2) (.int .i64 t105)) (fun _ hk => hk.2) (.int .i64 t106)) (fun _ hk => hk.2) (.int .i64 t107)) (fun _ hk => hk.2) (.slice Ao58 t108.length co58)) (fun _ h_ => h_.1))) (Kd.R_base ho61) hb); have HO115 := Qa.mk (Kd.R_lower (Kd.R_newB ho61 (g := gb102) (o := .cells #[.int .i64 a2] 3 (0, 0)) (pF BK102)) (Qr (pE HB))); replace BK101 := bf BK101 hb; replace BK102 := bf BK102 hb; replace BK112 := Qa.mk (QX (g := gb112) (o := .cells #[.int .i64 t103, .int .i64 t104, .int .i64 t105, .int .i64 t106, .int .i64 t107, .slice Ao58 t108.length co58] 120 (0, 0)) (by refine pB ?_; refine Qg (cs := #[.int .i64 t103, .int .i64 t104, .int .i64 t105, .int .i64 t106, .int .i64 t107, .slice none 0 0]) ?_ 5 _ rfl; refine pB ?_; refine Qg (cs := #[.int .i64 t103, .int .i64 t104, .int .i64 t105, .int .i64 t106, .int .i64 0, .slice none 0 0]) ?_ 4 _ rfl; refine pB ?_; refine Qg (cs := #[.int .i64 t103, .int .i64 t104, .int .i64 t105, .int .i64 0, .int .i64 0, .slice none 0 0]) ?_ 3 _ rfl; refine pB ?_; refine Qg (cs := #[.int .i64 t103, .int .i64 t104, .int .i64 0, .int .i64 0, .int .i64 0, .slice none 0 0]) ?_ 2 _ rfl; refine pB ?_; refine Qg (cs := #[.int .i64 t103, .int .i64 0, .int .i64 0, .int .i64 0, .int .i64 0, .slice none 0 0]) ?_ 1 _ rfl; refine pB ?_; refine Qg (cs := #[.int .i64 0, .int .i64 0, .int .i64 0, .int .i64 0, .int .i64 0, .slice none 0 0]) ?_ 0 _ rfl; (with_reducible repeat (first | refine Qt ?_ _ | refine Qh ?_ | refine blk_alloc ?_ _)); exact BK112.out) hb); replace HB := bs HB hb; clear hb ho61; obtain ⟨Ao62, co62, eo62⟩ := Kd.R_slice HO115.out; subst eo62) | ((with_reducible refine gc 68 rfl ?_); refine gL 31 Tryz.func68 #[.int .i64 0, .int .i64 (wrap64 ((l0.length : Int) - 1)), .slice Ao62 y113.length co62] ?_; (with_reducible refine (Qk.calls 0 (wrap64 ((l0.length : Int) - 1)) _ _ y113 false _ ?side1 ?side2 A6.out).mono ?_); (case side1 => exact pC (Kd.R_reads' HO115.out).2.2); (case side2 => exact (Kd.R_reads' HO115.out).2.1); rintro e w63 ⟨rfl, hb⟩; refine ⟨_, rfl, ?_⟩; replace HO110 := vb HO110 hb; replace HO115 := rb HO115 hb; replace BK101 := bb BK101 hb; replace BK102 := bb BK102 hb; replace BK112 := bb BK112 hb; replace HB := bs HB hb; clear hb))
   go_ret2
   exact ⟨eT, pE HB⟩
 ·rw [if_neg c5] at H
  have c5b0 : (t111 == 0) = false := beq_eq_false_iff_ne.mpr c5
  have c5b1 : (t111 != 0) = true := bne_iff_ne.mpr c5
  simp only [Option.some.injEq, Prod.mk.injEq] at H
  obtain ⟨rfl, rfl⟩ := H
  go_enter Tryz.func35, Tryz.ntmps35
  go_wp2_with (first | ((with_reducible refine gd 4 ?_); refine bx 4 #[.int .i64 a1_0, .int .i64 a1_1, .int .i64 a1_2, .int .i64 a1_3, .int .i64 a1_4] 26 ?_; intro gb101 hg w64 BK101 hb; have GW101 := gs HB hg; replace HB := bs HB hb; clear hb hg) | ((with_reducible refine gd 5 ?_); refine bx 5 #[.int .i64 a2] 3 ?_; intro gb102 hg w65 BK102 hb; have GW102 := gs HB hg; replace HB := bs HB hb; have NB101_102 := nl BK101 hg; have NB102_101 := nr BK101 hg; replace BK101 := bb BK101 hb; clear hb hg; have hnb66 := NB101_102.out; have hnc66 := NB102_101.out; obtain ⟨_, _, _, _, _, _, _, _, _, _⟩ := cf5 BK101) | ((with_reducible refine gc 78 rfl ?_); refine gL 18 Tryz.func78 #[.slice A0 l0.length c0, .agg #[.int .i64 a1_0, .int .i64 a1_1, .int .i64 a1_2, .int .i64 a1_3, .int .i64 a1_4]] ?_; (with_reducible refine (Jd.calls (fun k_ => k_ < w.heap.size) _ _ l0 a1_0 a1_1 a1_2 a1_3 a1_4 t103 t104 t105 t106 t107 t108 t111 _ ?side1 A4.out).mono ?_); (case side1 => exact Kd.V_mk HC0.out (Kd.F_below (Kd.C_F JT HR0.out) (pE HB))); rintro e w68 ⟨v109, rfl, ho0, hb⟩; refine ⟨_, rfl, ?_⟩; have HO110 := Qa.mk (Kd.V_lower (Kd.V_mono (ok' := fun k_ => k_ ≠ gb101 ∧ k_ ≠ gb102) ho0 (fun k_ hk_ => ⟨Or.elim hk_ (fun hs_ => fun e_ => Nat.not_le.2 hs_ (by rw [e_]; exact GW101.out)) (fun hn_ => (Kd.freshB (g := gb101) (o := .cells #[.int .i64 a1_0, .int .i64 a1_1, .int .i64 a1_2, .int .i64 a1_3, .int .i64 a1_4] 26 (0, 0)) (pB BK101.out) k_ hn_)), Or.elim hk_ (fun hs_ => fun e_ => Nat.not_le.2 hs_ (by rw [e_]; exact GW102.out)) (fun hn_ => (Kd.freshB (g := gb102) (o := .cells #[.int .i64 a2] 3 (0, 0)) (pB BK102.out) k_ hn_))⟩)) (Qr (pE HB))); replace BK101 := bb BK101 hb; replace BK102 := bb BK102 hb; replace HB := bs HB hb; clear hb ho0) | ((with_reducible refine gd 8 ?_); refine bx 8 #[.int .i64 0, .int .i64 0, .int .i64 0, .int .i64 0, .int .i64 0, .slice none 0 0] 120 ?_; intro gb112 hg w69 hbox hb; replace HO110 := ve HO110 hg hb; have BK112 := hbox; have GW112 := gs HB hg; replace HB := bs HB hb; have NB101_112 := nl BK101 hg; have NB112_101 := nr BK101 hg; replace BK101 := bb BK101 hb; have NB102_112 := nl BK102 hg; have NB112_102 := nr BK102 hg; replace BK102 := bb BK102 hb; clear hb hg; have hnb70 := NB112_101.out; have hnc70 := NB101_112.out; have hnb71 := NB112_102.out; have hnc71 := NB102_112.out; obtain ⟨_, _, _, _, _, _, _, _, _, _, _, _⟩ := cf6 BK112; obtain ⟨Ao73, co73, eo73⟩ := Kd.V_slice HO110.out; subst eo73))
  go_ret2
  exact ⟨eT, pE HB⟩
end Go.Proofs.YtjaapkkpmegkfaaGreat.P
