/- Part 5 of what the law's proof needs: words, walks of functions and plain facts. -/
import Derived.CallsIn
import Derived.RangeFuncCalls
import Derived.KernelRfl
import Derived.Deep.MidRow
import Derived.Deep.AppendSrc
import Derived.Below
import Derived.Test.YtlmglnobdcgbeaaGreatE01
import Derived.Test.YtlmglnobdcgbeaaGreatE03
import Derived.Test.YtlmglnobdcgbeaaGreatE04
set_option linter.unusedVariables false
set_option linter.unusedSimpArgs false
namespace Go.Proofs.YtlmglnobdcgbeaaGreat.P
open Go.RowKit Go.Shelf Go.Proofs.YtlmglnobdcgbeaaGreatW.PrintWords Go.Proofs.YtlmglnobdcgbeaaGreatW.PrintLast Go.Proofs.YtlmglnobdcgbeaaGreatW.PrintMore Go.Proofs.YtlmglnobdcgbeaaGreat.R
theorem istep_lt {b lo c : Nat} {X Y : World} {k n : Nat} (hs : IStep b lo c X Y) (hk : k < n) (hn : n ≤ b ∧ b ≤ lo) (hlt : k < X.heap.size) : Y.heap[k]? = X.heap[k]? := by
  rw [Array.getElem?_eq_getElem hlt]
  exact hs.same k _ (Array.getElem?_eq_getElem hlt) (by omega) (fun h_ => by omega)
theorem low42 {W : World} {base : Nat} {ok : Nat → Prop} {g n cap : Nat} {l : List S42} (h : Kd.R k42 42 W base ok (.slice (some ⟨g, 0, none⟩) n cap) l) (i : Int) (h0 : 0 ≤ i) (h1 : i < n) (v : Int) : Kd.R k42 42 (W.setCell ⟨g, i.toNat * 2, none⟩ (.int .i64 v)) base ok (.slice (some ⟨g, 0, none⟩) n cap) (l.set i.toNat ⟨v, (rd_T42 l i).f1⟩) := by
  obtain ⟨c, hcl, hM, hcc, hfr⟩ := Kd.R_elem h z42 i h0 h1
  obtain rfl := k42_openM hM
  exact (Kd.R_seg h i h0 h1 (seg := [.int .i64 v]) (j := 0) hcl hcc (show _ + 1 ≤ 2 from by decide) (x' := ⟨v, (rd_T42 l i).f1⟩) (k42_mkM _ _ (fun _ => False) ⟨v, (rd_T42 l i).f1⟩) (fun _ hk => hk.elim)).1
theorem high42 {W : World} {base : Nat} {ok : Nat → Prop} {g n cap : Nat} {l : List S42} (h : Kd.R k42 42 W base ok (.slice (some ⟨g, 0, none⟩) n cap) l) (i : Int) (h0 : 0 ≤ i) (h1 : i < n) (v : Int) : Kd.R k42 42 (W.setCell ⟨g, i.toNat * 2 + 1, none⟩ (.int .i64 v)) base ok (.slice (some ⟨g, 0, none⟩) n cap) (l.set i.toNat ⟨(rd_T42 l i).f0, v⟩) := by
  obtain ⟨c, hcl, hM, hcc, hfr⟩ := Kd.R_elem h z42 i h0 h1
  obtain rfl := k42_openM hM
  exact (Kd.R_seg h i h0 h1 (seg := [.int .i64 v]) (j := 1) hcl hcc (show _ + 1 ≤ 2 from by decide) (x' := ⟨(rd_T42 l i).f0, v⟩) (k42_mkM _ _ (fun _ => False) ⟨(rd_T42 l i).f0, v⟩) (fun _ hk => hk.elim)).1
def lows_1 (l : List S42) (t : Int × Int × Int) : List S42 := l.set t.1.toNat ⟨t.2.1, (rd_T42 l t.1).f1⟩
def highs_1 (l : List S42) (t : Int × Int × Int) : List S42 := l.set t.1.toNat ⟨(rd_T42 l t.1).f0, t.2.1⟩
def lows_ (l : List S42) (ts : List (Int × Int × Int)) : List S42 := ts.foldl lows_1 l
def highs_ (l : List S42) (ts : List (Int × Int × Int)) : List S42 := ts.foldl highs_1 l
theorem runT_in (of : Int → Int → Int) (cl : List S67) : ∀ (xs fr : List Int), ∀ t ∈ runT of cl fr xs, t.1 ∈ xs
  | [], _ => fun t ht => by cases ht
  | x :: xs, fr => fun t ht => by
    rw [runT] at ht
    rcases List.mem_cons.1 ht with rfl | ht
    · exact List.mem_cons_self
    · exact List.mem_cons_of_mem _ (runT_in of cl xs _ t ht)
def startsO (cl : List S67) (ord : List Int) (m : Int) : Option (List S42) := if okT cl ord m = true then some (highs_ (lows_ (List.replicate cl.length z42) (runT lowF cl (List.replicate m.toNat 0) ord)) (runT highF cl (List.replicate m.toNat 0) ord)) else none
theorem startsO_spec {cl : List S67} {ord : List Int} {m : Int} {z : List S42} (h : startsO cl ord m = some z) : okT cl ord m = true ∧ highs_ (lows_ (List.replicate cl.length z42) (runT lowF cl (List.replicate m.toNat 0) ord)) (runT highF cl (List.replicate m.toNat 0) ord) = z := by
  unfold startsO at h
  split at h
  · exact ⟨by assumption, Option.some.inj h⟩
  · cases h
def turn_Starts.f (k : Nat) (l0_0 : List (S67)) (l0_1 : List Int) (a1 : Int) : Option ((List (S42)) × Int) := (turn_open.f k l0_0 l0_1 a1 0).bind fun bt102 => (if bt102.2.2 = 0 then (if 0 ≤ (bt102.1.length : Int) then (if ((bt102.1.length : Int) : Int).toNat ≤ 17592186044416 then ((turn_day_order.f k bt102.1 bt102.2.1).bind fun t114 => ((startsO bt102.1 t114 a1).bind fun t117 => (some (t117, 0)))) else (none)) else (none)) else (some (([] : List (S42)), bt102.2.2)))
theorem turn_Starts.mono : ∀ a0 a1 a2 k, LeO (turn_Starts.f k a0 a1 a2) (turn_Starts.f (k + 1) a0 a1 a2) := by
  intro a0 a1 a2 k
  unfold turn_Starts.f
  repeat' first
      | (with_reducible exact turn_day_order.mono _ _ _)
      | (with_reducible exact turn_open.mono _ _ _ _ _)
      | (with_reducible exact LeO.refl _)
      | (with_reducible exact LeO.none _)
      | (with_reducible refine LeO.ite ?_ ?_)
      | (with_reducible refine LeO.bind ?_ (fun _ => ?_))
      | exact turn_day_order.mono _ _ _
      | exact turn_open.mono _ _ _ _ _
      | exact LeO.none _
      | refine LeO.ite ?_ ?_
      | refine LeO.bind ?_ (fun _ => ?_)
set_option maxHeartbeats 8000000 in
set_option maxRecDepth 100000 in
theorem turn_Starts.calls (k : Nat) (A0_0 : Option Addr) (c0_0 : Nat) (l0_0 : List (S67)) (A0_1 : Option Addr) (c0_1 : Nat) (l0_1 : List Int) (a1 : Int) (r1 : List (S42)) (r2 : Int) (w : World) (hr0_0 : Kd.C k67 w A0_0 l0_0.length l0_0) (hc0_0 : l0_0.length ≤ c0_0) (hr0_1 : Kd.C (Kd.int .i64) w A0_1 l0_1.length l0_1) (hc0_1 : l0_1.length ≤ c0_1) (h : turn_Starts.f k l0_0 l0_1 a1 = some (r1, r2)) :
    Calls Tryz.prog 25 #[.agg #[.slice A0_0 l0_0.length c0_0, .slice A0_1 l0_1.length c0_1], .int .i64 a1] w fun e w' => ∃ v0_ : Value, e = .returned (.tuple #[v0_, .int .i64 r2]) ∧ Kd.R k42 42 w' w.heap.size (fun _ => True) v0_ r1 ∧ Below w.heap.size w w' := by
  have hu25 := Tryz.underlying25
  have hu99 := Tryz.underlying99
  have HR0_0 := Aside0.mk hr0_0
  have HC0_0 := Aside0.mk hc0_0
  clear hr0_0 hc0_0
  have HR0_1 := Aside0.mk hr0_1
  have HC0_1 := Aside0.mk hc0_1
  clear hr0_1 hc0_1
  have HB := Aside0.mk (Below.refl w.heap.size w)
  have H : ((turn_open.f k l0_0 l0_1 a1 0).bind fun bt102 => (if bt102.2.2 = 0 then (if 0 ≤ (bt102.1.length : Int) then (if ((bt102.1.length : Int) : Int).toNat ≤ 17592186044416 then ((turn_day_order.f k bt102.1 bt102.2.1).bind fun t114 => ((startsO bt102.1 t114 a1).bind fun t117 => (some (t117, 0)))) else (none)) else (none)) else (some (([] : List (S42)), bt102.2.2)))) = some (r1, r2) := h
  clear h
  obtain ⟨⟨t102, t105, t108⟩, A3, H⟩ := bi H
  by_cases c4 : t108 = 0
  · rw [if_pos c4] at H
    have c4b0 : (t108 == 0) = true := beq_iff_eq.mpr c4
    have c4b1 : (t108 != 0) = false := bne_eq_false_iff_eq.mpr c4
    clear c4
    by_cases c5 : 0 ≤ (t102.length : Int)
    · rw [if_pos c5] at H
      have c5b0 := eq_true c5
      have c5b1 : decide (0 ≤ (t102.length : Int)) = true := decide_eq_true c5
      clear c5
      by_cases c6 : ((t102.length : Int) : Int).toNat ≤ 17592186044416
      · rw [if_pos c6] at H
        have c6b0 := eq_true c6
        have c6b1 : decide (((t102.length : Int) : Int).toNat ≤ 17592186044416) = true := decide_eq_true c6
        clear c6
        obtain ⟨y110, hy110⟩ : ∃ y_ : List (S42), y_ = (List.replicate ((t102.length : Int) : Int).toNat z42) := ⟨_, rfl⟩
        replace H : ((turn_day_order.f k t102 t105).bind fun t114 => ((startsO t102 t114 a1).bind fun t117 => (some (t117, 0)))) = some (r1, r2) := yy hy110 H
        have Ny110 := Aside0.mk hy110
        clear hy110
        obtain ⟨t114, A7, H⟩ := bi H
        obtain ⟨t117, A8, H⟩ := bi H
        simp only [Option.some.injEq, Prod.mk.injEq] at H
        obtain ⟨rfl, rfl⟩ := H
        refine (callsIn_wide (n := 5)).1 (marks_q Tryz.func25 rfl trivial (fun Qf_ hqp_ hqf_ => ?_) rfl)
        have HQP := Aside0.mk hqp_
        have HQF := Aside0.mk hqf_
        clear hqp_ hqf_
        simp only [Tryz.ntmps25, List.size_toArray, List.length_cons, List.length_nil, Nat.reduceAdd, Nat.reduceSub, Array.replicate_succ, Array.replicate_zero, List.push_toArray, List.append_toArray, List.nil_append, List.cons_append]
        go_wp2_with (first | ((with_reducible refine gate_dst (N := 2) rfl ?_); refine bx 2 #[.slice A0_0 l0_0.length c0_0, .slice A0_1 l0_1.length c0_1] 25 ?_; intro gb101 hg w11 hbox hb; have BK101 := hbox; have GW101 := gs HB hg; have GE101 := gs HB hg; replace HB := bs HB hb; clear hb hbox hg; obtain ⟨_, _, _, _⟩ := cf2 BK101) | ((with_reducible refine gc 62 rfl ?_); refine gL 14 Tryz.func62 #[.agg #[.slice A0_0 l0_0.length c0_0, .slice A0_1 l0_1.length c0_1], .int .i64 a1, .int .i64 0] ?_; (with_reducible refine (turn_open.calls k (fun k_ => k_ < w.heap.size) _ _ l0_0 (fun k_ => k_ < w.heap.size) _ _ l0_1 a1 0 t102 t105 t108 _ ?side1 ?side2 A3.out).mono ?_); (case side1 => exact Kd.V_mk HC0_0.out (Kd.F_below (Kd.C_F k67_heap HR0_0.out) (pE HB))); (case side2 => exact Kd.V_mk HC0_1.out (Kd.F_below (Kd.C_F (Kd.heap_int .i64) HR0_1.out) (pE HB))); rintro e w13 ⟨v103, v106, rfl, ho0, ho1, hb⟩; refine ⟨_, rfl, ?_⟩; have HO104 := Aside0.mk (Kd.V_lower (Kd.V_mono (ok' := fun k_ => k_ ≠ gb101) ho0 (fun k_ hk_ => Or.elim hk_ (fun hs_ => Or.elim hs_ (fun hs_ => fun e_ => Nat.not_le.2 hs_ (by rw [e_]; exact GW101.out)) (fun hs_ => fun e_ => Nat.not_le.2 hs_ (by rw [e_]; exact GW101.out))) (fun hn_ => (Kd.freshB (g := gb101) (o := .cells #[.slice A0_0 l0_0.length c0_0, .slice A0_1 l0_1.length c0_1] 25 (0, 0)) (pB BK101.out) k_ hn_)))) (below_size (pE HB))); have HO107 := Aside0.mk (Kd.V_lower (Kd.V_mono (ok' := fun k_ => k_ ≠ gb101) ho1 (fun k_ hk_ => Or.elim hk_ (fun hs_ => Or.elim hs_ (fun hs_ => fun e_ => Nat.not_le.2 hs_ (by rw [e_]; exact GW101.out)) (fun hs_ => fun e_ => Nat.not_le.2 hs_ (by rw [e_]; exact GW101.out))) (fun hn_ => (Kd.freshB (g := gb101) (o := .cells #[.slice A0_0 l0_0.length c0_0, .slice A0_1 l0_1.length c0_1] 25 (0, 0)) (pB BK101.out) k_ hn_)))) (below_size (pE HB))); replace BK101 := bb BK101 hb; replace HB := bs HB hb; clear hb ho0 ho1) | ((with_reducible refine gate_dst (N := 6) rfl ?_); refine bx 6 #[.slice none 0 0, .slice none 0 0] 99 ?_; intro gb109 hg w14 hbox hb; replace HO104 := ve HO104 hg hb; replace HO107 := ve HO107 hg hb; have BK109 := hbox; have GW109 := gs HB hg; have GE109 := gs HB hg; replace HB := bs HB hb; have NB101_109 := nl BK101 hg; have NB109_101 := nr BK101 hg; replace BK101 := bb BK101 hb; clear hb hbox hg; obtain ⟨Ao15, co15, eo15⟩ := Kd.V_slice HO104.out; subst eo15; have hnb16 := NB109_101.out; have hnc16 := NB101_109.out; obtain ⟨_, _, _, _⟩ := cf2 BK109; obtain ⟨Ao18, co18, eo18⟩ := Kd.V_slice HO107.out; subst eo18) | ((with_reducible refine gate_dst (N := 24) rfl ?_); refine Kd.R_make k42 _ 42 rfl (N := 24) rfl 36 _ _ rfl (t102.length : Int) rfl rfl Tryz.underlying36 (.agg #[(.int .i64 0), (.int .i64 0)]) 16 info42 rfl (by decide) (by omega) z42 (ok := fun _ => True) (okp := fun _ => True) (k42_mkM _ _ _ z42 ) (fun _ hk => hk) trivial (dT) (Nat.le_trans (Nat.mul_le_mul_right _ (dT : (t102.length : Int).toNat ≤ 17592186044416)) (by omega)) (Below.refl _ _) (Nat.le_refl _) ?_; intro v111 w19 ho20 hb hg_ hnew_; clear hg_ hnew_; (first | rw [← Ny110.out] at ho20 | (simp only [Int.reduceToNat] at ho20; rw [← Ny110.out] at ho20)); replace HO104 := Aside0.mk (Kd.V_elder' (by refine pV ?_; exact (Kd.V_mono (Kd.V_far (p := ⟨gb109, 1, none⟩) (Kd.V_far (p := ⟨gb109, 0, none⟩) (Kd.V_mono HO104.out (fun k_ hk => (⟨hk, hk.2⟩ : _ ∧ k_ ≠ gb109))) (fun _ hk => hk.2) (.slice Ao15 t102.length co15)) (fun _ hk => hk.2) (.slice Ao18 t105.length co18)) (fun _ h_ => h_.1))) (Kd.R_base ho20) hb); replace HO107 := Aside0.mk (Kd.V_elder' (by refine pV ?_; exact (Kd.V_mono (Kd.V_far (p := ⟨gb109, 1, none⟩) (Kd.V_far (p := ⟨gb109, 0, none⟩) (Kd.V_mono HO107.out (fun k_ hk => (⟨hk, hk.2⟩ : _ ∧ k_ ≠ gb109))) (fun _ hk => hk.2) (.slice Ao15 t102.length co15)) (fun _ hk => hk.2) (.slice Ao18 t105.length co18)) (fun _ h_ => h_.1))) (Kd.R_base ho20) hb); have HO112 := rl ho20 HB; replace BK101 := bf BK101 hb; replace BK109 := Aside0.mk (blk_below (g := gb109) (o := .cells #[.slice Ao15 t102.length co15, .slice Ao18 t105.length co18] 99 (0, 0)) (by refine pB ?_; refine blk_put (cs := #[.slice Ao15 t102.length co15, .slice none 0 0]) ?_ 1 _ rfl; refine pB ?_; refine blk_put (cs := #[.slice none 0 0, .slice none 0 0]) ?_ 0 _ rfl; exact pB BK109.out) hb); replace HB := bs HB hb; clear hb ho20) | ((with_reducible refine gate_dst (N := 8) rfl ?_); refine bx 8 #[.slice none 0 0] 36 ?_; intro gb113 hg w21 hbox hb; replace HO104 := ve HO104 hg hb; replace HO107 := ve HO107 hg hb; replace HO112 := rb HO112 hb; have BK113 := hbox; have GW113 := gs HB hg; have GE113 := gs HB hg; replace HB := bs HB hb; have NB101_113 := nl BK101 hg; have NB113_101 := nr BK101 hg; replace BK101 := bb BK101 hb; have NB109_113 := nl BK109 hg; have NB113_109 := nr BK109 hg; replace BK109 := bb BK109 hb; clear hb hbox hg; obtain ⟨Ao22, co22, eo22⟩ := Kd.R_slice HO112.out; subst eo22; have hnb23 := NB113_101.out; have hnc23 := NB101_113.out; have hnb24 := NB113_109.out; have hnc24 := NB109_113.out; obtain ⟨_, _⟩ := cf1 BK113) | (with_reducible refine regW_lit_ ?_) | gi_step)
        have n0_ : Aside0 (Kd.V k67 67 (w21.setCell ⟨gb113, 0, none⟩ (.slice Ao22 y110.length co22)) w.heap.size (fun k_ => some k_ ≠ (.slice Ao22 y110.length co22 : Value).ownBlock ∧ k_ ≠ gb101 ∧ k_ ≠ gb109 ∧ k_ ≠ gb113) (.slice Ao15 t102.length co15) t102) := ⟨by (with_reducible repeat (first | apply Kd.V_alloc | apply Kd.V_drewN | apply Kd.V_drew)); exact Kd.V_mono (Kd.V_far (p := ⟨gb113, 0, none⟩) (Kd.V_mono HO104.out (fun k_ hk => (⟨hk, hk.2⟩ : _ ∧ k_ ≠ gb113))) (fun _ hk => hk.2) (.slice Ao22 y110.length co22)) (fun _ hk => ⟨hk.1.1.2, ⟨hk.1.1.1.1, ⟨hk.1.1.1.2, hk.1.2⟩⟩⟩)⟩
        have n1_ : Aside0 (Kd.V (Kd.int .i64) 3 (w21.setCell ⟨gb113, 0, none⟩ (.slice Ao22 y110.length co22)) w.heap.size (fun k_ => some k_ ≠ (.slice Ao22 y110.length co22 : Value).ownBlock ∧ k_ ≠ gb101 ∧ k_ ≠ gb109 ∧ k_ ≠ gb113) (.slice Ao18 t105.length co18) t105) := ⟨by (with_reducible repeat (first | apply Kd.V_alloc | apply Kd.V_drewN | apply Kd.V_drew)); exact Kd.V_mono (Kd.V_far (p := ⟨gb113, 0, none⟩) (Kd.V_mono HO107.out (fun k_ hk => (⟨hk, hk.2⟩ : _ ∧ k_ ≠ gb113))) (fun _ hk => hk.2) (.slice Ao22 y110.length co22)) (fun _ hk => ⟨hk.1.1.2, ⟨hk.1.1.1.1, ⟨hk.1.1.1.2, hk.1.2⟩⟩⟩)⟩
        have n2_ : Aside0 (Kd.R k42 42 (w21.setCell ⟨gb113, 0, none⟩ (.slice Ao22 y110.length co22)) w.heap.size (fun _ => True) (.slice Ao22 y110.length co22) y110) := ⟨by (with_reducible repeat (first | apply Kd.R_alloc | apply Kd.R_drewN | apply Kd.R_drew)); exact Kd.R_mono (Kd.R_far (p := ⟨gb113, 0, none⟩) (Kd.R_types HO112.out BK113.out (by decide)) (fun _ hk => hk.2) (.slice Ao22 y110.length co22)) (fun _ hk => trivial)⟩
        have n3_ : Aside0 ((w21.setCell ⟨gb113, 0, none⟩ (.slice Ao22 y110.length co22)).heap[gb101]? = some (.cells #[.slice A0_0 l0_0.length c0_0, .slice A0_1 l0_1.length c0_1] 25 (0, 0))) := ⟨pF BK101⟩
        have n4_ : Aside0 ((w21.setCell ⟨gb113, 0, none⟩ (.slice Ao22 y110.length co22)).heap[gb109]? = some (.cells #[.slice Ao15 t102.length co15, .slice Ao18 t105.length co18] 99 (0, 0))) := ⟨pF BK109⟩
        have n5_ : Aside0 ((w21.setCell ⟨gb113, 0, none⟩ (.slice Ao22 y110.length co22)).heap[gb113]? = some (.cells #[.slice Ao22 y110.length co22] 36 (0, 0))) := ⟨by refine pB ?_; refine blk_put (cs := #[.slice none 0 0]) ?_ 0 _ rfl; exact pB BK113.out⟩
        have n6_ : Aside0 (Below w.heap.size w (w21.setCell ⟨gb113, 0, none⟩ (.slice Ao22 y110.length co22))) := ⟨pE HB⟩
        (try clear HO104)
        (try clear HO107)
        (try clear HO112)
        (try clear BK101)
        (try clear BK109)
        (try clear BK113)
        (try clear HB)
        generalize (w21.setCell ⟨gb113, 0, none⟩ (.slice Ao22 y110.length co22)) = w26 at n0_ n1_ n2_ n3_ n4_ n5_ n6_ ⊢
        have HO104 := n0_
        have HO107 := n1_
        have HO112 := n2_
        have BK101 := n3_
        have BK109 := n4_
        have BK113 := n5_
        have HB := n6_
        clear n0_ n1_ n2_ n3_ n4_ n5_ n6_
        replace HO104 := Aside0.mk (Kd.V_drew HO104.out)
        replace HO107 := Aside0.mk (Kd.V_drew HO107.out)
        replace HO112 := Aside0.mk (Kd.R_drew HO112.out)
        replace BK101 := Aside0.mk (blk_drew BK101.out)
        replace BK109 := Aside0.mk (blk_drew BK109.out)
        replace BK113 := Aside0.mk (blk_drew BK113.out)
        replace HB := Aside0.mk (below_drew1 HB.out)
        refine wpIn_wide.2 (start_ (n := 5) (S := fun w' => w'.cell? ⟨gb109, 0, none⟩ = some (.slice Ao15 t102.length co15) ∧ w'.cell? ⟨gb109, 1, none⟩ = some (.slice Ao18 t105.length co18)) (ds := []) #[false, false, false, false, false] (by kernel_rfl) rfl rfl ⟨(blk_cell BK109.out 0).trans rfl, (blk_cell BK109.out 1).trans rfl⟩ (fun hHeld => ?_))
        generalize w26.drew = w27 at HO104 HO107 HO112 BK101 BK109 BK113 HB hHeld ⊢
        refine pu 3 28 ?_ (hQ := (fun c_ a_ w_ h_ => HQP.out c_ _ a_ w_ (by rfl) h_))
        refine tk 0 25 hHeld ?_ (hQ := (fun c_ a_ w_ h_ => HQP.out c_ _ a_ w_ (by rfl) h_))
        refine tk 1 26 hHeld ?_ (hQ := (fun c_ a_ w_ h_ => HQP.out c_ _ a_ w_ (by rfl) h_))
        refine on 2 (fun K hK => ?_)
        refine gO Tryz.func63 #[.agg #[.slice Ao15 t102.length co15, .slice Ao18 t105.length co18]] ?_
        with_reducible refine (turn_day_order.calls k _ _ t102 _ _ t105 t114 _ ?side1 ?side2 ?side3 ?side4 A7.out).mono ?_
        (case side1 => exact pC (Kd.V_reads' HO104.out).2.2)
        (case side2 => exact (Kd.V_reads' HO104.out).2.1)
        (case side3 => exact pC (Kd.V_reads' HO107.out).2.2)
        (case side4 => exact (Kd.V_reads' HO107.out).2.1)
        rintro e w28 ⟨v115, rfl, ho0, hb⟩
        have Q116 := Aside0.mk (Kd.R_mono (Kd.R_tight rfl ho0) (fun k_ hk_ => Kd.R_base ho0 k_ hk_.symm))
        have LU := Aside0.mk (Kd.R_lt HO112.out)
        refine ⟨_, rfl, ?_⟩
        replace HO104 := Aside0.mk (Kd.V_elder' (pV HO104.out) (Kd.R_base ho0) hb)
        replace HO107 := Aside0.mk (Kd.V_elder' (pV HO107.out) (Kd.R_base ho0) hb)
        replace HO112 := rb HO112 hb
        have HO116 := rl ho0 HB
        replace BK101 := bb BK101 hb
        replace BK109 := bb BK109 hb
        replace BK113 := bb BK113 hb
        replace HB := bs HB hb
        (try clear hb)
        (try clear hb2)
        (try clear hk)
        (try clear hi)
        (try clear ho0)
        obtain ⟨Ao29, co29, eo29⟩ := Kd.R_slice HO116.out
        (first | subst eo29 | (injection eo29 with f1_ f2_ f3_; have f4_ := f1_.symm; have f5_ := f3_.symm; clear f1_ f2_ f3_; subst f4_; subst f5_))
        refine hK.out _ _ ⟨(blk_cell BK109.out 0).trans rfl, (blk_cell BK109.out 1).trans rfl⟩ (fun hHeld => ?_)
        clear hK K
        refine norm_ (a' := ?_) ?_ ?_
        rotate_left
        · show Act.put _ (some 27) _ = _
          simp only [Act.put, List.setIfInBounds_toArray, List.set_cons_zero, List.set_cons_succ, i64_w, i32_w]
          rfl
        refine on 4 (fun K hK => ?_)
        have LT := Aside0.mk (Kd.R_lt HO112.out)
        have Q104 := HO104
        have Q107 := HO107
        refine gO Tryz.func65 #[.agg #[.slice Ao15 t102.length co15, .slice Ao18 t105.length co18], .slice Ao29 t114.length co29, .int .i64 a1, .func (.func 66) #[] #[]] ?_
        refine (turns_calls Ao15 t102.length co15 Ao18 t105.length co18 Ao29 t114.length co29 a1 66 _).mono ?_
        rintro e w30 ⟨rfl, hw_⟩
        have HW_ := Aside0.mk hw_
        have hb : Below w28.heap.size w28 w30 := by rw [hw_]; exact (four_alloc _ _ _ _ _).1
        clear hw_
        refine ⟨_, rfl, ?_⟩
        replace HO104 := vb HO104 hb
        replace HO107 := vb HO107 hb
        replace HO112 := rb HO112 hb
        replace HO116 := rb HO116 hb
        replace BK101 := bb BK101 hb
        replace BK109 := bb BK109 hb
        replace BK113 := bb BK113 hb
        replace HB := bs HB hb
        (try clear hb)
        (try clear hb2)
        (try clear hk)
        (try clear hi)
        refine hK.out _ _ ⟨(blk_cell BK109.out 0).trans rfl, (blk_cell BK109.out 1).trans rfl⟩ (fun hHeld => ?_)
        clear hK K
        refine norm_ (a' := ?_) ?_ ?_
        rotate_left
        · show Act.put _ (some 29) _ = _
          simp only [Act.put, List.setIfInBounds_toArray, List.set_cons_zero, List.set_cons_succ, i64_w, i32_w]
          rfl
        refine done_ (by kernel_rfl) ?_
        go_wp2_with (first | (with_reducible refine regW_lit_ ?_) | gi_step)
        obtain ⟨hok_, hz_⟩ := startsO_spec A8.out
        obtain ⟨hm1, hm2, hin⟩ := okT_spec hok_
        obtain ⟨m, rfl⟩ : ∃ m : Nat, a1 = (m : Int) := ⟨(a1 : Int).toNat, by omega⟩
        have HIN := Aside0.mk hin
        have HZ := Aside0.mk hz_
        have HYL : Aside0 (y110.length = t102.length) := ⟨by rw [Ny110.out]; simp⟩
        clear hin hok_ hz_
        obtain ⟨q1, q2, hseq⟩ := turns_made lowF m Ao29 co29 t114 Ao15 co15 t102 Ao18 co18 t105 66 Tryz.f66 4 w28 w30 (fun k => some k = (.slice Ao22 y110.length co22 : Value).ownBlock) (fun k hk => LT.out k hk.symm) Tryz.func66 (by kernel_rfl) rfl low_calls (by omega) (by omega) HIN.out HW_.out (fun W' hsz hsame => ⟨(Kd.R_reads' (Kd.R_step Q116.out (fun k hk hlt => hsame k hlt (fun e => by have := LU.out k e.symm; omega)))).2.2, (Kd.V_reads' (Kd.V_step Q104.out (fun k hk hlt => hsame k hlt (fun e => hk.1.1 e)))).2.2⟩)
        have hx2 : Kd.R k42 42 w30 w.heap.size (fun k_ => k_ < w30.heap.size) (.slice Ao22 y110.length co22) y110 := Kd.R_mono (Kd.R_bound HO112.out) (fun k_ hk_ => hk_.2.2.1)
        have hb5 := HB.out
        have hsz0 : w.heap.size ≤ w30.heap.size := hb5.size
        have NE113 := Aside0.mk (Kd.R_ne HO112.out BK113.out (by decide))
        have QS := Aside0.mk q2
        clear q2
        obtain ⟨xs, hxs⟩ : ∃ xs, runT lowF t102 (List.replicate m 0) t114 = xs := ⟨_, rfl⟩
        have HXS : Aside0 (∀ x ∈ xs, 0 ≤ x.1 ∧ x.1 < (t102.length : Int)) := ⟨by rw [← hxs]; exact fun x hx => HIN.out x.1 (runT_in _ _ _ _ x hx)⟩
        rw [hxs] at hseq
        have XS1 := Aside0.mk hxs
        clear hxs
        refine range_outer (xs := xs) (Rv := RvT) (Ex := fun k => some k = (.slice Ao22 y110.length co22 : Value).ownBlock) (c := 1) (E := fun _ => True) (w0 := w30) rfl (fun h0 => by cases h0) (gf := 99) rfl trivial (fun args w => enters_ Tryz.func99 (by kernel_rfl) rfl args w) hseq (Below.refl _ _) (fun x vs W h => by unfold RvT at h; subst h; rfl)
          (fun i W' => Kd.R k42 42 W' w.heap.size (fun k_ => k_ < w30.heap.size) (.slice Ao22 y110.length co22) (lows_ y110 (xs.take i)) ∧ Below w.heap.size w W' ∧ (∀ k, k < w30.heap.size → some k ≠ (.slice Ao22 y110.length co22 : Value).ownBlock → W'.heap[k]? = w30.heap[k]?))
          (fun cd i W' => False)
          ?hI ?hIx ⟨hx2, hb5, fun _ _ _ => rfl⟩
          (fun i x a' W' => ∃ g, a' = { tmps := #[.agg #[.slice A0_0 l0_0.length c0_0, .slice A0_1 l0_1.length c0_1], .int .i64 (m : Int), .pointer (some ⟨gb101, 0, none⟩), undef, .slice none 0 0, .int .i64 0, .pointer (some ⟨gb109, 0, none⟩), .int .i64 t108, .pointer (some ⟨gb113, 0, none⟩), .pointer (some ⟨g, 0, none⟩), undef, .tuple #[.agg #[.slice Ao15 t102.length co15, .slice Ao18 t105.length co18], .int .i64 t108], .agg #[.slice A0_0 l0_0.length c0_0, .slice A0_1 l0_1.length c0_1], .int .i64 (m : Int), .tuple #[.agg #[.slice Ao15 t102.length co15, .slice Ao18 t105.length co18], .int .i64 t108], .agg #[.slice Ao15 t102.length co15, .slice Ao18 t105.length co18], .int .i64 t108, .int .i64 t108, .bool false, undef, .pointer (some ⟨gb109, 0, none⟩), .pointer (some ⟨gb109, 0, none⟩), .slice Ao15 t102.length co15, .int .i64 (t102.length : Int), .slice Ao22 y110.length co22, .agg #[.slice Ao15 t102.length co15, .slice Ao18 t105.length co18], .agg #[.slice Ao15 t102.length co15, .slice Ao18 t105.length co18], .slice Ao29 t114.length co29, .int .i64 (m : Int), .func (.func 99) #[] #[.pointer (some ⟨w28.heap.size + 2, 0, none⟩), .pointer (some ⟨w28.heap.size + 1, 0, none⟩), .pointer (some ⟨w28.heap.size, 0, none⟩), .pointer (some ⟨w28.heap.size + 3, 0, none⟩)], .agg #[.int .i64 x.1, .int .i64 x.2.1, .int .i64 x.2.2], undef, undef, undef, undef, undef, undef, undef, undef, undef, undef, undef, undef, undef, undef, undef, undef, undef, undef, undef, undef, undef], defers := [] } ∧ W'.heap[g]? = some (.cells #[.int .i64 x.1, .int .i64 x.2.1, .int .i64 x.2.2] 107 (0, 0)) ∧ w30.heap.size + 2 + 1 ≤ g ∧ Kd.R k42 42 W' w.heap.size (fun k_ => k_ < w30.heap.size) (.slice Ao22 y110.length co22) (lows_ y110 (xs.take i)) ∧ Below w.heap.size w W' ∧ (∀ k, k < w30.heap.size → some k ≠ (.slice Ao22 y110.length co22 : Value).ownBlock → W'.heap[k]? = w30.heap[k]?))
          ?hAx ?assign ?body ?done ?stop
        case hI => exact fun i X Y ⟨h1, h2, h3⟩ hs => ⟨Kd.R_step h1 (fun k_ hk_ hlt_ => istep_lt hs hk_ (by omega) hlt_), Below_istep_ h2 (Nat.le_refl _) hs (by omega) (by omega), fun k hk hne => istep_eq hs hk (by omega) (h3 k hk hne)⟩
        case hIx => exact fun cd i X Y h hs => h
        case hAx => exact fun i x a' _ X Y ⟨g, h0, h4, h5, h1, h2, h3⟩ hs => ⟨g, h0, hs.same _ _ h4 (by omega) (fun _ => rfl), h5, Kd.R_step h1 (fun k_ hk_ hlt_ => istep_lt hs hk_ (by omega) hlt_), Below_istep_ h2 (Nat.le_refl _) hs (by omega) (by omega), fun k hk hne => istep_eq hs hk (by omega) (h3 k hk hne)⟩
        case assign =>
          rintro l' i x vs W' K hx hi hv hsz hK
          unfold RvT at hv
          subst hv
          simp only [List.zip_toArray, List.zip_cons_cons, List.zip_nil_right, List.zip_nil_left, List.size_toArray, List.foldl_toArray', List.foldl_cons, List.foldl_nil, List.setIfInBounds_toArray, List.set_cons_zero, List.set_cons_succ, List.length_cons, List.length_nil]
          have Hi := Aside0.mk hi
          have HK := Aside0.mk hK
          clear hseq hi hK hx2 hb5
          go_wp2_with (first
            | ((with_reducible refine gate_dst (N := 9) rfl ?_); refine box_event_sz ?hg (N := 9) ?hd (cs := #[.int .i64 0, .int .i64 0, .int .i64 0]) (t := 107) ?hr ?_; (case hd => rfl); (case hg => rfl); (case hr => first | (go_simp; done) | (go_simp; rfl)); intro w1 hs1 hx1 hb1
               have hz0 : w1.cell? ⟨W'.heap.size, 0, none⟩ = some (.int .i64 0) := (blk_cell hx1 0).trans rfl
               have hz1 : w1.cell? ⟨W'.heap.size, 1, none⟩ = some (.int .i64 0) := (blk_cell hx1 1).trans rfl
               have hz2 : w1.cell? ⟨W'.heap.size, 2, none⟩ = some (.int .i64 0) := (blk_cell hx1 2).trans rfl
               have hf0 := blk_frozen hx1 0
               have hf1 := blk_frozen hx1 1
               have hf2 := blk_frozen hx1 2)
            | ((with_reducible refine regIn_lit_ ?hnd ?hlo ?_); (case hnd => kernel_rfl); (case hlo => rintro ⟨_, _, h⟩; exact h)) | gi_step)
          have hB := ((hb1.setCell (p := ⟨W'.heap.size, 0, none⟩) (Nat.le_refl _) (.int .i64 x.1)).setCell (p := ⟨W'.heap.size, 1, none⟩) (Nat.le_refl _) (.int .i64 x.2.1)).setCell (p := ⟨W'.heap.size, 2, none⟩) (Nat.le_refl _) (.int .i64 x.2.2)
          have hg1 := blk_put (cs := #[.int .i64 0, .int .i64 0, .int .i64 0]) hx1 0 (.int .i64 x.1) rfl
          have hg2 := blk_put (cs := #[.int .i64 x.1, .int .i64 0, .int .i64 0]) hg1 1 (.int .i64 x.2.1) rfl
          have hg3 := blk_put (cs := #[.int .i64 x.1, .int .i64 x.2.1, .int .i64 0]) hg2 2 (.int .i64 x.2.2) rfl
          exact HK.out _ _ hB ⟨W'.heap.size, rfl, hg3, hsz, Kd.R_below Hi.out.1 hB, Hi.out.2.1.trans (hB.mono (by have := Hi.out.2.1.size; omega)), fun k hk hne => (hB.block k (by omega)).trans (Hi.out.2.2 k hk hne)⟩
        case body =>
          rintro l' i x a' W' hl' hloop hx ⟨g, rfl, h4, h5, h1, h2, h3⟩ hsz
          obtain ⟨hlt, hxe⟩ := List.getElem?_eq_some_iff.1 hx
          have htk : lows_ y110 (xs.take (i + 1)) = lows_1 (lows_ y110 (xs.take i)) x := by unfold lows_; rw [List.take_succ_eq_append_getElem hlt, hxe, List.foldl_append]; rfl
          have hln : (lows_ y110 (xs.take i)).length = y110.length := (Kd.R_reads' h1).1.symm
          obtain ⟨z, hz⟩ : ∃ z, lows_ y110 (xs.take i) = z := ⟨_, rfl⟩
          rw [hz] at h1 htk hln
          have HTK := Aside0.mk htk
          obtain ⟨p7, q7⟩ := HXS.out x (List.mem_of_getElem? hx)
          rw [← HYL.out] at q7
          obtain ⟨go7, co7, eo7, gb7, gl7, cl7, HG7⟩ := Kd.R_form h1 (by omega)
          rw [hln] at eo7
          injection eo7 with ea_ en_ ec_
          subst ea_
          subst ec_
          clear en_
          obtain ⟨ce7, hcl7, hM7, hcc7, hfr7⟩ := Kd.R_elem h1 z42 x.1 p7 q7
          obtain rfl := k42_openM hM7
          have hx70 : W'.cell? ⟨go7, x.1.toNat * 2, none⟩ = some (.int .i64 ((rd_T42 z x.1).f0)) := hcc7 0 _ rfl
          have hx71 : W'.cell? ⟨go7, x.1.toNat * 2 + 1, none⟩ = some (.int .i64 ((rd_T42 z x.1).f1)) := hcc7 1 _ rfl
          have hf70 : W'.frozen? ⟨go7, x.1.toNat * 2, none⟩ = false := hfr7 0
          have hf71 : W'.frozen? ⟨go7, x.1.toNat * 2 + 1, none⟩ = false := hfr7 1
          have hgo : go7 < w30.heap.size := h1.1 go7 rfl
          have H0 := Aside0.mk (low42 h1 x.1 p7 q7 x.2.1)
          have hbx : W'.heap[gb113]? = some (.cells #[.slice (some ⟨go7, 0, none⟩) y110.length co22] 36 (0, 0)) := (h3 gb113 (Array.getElem?_eq_some_iff.1 BK113.out).1 NE113.out).trans BK113.out
          have hc8 : W'.cell? ⟨gb113, 0, none⟩ = some (.slice (some ⟨go7, 0, none⟩) y110.length co22) := (blk_cell hbx 0).trans rfl
          have hz0 : W'.cell? ⟨g, 0, none⟩ = some (.int .i64 x.1) := (blk_cell h4 0).trans rfl
          have hz1 : W'.cell? ⟨g, 1, none⟩ = some (.int .i64 x.2.1) := (blk_cell h4 1).trans rfl
          have hz2 : W'.cell? ⟨g, 2, none⟩ = some (.int .i64 x.2.2) := (blk_cell h4 2).trans rfl
          have H2 := Aside0.mk h2
          have H3 := Aside0.mk h3
          have HG := Aside0.mk HG7
          have HGB := Aside0.mk gb7
          have P7 := eq_true p7
          have Q7 := eq_true q7
          clear hseq h1 h2 h3 h4 hx2 hb5 hx hxe hlt htk hz hloop hl' hsz hbx hcc7 hfr7 hM7 hcl7 HG7 gb7 p7 q7 hln
          go_wp2_with (first | ((with_reducible refine regIn_lit_ ?hnd ?hlo ?_); (case hnd => kernel_rfl); (case hlo => rintro ⟨_, _, h⟩; exact h)) | gi_step)
          refine ⟨BKeep.of_block go7 (by simp [World.setCell]) (fun k _ hne => Below.heap_setCell _ _ _ k hne) ⟨_, HG.out, rfl⟩ (fun _ => rfl) (fun hh => by have := hh.1; omega), ?_, ?_, ?_⟩
          · rw [HTK.out]; exact H0.out
          · exact H2.out.setCell (show w.heap.size ≤ go7 from HGB.out) _
          · intro k hk hne
            refine (Below.heap_setCell _ _ _ k ?_).trans (H3.out k hk hne)
            exact fun e => hne (congrArg some e)
        case stop =>
          rintro D cd i W' hD hi h hmk
          exact h.elim
        case done =>
          rintro D1 W' hD1 ⟨h1, h2, h3⟩ hmk1
          rw [List.take_length] at h1
          obtain ⟨l1, hl1⟩ : ∃ l, lows_ y110 xs = l := ⟨_, rfl⟩
          rw [hl1] at h1
          have HL1 := Aside0.mk hl1
          have n0_ := Aside0.mk (Kd.V_drew (Kd.V_step HO104.out (fun k hk hlt => h3 k hlt hk.1.1)))
          have n1_ := Aside0.mk (Kd.V_drew (Kd.V_step HO107.out (fun k hk hlt => h3 k hlt hk.1.1)))
          have n2_ := Aside0.mk (Kd.R_drew (Kd.R_mono (ok' := fun _ => True) h1 (fun _ _ => trivial)))
          have n3_ := Aside0.mk (blk_drew ((h3 gb101 (Array.getElem?_eq_some_iff.1 BK101.out).1 (Kd.R_ne HO112.out BK101.out (by decide))).trans BK101.out))
          have n4_ := Aside0.mk (blk_drew ((h3 gb109 (Array.getElem?_eq_some_iff.1 BK109.out).1 (Kd.R_ne HO112.out BK109.out (by decide))).trans BK109.out))
          have n5_ := Aside0.mk (blk_drew ((h3 gb113 (Array.getElem?_eq_some_iff.1 BK113.out).1 NE113.out).trans BK113.out))
          have n6_ := Aside0.mk (below_drew1 h2)
          have HK1 : Aside0 (W'.drew.heap[D1]? = some (.deferred (some []))) := ⟨hmk1⟩
          have HD1 := Aside0.mk hD1
          clear HO104 HO107 HO112 HO116 BK101 BK109 BK113 HB
          have HO104 := n0_
          have HO107 := n1_
          have HO112 := n2_
          have BK101 := n3_
          have BK109 := n4_
          have BK113 := n5_
          have HB := n6_
          clear n0_ n1_ n2_ n3_ n4_ n5_ n6_ hseq h1 h2 h3 hx2 hb5 hD1 hmk1 hl1
          simp only [Exit.inBlock, Exit.then]
          gi_wp2
          refine wpIn_wide.2 (start_ (n := 5) (S := fun w' => w'.cell? ⟨gb109, 0, none⟩ = some (.slice Ao15 t102.length co15) ∧ w'.cell? ⟨gb109, 1, none⟩ = some (.slice Ao18 t105.length co18)) (ds := []) #[false, false, false, false, false] (by kernel_rfl) rfl rfl ⟨(blk_cell BK109.out 0).trans rfl, (blk_cell BK109.out 1).trans rfl⟩ (fun hHeld => ?_))
          generalize W'.drew = w27b at HO104 HO107 HO112 BK101 BK109 BK113 HB HK1 hHeld ⊢
          refine pu 3 41 ?_ (hQ := (fun c_ a_ w_ h_ => HQP.out c_ _ a_ w_ (by rfl) h_))
          refine tk 0 38 hHeld ?_ (hQ := (fun c_ a_ w_ h_ => HQP.out c_ _ a_ w_ (by rfl) h_))
          refine tk 1 39 hHeld ?_ (hQ := (fun c_ a_ w_ h_ => HQP.out c_ _ a_ w_ (by rfl) h_))
          refine on 2 (fun K hK => ?_)
          refine gO Tryz.func63 #[.agg #[.slice Ao15 t102.length co15, .slice Ao18 t105.length co18]] ?_
          with_reducible refine (turn_day_order.calls k _ _ t102 _ _ t105 t114 _ ?side1 ?side2 ?side3 ?side4 A7.out).mono ?_
          (case side1 => exact pC (Kd.V_reads' HO104.out).2.2)
          (case side2 => exact (Kd.V_reads' HO104.out).2.1)
          (case side3 => exact pC (Kd.V_reads' HO107.out).2.2)
          (case side4 => exact (Kd.V_reads' HO107.out).2.1)
          rintro e w28b ⟨v115b, rfl, ho0, hb⟩
          replace HK1 := Aside0.mk ((hb.block D1 (Array.getElem?_eq_some_iff.1 HK1.out).1).trans HK1.out)
          have Q116b := Aside0.mk (Kd.R_mono (Kd.R_tight rfl ho0) (fun k_ hk_ => Kd.R_base ho0 k_ hk_.symm))
          have LUb := Aside0.mk (Kd.R_lt HO112.out)
          refine ⟨_, rfl, ?_⟩
          replace HO104 := Aside0.mk (Kd.V_elder' (pV HO104.out) (Kd.R_base ho0) hb)
          replace HO107 := Aside0.mk (Kd.V_elder' (pV HO107.out) (Kd.R_base ho0) hb)
          replace HO112 := rb HO112 hb
          have HO116 := rl ho0 HB
          replace BK101 := bb BK101 hb
          replace BK109 := bb BK109 hb
          replace BK113 := bb BK113 hb
          replace HB := bs HB hb
          (try clear hb)
          (try clear hb2)
          (try clear hk)
          (try clear hi)
          (try clear ho0)
          obtain ⟨Ao29b, co29b, eo29b⟩ := Kd.R_slice HO116.out
          (first | subst eo29b | (injection eo29b with f1_ f2_ f3_; have f4_ := f1_.symm; have f5_ := f3_.symm; clear f1_ f2_ f3_; subst f4_; subst f5_))
          refine hK.out _ _ ⟨(blk_cell BK109.out 0).trans rfl, (blk_cell BK109.out 1).trans rfl⟩ (fun hHeld => ?_)
          clear hK K
          refine norm_ (a' := ?_) ?_ ?_
          rotate_left
          · show Act.put _ (some 40) _ = _
            simp only [Act.put, List.setIfInBounds_toArray, List.set_cons_zero, List.set_cons_succ, i64_w, i32_w]
            rfl
          refine on 4 (fun K hK => ?_)
          have LTb := Aside0.mk (Kd.R_lt HO112.out)
          have Q104b := HO104
          have Q107b := HO107
          refine gO Tryz.func65 #[.agg #[.slice Ao15 t102.length co15, .slice Ao18 t105.length co18], .slice Ao29b t114.length co29b, .int .i64 (m : Int), .func (.func 67) #[] #[]] ?_
          refine (turns_calls Ao15 t102.length co15 Ao18 t105.length co18 Ao29b t114.length co29b (m : Int) 67 _).mono ?_
          rintro e w30b ⟨rfl, hw_⟩
          have HW_b := Aside0.mk hw_
          have hb : Below w28b.heap.size w28b w30b := by rw [hw_]; exact (four_alloc _ _ _ _ _).1
          clear hw_
          replace HK1 := Aside0.mk ((hb.block D1 (Array.getElem?_eq_some_iff.1 HK1.out).1).trans HK1.out)
          refine ⟨_, rfl, ?_⟩
          replace HO104 := vb HO104 hb
          replace HO107 := vb HO107 hb
          replace HO112 := rb HO112 hb
          replace HO116 := rb HO116 hb
          replace BK101 := bb BK101 hb
          replace BK109 := bb BK109 hb
          replace BK113 := bb BK113 hb
          replace HB := bs HB hb
          (try clear hb)
          (try clear hb2)
          (try clear hk)
          (try clear hi)
          refine hK.out _ _ ⟨(blk_cell BK109.out 0).trans rfl, (blk_cell BK109.out 1).trans rfl⟩ (fun hHeld => ?_)
          clear hK K
          refine norm_ (a' := ?_) ?_ ?_
          rotate_left
          · show Act.put _ (some 42) _ = _
            simp only [Act.put, List.setIfInBounds_toArray, List.set_cons_zero, List.set_cons_succ, i64_w, i32_w]
            rfl
          refine done_ (by kernel_rfl) ?_
          go_wp2_with (first | (with_reducible refine regW_lit_ ?_) | gi_step)
          obtain ⟨q1, q2, hseq⟩ := turns_made highF m Ao29b co29b t114 Ao15 co15 t102 Ao18 co18 t105 67 Tryz.f67 4 w28b w30b (fun k => some k = (.slice Ao22 y110.length co22 : Value).ownBlock) (fun k hk => LTb.out k hk.symm) Tryz.func67 (by kernel_rfl) rfl high_calls (by omega) (by omega) HIN.out HW_b.out (fun W' hsz hsame => ⟨(Kd.R_reads' (Kd.R_step Q116b.out (fun k hk hlt => hsame k hlt (fun e => by have := LUb.out k e.symm; omega)))).2.2, (Kd.V_reads' (Kd.V_step Q104b.out (fun k hk hlt => hsame k hlt (fun e => hk.1.1.1 e)))).2.2⟩)
          have hx2 : Kd.R k42 42 w30b w.heap.size (fun k_ => k_ < w30b.heap.size) (.slice Ao22 y110.length co22) l1 := Kd.R_mono (Kd.R_bound HO112.out) (fun k_ hk_ => hk_.2.2.1)
          have hb5 := HB.out
          have hsz0 : w.heap.size ≤ w30b.heap.size := hb5.size
          have NE113 := Aside0.mk (Kd.R_ne HO112.out BK113.out (by decide))
          have QSb := Aside0.mk q2
          clear q2
          obtain ⟨xs, hxs⟩ : ∃ xs, runT highF t102 (List.replicate m 0) t114 = xs := ⟨_, rfl⟩
          have HXSb : Aside0 (∀ x ∈ xs, 0 ≤ x.1 ∧ x.1 < (t102.length : Int)) := ⟨by rw [← hxs]; exact fun x hx => HIN.out x.1 (runT_in _ _ _ _ x hx)⟩
          rw [hxs] at hseq
          have XS2 := Aside0.mk hxs
          clear hxs
          refine range_outer (xs := xs) (Rv := RvT) (Ex := fun k => some k = (.slice Ao22 y110.length co22 : Value).ownBlock) (c := 1) (E := fun _ => True) (w0 := w30b) rfl (fun h0 => by cases h0) (gf := 99) rfl trivial (fun args w => enters_ Tryz.func99 (by kernel_rfl) rfl args w) hseq (Below.refl _ _) (fun x vs W h => by unfold RvT at h; subst h; rfl)
            (fun i W' => Kd.R k42 42 W' w.heap.size (fun k_ => k_ < w30b.heap.size) (.slice Ao22 y110.length co22) (highs_ l1 (xs.take i)) ∧ Below w.heap.size w W' ∧ (∀ k, k < w30b.heap.size → some k ≠ (.slice Ao22 y110.length co22 : Value).ownBlock → W'.heap[k]? = w30b.heap[k]?))
            (fun cd i W' => False)
            ?hI ?hIx ⟨hx2, hb5, fun _ _ _ => rfl⟩
            (fun i x a' W' => ∃ g, a' = { tmps := #[.agg #[.slice A0_0 l0_0.length c0_0, .slice A0_1 l0_1.length c0_1], .int .i64 (m : Int), .pointer (some ⟨gb101, 0, none⟩), undef, .slice none 0 0, .int .i64 0, .pointer (some ⟨gb109, 0, none⟩), .int .i64 t108, .pointer (some ⟨gb113, 0, none⟩), undef, .pointer (some ⟨g, 0, none⟩), .tuple #[.agg #[.slice Ao15 t102.length co15, .slice Ao18 t105.length co18], .int .i64 t108], .agg #[.slice A0_0 l0_0.length c0_0, .slice A0_1 l0_1.length c0_1], .int .i64 (m : Int), .tuple #[.agg #[.slice Ao15 t102.length co15, .slice Ao18 t105.length co18], .int .i64 t108], .agg #[.slice Ao15 t102.length co15, .slice Ao18 t105.length co18], .int .i64 t108, .int .i64 t108, .bool false, undef, .pointer (some ⟨gb109, 0, none⟩), .pointer (some ⟨gb109, 0, none⟩), .slice Ao15 t102.length co15, .int .i64 (t102.length : Int), .slice Ao22 y110.length co22, .agg #[.slice Ao15 t102.length co15, .slice Ao18 t105.length co18], .agg #[.slice Ao15 t102.length co15, .slice Ao18 t105.length co18], .slice Ao29 t114.length co29, .int .i64 (m : Int), .func (.func 99) #[] #[.pointer (some ⟨w28.heap.size + 2, 0, none⟩), .pointer (some ⟨w28.heap.size + 1, 0, none⟩), .pointer (some ⟨w28.heap.size, 0, none⟩), .pointer (some ⟨w28.heap.size + 3, 0, none⟩)], undef, undef, undef, undef, undef, undef, undef, undef, .agg #[.slice Ao15 t102.length co15, .slice Ao18 t105.length co18], .agg #[.slice Ao15 t102.length co15, .slice Ao18 t105.length co18], .slice Ao29b t114.length co29b, .int .i64 (m : Int), .func (.func 99) #[] #[.pointer (some ⟨w28b.heap.size + 2, 0, none⟩), .pointer (some ⟨w28b.heap.size + 1, 0, none⟩), .pointer (some ⟨w28b.heap.size, 0, none⟩), .pointer (some ⟨w28b.heap.size + 3, 0, none⟩)], .agg #[.int .i64 x.1, .int .i64 x.2.1, .int .i64 x.2.2], undef, undef, undef, undef, undef, undef, undef, undef], defers := [] } ∧ W'.heap[g]? = some (.cells #[.int .i64 x.1, .int .i64 x.2.1, .int .i64 x.2.2] 107 (0, 0)) ∧ w30b.heap.size + 2 + 1 ≤ g ∧ Kd.R k42 42 W' w.heap.size (fun k_ => k_ < w30b.heap.size) (.slice Ao22 y110.length co22) (highs_ l1 (xs.take i)) ∧ Below w.heap.size w W' ∧ (∀ k, k < w30b.heap.size → some k ≠ (.slice Ao22 y110.length co22 : Value).ownBlock → W'.heap[k]? = w30b.heap[k]?))
            ?hAx ?assign ?body ?done ?stop
          case hI => exact fun i X Y ⟨h1, h2, h3⟩ hs => ⟨Kd.R_step h1 (fun k_ hk_ hlt_ => istep_lt hs hk_ (by omega) hlt_), Below_istep_ h2 (Nat.le_refl _) hs (by omega) (by omega), fun k hk hne => istep_eq hs hk (by omega) (h3 k hk hne)⟩
          case hIx => exact fun cd i X Y h hs => h
          case hAx => exact fun i x a' _ X Y ⟨g, h0, h4, h5, h1, h2, h3⟩ hs => ⟨g, h0, hs.same _ _ h4 (by omega) (fun _ => rfl), h5, Kd.R_step h1 (fun k_ hk_ hlt_ => istep_lt hs hk_ (by omega) hlt_), Below_istep_ h2 (Nat.le_refl _) hs (by omega) (by omega), fun k hk hne => istep_eq hs hk (by omega) (h3 k hk hne)⟩
          case assign =>
            rintro l' i x vs W' K hx hi hv hsz hK
            unfold RvT at hv
            subst hv
            simp only [List.zip_toArray, List.zip_cons_cons, List.zip_nil_right, List.zip_nil_left, List.size_toArray, List.foldl_toArray', List.foldl_cons, List.foldl_nil, List.setIfInBounds_toArray, List.set_cons_zero, List.set_cons_succ, List.length_cons, List.length_nil]
            have Hi := Aside0.mk hi
            have HK := Aside0.mk hK
            clear hseq hi hK hx2 hb5
            go_wp2_with (first
              | ((with_reducible refine gate_dst (N := 10) rfl ?_); refine box_event_sz ?hg (N := 10) ?hd (cs := #[.int .i64 0, .int .i64 0, .int .i64 0]) (t := 107) ?hr ?_; (case hd => rfl); (case hg => rfl); (case hr => first | (go_simp; done) | (go_simp; rfl)); intro w1 hs1 hx1 hb1
                 have hz0 : w1.cell? ⟨W'.heap.size, 0, none⟩ = some (.int .i64 0) := (blk_cell hx1 0).trans rfl
                 have hz1 : w1.cell? ⟨W'.heap.size, 1, none⟩ = some (.int .i64 0) := (blk_cell hx1 1).trans rfl
                 have hz2 : w1.cell? ⟨W'.heap.size, 2, none⟩ = some (.int .i64 0) := (blk_cell hx1 2).trans rfl
                 have hf0 := blk_frozen hx1 0
                 have hf1 := blk_frozen hx1 1
                 have hf2 := blk_frozen hx1 2)
              | ((with_reducible refine regIn_lit_ ?hnd ?hlo ?_); (case hnd => kernel_rfl); (case hlo => rintro ⟨_, _, h⟩; exact h)) | gi_step)
            have hB := ((hb1.setCell (p := ⟨W'.heap.size, 0, none⟩) (Nat.le_refl _) (.int .i64 x.1)).setCell (p := ⟨W'.heap.size, 1, none⟩) (Nat.le_refl _) (.int .i64 x.2.1)).setCell (p := ⟨W'.heap.size, 2, none⟩) (Nat.le_refl _) (.int .i64 x.2.2)
            have hg1 := blk_put (cs := #[.int .i64 0, .int .i64 0, .int .i64 0]) hx1 0 (.int .i64 x.1) rfl
            have hg2 := blk_put (cs := #[.int .i64 x.1, .int .i64 0, .int .i64 0]) hg1 1 (.int .i64 x.2.1) rfl
            have hg3 := blk_put (cs := #[.int .i64 x.1, .int .i64 x.2.1, .int .i64 0]) hg2 2 (.int .i64 x.2.2) rfl
            exact HK.out _ _ hB ⟨W'.heap.size, rfl, hg3, hsz, Kd.R_below Hi.out.1 hB, Hi.out.2.1.trans (hB.mono (by have := Hi.out.2.1.size; omega)), fun k hk hne => (hB.block k (by omega)).trans (Hi.out.2.2 k hk hne)⟩
          case body =>
            rintro l' i x a' W' hl' hloop hx ⟨g, rfl, h4, h5, h1, h2, h3⟩ hsz
            obtain ⟨hlt, hxe⟩ := List.getElem?_eq_some_iff.1 hx
            have htk : highs_ l1 (xs.take (i + 1)) = highs_1 (highs_ l1 (xs.take i)) x := by unfold highs_; rw [List.take_succ_eq_append_getElem hlt, hxe, List.foldl_append]; rfl
            have hln : (highs_ l1 (xs.take i)).length = y110.length := (Kd.R_reads' h1).1.symm
            obtain ⟨z, hz⟩ : ∃ z, highs_ l1 (xs.take i) = z := ⟨_, rfl⟩
            rw [hz] at h1 htk hln
            have HTK := Aside0.mk htk
            obtain ⟨p7, q7⟩ := HXSb.out x (List.mem_of_getElem? hx)
            rw [← HYL.out] at q7
            obtain ⟨go7, co7, eo7, gb7, gl7, cl7, HG7⟩ := Kd.R_form h1 (by omega)
            rw [hln] at eo7
            injection eo7 with ea_ en_ ec_
            subst ea_
            subst ec_
            clear en_
            obtain ⟨ce7, hcl7, hM7, hcc7, hfr7⟩ := Kd.R_elem h1 z42 x.1 p7 q7
            obtain rfl := k42_openM hM7
            have hx70 : W'.cell? ⟨go7, x.1.toNat * 2, none⟩ = some (.int .i64 ((rd_T42 z x.1).f0)) := hcc7 0 _ rfl
            have hx71 : W'.cell? ⟨go7, x.1.toNat * 2 + 1, none⟩ = some (.int .i64 ((rd_T42 z x.1).f1)) := hcc7 1 _ rfl
            have hf70 : W'.frozen? ⟨go7, x.1.toNat * 2, none⟩ = false := hfr7 0
            have hf71 : W'.frozen? ⟨go7, x.1.toNat * 2 + 1, none⟩ = false := hfr7 1
            have hgo : go7 < w30b.heap.size := h1.1 go7 rfl
            have H0 := Aside0.mk (high42 h1 x.1 p7 q7 x.2.1)
            have hbx : W'.heap[gb113]? = some (.cells #[.slice (some ⟨go7, 0, none⟩) y110.length co22] 36 (0, 0)) := (h3 gb113 (Array.getElem?_eq_some_iff.1 BK113.out).1 NE113.out).trans BK113.out
            have hc8 : W'.cell? ⟨gb113, 0, none⟩ = some (.slice (some ⟨go7, 0, none⟩) y110.length co22) := (blk_cell hbx 0).trans rfl
            have hz0 : W'.cell? ⟨g, 0, none⟩ = some (.int .i64 x.1) := (blk_cell h4 0).trans rfl
            have hz1 : W'.cell? ⟨g, 1, none⟩ = some (.int .i64 x.2.1) := (blk_cell h4 1).trans rfl
            have hz2 : W'.cell? ⟨g, 2, none⟩ = some (.int .i64 x.2.2) := (blk_cell h4 2).trans rfl
            have H2 := Aside0.mk h2
            have H3 := Aside0.mk h3
            have HG := Aside0.mk HG7
            have HGB := Aside0.mk gb7
            have P7 := eq_true p7
            have Q7 := eq_true q7
            clear hseq h1 h2 h3 h4 hx2 hb5 hx hxe hlt htk hz hloop hl' hsz hbx hcc7 hfr7 hM7 hcl7 HG7 gb7 p7 q7 hln
            go_wp2_with (first | ((with_reducible refine regIn_lit_ ?hnd ?hlo ?_); (case hnd => kernel_rfl); (case hlo => rintro ⟨_, _, h⟩; exact h)) | gi_step)
            refine ⟨BKeep.of_block go7 (by simp [World.setCell]) (fun k _ hne => Below.heap_setCell _ _ _ k hne) ⟨_, HG.out, rfl⟩ (fun _ => rfl) (fun hh => by have := hh.1; omega), ?_, ?_, ?_⟩
            · rw [HTK.out]; exact H0.out
            · exact H2.out.setCell (show w.heap.size ≤ go7 from HGB.out) _
            · intro k hk hne
              refine (Below.heap_setCell _ _ _ k ?_).trans (H3.out k hk hne)
              exact fun e => hne (congrArg some e)
          case stop =>
            rintro D cd i W' hD hi h hmk
            exact h.elim
          case done =>
            rintro D2 W' hD2 ⟨h1, h2, h3⟩ hmk2
            rw [List.take_length] at h1
            have hL : highs_ l1 xs = t117 := by
              have hz := HZ.out
              rw [Int.toNat_natCast, XS1.out, XS2.out] at hz
              rw [← hz, ← HL1.out, Ny110.out, Int.toNat_natCast]
            rw [hL] at h1
            have LD1 : D1 < w30b.heap.size := (Array.getElem?_eq_some_iff.1 HK1.out).1
            have hk1 : W'.heap[D1]? = some (.deferred (some [])) := (h3 D1 LD1 (fun e => by have h_ := LT.out D1 e.symm; have := HD1.out; have := QS.out; omega)).trans HK1.out
            have hbx : W'.heap[gb113]? = some (.cells #[.slice Ao22 y110.length co22] 36 (0, 0)) := (h3 gb113 (Array.getElem?_eq_some_iff.1 BK113.out).1 NE113.out).trans BK113.out
            have hc8 : W'.cell? ⟨gb113, 0, none⟩ = some (.slice Ao22 y110.length co22) := (blk_cell hbx 0).trans rfl
            have H1 := Aside0.mk h1
            have H2 := Aside0.mk h2
            have M1 := Aside0.mk hk1
            have M2 := Aside0.mk hmk2
            have HD2 := Aside0.mk hD2
            clear hseq h1 h2 h3 hx2 hb5 hk1 hmk2 hD2 hbx hL
            simp only [Exit.inBlock, Exit.then]
            go_wp2_with (first | (with_reducible refine regW_lit_ ?_) | gi_step)
            refine HQF.out _ _ _ (fun c h => by cases h) ?_
            have hd1 := HD1.out
            have hd2 := HD2.out
            have hqs := QS.out
            refine Marks.leaves (lo := w30.heap.size) (Ds := [D2, D1]) (.cons M2.out (by omega) (fun E hE => by simp only [List.mem_singleton] at hE; omega) (.cons M1.out (by omega) (fun E hE => by cases hE) (.nil _))) fun W2 hs => ⟨.tuple #[.slice Ao22 y110.length co22, .int .i64 0], ?res, ⟨_, rfl, Kd.R_mono (Kd.R_step (Kd.R_tight rfl H1.out) (fun k_ hk_ hlt_ => istep_lt hs (LT.out k_ hk_.symm) (by omega) hlt_)) (fun _ _ => trivial), Below_istep_ H2.out (Nat.le_refl _) hs (by omega) (by omega)⟩⟩
            exact results_list (rs := [.tmp 4, .tmp 5]) rfl (by simp) (.tmp (.tmp .nil))
      · rw [if_neg c6] at H
        exact absurd H (by simp)
    · rw [if_neg c5] at H
      exact absurd H (by simp)
  · rw [if_neg c4] at H
    have c4b0 : (t108 == 0) = false := beq_eq_false_iff_ne.mpr c4
    have c4b1 : (t108 != 0) = true := bne_iff_ne.mpr c4
    simp only [Option.some.injEq, Prod.mk.injEq] at H
    obtain ⟨rfl, rfl⟩ := H
    go_enter Tryz.func25, Tryz.ntmps25
    go_wp2_with (first | ((with_reducible refine gate_dst (N := 2) rfl ?_); refine bx 2 #[.slice A0_0 l0_0.length c0_0, .slice A0_1 l0_1.length c0_1] 25 ?_; intro gb101 hg w36 hbox hb; have BK101 := hbox; have GW101 := gs HB hg; have GE101 := gs HB hg; replace HB := bs HB hb; clear hb hbox hg; obtain ⟨_, _, _, _⟩ := cf2 BK101) | ((with_reducible refine gc 62 rfl ?_); refine gL 14 Tryz.func62 #[.agg #[.slice A0_0 l0_0.length c0_0, .slice A0_1 l0_1.length c0_1], .int .i64 a1, .int .i64 0] ?_; (with_reducible refine (turn_open.calls k (fun k_ => k_ < w.heap.size) _ _ l0_0 (fun k_ => k_ < w.heap.size) _ _ l0_1 a1 0 t102 t105 t108 _ ?side1 ?side2 A3.out).mono ?_); (case side1 => exact Kd.V_mk HC0_0.out (Kd.F_below (Kd.C_F k67_heap HR0_0.out) (pE HB))); (case side2 => exact Kd.V_mk HC0_1.out (Kd.F_below (Kd.C_F (Kd.heap_int .i64) HR0_1.out) (pE HB))); rintro e w38 ⟨v103, v106, rfl, ho0, ho1, hb⟩; refine ⟨_, rfl, ?_⟩; have HO104 := Aside0.mk (Kd.V_lower (Kd.V_mono (ok' := fun k_ => k_ ≠ gb101) ho0 (fun k_ hk_ => Or.elim hk_ (fun hs_ => Or.elim hs_ (fun hs_ => fun e_ => Nat.not_le.2 hs_ (by rw [e_]; exact GW101.out)) (fun hs_ => fun e_ => Nat.not_le.2 hs_ (by rw [e_]; exact GW101.out))) (fun hn_ => (Kd.freshB (g := gb101) (o := .cells #[.slice A0_0 l0_0.length c0_0, .slice A0_1 l0_1.length c0_1] 25 (0, 0)) (pB BK101.out) k_ hn_)))) (below_size (pE HB))); have HO107 := Aside0.mk (Kd.V_lower (Kd.V_mono (ok' := fun k_ => k_ ≠ gb101) ho1 (fun k_ hk_ => Or.elim hk_ (fun hs_ => Or.elim hs_ (fun hs_ => fun e_ => Nat.not_le.2 hs_ (by rw [e_]; exact GW101.out)) (fun hs_ => fun e_ => Nat.not_le.2 hs_ (by rw [e_]; exact GW101.out))) (fun hn_ => (Kd.freshB (g := gb101) (o := .cells #[.slice A0_0 l0_0.length c0_0, .slice A0_1 l0_1.length c0_1] 25 (0, 0)) (pB BK101.out) k_ hn_)))) (below_size (pE HB))); replace BK101 := bb BK101 hb; replace HB := bs HB hb; clear hb ho0 ho1) | ((with_reducible refine gate_dst (N := 6) rfl ?_); refine bx 6 #[.slice none 0 0, .slice none 0 0] 99 ?_; intro gb109 hg w39 hbox hb; replace HO104 := ve HO104 hg hb; replace HO107 := ve HO107 hg hb; have BK109 := hbox; have GW109 := gs HB hg; have GE109 := gs HB hg; replace HB := bs HB hb; have NB101_109 := nl BK101 hg; have NB109_101 := nr BK101 hg; replace BK101 := bb BK101 hb; clear hb hbox hg; obtain ⟨Ao40, co40, eo40⟩ := Kd.V_slice HO104.out; subst eo40; have hnb41 := NB109_101.out; have hnc41 := NB101_109.out; obtain ⟨_, _, _, _⟩ := cf2 BK109; obtain ⟨Ao43, co43, eo43⟩ := Kd.V_slice HO107.out; subst eo43))
    go_ret2
    exact ⟨_, eT, by first | exact Kd.R_nil _ _ _ _ _ | exact Kd.N_nil _ _ _ _ _ | exact Kd.V_nil _ _ _ _ _ | exact Kd.Q_nil _ _ _ _ _ | exact Kd.S_nil _ _ _ _ _, pE HB⟩
end Go.Proofs.YtlmglnobdcgbeaaGreat.P
namespace Go.Proofs.YtlmglnobdcgbeaaGreat.P
open Go.RowKit Go.Proofs.YtlmglnobdcgbeaaGreatW.PrintWords Go.Proofs.YtlmglnobdcgbeaaGreatW.PrintLast Go.Proofs.YtlmglnobdcgbeaaGreatW.PrintMore
attribute [local go_sem] max2_int min2_int max_two min_two max_three min_three max_four min_four
attribute [local go_sem high] eqA42
def walkmillref04_Spans.l0 : Nat → List (S42) → List (S42) → Int → Option (Bool)
 | 0, _, _, _ => none
 | k + 1, x0, x1, x5 => if x5 < (x0.length : Int) then (if 0 ≤ x5 then (if x5 < (x1.length : Int) then (if (!(((rd_T42 x0 x5).f0) == ((rd_T42 x1 x5).f0)) || (!(((rd_T42 x0 x5).f1) == ((rd_T42 x1 x5).f1)))) = true then (some false) else (walkmillref04_Spans.l0 k x0 x1 (wrap64 (x5 + 1)))) else (none)) else (none)) else (some true)
def walkmillref04_Spans.f (k : Nat) (l0 : List (S42)) (l1 : List (S42)) : Option (Bool) := if (l0.length : Int) = (l1.length : Int) then (walkmillref04_Spans.l0 k l0 l1 0) else (some false)
theorem walkmillref04_Spans.mono_l : ∀ k, (∀ y0 y1 y2, LeO (walkmillref04_Spans.l0 k y0 y1 y2) (walkmillref04_Spans.l0 (k + 1) y0 y1 y2))
 | 0 => fun _ _ _ r h => by simp [walkmillref04_Spans.l0] at h
 | k + 1 => by
  have ih0 := walkmillref04_Spans.mono_l k
  ·intro y0 y1 y2
   unfold walkmillref04_Spans.l0
   repeat' first
   | (with_reducible exact ih0 _ _ _)
   | (with_reducible exact LeO.refl _)
   | (with_reducible exact LeO.none _)
   | (with_reducible refine LeO.ite ?_ ?_)
   | (with_reducible refine LeO.bind ?_ (fun _ => ?_))
   | exact ih0 _ _ _
   | exact LeO.none _
   | refine LeO.ite ?_ ?_
   | refine LeO.bind ?_ (fun _ => ?_)
theorem walkmillref04_Spans.mono : ∀ a0 a1 k, LeO (walkmillref04_Spans.f k a0 a1) (walkmillref04_Spans.f (k + 1) a0 a1) := by
 intro a0 a1 k
 have ih0 := walkmillref04_Spans.mono_l k
 unfold walkmillref04_Spans.f
 repeat' first
   | (with_reducible exact ih0 _ _ _)
   | (with_reducible exact LeO.refl _)
   | (with_reducible exact LeO.none _)
   | (with_reducible refine LeO.ite ?_ ?_)
   | (with_reducible refine LeO.bind ?_ (fun _ => ?_))
   | exact ih0 _ _ _
   | exact LeO.none _
   | refine LeO.ite ?_ ?_
   | refine LeO.bind ?_ (fun _ => ?_)
set_option maxHeartbeats 8000000 in
set_option maxRecDepth 100000 in
theorem walkmillref04_Spans.calls (k : Nat) (A0 : Option Addr) (c0 : Nat) (l0 : List (S42)) (A1 : Option Addr) (c1 : Nat) (l1 : List (S42)) (r : Bool) (w : World) (hr0 : Kd.C k42 w A0 l0.length l0) (hc0 : l0.length ≤ c0) (hr1 : Kd.C k42 w A1 l1.length l1) (hc1 : l1.length ≤ c1) (h : walkmillref04_Spans.f k l0 l1 = some r) :
  Calls Tryz.prog 29 #[.slice A0 l0.length c0, .slice A1 l1.length c1] w fun e w' => e = .returned (.bool r) ∧ Drawn0 w w' := by
 have hu42 := Tryz.underlying42
 have HR0 := Aside0.mk hr0
 have HC0 := Aside0.mk hc0
 clear hr0 hc0
 have HR1 := Aside0.mk hr1
 have HC1 := Aside0.mk hc1
 clear hr1 hc1
 have H : (if (l0.length : Int) = (l1.length : Int) then (walkmillref04_Spans.l0 k l0 l1 0) else (some false)) = some r := h
 clear h
 by_cases c3 : (l0.length : Int) = (l1.length : Int)
 ·rw [if_pos c3] at H
  have c3b0 : ((l0.length : Int) == (l1.length : Int)) = true := beq_iff_eq.mpr c3
  have c3b1 : ((l0.length : Int) != (l1.length : Int)) = false := bne_eq_false_iff_eq.mpr c3
  have c3b2 : (l0.length == l1.length) = true := by first | simpa using c3 | (simp at c3 ⊢; omega)
  clear c3
  have H' := Aside0.mk H
  clear H
  go_enter Tryz.func29, Tryz.ntmps29
  go_wp2
  repeat (go_quiet (fail); try go_wp2)
  go_loopg [5] k (fun kq v5 w' => ∃ (x5_1 : Int), v5 = .int .i64 x5_1 ∧ Aside0 (walkmillref04_Spans.l0 kq l0 l1 x5_1 = some r) ∧ Aside0 (kq ≤ k) ∧ Drawn0 w w')
  case atStart => exact ⟨(0), (by first | rfl | (simp; done) | (simp [*]; done)), H', ⟨Nat.le_refl _⟩, by repeat (first | exact Drawn0.refl _ | apply Drawn0.step)⟩
  case round =>
   clear H'
   try clear c1
   try clear c2
   try clear p2
   try clear c3
   try clear c3b0
   try clear c3b1
   try clear c3b2
   obtain ⟨x5_1, rfl, HA, HK1, ⟨m1, rfl⟩⟩ := hrel
   cases gk with
   | zero => exact absurd HA.out (by simp [walkmillref04_Spans.l0])
   | succ k1 =>
    have H := HA.out
    clear HA
    simp only [walkmillref04_Spans.l0] at H
    by_cases c4 : x5_1 < (l0.length : Int)
    ·rw [if_pos c4] at H
     have c4b0 : decide (x5_1 < (l0.length : Int)) = true := decide_eq_true c4
     clear c4
     by_cases c5 : 0 ≤ x5_1
     ·rw [if_pos c5] at H
      have c5b0 : decide (0 ≤ x5_1) = true := decide_eq_true c5
      clear c5
      by_cases c6 : x5_1 < (l1.length : Int)
      ·rw [if_pos c6] at H
       have c6b0 : decide (x5_1 < (l1.length : Int)) = true := decide_eq_true c6
       clear c6
       by_cases c7 : (!(((rd_T42 l0 x5_1).f0) == ((rd_T42 l1 x5_1).f0)) || (!(((rd_T42 l0 x5_1).f1) == ((rd_T42 l1 x5_1).f1)))) = true
       ·rw [if_pos c7] at H
        have c7b0 : (!(((rd_T42 l0 x5_1).f0) == ((rd_T42 l1 x5_1).f0)) || (!(((rd_T42 l0 x5_1).f1) == ((rd_T42 l1 x5_1).f1)))) = true := c7
        clear c7
        obtain rfl := Option.some.inj H
        have p101 : 0 ≤ (x5_1 : Int) := dT
        have q101 : x5_1 < (l0.length : Int) := dT
        obtain ⟨ad101, e101, hx101_0, hx101_1⟩ := at_T42 HR0.out x5_1 p101 q101
        cases e101
        replace p101 := eq_true p101
        replace q101 := eq_true q101
        have p102 : 0 ≤ (x5_1 : Int) := dT
        have q102 : x5_1 < (l1.length : Int) := dT
        obtain ⟨ad102, e102, hx102_0, hx102_1⟩ := at_T42 HR1.out x5_1 p102 q102
        cases e102
        replace p102 := eq_true p102
        replace q102 := eq_true q102
        go_wp2
        repeat (go_quiet (fail); try go_wp2)
        go_ret
        exact ⟨by first | rfl | (simp; done) | (simp [*]; done), by repeat (first | exact Drawn0.refl _ | apply Drawn0.step)⟩
       ·rw [if_neg c7] at H
        have c7b0 : (!(((rd_T42 l0 x5_1).f0) == ((rd_T42 l1 x5_1).f0)) || (!(((rd_T42 l0 x5_1).f1) == ((rd_T42 l1 x5_1).f1)))) = false := by simpa using c7
        clear c7
        have H' := Aside0.mk H
        clear H
        have p101 : 0 ≤ (x5_1 : Int) := dT
        have q101 : x5_1 < (l0.length : Int) := dT
        obtain ⟨ad101, e101, hx101_0, hx101_1⟩ := at_T42 HR0.out x5_1 p101 q101
        cases e101
        replace p101 := eq_true p101
        replace q101 := eq_true q101
        have p102 : 0 ≤ (x5_1 : Int) := dT
        have q102 : x5_1 < (l1.length : Int) := dT
        obtain ⟨ad102, e102, hx102_0, hx102_1⟩ := at_T42 HR1.out x5_1 p102 q102
        cases e102
        replace p102 := eq_true p102
        replace q102 := eq_true q102
        go_wp2
        repeat (go_quiet (fail); try go_wp2)
        go_roundg k1
        case measure => have := HK1.out; omega
        case rel => exact ⟨(wrap64 (x5_1 + 1)), (by first | rfl | (simp; done) | (simp [*]; done)), H', ⟨by have := HK1.out; omega⟩, by repeat (first | exact Drawn0.refl _ | apply Drawn0.step)⟩
      ·rw [if_neg c6] at H
       exact absurd H (by simp)
     ·rw [if_neg c5] at H
      exact absurd H (by simp)
    ·rw [if_neg c4] at H
     have c4b0 : decide (x5_1 < (l0.length : Int)) = false := decide_eq_false c4
     clear c4
     obtain rfl := Option.some.inj H
     go_wp2
     repeat (go_quiet (fail); try go_wp2)
     go_ret
     exact ⟨by first | rfl | (simp; done) | (simp [*]; done), by repeat (first | exact Drawn0.refl _ | apply Drawn0.step)⟩
 ·rw [if_neg c3] at H
  have c3b0 : ((l0.length : Int) == (l1.length : Int)) = false := beq_eq_false_iff_ne.mpr c3
  have c3b1 : ((l0.length : Int) != (l1.length : Int)) = true := bne_iff_ne.mpr c3
  have c3b2 : (l0.length == l1.length) = false := by first | simpa using c3 | (simp at c3 ⊢; omega)
  obtain rfl := Option.some.inj H
  go_enter Tryz.func29, Tryz.ntmps29
  go_wp2
  repeat (go_quiet (fail); try go_wp2)
  go_ret
  exact ⟨by first | rfl | (simp; done) | (simp [*]; done), by repeat (first | exact Drawn0.refl _ | apply Drawn0.step)⟩
end Go.Proofs.YtlmglnobdcgbeaaGreat.P
namespace Go.Proofs.YtlmglnobdcgbeaaGreat.P
open Go.RowKit Go.Proofs.YtlmglnobdcgbeaaGreatW.PrintWords Go.Proofs.YtlmglnobdcgbeaaGreatW.PrintLast Go.Proofs.YtlmglnobdcgbeaaGreatW.PrintMore
attribute [local go_sem] max2_int min2_int max_two min_two max_three min_three max_four min_four
def walkmillref04_Starts.l0 : Nat → List Int → List Int → List Int → List (S42) → Int → Option ((List (S42)))
 | 0, _, _, _, _, _ => none
 | k + 1, x5, x6, x7, x8, x9 => if x9 < (x5.length : Int) then (if 0 ≤ x9 then (if x9 < (x6.length : Int) then (if x9 < (x7.length : Int) then (if 0 ≤ (rd x5 x9) then (if (rd x5 x9) < (x8.length : Int) then (walkmillref04_Starts.l0 k x5 x6 x7 (x8.set ((rd x5 x9) : Int).toNat (⟨rd x6 x9, rd x7 x9⟩ : S42)) (wrap64 (x9 + 1))) else (none)) else (none)) else (none)) else (none)) else (none)) else (some x8)
def walkmillref04_Starts.f (k : Nat) (l0_0 : List (S67)) (l0_1 : List Int) (a1 : Int) : Option ((List (S42))) := (walkmillref04_Order.f k l0_0 l0_1).bind fun t102 => ((walkmillref04_Hours.f k l0_0 l0_1 false).bind fun t105 => ((walkmillref04_Taken.f k l0_0 l0_1 t102 a1 t105).bind fun t108 => ((walkmillref04_Hours.f k l0_0 l0_1 true).bind fun t111 => ((walkmillref04_Taken.f k l0_0 l0_1 t102 a1 t111).bind fun t114 => (if 0 ≤ (l0_0.length : Int) then (if ((l0_0.length : Int) : Int).toNat ≤ 17592186044416 then (walkmillref04_Starts.l0 k t102 t108 t114 (List.replicate ((l0_0.length : Int) : Int).toNat z42) 0) else (none)) else (none))))))
theorem walkmillref04_Starts.mono_l : ∀ k, (∀ y0 y1 y2 y3 y4, LeO (walkmillref04_Starts.l0 k y0 y1 y2 y3 y4) (walkmillref04_Starts.l0 (k + 1) y0 y1 y2 y3 y4))
 | 0 => fun _ _ _ _ _ r h => by simp [walkmillref04_Starts.l0] at h
 | k + 1 => by
  have ih0 := walkmillref04_Starts.mono_l k
  ·intro y0 y1 y2 y3 y4
   unfold walkmillref04_Starts.l0
   repeat' first
   | (with_reducible exact ih0 _ _ _ _ _)
   | (with_reducible exact walkmillref04_Hours.mono _ _ _ _)
   | (with_reducible exact walkmillref04_Order.mono _ _ _)
   | (with_reducible exact walkmillref04_Taken.mono _ _ _ _ _ _)
   | (with_reducible exact LeO.refl _)
   | (with_reducible exact LeO.none _)
   | (with_reducible refine LeO.ite ?_ ?_)
   | (with_reducible refine LeO.bind ?_ (fun _ => ?_))
   | exact ih0 _ _ _ _ _
   | exact walkmillref04_Hours.mono _ _ _ _
   | exact walkmillref04_Order.mono _ _ _
   | exact walkmillref04_Taken.mono _ _ _ _ _ _
   | exact LeO.none _
   | refine LeO.ite ?_ ?_
   | refine LeO.bind ?_ (fun _ => ?_)
theorem walkmillref04_Starts.mono : ∀ a0 a1 a2 k, LeO (walkmillref04_Starts.f k a0 a1 a2) (walkmillref04_Starts.f (k + 1) a0 a1 a2) := by
 intro a0 a1 a2 k
 have ih0 := walkmillref04_Starts.mono_l k
 unfold walkmillref04_Starts.f
 repeat' first
   | (with_reducible exact ih0 _ _ _ _ _)
   | (with_reducible exact walkmillref04_Hours.mono _ _ _ _)
   | (with_reducible exact walkmillref04_Order.mono _ _ _)
   | (with_reducible exact walkmillref04_Taken.mono _ _ _ _ _ _)
   | (with_reducible exact LeO.refl _)
   | (with_reducible exact LeO.none _)
   | (with_reducible refine LeO.ite ?_ ?_)
   | (with_reducible refine LeO.bind ?_ (fun _ => ?_))
   | exact ih0 _ _ _ _ _
   | exact walkmillref04_Hours.mono _ _ _ _
   | exact walkmillref04_Order.mono _ _ _
   | exact walkmillref04_Taken.mono _ _ _ _ _ _
   | exact LeO.none _
   | refine LeO.ite ?_ ?_
   | refine LeO.bind ?_ (fun _ => ?_)
def walkmillref04_Starts.T2 : Bool × List (List Nat × List Nat) := (true, [([], []), ([], []), ([], []), ([], []), ([3], [3]), ([0, 1, 2, 4, 4], [0, 1, 2, 4]), ([], []), ([], []), ([], []), ([], []), ([9, 5], [9]), ([6, 7, 8, 10, 10], [6, 7, 8, 10]), ([5, 11, 0, 1, 2, 3, 4, 5], [5]), ([11, 12, 0, 1, 2, 3, 4, 5, 6, 7, 8, 9, 10, 11, 12], [11])])
def walkmillref04_Starts.B2 : List Nat := [0, 0, 0, 0, 8, 31, 0, 0, 0, 0, 575, 2047, 4095, 8191]
theorem walkmillref04_Starts.tab2 : rtab .any (opsOf Tryz.f30 2) = walkmillref04_Starts.T2 := by kernel_rfl
theorem walkmillref04_Starts.bits2 : waitsOk walkmillref04_Starts.T2.2 walkmillref04_Starts.B2 = true := by kernel_rfl
def walkmillref04_Starts.T7 : Bool × List (List Nat × List Nat) := (true, [([], []), ([], []), ([], []), ([1, 2], [1, 2]), ([3], [3]), ([], []), ([], []), ([5, 6], [5, 6]), ([7], [7]), ([], []), ([], []), ([9, 10], [9, 10]), ([11], [11]), ([8, 12], [8, 12]), ([0, 4, 0, 1, 2, 3, 4, 5, 6, 7, 8, 9, 10, 11, 12, 13], [0, 4]), ([14, 13, 0, 1, 2, 3, 4, 5, 6, 7, 8, 9, 10, 11, 12, 13], [13, 14])])
def walkmillref04_Starts.B7 : List Nat := [0, 0, 0, 6, 14, 0, 0, 96, 224, 0, 0, 1536, 3584, 8160, 16383, 32767]
theorem walkmillref04_Starts.tab7 : rtab .any (opsOf Tryz.f30 7) = walkmillref04_Starts.T7 := by kernel_rfl
theorem walkmillref04_Starts.bits7 : waitsOk walkmillref04_Starts.T7.2 walkmillref04_Starts.B7 = true := by kernel_rfl
set_option maxHeartbeats 8000000 in
set_option maxRecDepth 100000 in
theorem walkmillref04_Starts.calls (k : Nat) (A0_0 : Option Addr) (c0_0 : Nat) (l0_0 : List (S67)) (A0_1 : Option Addr) (c0_1 : Nat) (l0_1 : List Int) (a1 : Int) (r : List (S42)) (w : World) (hr0_0 : Kd.C k67 w A0_0 l0_0.length l0_0) (hc0_0 : l0_0.length ≤ c0_0) (hr0_1 : Kd.C (Kd.int .i64) w A0_1 l0_1.length l0_1) (hc0_1 : l0_1.length ≤ c0_1) (h : walkmillref04_Starts.f k l0_0 l0_1 a1 = some r) :
  Calls Tryz.prog 30 #[.agg #[.slice A0_0 l0_0.length c0_0, .slice A0_1 l0_1.length c0_1], .int .i64 a1] w fun e w' => ∃ v0_ : Value, e = .returned (v0_) ∧ Kd.R k42 42 w' w.heap.size (fun _ => True) v0_ r ∧ Below w.heap.size w w' := by
 have hu25 := Tryz.underlying25
 have hu42 := Tryz.underlying42
 have HR0_0 := Aside0.mk hr0_0
 have HC0_0 := Aside0.mk hc0_0
 clear hr0_0 hc0_0
 have HR0_1 := Aside0.mk hr0_1
 have HC0_1 := Aside0.mk hc0_1
 clear hr0_1 hc0_1
 have HB := Aside0.mk (Below.refl w.heap.size w)
 have H : ((walkmillref04_Order.f k l0_0 l0_1).bind fun t102 => ((walkmillref04_Hours.f k l0_0 l0_1 false).bind fun t105 => ((walkmillref04_Taken.f k l0_0 l0_1 t102 a1 t105).bind fun t108 => ((walkmillref04_Hours.f k l0_0 l0_1 true).bind fun t111 => ((walkmillref04_Taken.f k l0_0 l0_1 t102 a1 t111).bind fun t114 => (if 0 ≤ (l0_0.length : Int) then (if ((l0_0.length : Int) : Int).toNat ≤ 17592186044416 then (walkmillref04_Starts.l0 k t102 t108 t114 (List.replicate ((l0_0.length : Int) : Int).toNat z42) 0) else (none)) else (none))))))) = some r := h
 clear h
 obtain ⟨t102, A3, H⟩ := bi H
 obtain ⟨t105, A4, H⟩ := bi H
 obtain ⟨t108, A5, H⟩ := bi H
 obtain ⟨t111, A6, H⟩ := bi H
 obtain ⟨t114, A7, H⟩ := bi H
 by_cases c8 : 0 ≤ (l0_0.length : Int)
 ·rw [if_pos c8] at H
  have c8b0 := eq_true c8
  have c8b1 : decide (0 ≤ (l0_0.length : Int)) = true := decide_eq_true c8
  clear c8
  by_cases c9 : ((l0_0.length : Int) : Int).toNat ≤ 17592186044416
  ·rw [if_pos c9] at H
   have c9b0 := eq_true c9
   have c9b1 : decide (((l0_0.length : Int) : Int).toNat ≤ 17592186044416) = true := decide_eq_true c9
   clear c9
   obtain ⟨y117, hy117⟩ : ∃ y_ : List (S42), y_ = (List.replicate ((l0_0.length : Int) : Int).toNat z42) := ⟨_, rfl⟩
   replace H : (walkmillref04_Starts.l0 k t102 t108 t114 y117 0) = some r := yy hy117 H
   have Ny117 := Aside0.mk hy117
   clear hy117
   have H' := Aside0.mk H
   clear H
   go_enter Tryz.func30, Tryz.ntmps30
   try go_wp2_with (first | ((with_reducible refine gate_dst (N := 2) rfl ?_); refine bx 2 #[.slice A0_0 l0_0.length c0_0, .slice A0_1 l0_1.length c0_1] 25 ?_; intro gb101 hg w10 hbox hb; have BK101 := hbox; have GW101 := gs HB hg; have GE101 := gs HB hg; replace HB := bs HB hb; clear hb hbox hg; obtain ⟨hcz11_0, hcz11_1, hfz11_0, hfz11_1⟩ := cf2 BK101) | ((with_reducible refine gc 24 rfl ?_); refine gL 11 Tryz.func24 #[.agg #[.slice A0_0 l0_0.length c0_0, .slice A0_1 l0_1.length c0_1]] ?_; (with_reducible refine (walkmillref04_Order.calls k _ _ l0_0 _ _ l0_1 t102 _ ?side1 ?side2 ?side3 ?side4 A3.out).mono ?_); (case side1 => exact pC (Kd.C_below HR0_0.out HB.out)); (case side2 => exact HC0_0.out); (case side3 => exact pC (Kd.C_below HR0_1.out HB.out)); (case side4 => exact HC0_1.out); rintro e w12 ⟨v103, rfl, ho0, hb⟩; refine ⟨_, rfl, ?_⟩; have HO104 := rl ho0 HB; replace BK101 := bb BK101 hb; replace HB := bs HB hb; clear hb ho0))
   replace HO104 := Aside0.mk (Kd.R_drew HO104.out)
   replace BK101 := Aside0.mk (blk_drew BK101.out)
   replace HB := Aside0.mk (below_drew1 HB.out)
   refine start_ (n := 14) (S := fun w' => w'.cell? ⟨gb101, 0, none⟩ = some (.slice A0_0 l0_0.length c0_0) ∧ w'.cell? ⟨gb101, 1, none⟩ = some (.slice A0_1 l0_1.length c0_1)) (ds := []) #[false, false, false, false, false, false, false, false, false, false, false, false, false, false] (by kernel_rfl) rfl rfl ⟨(blk_cell BK101.out 0).trans rfl, (blk_cell BK101.out 1).trans rfl⟩ (fun hHeld => ?_); refine with_tabW walkmillref04_Starts.tab2 walkmillref04_Starts.bits2 (fun HT_ HW_ => ?_)
   generalize w12.drew = w13 at HO104 BK101 HB hHeld ⊢
   refine pu 1 13 ?_
   refine pu 2 14 ?_
   refine pu 7 19 ?_
   refine pu 8 20 ?_
   refine tk 0 12 hHeld ?_
   refine tk 3 15 hHeld ?_
   refine tk 6 18 hHeld ?_
   refine tk 9 21 hHeld ?_
   refine on 4 (fun K hK => ?_)
   refine gO Tryz.func70 #[.agg #[.slice A0_0 l0_0.length c0_0, .slice A0_1 l0_1.length c0_1], .bool false] ?_
   with_reducible refine (walkmillref04_Hours.calls k _ _ l0_0 _ _ l0_1 false t105 _ ?side1 ?side2 ?side3 ?side4 A4.out).mono ?_
   (case side1 => exact pC (Kd.C_below HR0_0.out HB.out))
   (case side2 => exact HC0_0.out)
   (case side3 => exact pC (Kd.C_below HR0_1.out HB.out))
   (case side4 => exact HC0_1.out)
   rintro e w14 ⟨v106, rfl, ho0, hb⟩
   refine ⟨_, rfl, ?_⟩
   have HO107 := Aside0.mk (Kd.R_lower (Kd.R_new' ho0 (Kd.R_lt (pR HO104.out))) (below_size (pE HB)))
   replace HO104 := re HO104 ho0 hb
   replace BK101 := bb BK101 hb
   replace HB := bs HB hb
   (try clear hb)
   (try clear hb2)
   (try clear hk)
   (try clear hi)
   (try clear ho0)
   obtain ⟨Ao15, co15, eo15⟩ := Kd.R_slice HO104.out
   (first | subst eo15 | (injection eo15 with f1_ f2_ f3_; have f4_ := f1_.symm; have f5_ := f3_.symm; clear f1_ f2_ f3_; subst f4_; subst f5_))
   obtain ⟨Ao16, co16, eo16⟩ := Kd.R_slice HO107.out
   (first | subst eo16 | (injection eo16 with f1_ f2_ f3_; have f4_ := f1_.symm; have f5_ := f3_.symm; clear f1_ f2_ f3_; subst f4_; subst f5_))
   refine hK.out _ _ ⟨(blk_cell BK101.out 0).trans rfl, (blk_cell BK101.out 1).trans rfl⟩ (fun hHeld => ?_)
   clear hK K
   refine norm_ (a' := ?_) ?_ ?_
   rotate_left
   ·show Act.put _ (some 16) _ = _
    simp only [Act.put, List.setIfInBounds_toArray, List.set_cons_zero, List.set_cons_succ, i64_w, i32_w]
    rfl
   refine on 5 (fun K hK => ?_)
   refine gO Tryz.func69 #[.agg #[.slice A0_0 l0_0.length c0_0, .slice A0_1 l0_1.length c0_1], .slice Ao15 t102.length co15, .int .i64 a1, .slice Ao16 t105.length co16] ?_
   with_reducible refine (walkmillref04_Taken.calls k _ _ l0_0 _ _ l0_1 _ _ t102 a1 _ _ t105 t108 _ ?side1 ?side2 ?side3 ?side4 ?side5 ?side6 ?side7 ?side8 A5.out).mono ?_
   (case side1 => exact pC (Kd.C_below HR0_0.out HB.out))
   (case side2 => exact HC0_0.out)
   (case side3 => exact pC (Kd.C_below HR0_1.out HB.out))
   (case side4 => exact HC0_1.out)
   (case side5 => exact pC (Kd.R_reads' HO104.out).2.2)
   (case side6 => exact (Kd.R_reads' HO104.out).2.1)
   (case side7 => exact pC (Kd.R_reads' HO107.out).2.2)
   (case side8 => exact (Kd.R_reads' HO107.out).2.1)
   rintro e w17 ⟨v109, rfl, ho0, hb⟩
   refine ⟨_, rfl, ?_⟩
   have HO110 := Aside0.mk (Kd.R_lower (Kd.R_new' (Kd.R_new' ho0 (Kd.R_lt (pR HO104.out))) (Kd.R_lt (pR HO107.out))) (below_size (pE HB)))
   replace HO104 := re HO104 ho0 hb
   replace HO107 := re HO107 ho0 hb
   replace BK101 := bb BK101 hb
   replace HB := bs HB hb
   (try clear hb)
   (try clear hb2)
   (try clear hk)
   (try clear hi)
   (try clear ho0)
   refine hK.out _ _ ⟨(blk_cell BK101.out 0).trans rfl, (blk_cell BK101.out 1).trans rfl⟩ (fun hHeld => ?_)
   clear hK K
   refine norm_ (a' := ?_) ?_ ?_
   rotate_left
   ·show Act.put _ (some 17) _ = _
    simp only [Act.put, List.setIfInBounds_toArray, List.set_cons_zero, List.set_cons_succ, i64_w, i32_w]
    rfl
   refine on 10 (fun K hK => ?_)
   refine gO Tryz.func70 #[.agg #[.slice A0_0 l0_0.length c0_0, .slice A0_1 l0_1.length c0_1], .bool true] ?_
   with_reducible refine (walkmillref04_Hours.calls k _ _ l0_0 _ _ l0_1 true t111 _ ?side1 ?side2 ?side3 ?side4 A6.out).mono ?_
   (case side1 => exact pC (Kd.C_below HR0_0.out HB.out))
   (case side2 => exact HC0_0.out)
   (case side3 => exact pC (Kd.C_below HR0_1.out HB.out))
   (case side4 => exact HC0_1.out)
   rintro e w18 ⟨v112, rfl, ho0, hb⟩
   refine ⟨_, rfl, ?_⟩
   have HO113 := Aside0.mk (Kd.R_lower (Kd.R_new' (Kd.R_new' (Kd.R_new' ho0 (Kd.R_lt (pR HO104.out))) (Kd.R_lt (pR HO107.out))) (Kd.R_lt (pR HO110.out))) (below_size (pE HB)))
   replace HO104 := re HO104 ho0 hb
   replace HO107 := re HO107 ho0 hb
   replace HO110 := re HO110 ho0 hb
   replace BK101 := bb BK101 hb
   replace HB := bs HB hb
   (try clear hb)
   (try clear hb2)
   (try clear hk)
   (try clear hi)
   (try clear ho0)
   obtain ⟨Ao19, co19, eo19⟩ := Kd.R_slice HO113.out
   (first | subst eo19 | (injection eo19 with f1_ f2_ f3_; have f4_ := f1_.symm; have f5_ := f3_.symm; clear f1_ f2_ f3_; subst f4_; subst f5_))
   refine hK.out _ _ ⟨(blk_cell BK101.out 0).trans rfl, (blk_cell BK101.out 1).trans rfl⟩ (fun hHeld => ?_)
   clear hK K
   refine norm_ (a' := ?_) ?_ ?_
   rotate_left
   ·show Act.put _ (some 22) _ = _
    simp only [Act.put, List.setIfInBounds_toArray, List.set_cons_zero, List.set_cons_succ, i64_w, i32_w]
    rfl
   refine on 11 (fun K hK => ?_)
   refine gO Tryz.func69 #[.agg #[.slice A0_0 l0_0.length c0_0, .slice A0_1 l0_1.length c0_1], .slice Ao15 t102.length co15, .int .i64 a1, .slice Ao19 t111.length co19] ?_
   with_reducible refine (walkmillref04_Taken.calls k _ _ l0_0 _ _ l0_1 _ _ t102 a1 _ _ t111 t114 _ ?side1 ?side2 ?side3 ?side4 ?side5 ?side6 ?side7 ?side8 A7.out).mono ?_
   (case side1 => exact pC (Kd.C_below HR0_0.out HB.out))
   (case side2 => exact HC0_0.out)
   (case side3 => exact pC (Kd.C_below HR0_1.out HB.out))
   (case side4 => exact HC0_1.out)
   (case side5 => exact pC (Kd.R_reads' HO104.out).2.2)
   (case side6 => exact (Kd.R_reads' HO104.out).2.1)
   (case side7 => exact pC (Kd.R_reads' HO113.out).2.2)
   (case side8 => exact (Kd.R_reads' HO113.out).2.1)
   rintro e w20 ⟨v115, rfl, ho0, hb⟩
   refine ⟨_, rfl, ?_⟩
   have HO116 := Aside0.mk (Kd.R_lower (Kd.R_new' (Kd.R_new' (Kd.R_new' (Kd.R_new' ho0 (Kd.R_lt (pR HO104.out))) (Kd.R_lt (pR HO107.out))) (Kd.R_lt (pR HO110.out))) (Kd.R_lt (pR HO113.out))) (below_size (pE HB)))
   replace HO104 := re HO104 ho0 hb
   replace HO107 := re HO107 ho0 hb
   replace HO110 := re HO110 ho0 hb
   replace HO113 := re HO113 ho0 hb
   replace BK101 := bb BK101 hb
   replace HB := bs HB hb
   (try clear hb)
   (try clear hb2)
   (try clear hk)
   (try clear hi)
   (try clear ho0)
   refine hK.out _ _ ⟨(blk_cell BK101.out 0).trans rfl, (blk_cell BK101.out 1).trans rfl⟩ (fun hHeld => ?_)
   clear hK K
   refine norm_ (a' := ?_) ?_ ?_
   rotate_left
   ·show Act.put _ (some 23) _ = _
    simp only [Act.put, List.setIfInBounds_toArray, List.set_cons_zero, List.set_cons_succ, i64_w, i32_w]
    rfl
   refine pu 12 6 ?_
   refine pu 13 7 ?_
   refine done_ (done_of HT_.out (by kernel_rfl)) ?_
   obtain ⟨hcz21_0, hcz21_1, hfz21_0, hfz21_1⟩ := cf2 BK101
   try go_wp2_with (first | ((with_reducible refine gate_dst (N := 27) rfl ?_); refine Kd.R_make k42 _ 42 rfl (N := 27) rfl 36 _ _ rfl (l0_0.length : Int) rfl rfl Tryz.underlying36 (.agg #[(.int .i64 0), (.int .i64 0)]) 16 info42 rfl (by decide) (by omega) z42 (ok := fun _ => True) (okp := fun _ => True) (k42_mkM _ _ _ z42 ) (fun _ hk => hk) trivial (dT) (Nat.le_trans (Nat.mul_le_mul_right _ (dT : (l0_0.length : Int).toNat ≤ 17592186044416)) (by omega)) (Below.refl _ _) (Nat.le_refl _) ?_; intro v118 w22 ho23 hb hg_ hnew_; clear hg_ hnew_; (first | rw [← Ny117.out] at ho23 | (simp only [Int.reduceToNat] at ho23; rw [← Ny117.out] at ho23)); replace HO104 := rb HO104 hb; replace HO107 := rb HO107 hb; replace HO110 := rb HO110 hb; replace HO113 := rb HO113 hb; replace HO116 := rb HO116 hb; have HO119 := rl ho23 HB; replace BK101 := bb BK101 hb; replace HB := bs HB hb; clear hb ho23))
   go_loopg [9] k (fun kq v9 w' => ∃ (x8_1 : List (S42)) (x9_1 : Int), v9 = .int .i64 x9_1 ∧ Aside0 (walkmillref04_Starts.l0 kq t102 t108 t114 x8_1 x9_1 = some r) ∧ Aside0 (kq ≤ k) ∧ Aside0 (Kd.R (Kd.int .i64) 3 w' w.heap.size (fun k_ => some k_ ≠ (v109 : Value).ownBlock ∧ some k_ ≠ (v115 : Value).ownBlock) (.slice Ao15 t102.length co15) t102) ∧ Aside0 (Kd.R (Kd.int .i64) 3 w' w.heap.size (fun k_ => some k_ ≠ ((.slice Ao15 t102.length co15) : Value).ownBlock ∧ some k_ ≠ (v115 : Value).ownBlock) v109 t108) ∧ Aside0 (Kd.R (Kd.int .i64) 3 w' w.heap.size (fun k_ => some k_ ≠ ((.slice Ao15 t102.length co15) : Value).ownBlock ∧ some k_ ≠ (v109 : Value).ownBlock) v115 t114) ∧ Aside0 (Kd.R k42 42 w' w.heap.size (fun _ => True) v118 x8_1) ∧ Aside0 (w'.heap[gb101]? = some (.cells #[(.slice A0_0 l0_0.length c0_0), (.slice A0_1 l0_1.length c0_1)] 25 (0, 0))) ∧ Aside0 (Below w.heap.size w w'))
   case atStart => exact ⟨(y117), (0), (by first | rfl | (simp; done) | (simp [*]; done)), H', ⟨Nat.le_refl _⟩, ⟨by (with_reducible repeat (first | apply Kd.R_alloc | apply Kd.R_drewN | apply Kd.R_drew)); exact Kd.R_mono HO104.out (fun _ hk => ⟨hk.1.1.2, hk.2⟩)⟩, ⟨by (with_reducible repeat (first | apply Kd.R_alloc | apply Kd.R_drewN | apply Kd.R_drew)); exact Kd.R_mono HO110.out (fun _ hk => ⟨hk.1.1.1.2, hk.2⟩)⟩, ⟨by (with_reducible repeat (first | apply Kd.R_alloc | apply Kd.R_drewN | apply Kd.R_drew)); exact Kd.R_mono HO116.out (fun _ hk => ⟨hk.1.1.1.2, hk.1.2⟩)⟩, ⟨pR HO119.out⟩, ⟨pB BK101.out⟩, ⟨pE HB⟩⟩
   case round =>
    clear H'
    try clear c2
    try clear p2
    try clear c3
    try clear c6
    try clear c7
    try clear c8
    try clear c8b0
    try clear c8b1
    try clear c9
    try clear c9b0
    try clear c9b1
    try clear hcz11_0
    try clear hcz11_1
    try clear hcz21_0
    try clear hcz21_1
    try clear hfz11_0
    try clear hfz11_1
    try clear hfz21_0
    try clear hfz21_1
    obtain ⟨x8_1, x9_1, rfl, HA, HK1, HO_5, HO_6, HO_7, HO_8, BK101, HB⟩ := hrel
    cases gk with
    | zero => exact absurd HA.out (by simp [walkmillref04_Starts.l0])
    | succ k1 =>
     have H := HA.out
     clear HA
     simp only [walkmillref04_Starts.l0] at H
     by_cases c24 : x9_1 < (t102.length : Int)
     ·rw [if_pos c24] at H
      have c24b0 : decide (x9_1 < (t102.length : Int)) = true := decide_eq_true c24
      clear c24
      by_cases c25 : 0 ≤ x9_1
      ·rw [if_pos c25] at H
       have c25b0 : decide (0 ≤ x9_1) = true := decide_eq_true c25
       clear c25
       by_cases c26 : x9_1 < (t108.length : Int)
       ·rw [if_pos c26] at H
        have c26b0 : decide (x9_1 < (t108.length : Int)) = true := decide_eq_true c26
        clear c26
        by_cases c27 : x9_1 < (t114.length : Int)
        ·rw [if_pos c27] at H
         have c27b0 : decide (x9_1 < (t114.length : Int)) = true := decide_eq_true c27
         clear c27
         by_cases c28 : 0 ≤ (rd t102 x9_1)
         ·rw [if_pos c28] at H
          have c28b0 : decide (0 ≤ (rd t102 x9_1)) = true := decide_eq_true c28
          clear c28
          by_cases c29 : (rd t102 x9_1) < (x8_1.length : Int)
          ·rw [if_pos c29] at H
           have c29b0 : decide ((rd t102 x9_1) < (x8_1.length : Int)) = true := decide_eq_true c29
           clear c29
           obtain ⟨y123, hy123⟩ : ∃ y_ : List (S42), y_ = (x8_1.set ((rd t102 x9_1) : Int).toNat (⟨rd t108 x9_1, rd t114 x9_1⟩ : S42)) := ⟨_, rfl⟩
           replace H : (walkmillref04_Starts.l0 k1 t102 t108 t114 y123 (wrap64 (x9_1 + 1))) = some r := yy hy123 H
           have Ny123 := Aside0.mk hy123
           clear hy123
           have H' := Aside0.mk H
           clear H
           try go_wp2
           replace HO_5 := Aside0.mk (Kd.R_drew HO_5.out)
           replace HO_6 := Aside0.mk (Kd.R_drew HO_6.out)
           replace HO_7 := Aside0.mk (Kd.R_drew HO_7.out)
           replace HO_8 := Aside0.mk (Kd.R_drew HO_8.out)
           replace BK101 := Aside0.mk (blk_drew BK101.out)
           replace HB := Aside0.mk (below_drew1 HB.out)
           have p120 : 0 ≤ (x9_1 : Int) := dT
           have q120 : x9_1 < (t102.length : Int) := dT
           obtain ⟨ad120, e120, hx120_0⟩ := Kd.at_int (Kd.R_reads' HO_5.out).2.2 x9_1 p120 q120
           cases e120
           replace p120 := eq_true p120
           replace q120 := eq_true q120
           obtain ⟨Ao32, co32, eo32⟩ := Kd.R_slice HO_6.out
           (first | subst eo32 | (injection eo32 with f1_ f2_ f3_; have f4_ := f1_.symm; have f5_ := f3_.symm; clear f1_ f2_ f3_; subst f4_; subst f5_))
           have p121 : 0 ≤ (x9_1 : Int) := dT
           have q121 : x9_1 < (t108.length : Int) := dT
           obtain ⟨ad121, e121, hx121_0⟩ := Kd.at_int (Kd.R_reads' HO_6.out).2.2 x9_1 p121 q121
           cases e121
           replace p121 := eq_true p121
           replace q121 := eq_true q121
           obtain ⟨Ao33, co33, eo33⟩ := Kd.R_slice HO_7.out
           (first | subst eo33 | (injection eo33 with f1_ f2_ f3_; have f4_ := f1_.symm; have f5_ := f3_.symm; clear f1_ f2_ f3_; subst f4_; subst f5_))
           have p122 : 0 ≤ (x9_1 : Int) := dT
           have q122 : x9_1 < (t114.length : Int) := dT
           obtain ⟨ad122, e122, hx122_0⟩ := Kd.at_int (Kd.R_reads' HO_7.out).2.2 x9_1 p122 q122
           cases e122
           replace p122 := eq_true p122
           replace q122 := eq_true q122
           have p30 : 0 ≤ ((rd t102 x9_1) : Int) := dT
           have q30 : ((rd t102 x9_1) : Int) < ((x8_1.length : Int) : Int) := dT
           obtain ⟨go30, co30, eo30, gb30, gl30, cl30, HG30⟩ := Kd.R_form HO_8.out (by omega)
           (first | cases eo30 | (injection eo30 with ea_ en_ ec_; (first | subst ea_ | (injection ea_ with ea_; subst ea_)); subst ec_; clear en_))
           have GB30 := Aside0.mk gb30
           have GG30 := Aside0.mk HG30
           clear gb30 gl30 HG30
           obtain ⟨ce30, hcl30, hM30, hcc30, hfr30⟩ := Kd.R_elem HO_8.out z42 ((rd t102 x9_1) : Int) p30 q30
           obtain rfl := k42_openM hM30
           have hx30_0 : World.cell? _ ⟨go30, ((rd t102 x9_1) : Int).toNat * 2, none⟩ = some (.int .i64 ((rd_T42 x8_1 (rd t102 x9_1)).f0)) := hcc30 0 _ rfl
           have hx30_1 : World.cell? _ ⟨go30, ((rd t102 x9_1) : Int).toNat * 2 + 1, none⟩ = some (.int .i64 ((rd_T42 x8_1 (rd t102 x9_1)).f1)) := hcc30 1 _ rfl
           have hf30_0 : World.frozen? _ ⟨go30, ((rd t102 x9_1) : Int).toNat * 2, none⟩ = false := hfr30 0
           have hf30_1 : World.frozen? _ ⟨go30, ((rd t102 x9_1) : Int).toNat * 2 + 1, none⟩ = false := hfr30 1
           clear hcl30 hcc30 hfr30 hM30
           replace p30 := eq_true p30
           replace q30 := eq_true q30
           obtain ⟨ce34, hcl34, hM34, hcc34, hfr34⟩ := Kd.R_elem HO_8.out z42 ((rd t102 x9_1) : Int) (dT) (by have h_ : ((rd t102 x9_1) : Int) < ((x8_1.length : Int) : Int) := dT; first | exact h_ | (have e_ := (Kd.R_reads' HO_8.out).1; omega) | simpa using h_)
           obtain rfl := k42_openM hM34
           have HP34 := (Kd.R_seg HO_8.out ((rd t102 x9_1) : Int) (dT) (by have h_ : ((rd t102 x9_1) : Int) < ((x8_1.length : Int) : Int) := dT; first | exact h_ | (have e_ := (Kd.R_reads' HO_8.out).1; omega) | simpa using h_) (seg := [.int .i64 (rd t108 x9_1), .int .i64 (rd t114 x9_1)]) (j := 0) hcl34 hcc34 (show 2 ≤ 2 from by decide) (x' := (⟨rd t108 x9_1, rd t114 x9_1⟩ : S42)) (k42_mkM _ _ _ (⟨rd t108 x9_1, rd t114 x9_1⟩ : S42) ) (fun _ hk => hk)).1
           rw [← Ny123.out] at HP34
           have HQ34 := Aside0.mk HP34
           clear hcl34 hcc34 hfr34 hM34 HP34
           refine start_ (n := 16) (S := fun w' => w'.cell? (ad120.add (x9_1).toNat) = some (.int .i64 (rd t102 x9_1)) ∧ w'.cell? (ad121.add (x9_1).toNat) = some (.int .i64 (rd t108 x9_1)) ∧ w'.cell? (ad122.add (x9_1).toNat) = some (.int .i64 (rd t114 x9_1))) (ds := [15]) #[false, false, false, false, false, false, false, false, false, false, false, false, false, false, false, false] (by kernel_rfl) rfl rfl ⟨hx120_0, hx121_0, hx122_0⟩ (fun hHeld => ?_); refine with_tabW walkmillref04_Starts.tab7 walkmillref04_Starts.bits7 (fun HT_ HW_ => ?_)
           generalize wr.drew = w31 at HO_5 HO_6 HO_7 HO_8 BK101 HB GG30 HQ34 hf30_0 hf30_1 hx120_0 hx121_0 hx122_0 hx30_0 hx30_1 hHeld ⊢
           refine pu 0 34 ?_
           refine pu 1 35 ?_
           refine pu 2 36 ?_
           refine pu 3 37 ?_
           refine pu 5 39 ?_
           refine pu 6 40 ?_
           refine pu 7 41 ?_
           refine pu 9 43 ?_
           refine pu 10 44 ?_
           refine pu 11 45 ?_
           refine tk 4 38 hHeld ?_
           refine tk 8 42 hHeld ?_
           refine tk 12 46 hHeld ?_
           refine pu 13 47 ?_
           refine pu 14 48 ?_
           refine last_ (i := 15) (N := none) #[true, true, true, true, true, true, true, true, true, true, true, true, true, true, true, true] rfl rfl (one_of HT_.out (by kernel_rfl)) (by decide) (fun K hK => ?_)
           refine skip_ (w1 := ?_) (by rfl) rfl ?_ ?_
           rotate_left
           ·go_simp
            rfl
           refine hK.out _ _ ?_
           clear hK K
           refine done_ (done_of HT_.out (by kernel_rfl)) ?_
           try go_wp2
           go_roundg k1
           case measure => have := HK1.out; omega
           case rel => exact ⟨(y123), (wrap64 (x9_1 + 1)), (by first | rfl | (simp; done) | (simp [*]; done)), H', ⟨by have := HK1.out; omega⟩, ⟨by (with_reducible repeat (first | apply Kd.R_alloc | apply Kd.R_drewN | apply Kd.R_drew)); exact Kd.R_mono (Kd.R_far (p := ⟨go30, ((rd t102 x9_1) : Int).toNat * 2 + 1, none⟩) (Kd.R_far (p := ⟨go30, ((rd t102 x9_1) : Int).toNat * 2, none⟩) (Kd.R_types HO_5.out GG30.out (by decide)) (fun _ hk => hk.2) (.int .i64 (rd t108 x9_1))) (fun _ hk => hk.2) (.int .i64 (rd t114 x9_1))) (fun _ hk => ⟨hk.1.1, hk.1.2⟩)⟩, ⟨by (with_reducible repeat (first | apply Kd.R_alloc | apply Kd.R_drewN | apply Kd.R_drew)); exact Kd.R_mono (Kd.R_far (p := ⟨go30, ((rd t102 x9_1) : Int).toNat * 2 + 1, none⟩) (Kd.R_far (p := ⟨go30, ((rd t102 x9_1) : Int).toNat * 2, none⟩) (Kd.R_types HO_6.out GG30.out (by decide)) (fun _ hk => hk.2) (.int .i64 (rd t108 x9_1))) (fun _ hk => hk.2) (.int .i64 (rd t114 x9_1))) (fun _ hk => ⟨hk.1.1, hk.1.2⟩)⟩, ⟨by (with_reducible repeat (first | apply Kd.R_alloc | apply Kd.R_drewN | apply Kd.R_drew)); exact Kd.R_mono (Kd.R_far (p := ⟨go30, ((rd t102 x9_1) : Int).toNat * 2 + 1, none⟩) (Kd.R_far (p := ⟨go30, ((rd t102 x9_1) : Int).toNat * 2, none⟩) (Kd.R_types HO_7.out GG30.out (by decide)) (fun _ hk => hk.2) (.int .i64 (rd t108 x9_1))) (fun _ hk => hk.2) (.int .i64 (rd t114 x9_1))) (fun _ hk => ⟨hk.1.1, hk.1.2⟩)⟩, ⟨pR HQ34.out⟩, ⟨by refine pB ?_; refine blk_far ?_ (by have h_ := Kd.R_ne HO_8.out BK101.out (by decide); intro e_; exact h_ (by rw [e_]; rfl)) _; refine pB ?_; refine blk_far ?_ (by have h_ := Kd.R_ne HO_8.out BK101.out (by decide); intro e_; exact h_ (by rw [e_]; rfl)) _; exact pB BK101.out⟩, ⟨pE HB⟩⟩
          ·rw [if_neg c29] at H
           exact absurd H (by simp)
         ·rw [if_neg c28] at H
          exact absurd H (by simp)
        ·rw [if_neg c27] at H
         exact absurd H (by simp)
       ·rw [if_neg c26] at H
        exact absurd H (by simp)
      ·rw [if_neg c25] at H
       exact absurd H (by simp)
     ·rw [if_neg c24] at H
      have c24b0 : decide (x9_1 < (t102.length : Int)) = false := decide_eq_false c24
      clear c24
      obtain rfl := Option.some.inj H
      go_wp2
      go_ret
      exact ⟨_, eT, pR HO_8.out, pE HB⟩
  ·rw [if_neg c9] at H
   exact absurd H (by simp)
 ·rw [if_neg c8] at H
  exact absurd H (by simp)
mutual
def walkmillref04_Ends.l0 : Nat → Int → List Int → Int → List (S67) → List Int → Int → Int → Option (Int × Int)
 | 0, _, _, _, _, _, _, _ => none
 | k + 1, x1, x6, x7, x102000, x102001, x107000, x107001 => if x7 < 2 then ((walkmillref04_Hours.f k x102000 x102001 (x7 == 1)).bind fun t107 => ((walkmillref04_Taken.f k x102000 x102001 x6 x1 t107).bind fun t110 => (walkmillref04_Ends.l1 k x1 x6 x7 t107 t110 0 0 x102000 x102001 x107000 x107001))) else (some (x107000, x107001))
def walkmillref04_Ends.l1 : Nat → Int → List Int → Int → List Int → List Int → Int → Int → List (S67) → List Int → Int → Int → Option (Int × Int)
 | 0, _, _, _, _, _, _, _, _, _, _, _ => none
 | k + 1, x1, x6, x7, x8, x9, x10, x11, x102000, x102001, x107000, x107001 => if x11 < (x6.length : Int) then (if 0 ≤ x11 then (if x11 < (x9.length : Int) then (if 0 ≤ (rd x6 x11) then (if (rd x6 x11) < (x8.length : Int) then (walkmillref04_Ends.l1 k x1 x6 x7 x8 x9 (mx x10 (wrap64 ((rd x9 x11) + (rd x8 (rd x6 x11))))) (wrap64 (x11 + 1)) x102000 x102001 x107000 x107001) else (none)) else (none)) else (none)) else (none)) else (if x7 = 0 then (walkmillref04_Ends.l0 k x1 x6 (wrap64 (x7 + 1)) x102000 x102001 x10 x107001) else (walkmillref04_Ends.l0 k x1 x6 (wrap64 (x7 + 1)) x102000 x102001 x107000 x10))
end
def walkmillref04_Ends.f (k : Nat) (l0_0 : List (S67)) (l0_1 : List Int) (a1 : Int) : Option (Int × Int) := (walkmillref04_Order.f k l0_0 l0_1).bind fun t103 => (walkmillref04_Ends.l0 k a1 t103 0 l0_0 l0_1 0 0)
theorem walkmillref04_Ends.mono_l : ∀ k, (∀ y0 y1 y2 y3 y4 y5 y6, LeO (walkmillref04_Ends.l0 k y0 y1 y2 y3 y4 y5 y6) (walkmillref04_Ends.l0 (k + 1) y0 y1 y2 y3 y4 y5 y6)) ∧ (∀ y0 y1 y2 y3 y4 y5 y6 y7 y8 y9 y10, LeO (walkmillref04_Ends.l1 k y0 y1 y2 y3 y4 y5 y6 y7 y8 y9 y10) (walkmillref04_Ends.l1 (k + 1) y0 y1 y2 y3 y4 y5 y6 y7 y8 y9 y10))
 | 0 => ⟨fun _ _ _ _ _ _ _ r h => by simp [walkmillref04_Ends.l0] at h, fun _ _ _ _ _ _ _ _ _ _ _ r h => by simp [walkmillref04_Ends.l1] at h⟩
 | k + 1 => by
  obtain ⟨ih0, ih1⟩ := walkmillref04_Ends.mono_l k
  refine ⟨?_, ?_⟩
  ·intro y0 y1 y2 y3 y4 y5 y6
   unfold walkmillref04_Ends.l0
   repeat' first
   | (with_reducible exact ih0 _ _ _ _ _ _ _)
   | (with_reducible exact ih1 _ _ _ _ _ _ _ _ _ _ _)
   | (with_reducible exact walkmillref04_Hours.mono _ _ _ _)
   | (with_reducible exact walkmillref04_Order.mono _ _ _)
   | (with_reducible exact walkmillref04_Taken.mono _ _ _ _ _ _)
   | (with_reducible exact LeO.refl _)
   | (with_reducible exact LeO.none _)
   | (with_reducible refine LeO.ite ?_ ?_)
   | (with_reducible refine LeO.bind ?_ (fun _ => ?_))
   | exact ih0 _ _ _ _ _ _ _
   | exact ih1 _ _ _ _ _ _ _ _ _ _ _
   | exact walkmillref04_Hours.mono _ _ _ _
   | exact walkmillref04_Order.mono _ _ _
   | exact walkmillref04_Taken.mono _ _ _ _ _ _
   | exact LeO.none _
   | refine LeO.ite ?_ ?_
   | refine LeO.bind ?_ (fun _ => ?_)
  ·intro y0 y1 y2 y3 y4 y5 y6 y7 y8 y9 y10
   unfold walkmillref04_Ends.l1
   repeat' first
   | (with_reducible exact ih0 _ _ _ _ _ _ _)
   | (with_reducible exact ih1 _ _ _ _ _ _ _ _ _ _ _)
   | (with_reducible exact walkmillref04_Hours.mono _ _ _ _)
   | (with_reducible exact walkmillref04_Order.mono _ _ _)
   | (with_reducible exact walkmillref04_Taken.mono _ _ _ _ _ _)
   | (with_reducible exact LeO.refl _)
   | (with_reducible exact LeO.none _)
   | (with_reducible refine LeO.ite ?_ ?_)
   | (with_reducible refine LeO.bind ?_ (fun _ => ?_))
   | exact ih0 _ _ _ _ _ _ _
   | exact ih1 _ _ _ _ _ _ _ _ _ _ _
   | exact walkmillref04_Hours.mono _ _ _ _
   | exact walkmillref04_Order.mono _ _ _
   | exact walkmillref04_Taken.mono _ _ _ _ _ _
   | exact LeO.none _
   | refine LeO.ite ?_ ?_
   | refine LeO.bind ?_ (fun _ => ?_)
theorem walkmillref04_Ends.mono : ∀ a0 a1 a2 k, LeO (walkmillref04_Ends.f k a0 a1 a2) (walkmillref04_Ends.f (k + 1) a0 a1 a2) := by
 intro a0 a1 a2 k
 obtain ⟨ih0, ih1⟩ := walkmillref04_Ends.mono_l k
 unfold walkmillref04_Ends.f
 repeat' first
   | (with_reducible exact ih0 _ _ _ _ _ _ _)
   | (with_reducible exact ih1 _ _ _ _ _ _ _ _ _ _ _)
   | (with_reducible exact walkmillref04_Hours.mono _ _ _ _)
   | (with_reducible exact walkmillref04_Order.mono _ _ _)
   | (with_reducible exact walkmillref04_Taken.mono _ _ _ _ _ _)
   | (with_reducible exact LeO.refl _)
   | (with_reducible exact LeO.none _)
   | (with_reducible refine LeO.ite ?_ ?_)
   | (with_reducible refine LeO.bind ?_ (fun _ => ?_))
   | exact ih0 _ _ _ _ _ _ _
   | exact ih1 _ _ _ _ _ _ _ _ _ _ _
   | exact walkmillref04_Hours.mono _ _ _ _
   | exact walkmillref04_Order.mono _ _ _
   | exact walkmillref04_Taken.mono _ _ _ _ _ _
   | exact LeO.none _
   | refine LeO.ite ?_ ?_
   | refine LeO.bind ?_ (fun _ => ?_)
set_option maxHeartbeats 8000000 in
set_option maxRecDepth 100000 in
theorem walkmillref04_Ends.calls (k : Nat) (A0_0 : Option Addr) (c0_0 : Nat) (l0_0 : List (S67)) (A0_1 : Option Addr) (c0_1 : Nat) (l0_1 : List Int) (a1 : Int) (r1 : Int) (r2 : Int) (w : World) (hr0_0 : Kd.C k67 w A0_0 l0_0.length l0_0) (hc0_0 : l0_0.length ≤ c0_0) (hr0_1 : Kd.C (Kd.int .i64) w A0_1 l0_1.length l0_1) (hc0_1 : l0_1.length ≤ c0_1) (h : walkmillref04_Ends.f k l0_0 l0_1 a1 = some (r1, r2)) :
  Calls Tryz.prog 31 #[.agg #[.slice A0_0 l0_0.length c0_0, .slice A0_1 l0_1.length c0_1], .int .i64 a1] w fun e w' => e = .returned (.agg #[.int .i64 r1, .int .i64 r2]) ∧ Below w.heap.size w w' := by
 have hu25 := Tryz.underlying25
 have hu42 := Tryz.underlying42
 have HR0_0 := Aside0.mk hr0_0
 have HC0_0 := Aside0.mk hc0_0
 clear hr0_0 hc0_0
 have HR0_1 := Aside0.mk hr0_1
 have HC0_1 := Aside0.mk hc0_1
 clear hr0_1 hc0_1
 have HB := Aside0.mk (Below.refl w.heap.size w)
 have H : ((walkmillref04_Order.f k l0_0 l0_1).bind fun t103 => (walkmillref04_Ends.l0 k a1 t103 0 l0_0 l0_1 0 0)) = some (r1, r2) := h
 clear h
 obtain ⟨t103, A3, H⟩ := bi H
 have H' := Aside0.mk H
 clear H
 go_enter Tryz.func31, Tryz.ntmps31
 go_wp2_with (first | ((with_reducible refine gate_dst (N := 2) rfl ?_); refine bx 2 #[.slice A0_0 l0_0.length c0_0, .slice A0_1 l0_1.length c0_1] 25 ?_; intro gb101 hg w4 hbox hb; have BK101 := hbox; have GW101 := gs HB hg; have GE101 := gs HB hg; replace HB := bs HB hb; clear hb hbox hg) | ((with_reducible refine gate_dst (N := 4) rfl ?_); refine bx 4 #[.int .i64 0, .int .i64 0] 42 ?_; intro gb102 hg w5 hbox hb; have BK102 := hbox; have GW102 := gs HB hg; have GE102 := gs HB hg; replace HB := bs HB hb; have NB101_102 := nl BK101 hg; have NB102_101 := nr BK101 hg; replace BK101 := bb BK101 hb; clear hb hbox hg; have hnb6 := NB101_102.out; have hnc6 := NB102_101.out; obtain ⟨hcz7_0, hcz7_1, hfz7_0, hfz7_1⟩ := cf2 BK101) | (go_at_call 24; (with_reducible refine (walkmillref04_Order.calls k _ _ l0_0 _ _ l0_1 t103 _ ?side1 ?side2 ?side3 ?side4 A3.out).mono ?_); (case side1 => exact pC (Kd.C_below HR0_0.out HB.out)); (case side2 => exact HC0_0.out); (case side3 => exact pC (Kd.C_below HR0_1.out HB.out)); (case side4 => exact HC0_1.out); rintro e w8 ⟨v104, rfl, ho0, hb⟩; have HO105 := rl ho0 HB; replace BK101 := bb BK101 hb; replace BK102 := bb BK102 hb; replace HB := bs HB hb; (try clear hb); (try clear hb2); (try clear hk); (try clear hi); (try clear ho0)) | ((with_reducible refine gate_dst (N := 5) rfl ?_); refine bx 5 #[.int .i64 0, .int .i64 0] 42 ?_; intro gb106 hg w9 hbox hb; replace HO105 := rb HO105 hb; have BK106 := hbox; have GW106 := gs HB hg; have GE106 := gs HB hg; replace HB := bs HB hb; have NB101_106 := nl BK101 hg; have NB106_101 := nr BK101 hg; replace BK101 := bb BK101 hb; have NB102_106 := nl BK102 hg; have NB106_102 := nr BK102 hg; replace BK102 := bb BK102 hb; clear hb hbox hg; have hnb10 := NB106_101.out; have hnc10 := NB101_106.out; have hnb11 := NB106_102.out; have hnc11 := NB102_106.out; obtain ⟨hcz12_0, hcz12_1, hfz12_0, hfz12_1⟩ := cf2 BK106))
 repeat (go_quiet (first | ((with_reducible refine gate_dst (N := 2) rfl ?_); refine bx 2 #[.slice A0_0 l0_0.length c0_0, .slice A0_1 l0_1.length c0_1] 25 ?_; intro gb101 hg w4 hbox hb; have BK101 := hbox; have GW101 := gs HB hg; have GE101 := gs HB hg; replace HB := bs HB hb; clear hb hbox hg) | ((with_reducible refine gate_dst (N := 4) rfl ?_); refine bx 4 #[.int .i64 0, .int .i64 0] 42 ?_; intro gb102 hg w5 hbox hb; have BK102 := hbox; have GW102 := gs HB hg; have GE102 := gs HB hg; replace HB := bs HB hb; have NB101_102 := nl BK101 hg; have NB102_101 := nr BK101 hg; replace BK101 := bb BK101 hb; clear hb hbox hg; have hnb6 := NB101_102.out; have hnc6 := NB102_101.out; obtain ⟨hcz7_0, hcz7_1, hfz7_0, hfz7_1⟩ := cf2 BK101) | (go_at_call 24; (with_reducible refine (walkmillref04_Order.calls k _ _ l0_0 _ _ l0_1 t103 _ ?side1 ?side2 ?side3 ?side4 A3.out).mono ?_); (case side1 => exact pC (Kd.C_below HR0_0.out HB.out)); (case side2 => exact HC0_0.out); (case side3 => exact pC (Kd.C_below HR0_1.out HB.out)); (case side4 => exact HC0_1.out); rintro e w8 ⟨v104, rfl, ho0, hb⟩; have HO105 := rl ho0 HB; replace BK101 := bb BK101 hb; replace BK102 := bb BK102 hb; replace HB := bs HB hb; (try clear hb); (try clear hb2); (try clear hk); (try clear hi); (try clear ho0)) | ((with_reducible refine gate_dst (N := 5) rfl ?_); refine bx 5 #[.int .i64 0, .int .i64 0] 42 ?_; intro gb106 hg w9 hbox hb; replace HO105 := rb HO105 hb; have BK106 := hbox; have GW106 := gs HB hg; have GE106 := gs HB hg; replace HB := bs HB hb; have NB101_106 := nl BK101 hg; have NB106_101 := nr BK101 hg; replace BK101 := bb BK101 hb; have NB102_106 := nl BK102 hg; have NB106_102 := nr BK102 hg; replace BK102 := bb BK102 hb; clear hb hbox hg; have hnb10 := NB106_101.out; have hnc10 := NB101_106.out; have hnb11 := NB106_102.out; have hnc11 := NB102_106.out; obtain ⟨hcz12_0, hcz12_1, hfz12_0, hfz12_1⟩ := cf2 BK106)); try go_wp2_with (first | ((with_reducible refine gate_dst (N := 2) rfl ?_); refine bx 2 #[.slice A0_0 l0_0.length c0_0, .slice A0_1 l0_1.length c0_1] 25 ?_; intro gb101 hg w4 hbox hb; have BK101 := hbox; have GW101 := gs HB hg; have GE101 := gs HB hg; replace HB := bs HB hb; clear hb hbox hg) | ((with_reducible refine gate_dst (N := 4) rfl ?_); refine bx 4 #[.int .i64 0, .int .i64 0] 42 ?_; intro gb102 hg w5 hbox hb; have BK102 := hbox; have GW102 := gs HB hg; have GE102 := gs HB hg; replace HB := bs HB hb; have NB101_102 := nl BK101 hg; have NB102_101 := nr BK101 hg; replace BK101 := bb BK101 hb; clear hb hbox hg; have hnb6 := NB101_102.out; have hnc6 := NB102_101.out; obtain ⟨hcz7_0, hcz7_1, hfz7_0, hfz7_1⟩ := cf2 BK101) | (go_at_call 24; (with_reducible refine (walkmillref04_Order.calls k _ _ l0_0 _ _ l0_1 t103 _ ?side1 ?side2 ?side3 ?side4 A3.out).mono ?_); (case side1 => exact pC (Kd.C_below HR0_0.out HB.out)); (case side2 => exact HC0_0.out); (case side3 => exact pC (Kd.C_below HR0_1.out HB.out)); (case side4 => exact HC0_1.out); rintro e w8 ⟨v104, rfl, ho0, hb⟩; have HO105 := rl ho0 HB; replace BK101 := bb BK101 hb; replace BK102 := bb BK102 hb; replace HB := bs HB hb; (try clear hb); (try clear hb2); (try clear hk); (try clear hi); (try clear ho0)) | ((with_reducible refine gate_dst (N := 5) rfl ?_); refine bx 5 #[.int .i64 0, .int .i64 0] 42 ?_; intro gb106 hg w9 hbox hb; replace HO105 := rb HO105 hb; have BK106 := hbox; have GW106 := gs HB hg; have GE106 := gs HB hg; replace HB := bs HB hb; have NB101_106 := nl BK101 hg; have NB106_101 := nr BK101 hg; replace BK101 := bb BK101 hb; have NB102_106 := nl BK102 hg; have NB106_102 := nr BK102 hg; replace BK102 := bb BK102 hb; clear hb hbox hg; have hnb10 := NB106_101.out; have hnc10 := NB101_106.out; have hnb11 := NB106_102.out; have hnc11 := NB102_106.out; obtain ⟨hcz12_0, hcz12_1, hfz12_0, hfz12_1⟩ := cf2 BK106)))
 go_loopg [7] k (fun kq v7 w' => ∃ (x7_1 : Int) (x107000_1 : Int) (x107001_1 : Int), v7 = .int .i64 x7_1 ∧ Aside0 (walkmillref04_Ends.l0 kq a1 t103 x7_1 l0_0 l0_1 x107000_1 x107001_1 = some (r1, r2)) ∧ Aside0 (kq ≤ k) ∧ Aside0 (Kd.R (Kd.int .i64) 3 w' w.heap.size (fun _ => True) v104 t103) ∧ Aside0 (w'.heap[gb101]? = some (.cells #[(.slice A0_0 l0_0.length c0_0), (.slice A0_1 l0_1.length c0_1)] 25 (0, 0))) ∧ Aside0 (w'.heap[gb102]? = some (.cells #[.int .i64 0, .int .i64 0] 42 (0, 0))) ∧ Aside0 (w'.heap[gb106]? = some (.cells #[.int .i64 x107000_1, .int .i64 x107001_1] 42 (0, 0))) ∧ Aside0 (Below w.heap.size w w'))
 case atStart => exact ⟨(0), (0), (0), (by first | rfl | (simp; done) | (simp [*]; done)), H', ⟨Nat.le_refl _⟩, ⟨by (with_reducible repeat (first | apply Kd.R_alloc | apply Kd.R_drewN | apply Kd.R_drew)); exact Kd.R_mono (Kd.R_far (p := ⟨gb106, 1, none⟩) (Kd.R_far (p := ⟨gb106, 0, none⟩) (Kd.R_types HO105.out BK106.out (by decide)) (fun _ hk => hk.2) (.int .i64 0)) (fun _ hk => hk.2) (.int .i64 0)) (fun _ hk => trivial)⟩, ⟨pF BK101⟩, ⟨pF BK102⟩, ⟨by refine pB ?_; refine blk_put (cs := #[.int .i64 0, .int .i64 0]) ?_ 1 _ rfl; refine pB ?_; refine blk_put (cs := #[.int .i64 0, .int .i64 0]) ?_ 0 _ rfl; exact pB BK106.out⟩, ⟨pE HB⟩⟩
 case round =>
  clear H'
  try clear c1
  try clear p2
  try clear c3
  try clear c6
  try clear c10
  try clear c11
  try clear hcz12_0
  try clear hcz12_1
  try clear hcz7_0
  try clear hcz7_1
  try clear hfz12_0
  try clear hfz12_1
  try clear hfz7_0
  try clear hfz7_1
  obtain ⟨x7_1, x107000_1, x107001_1, rfl, HA, HK1, HO_6, BK101, BK102, BK106, HB⟩ := hrel
  cases gk with
  | zero => exact absurd HA.out (by simp [walkmillref04_Ends.l0])
  | succ k1 =>
   have H := HA.out
   clear HA
   simp only [walkmillref04_Ends.l0] at H
   by_cases c13 : x7_1 < 2
   ·rw [if_pos c13] at H
    have c13b0 : decide (x7_1 < 2) = true := decide_eq_true c13
    clear c13
    obtain ⟨t107, A14, H⟩ := bi H
    obtain ⟨t110, A15, H⟩ := bi H
    have H' := Aside0.mk H
    clear H
    have hnb16 := NB101_102.out
    have hnc16 := NB102_101.out
    have hnb17 := NB101_106.out
    have hnc17 := NB106_101.out
    obtain ⟨hcz18_0, hcz18_1, hfz18_0, hfz18_1⟩ := cf2 BK101
    go_wp2_with (first | (go_at_call 70; (with_reducible refine (walkmillref04_Hours.calls k1 _ _ l0_0 _ _ l0_1 (x7_1 == 1) t107 _ ?side1 ?side2 ?side3 ?side4 A14.out).mono ?_); (case side1 => exact pC (Kd.C_below HR0_0.out HB.out)); (case side2 => exact HC0_0.out); (case side3 => exact pC (Kd.C_below HR0_1.out HB.out)); (case side4 => exact HC0_1.out); rintro e w19 ⟨v108, rfl, ho0, hb⟩; have HO109 := Aside0.mk (Kd.R_lower (Kd.R_new' ho0 (Kd.R_lt (pR HO_6.out))) (below_size (pE HB))); replace HO_6 := re HO_6 ho0 hb; replace BK101 := bb BK101 hb; replace BK102 := bb BK102 hb; replace BK106 := bb BK106 hb; replace HB := bs HB hb; (try clear hb); (try clear hb2); (try clear hk); (try clear hi); (try clear ho0); obtain ⟨hcz20_0, hcz20_1, hfz20_0, hfz20_1⟩ := cf2 BK101; obtain ⟨Ao21, co21, eo21⟩ := Kd.R_slice HO_6.out; subst eo21; obtain ⟨Ao22, co22, eo22⟩ := Kd.R_slice HO109.out; subst eo22) | (go_at_call 69; (with_reducible refine (walkmillref04_Taken.calls k1 _ _ l0_0 _ _ l0_1 _ _ t103 a1 _ _ t107 t110 _ ?side1 ?side2 ?side3 ?side4 ?side5 ?side6 ?side7 ?side8 A15.out).mono ?_); (case side1 => exact pC (Kd.C_below HR0_0.out HB.out)); (case side2 => exact HC0_0.out); (case side3 => exact pC (Kd.C_below HR0_1.out HB.out)); (case side4 => exact HC0_1.out); (case side5 => exact pC (Kd.R_reads' HO_6.out).2.2); (case side6 => exact (Kd.R_reads' HO_6.out).2.1); (case side7 => exact pC (Kd.R_reads' HO109.out).2.2); (case side8 => exact (Kd.R_reads' HO109.out).2.1); rintro e w23 ⟨v111, rfl, ho0, hb⟩; have HO112 := Aside0.mk (Kd.R_lower (Kd.R_new' (Kd.R_new' ho0 (Kd.R_lt (pR HO_6.out))) (Kd.R_lt (pR HO109.out))) (below_size (pE HB))); replace HO_6 := re HO_6 ho0 hb; replace HO109 := re HO109 ho0 hb; replace BK101 := bb BK101 hb; replace BK102 := bb BK102 hb; replace BK106 := bb BK106 hb; replace HB := bs HB hb; (try clear hb); (try clear hb2); (try clear hk); (try clear hi); (try clear ho0)))
    repeat (go_quiet (first | (go_at_call 70; (with_reducible refine (walkmillref04_Hours.calls k1 _ _ l0_0 _ _ l0_1 (x7_1 == 1) t107 _ ?side1 ?side2 ?side3 ?side4 A14.out).mono ?_); (case side1 => exact pC (Kd.C_below HR0_0.out HB.out)); (case side2 => exact HC0_0.out); (case side3 => exact pC (Kd.C_below HR0_1.out HB.out)); (case side4 => exact HC0_1.out); rintro e w19 ⟨v108, rfl, ho0, hb⟩; have HO109 := Aside0.mk (Kd.R_lower (Kd.R_new' ho0 (Kd.R_lt (pR HO_6.out))) (below_size (pE HB))); replace HO_6 := re HO_6 ho0 hb; replace BK101 := bb BK101 hb; replace BK102 := bb BK102 hb; replace BK106 := bb BK106 hb; replace HB := bs HB hb; (try clear hb); (try clear hb2); (try clear hk); (try clear hi); (try clear ho0); obtain ⟨hcz20_0, hcz20_1, hfz20_0, hfz20_1⟩ := cf2 BK101; obtain ⟨Ao21, co21, eo21⟩ := Kd.R_slice HO_6.out; subst eo21; obtain ⟨Ao22, co22, eo22⟩ := Kd.R_slice HO109.out; subst eo22) | (go_at_call 69; (with_reducible refine (walkmillref04_Taken.calls k1 _ _ l0_0 _ _ l0_1 _ _ t103 a1 _ _ t107 t110 _ ?side1 ?side2 ?side3 ?side4 ?side5 ?side6 ?side7 ?side8 A15.out).mono ?_); (case side1 => exact pC (Kd.C_below HR0_0.out HB.out)); (case side2 => exact HC0_0.out); (case side3 => exact pC (Kd.C_below HR0_1.out HB.out)); (case side4 => exact HC0_1.out); (case side5 => exact pC (Kd.R_reads' HO_6.out).2.2); (case side6 => exact (Kd.R_reads' HO_6.out).2.1); (case side7 => exact pC (Kd.R_reads' HO109.out).2.2); (case side8 => exact (Kd.R_reads' HO109.out).2.1); rintro e w23 ⟨v111, rfl, ho0, hb⟩; have HO112 := Aside0.mk (Kd.R_lower (Kd.R_new' (Kd.R_new' ho0 (Kd.R_lt (pR HO_6.out))) (Kd.R_lt (pR HO109.out))) (below_size (pE HB))); replace HO_6 := re HO_6 ho0 hb; replace HO109 := re HO109 ho0 hb; replace BK101 := bb BK101 hb; replace BK102 := bb BK102 hb; replace BK106 := bb BK106 hb; replace HB := bs HB hb; (try clear hb); (try clear hb2); (try clear hk); (try clear hi); (try clear ho0))); try go_wp2_with (first | (go_at_call 70; (with_reducible refine (walkmillref04_Hours.calls k1 _ _ l0_0 _ _ l0_1 (x7_1 == 1) t107 _ ?side1 ?side2 ?side3 ?side4 A14.out).mono ?_); (case side1 => exact pC (Kd.C_below HR0_0.out HB.out)); (case side2 => exact HC0_0.out); (case side3 => exact pC (Kd.C_below HR0_1.out HB.out)); (case side4 => exact HC0_1.out); rintro e w19 ⟨v108, rfl, ho0, hb⟩; have HO109 := Aside0.mk (Kd.R_lower (Kd.R_new' ho0 (Kd.R_lt (pR HO_6.out))) (below_size (pE HB))); replace HO_6 := re HO_6 ho0 hb; replace BK101 := bb BK101 hb; replace BK102 := bb BK102 hb; replace BK106 := bb BK106 hb; replace HB := bs HB hb; (try clear hb); (try clear hb2); (try clear hk); (try clear hi); (try clear ho0); obtain ⟨hcz20_0, hcz20_1, hfz20_0, hfz20_1⟩ := cf2 BK101; obtain ⟨Ao21, co21, eo21⟩ := Kd.R_slice HO_6.out; subst eo21; obtain ⟨Ao22, co22, eo22⟩ := Kd.R_slice HO109.out; subst eo22) | (go_at_call 69; (with_reducible refine (walkmillref04_Taken.calls k1 _ _ l0_0 _ _ l0_1 _ _ t103 a1 _ _ t107 t110 _ ?side1 ?side2 ?side3 ?side4 ?side5 ?side6 ?side7 ?side8 A15.out).mono ?_); (case side1 => exact pC (Kd.C_below HR0_0.out HB.out)); (case side2 => exact HC0_0.out); (case side3 => exact pC (Kd.C_below HR0_1.out HB.out)); (case side4 => exact HC0_1.out); (case side5 => exact pC (Kd.R_reads' HO_6.out).2.2); (case side6 => exact (Kd.R_reads' HO_6.out).2.1); (case side7 => exact pC (Kd.R_reads' HO109.out).2.2); (case side8 => exact (Kd.R_reads' HO109.out).2.1); rintro e w23 ⟨v111, rfl, ho0, hb⟩; have HO112 := Aside0.mk (Kd.R_lower (Kd.R_new' (Kd.R_new' ho0 (Kd.R_lt (pR HO_6.out))) (Kd.R_lt (pR HO109.out))) (below_size (pE HB))); replace HO_6 := re HO_6 ho0 hb; replace HO109 := re HO109 ho0 hb; replace BK101 := bb BK101 hb; replace BK102 := bb BK102 hb; replace BK106 := bb BK106 hb; replace HB := bs HB hb; (try clear hb); (try clear hb2); (try clear hk); (try clear hi); (try clear ho0))))
    go_loopg [10, 11] k1 (fun kq v10 v11 w' => ∃ (x10_2 : Int) (x11_2 : Int), v10 = .int .i64 x10_2 ∧ v11 = .int .i64 x11_2 ∧ Aside0 (walkmillref04_Ends.l1 kq a1 t103 x7_1 t107 t110 x10_2 x11_2 l0_0 l0_1 x107000_1 x107001_1 = some (r1, r2)) ∧ Aside0 (kq ≤ k1) ∧ Aside0 (Kd.R (Kd.int .i64) 3 w' w.heap.size (fun k_ => some k_ ≠ ((.slice Ao22 t107.length co22) : Value).ownBlock ∧ some k_ ≠ (v111 : Value).ownBlock) (.slice Ao21 t103.length co21) t103) ∧ Aside0 (Kd.R (Kd.int .i64) 3 w' w.heap.size (fun k_ => some k_ ≠ ((.slice Ao21 t103.length co21) : Value).ownBlock ∧ some k_ ≠ (v111 : Value).ownBlock) (.slice Ao22 t107.length co22) t107) ∧ Aside0 (Kd.R (Kd.int .i64) 3 w' w.heap.size (fun k_ => some k_ ≠ ((.slice Ao21 t103.length co21) : Value).ownBlock ∧ some k_ ≠ ((.slice Ao22 t107.length co22) : Value).ownBlock) v111 t110) ∧ Aside0 (w'.heap[gb101]? = some (.cells #[(.slice A0_0 l0_0.length c0_0), (.slice A0_1 l0_1.length c0_1)] 25 (0, 0))) ∧ Aside0 (w'.heap[gb102]? = some (.cells #[.int .i64 0, .int .i64 0] 42 (0, 0))) ∧ Aside0 (w'.heap[gb106]? = some (.cells #[.int .i64 x107000_1, .int .i64 x107001_1] 42 (0, 0))) ∧ Aside0 (Below w.heap.size w w'))
    case atStart => exact ⟨(0), (0), (by first | rfl | (simp; done) | (simp [*]; done)), (by first | rfl | (simp; done) | (simp [*]; done)), H', ⟨Nat.le_refl _⟩, ⟨by (with_reducible repeat (first | apply Kd.R_alloc | apply Kd.R_drewN | apply Kd.R_drew)); exact Kd.R_mono HO_6.out (fun _ hk => ⟨hk.1.2, hk.2⟩)⟩, ⟨by (with_reducible repeat (first | apply Kd.R_alloc | apply Kd.R_drewN | apply Kd.R_drew)); exact Kd.R_mono HO109.out (fun _ hk => ⟨hk.1.2, hk.2⟩)⟩, ⟨by (with_reducible repeat (first | apply Kd.R_alloc | apply Kd.R_drewN | apply Kd.R_drew)); exact Kd.R_mono HO112.out (fun _ hk => ⟨hk.1.2, hk.2⟩)⟩, ⟨pB BK101.out⟩, ⟨pB BK102.out⟩, ⟨pB BK106.out⟩, ⟨pE HB⟩⟩
    case round =>
     clear H'
     try clear c1
     try clear p2
     try clear c3
     try clear c6
     try clear c10
     try clear c11
     try clear c13
     try clear c13b0
     try clear c16
     try clear c17
     try clear hcz12_0
     try clear hcz12_1
     try clear hcz18_0
     try clear hcz18_1
     try clear hcz20_0
     try clear hcz20_1
     try clear hcz7_0
     try clear hcz7_1
     try clear hfz12_0
     try clear hfz12_1
     try clear hfz18_0
     try clear hfz18_1
     try clear hfz20_0
     try clear hfz20_1
     try clear hfz7_0
     try clear hfz7_1
     try clear p2
     obtain ⟨x10_2, x11_2, rfl, rfl, HA, HK2, HO_6, HO_8, HO_9, BK101, BK102, BK106, HB⟩ := hrel
     cases gk with
     | zero => exact absurd HA.out (by simp [walkmillref04_Ends.l1])
     | succ k2 =>
      have H := HA.out
      clear HA
      simp only [walkmillref04_Ends.l1] at H
      by_cases c24 : x11_2 < (t103.length : Int)
      ·rw [if_pos c24] at H
       have c24b0 : decide (x11_2 < (t103.length : Int)) = true := decide_eq_true c24
       clear c24
       by_cases c25 : 0 ≤ x11_2
       ·rw [if_pos c25] at H
        have c25b0 : decide (0 ≤ x11_2) = true := decide_eq_true c25
        clear c25
        by_cases c26 : x11_2 < (t110.length : Int)
        ·rw [if_pos c26] at H
         have c26b0 : decide (x11_2 < (t110.length : Int)) = true := decide_eq_true c26
         clear c26
         by_cases c27 : 0 ≤ (rd t103 x11_2)
         ·rw [if_pos c27] at H
          have c27b0 : decide (0 ≤ (rd t103 x11_2)) = true := decide_eq_true c27
          clear c27
          by_cases c28 : (rd t103 x11_2) < (t107.length : Int)
          ·rw [if_pos c28] at H
           have c28b0 : decide ((rd t103 x11_2) < (t107.length : Int)) = true := decide_eq_true c28
           clear c28
           obtain ⟨ji29, hji29⟩ : ∃ j_ : Int, (mx x10_2 (wrap64 ((rd t110 x11_2) + (rd t107 (rd t103 x11_2))))) = j_ := ⟨_, rfl⟩
           replace H : (walkmillref04_Ends.l1 k2 a1 t103 x7_1 t107 t110 ji29 (wrap64 (x11_2 + 1)) l0_0 l0_1 x107000_1 x107001_1) = some (r1, r2) := by first | (rw [hji29] at H; exact H) | (simp only [hji29] at H ⊢; exact H)
           have hji29_ : (if x10_2 < (wrap64 ((rd t110 x11_2) + (rd t107 (rd t103 x11_2)))) then (wrap64 ((rd t110 x11_2) + (rd t107 (rd t103 x11_2)))) else x10_2) = ji29 := hji29
           have H' := Aside0.mk H
           clear H
           obtain ⟨Ao30, co30, eo30⟩ := Kd.R_slice HO_9.out
           subst eo30
           have p113 : 0 ≤ (x11_2 : Int) := dT
           have q113 : x11_2 < (t110.length : Int) := dT
           obtain ⟨ad113, e113, hx113_0⟩ := Kd.at_int (Kd.R_reads' HO_9.out).2.2 x11_2 p113 q113
           cases e113
           replace p113 := eq_true p113
           replace q113 := eq_true q113
           have p114 : 0 ≤ (x11_2 : Int) := dT
           have q114 : x11_2 < (t103.length : Int) := dT
           obtain ⟨ad114, e114, hx114_0⟩ := Kd.at_int (Kd.R_reads' HO_6.out).2.2 x11_2 p114 q114
           cases e114
           replace p114 := eq_true p114
           replace q114 := eq_true q114
           have p115 : 0 ≤ ((rd t103 x11_2) : Int) := dT
           have q115 : (rd t103 x11_2) < (t107.length : Int) := dT
           obtain ⟨ad115, e115, hx115_0⟩ := Kd.at_int (Kd.R_reads' HO_8.out).2.2 (rd t103 x11_2) p115 q115
           cases e115
           replace p115 := eq_true p115
           replace q115 := eq_true q115
           go_wp2
           repeat (go_quiet (fail); try go_wp2)
           go_roundg k2
           case measure => have := HK1.out; have := HK2.out; omega
           case rel => exact ⟨(ji29), (wrap64 (x11_2 + 1)), (by first | rfl | (simp; done) | (simp only [← hji29] <;> (first | rfl | simp)) | (simp [*]; done)), (by first | rfl | (simp; done) | (simp [*]; done)), H', ⟨by have := HK1.out; have := HK2.out; omega⟩, ⟨pR HO_6.out⟩, ⟨pR HO_8.out⟩, ⟨pR HO_9.out⟩, ⟨pB BK101.out⟩, ⟨pB BK102.out⟩, ⟨pB BK106.out⟩, ⟨pE HB⟩⟩
          ·rw [if_neg c28] at H
           exact absurd H (by simp)
         ·rw [if_neg c27] at H
          exact absurd H (by simp)
        ·rw [if_neg c26] at H
         exact absurd H (by simp)
       ·rw [if_neg c25] at H
        exact absurd H (by simp)
      ·rw [if_neg c24] at H
       have c24b0 : decide (x11_2 < (t103.length : Int)) = false := decide_eq_false c24
       clear c24
       by_cases c31 : x7_1 = 0
       ·rw [if_pos c31] at H
        have c31b0 : (x7_1 == 0) = true := beq_iff_eq.mpr c31
        have c31b1 : (x7_1 != 0) = false := bne_eq_false_iff_eq.mpr c31
        clear c31
        have H' := Aside0.mk H
        clear H
        have hnb32 := NB106_101.out
        have hnc32 := NB101_106.out
        have hnb33 := NB106_102.out
        have hnc33 := NB102_106.out
        obtain ⟨_, _, _, _⟩ := cf2 BK106
        go_wp2
        repeat (go_quiet (fail); try go_wp2)
        go_roundg k2
        case measure => have := HK1.out; have := HK2.out; omega
        case rel => exact ⟨(wrap64 (x7_1 + 1)), (x10_2), (x107001_1), (by first | rfl | (simp; done) | (simp [*]; done)), H', ⟨by have := HK1.out; have := HK2.out; omega⟩, ⟨by (with_reducible repeat (first | apply Kd.R_alloc | apply Kd.R_drewN | apply Kd.R_drew)); exact Kd.R_mono (Kd.R_far (p := ⟨gb106, 0, none⟩) (Kd.R_types HO_6.out BK106.out (by decide)) (fun _ hk => hk.2) (.int .i64 x10_2)) (fun _ hk => trivial)⟩, ⟨pF BK101⟩, ⟨pF BK102⟩, ⟨by refine pB ?_; refine blk_put (cs := #[.int .i64 x107000_1, .int .i64 x107001_1]) ?_ 0 _ rfl; exact pB BK106.out⟩, ⟨pE HB⟩⟩
       ·rw [if_neg c31] at H
        have c31b0 : (x7_1 == 0) = false := beq_eq_false_iff_ne.mpr c31
        have c31b1 : (x7_1 != 0) = true := bne_iff_ne.mpr c31
        have H' := Aside0.mk H
        clear H
        have hnb35 := NB106_101.out
        have hnc35 := NB101_106.out
        have hnb36 := NB106_102.out
        have hnc36 := NB102_106.out
        obtain ⟨_, _, _, _⟩ := cf2 BK106
        go_wp2
        repeat (go_quiet (fail); try go_wp2)
        go_roundg k2
        case measure => have := HK1.out; have := HK2.out; omega
        case rel => exact ⟨(wrap64 (x7_1 + 1)), (x107000_1), (x10_2), (by first | rfl | (simp; done) | (simp [*]; done)), H', ⟨by have := HK1.out; have := HK2.out; omega⟩, ⟨by (with_reducible repeat (first | apply Kd.R_alloc | apply Kd.R_drewN | apply Kd.R_drew)); exact Kd.R_mono (Kd.R_far (p := ⟨gb106, 1, none⟩) (Kd.R_types HO_6.out BK106.out (by decide)) (fun _ hk => hk.2) (.int .i64 x10_2)) (fun _ hk => trivial)⟩, ⟨pF BK101⟩, ⟨pF BK102⟩, ⟨by refine pB ?_; refine blk_put (cs := #[.int .i64 x107000_1, .int .i64 x107001_1]) ?_ 1 _ rfl; exact pB BK106.out⟩, ⟨pE HB⟩⟩
   ·rw [if_neg c13] at H
    have c13b0 : decide (x7_1 < 2) = false := decide_eq_false c13
    clear c13
    simp only [Option.some.injEq, Prod.mk.injEq] at H
    obtain ⟨rfl, rfl⟩ := H
    have hnb38 := NB106_101.out
    have hnc38 := NB101_106.out
    have hnb39 := NB106_102.out
    have hnc39 := NB102_106.out
    obtain ⟨_, _, _, _⟩ := cf2 BK106
    have hnb41 := NB102_101.out
    have hnc41 := NB101_102.out
    obtain ⟨_, _, _, _⟩ := cf2 BK102
    go_wp2
    repeat (go_quiet (fail); try go_wp2)
    refine bodyPost_ret (results_cell_row rfl _ _ gb102 42 #[.int .i64 x107000_1, .int .i64 x107001_1] (0, 0) _ rfl (by refine pB ?_; refine blk_put (cs := #[.int .i64 x107000_1, .int .i64 0]) ?_ 1 _ rfl; refine pB ?_; refine blk_put (cs := #[.int .i64 0, .int .i64 0]) ?_ 0 _ rfl; exact pB BK102.out) Tryz.underlying42 rfl (by kernel_rfl)) rfl ?_
    exact ⟨eT, pE HB⟩
end Go.Proofs.YtlmglnobdcgbeaaGreat.P
namespace Go.Proofs.YtlmglnobdcgbeaaGreat.P
open Go.RowKit Go.Proofs.YtlmglnobdcgbeaaGreatW.PrintWords Go.Proofs.YtlmglnobdcgbeaaGreatW.PrintLast Go.Proofs.YtlmglnobdcgbeaaGreatW.PrintMore
theorem okT_yes (cl : List S67) (ord : List Int) (hin : ∀ x ∈ ord, 0 ≤ x ∧ x < (cl.length : Int)) (m : Nat) (hm : 1 ≤ m) (hm2 : m ≤ 1000) : okT cl ord m = true := by
  unfold okT
  simp only [Bool.and_eq_true, decide_eq_true_eq, List.all_eq_true]
  exact ⟨⟨by omega, by omega⟩, hin⟩
def setsO : List Int → List Int → List Int → List S42 → List S42
  | x :: xs, a :: as_, b :: bs, l => setsO xs as_ bs (l.set x.toNat ⟨a, b⟩)
  | _, _, _, l => l
theorem rd42_set (l : List S42) (i : Nat) (hi : i < l.length) (v : S42) (x : Int) : rd_T42 (l.set i v) x = if x.toNat = i then v else rd_T42 l x := by
  unfold rd_T42
  rw [List.getD_eq_getElem?_getD, List.getD_eq_getElem?_getD, List.getElem?_set]
  by_cases h : x.toNat = i
  · rw [if_pos h.symm, if_pos hi, if_pos h]; rfl
  · rw [if_neg (fun e => h e.symm), if_neg h]
theorem lo_hi_comm (l : List S42) (t u : Int × Int × Int) (ht : t.1.toNat < l.length) (hu : u.1.toNat < l.length) (h : t.1.toNat ≠ u.1.toNat) : highs_1 (lows_1 l t) u = lows_1 (highs_1 l u) t := by
  unfold highs_1 lows_1
  rw [rd42_set l _ ht, rd42_set l _ hu, if_neg (fun e => h e.symm), if_neg h, List.set_comm _ _ h]
theorem lows1_len (l : List S42) (t : Int × Int × Int) : (lows_1 l t).length = l.length := by simp [lows_1]
theorem highs1_len (l : List S42) (t : Int × Int × Int) : (highs_1 l t).length = l.length := by simp [highs_1]
theorem hi_lows : ∀ (ts : List (Int × Int × Int)) (l : List S42) (u : Int × Int × Int), (∀ t ∈ ts, t.1.toNat < l.length ∧ t.1.toNat ≠ u.1.toNat) → u.1.toNat < l.length → highs_1 (lows_ l ts) u = lows_ (highs_1 l u) ts
  | [], _, _, _, _ => rfl
  | t :: ts, l, u, h, hu => by
    show highs_1 (lows_ (lows_1 l t) ts) u = lows_ (lows_1 (highs_1 l u) t) ts
    rw [hi_lows ts (lows_1 l t) u (fun s hs => by rw [lows1_len]; exact h s (by simp [hs])) (by rw [lows1_len]; exact hu), lo_hi_comm l t u (h t (by simp)).1 hu (h t (by simp)).2]
theorem both_eq : ∀ (ord : List Int) (tl th : List (Int × Int × Int)) (l : List S42), tl.map (fun t => t.1) = ord → th.map (fun t => t.1) = ord → ord.Nodup → (∀ x ∈ ord, 0 ≤ x ∧ x < (l.length : Int)) →
    highs_ (lows_ l tl) th = setsO ord (tl.map (fun t => t.2.1)) (th.map (fun t => t.2.1)) l
  | [], [], [], l, _, _, _, _ => rfl
  | [], _ :: _, _, _, h, _, _, _ => by cases h
  | [], [], _ :: _, _, _, h, _, _ => by cases h
  | _ :: _, [], _, _, h, _, _, _ => by cases h
  | _ :: _, _ :: _, [], _, _, h, _, _ => by cases h
  | x :: ord, t :: tl, u :: th, l, h1, h2, hn, hin => by
    simp only [List.map_cons, List.cons.injEq] at h1 h2
    obtain ⟨e1, h1⟩ := h1
    obtain ⟨e2, h2⟩ := h2
    obtain ⟨n1, n2⟩ := List.nodup_cons.1 hn
    have hx := hin x (by simp)
    show highs_ (highs_1 (lows_ (lows_1 l t) tl) u) th = _
    rw [hi_lows tl (lows_1 l t) u (fun s hs => by
      have hs1 : s.1 ∈ ord := by rw [← h1]; exact List.mem_map_of_mem hs
      have := hin s.1 (by simp [hs1])
      rw [lows1_len]
      refine ⟨by omega, fun e => n1 ?_⟩
      rw [e2] at e
      rwa [show x = s.1 by omega]) (by rw [lows1_len, e2]; omega)]
    have e : highs_1 (lows_1 l t) u = l.set x.toNat ⟨t.2.1, u.2.1⟩ := by
      unfold highs_1 lows_1
      rw [e1, e2, rd42_set l _ (by omega), if_pos rfl, List.set_set]
    rw [e, both_eq ord tl th (l.set x.toNat ⟨t.2.1, u.2.1⟩) h1 h2 n2 (fun y hy => by rw [List.length_set]; exact hin y (by simp [hy]))]
    rfl
def stA (cl : List S67) (rk : List Int) (m : Nat) : List S42 := highs_ (lows_ (List.replicate cl.length z42) (runT lowF cl (List.replicate m 0) (ordA cl rk))) (runT highF cl (List.replicate m 0) (ordA cl rk))
theorem ordA_nodup (cl : List S67) (rk : List Int) : (ordA cl rk).Nodup := (ordA_perm cl rk).nodup_iff.2 (rng_nodup _)
theorem stA_sets (cl : List S67) (rk : List Int) (m : Nat) : stA cl rk m = setsO (ordA cl rk) ((runT lowF cl (List.replicate m 0) (ordA cl rk)).map (fun t => t.2.1)) ((runT highF cl (List.replicate m 0) (ordA cl rk)).map (fun t => t.2.1)) (List.replicate cl.length z42) :=
  both_eq _ _ _ _ (runT_fst _ _ _ _) (runT_fst _ _ _ _) (ordA_nodup cl rk) (fun x hx => by rw [List.length_replicate]; exact ordA_in x hx)
theorem sets_l (ord as_ bs : List Int) (ha : as_.length = ord.length) (hb : bs.length = ord.length) (ho : ord.length ≤ 1000) : ∀ (d i k : Nat) (l : List S42), (∀ x ∈ ord, 0 ≤ x ∧ x < (l.length : Int)) → i + d = ord.length → d < k →
    walkmillref04_Starts.l0 k ord as_ bs l i = some (setsO (ord.drop i) (as_.drop i) (bs.drop i) l)
  | 0, i, k, l, hin, hd, hk => by
    obtain ⟨k, rfl⟩ : ∃ q, k = q + 1 := ⟨k - 1, by omega⟩
    rw [walkmillref04_Starts.l0, if_neg (by omega), List.drop_of_length_le (l := ord) (by omega)]; rfl
  | d + 1, i, k, l, hin, hd, hk => by
    obtain ⟨k, rfl⟩ : ∃ q, k = q + 1 := ⟨k - 1, by omega⟩
    have h1 : i < ord.length := by omega
    have h2 : i < as_.length := by omega
    have h3 : i < bs.length := by omega
    have hx := hin ord[i] (List.getElem_mem h1)
    rw [walkmillref04_Starts.l0, if_pos (by omega), if_pos (by omega), if_pos (by omega), if_pos (by omega), rd_at ord i h1, rd_at as_ i h2, rd_at bs i h3, if_pos hx.1, if_pos hx.2, nx i (by omega)]
    rw [sets_l ord as_ bs ha hb ho d (i + 1) k _ (fun y hy => by rw [List.length_set]; exact hin y hy) (by omega) (by omega), List.drop_eq_getElem_cons h1, List.drop_eq_getElem_cons h2, List.drop_eq_getElem_cons h3]
    rfl
theorem rStarts_eq {cl : List S67} {rk : List Int} (v : Valid cl rk) (m : Nat) (hm : 1 ≤ m) (hm2 : m ≤ 5) (k : Nat) (hk : 1300 < k) : walkmillref04_Starts.f k cl rk m = some (stA cl rk m) := by
  have h10 := v.c10
  have hol := ordA_len cl rk
  have hmul : (m + 2) * (ordA cl rk).length ≤ 7 * 10 := Nat.mul_le_mul (by omega) (by omega)
  unfold walkmillref04_Starts.f
  rw [rOrder_eq v k (by omega), Option.bind_some, hours_eq cl rk false (by omega) k (by omega), Option.bind_some, taken_eq cl rk false (by omega) _ (by omega) ordA_in m hm (by omega) k (by omega), Option.bind_some,
    hours_eq cl rk true (by omega) k (by omega), Option.bind_some, taken_eq cl rk true (by omega) _ (by omega) ordA_in m hm (by omega) k (by omega), Option.bind_some, if_pos (by omega), if_pos (by omega), ofM_true, ofM_false, Int.toNat_natCast]
  have := sets_l (ordA cl rk) ((runT lowF cl (List.replicate m 0) (ordA cl rk)).map (fun t => t.2.1)) ((runT highF cl (List.replicate m 0) (ordA cl rk)).map (fun t => t.2.1)) (by rw [List.length_map, runT_len]) (by rw [List.length_map, runT_len]) (by omega) (ordA cl rk).length 0 k (List.replicate cl.length z42) (fun x hx => by rw [List.length_replicate]; exact ordA_in x hx) (by omega) (by omega)
  rw [stA_sets]
  exact this
theorem stA_len (cl : List S67) (rk : List Int) (m : Nat) : (stA cl rk m).length = cl.length := by
  have h1 : ∀ (ts : List (Int × Int × Int)) (l : List S42), (lows_ l ts).length = l.length := fun ts => by
    induction ts with
    | nil => exact fun _ => rfl
    | cons t ts ih => exact fun l => (ih (lows_1 l t)).trans (lows1_len l t)
  have h2 : ∀ (ts : List (Int × Int × Int)) (l : List S42), (highs_ l ts).length = l.length := fun ts => by
    induction ts with
    | nil => exact fun _ => rfl
    | cons t ts ih => exact fun l => (ih (highs_1 l t)).trans (highs1_len l t)
  unfold stA
  rw [h2, h1, List.length_replicate]
theorem spans_l (l : List S42) (hl : l.length ≤ 1000) : ∀ (d i k : Nat), i + d = l.length → d < k → walkmillref04_Spans.l0 k l l i = some true
  | 0, i, k, hd, hk => by
    obtain ⟨k, rfl⟩ : ∃ q, k = q + 1 := ⟨k - 1, by omega⟩
    rw [walkmillref04_Spans.l0, if_neg (by omega)]
  | d + 1, i, k, hd, hk => by
    obtain ⟨k, rfl⟩ : ∃ q, k = q + 1 := ⟨k - 1, by omega⟩
    rw [walkmillref04_Spans.l0, if_pos (by omega), if_pos (by omega), if_pos (by omega), if_neg (by simp), nx i (by omega)]
    exact spans_l l hl d (i + 1) k (by omega) (by omega)
theorem spans_eq (l : List S42) (hl : l.length ≤ 1000) (k : Nat) (hk : l.length < k) : walkmillref04_Spans.f k l l = some true := by
  unfold walkmillref04_Spans.f
  rw [if_pos rfl]
  exact spans_l l hl l.length 0 k (by omega) hk
def endA (of : Int → Int → Int) (cl : List S67) (rk : List Int) (m : Nat) : Int := (runT of cl (List.replicate m 0) (ordA cl rk)).foldl endF 0
theorem runT_done (of : Int → Int → Int) (cl : List S67) : ∀ (xs fr : List Int), ∀ t ∈ runT of cl fr xs, t.2.2 = wrap64 (t.2.1 + of (rd_T67 cl t.1).f2.f0 (rd_T67 cl t.1).f2.f1)
  | [], _ => fun t ht => by cases ht
  | x :: xs, fr => fun t ht => by
    rw [runT] at ht
    rcases List.mem_cons.1 ht with rfl | ht
    · rfl
    · exact runT_done of cl xs _ t ht
theorem ends_l1 (cl : List S67) (rk : List Int) (b : Bool) (ts : List (Int × Int × Int)) (hts : ts.length ≤ 1000) (hin : ∀ t ∈ ts, 0 ≤ t.1 ∧ t.1 < (cl.length : Int)) (hdn : ∀ t ∈ ts, t.2.2 = wrap64 (t.2.1 + ofM b (rd_T67 cl t.1).f2.f0 (rd_T67 cl t.1).f2.f1)) (M j e0 e1 : Int) (R : Option (Int × Int)) (K : Nat)
    (hR : ∀ k, K < k → (if j = 0 then (walkmillref04_Ends.l0 k M (ts.map (fun t => t.1)) (wrap64 (j + 1)) cl rk (ts.foldl endF 0) e1) else (walkmillref04_Ends.l0 k M (ts.map (fun t => t.1)) (wrap64 (j + 1)) cl rk e0 (ts.foldl endF 0))) = R) :
    ∀ (d i k : Nat) (z : Int), i + d = ts.length → d + K + 1 < k → (ts.drop i).foldl endF z = ts.foldl endF 0 →
      walkmillref04_Ends.l1 k M (ts.map (fun t => t.1)) j (hoursOf cl b) (ts.map (fun t => t.2.1)) z i cl rk e0 e1 = R
  | 0, i, k, z, hd, hk, hz => by
    obtain ⟨k, rfl⟩ : ∃ q, k = q + 1 := ⟨k - 1, by omega⟩
    rw [List.drop_of_length_le (by omega)] at hz
    rw [walkmillref04_Ends.l1, if_neg (by simp; omega), show z = ts.foldl endF 0 from hz]
    exact hR k (by omega)
  | d + 1, i, k, z, hd, hk, hz => by
    obtain ⟨k, rfl⟩ : ∃ q, k = q + 1 := ⟨k - 1, by omega⟩
    have hlt : i < ts.length := by omega
    have hx := hin ts[i] (List.getElem_mem hlt)
    have e1' : rd (ts.map (fun t => t.1)) i = ts[i].1 := by rw [rd_at _ i (by simpa using hlt)]; simp
    have e2' : rd (ts.map (fun t => t.2.1)) i = ts[i].2.1 := by rw [rd_at _ i (by simpa using hlt)]; simp
    have e3' := rd_hours cl b ts[i].1 hx.1 hx.2
    have e4' := hdn ts[i] (List.getElem_mem hlt)
    rw [walkmillref04_Ends.l1, if_pos (by simp; omega), if_pos (by omega), if_pos (by simp; omega), e1', e2', if_pos hx.1, if_pos (by simp [hoursOf]; omega), e3', ← e4', nx i (by omega)]
    refine ends_l1 cl rk b ts hts hin hdn M j e0 e1 R K hR d (i + 1) k _ (by omega) (by omega) ?_
    rw [List.drop_eq_getElem_cons hlt, List.foldl_cons] at hz
    exact hz
theorem rEnds_eq {cl : List S67} {rk : List Int} (v : Valid cl rk) (m : Nat) (hm : 1 ≤ m) (hm2 : m ≤ 5) (k : Nat) (hk : 1400 < k) : walkmillref04_Ends.f k cl rk m = some (endA lowF cl rk m, endA highF cl rk m) := by
  have h10 := v.c10
  have hol := ordA_len cl rk
  have hmul : (m + 2) * (ordA cl rk).length ≤ 7 * 10 := Nat.mul_le_mul (by omega) (by omega)
  have w1 : wrap64 (0 + 1) = 1 := by rw [w64_of (by omega) (by omega)]; rfl
  have w2 : wrap64 (1 + 1) = 2 := by rw [w64_of (by omega) (by omega)]; rfl
  unfold walkmillref04_Ends.f
  rw [rOrder_eq v k (by omega), Option.bind_some]
  obtain ⟨k, rfl⟩ : ∃ q, k = q + 1 := ⟨k - 1, by omega⟩
  have tn := fun b k hk => taken_eq cl rk b (by omega) (ordA cl rk) (by omega) ordA_in m hm (by omega) k hk
  have one := fun (b : Bool) => ends_l1 cl rk b (runT (ofM b) cl (List.replicate m 0) (ordA cl rk)) (by rw [runT_len]; omega) (fun t ht => ordA_in t.1 (runT_in _ _ _ _ t ht)) (runT_done _ _ _ _)
  have fs := fun (b : Bool) => runT_fst (ofM b) cl (ordA cl rk) (List.replicate m 0)
  rw [walkmillref04_Ends.l0, if_pos (by omega), show ((0 : Int) == 1) = false from rfl, hours_eq cl rk false (by omega) k (by omega), Option.bind_some, tn false k (by omega), Option.bind_some]
  have o1 := one false m 0 0 0 (some (endA lowF cl rk m, endA highF cl rk m)) 1300 (fun k hk => by
    rw [if_pos rfl, w1, fs false]
    obtain ⟨k, rfl⟩ : ∃ q, k = q + 1 := ⟨k - 1, by omega⟩
    rw [walkmillref04_Ends.l0, if_pos (by omega), show ((1 : Int) == 1) = true from rfl, hours_eq cl rk true (by omega) k (by omega), Option.bind_some, tn true k (by omega), Option.bind_some]
    have o2 := one true m 1 (endA lowF cl rk m) 0 (some (endA lowF cl rk m, endA highF cl rk m)) 1 (fun k hk => by
      rw [if_neg (by omega), w2, fs true]
      obtain ⟨k, rfl⟩ : ∃ q, k = q + 1 := ⟨k - 1, by omega⟩
      rw [walkmillref04_Ends.l0, if_neg (by omega)]
      unfold endA; rw [ofM_true]) (runT (ofM true) cl (List.replicate m 0) (ordA cl rk)).length 0 k 0 (by omega) (by rw [runT_len]; omega) rfl
    rw [fs true] at o2
    unfold endA at o2 ⊢
    rw [ofM_false] at *
    exact o2) (runT (ofM false) cl (List.replicate m 0) (ordA cl rk)).length 0 k 0 (by omega) (by rw [runT_len]; omega) rfl
  rw [fs false] at o1
  exact o1
end Go.Proofs.YtlmglnobdcgbeaaGreat.P
namespace Go.Proofs.YtlmglnobdcgbeaaGreat.D
open Go Go.RowKit
noncomputable section
inductive AV where
  | any
  | lit (v : Value)
  | ptr (b off : Nat)
  | gptr (g off : Nat)
  | slice (b off len : Nat) (cap : Option Nat)
  | empty
  | map (b : Nat)
  | func (fn : Fn) (first captured : List AV)
  | yield (l : Nat)
  | iface (t : TypeId) (v : AV)
  | agg (cs : List AV)
  | tuple (cs : List AV)
  deriving Inhabited
abbrev Phi := Nat → Option (Nat × Nat)
mutual
def VR (φ : Phi) : AV → Value → Prop
  | .any, _ => True
  | .lit v, x => x = v
  | .ptr b o, x => ∃ c m, φ b = some (c, m) ∧ x = .pointer (some ⟨c, o, none⟩)
  | .gptr g o, x => x = .pointer (some ⟨g, o, none⟩)
  | .slice b o n cap, x => ∃ c m k, φ b = some (c, m) ∧ x = .slice (some ⟨c, o, none⟩) n k ∧
      n ≤ k ∧ (∀ k', cap = some k' → k = k') ∧ (cap = none → o = 0 → k = m)
  | .empty, x => ∃ a k, x = .slice (some a) 0 k
  | .map b, x => ∃ c m, φ b = some (c, m) ∧ x = .map (some c)
  | .func fn xs ys, x => ∃ as_ bs : Array Value, x = .func fn as_ bs ∧ VRs φ xs as_.toList ∧ VRs φ ys bs.toList
  | .yield l, x => ∃ c m, φ l = some (c, m) ∧ x = .func (.yield c) #[] #[]
  | .iface t a, x => ∃ y, x = .iface t y ∧ VR φ a y
  | .agg cs, x => ∃ as_ : Array Value, x = .agg as_ ∧ VRs φ cs as_.toList
  | .tuple cs, x => ∃ as_ : Array Value, x = .tuple as_ ∧ VRs φ cs as_.toList
def VRs (φ : Phi) : List AV → List Value → Prop
  | [], l => l = []
  | a :: as_, l => ∃ x xs, l = x :: xs ∧ VR φ a x ∧ VRs φ as_ xs
end
def Phi.le (φ ψ : Phi) : Prop := ∀ b x, φ b = some x → ψ b = some x
theorem Phi.le_refl (φ : Phi) : φ.le φ := fun _ _ h => h
theorem Phi.le_trans {a b c : Phi} (h : a.le b) (k : b.le c) : a.le c := fun x y hx => k x y (h x y hx)
mutual
theorem VR.mono {φ ψ : Phi} (h : φ.le ψ) : ∀ (a : AV) (x : Value), VR φ a x → VR ψ a x
  | .any, _, _ => trivial
  | .lit _, _, hv => hv
  | .ptr _ _, _, ⟨c, m, h1, h2⟩ => ⟨c, m, h _ _ h1, h2⟩
  | .gptr _ _, _, hv => hv
  | .slice _ _ _ _, _, ⟨c, m, k, h1, h2⟩ => ⟨c, m, k, h _ _ h1, h2⟩
  | .empty, _, hv => hv
  | .map _, _, ⟨c, m, h1, h2⟩ => ⟨c, m, h _ _ h1, h2⟩
  | .func _ xs ys, _, ⟨as_, bs, h1, h2, h3⟩ => ⟨as_, bs, h1, VRs.mono h xs _ h2, VRs.mono h ys _ h3⟩
  | .yield _, _, ⟨c, m, h1, h2⟩ => ⟨c, m, h _ _ h1, h2⟩
  | .iface _ a, _, ⟨y, h1, h2⟩ => ⟨y, h1, VR.mono h a y h2⟩
  | .agg cs, _, ⟨as_, h1, h2⟩ => ⟨as_, h1, VRs.mono h cs _ h2⟩
  | .tuple cs, _, ⟨as_, h1, h2⟩ => ⟨as_, h1, VRs.mono h cs _ h2⟩
theorem VRs.mono {φ ψ : Phi} (h : φ.le ψ) : ∀ (as_ : List AV) (l : List Value), VRs φ as_ l → VRs ψ as_ l
  | [], _, hv => hv
  | a :: as_, _, ⟨x, xs, h1, h2, h3⟩ => ⟨x, xs, h1, VR.mono h a x h2, VRs.mono h as_ xs h3⟩
end
theorem VRs.nil {φ : Phi} : VRs φ [] [] := rfl
theorem VRs.cons {φ : Phi} {a : AV} {as_ : List AV} {x : Value} {xs : List Value} (h : VR φ a x) (hs : VRs φ as_ xs) : VRs φ (a :: as_) (x :: xs) := ⟨x, xs, rfl, h, hs⟩
theorem VRs.length {φ : Phi} : ∀ {as_ : List AV} {l : List Value}, VRs φ as_ l → as_.length = l.length
  | [], _, h => by cases h; rfl
  | _ :: _, _, ⟨_, _, h, _, hs⟩ => by subst h; simp [VRs.length hs]
theorem VRs.get {φ : Phi} : ∀ {as_ : List AV} {l : List Value}, VRs φ as_ l → ∀ {i : Nat} {a : AV}, as_[i]? = some a → ∃ x, l[i]? = some x ∧ VR φ a x
  | [], _, _, _, _, h => by simp at h
  | _ :: _, _, ⟨x, xs, h1, h2, h3⟩, 0, a, h => by subst h1; simp at h; subst h; exact ⟨x, by simp, h2⟩
  | _ :: _, _, ⟨x, xs, h1, h2, h3⟩, i + 1, a, h => by subst h1; simp at h; obtain ⟨y, hy⟩ := VRs.get h3 h; exact ⟨y, by simpa using hy⟩
theorem VRs.set {φ : Phi} : ∀ {as_ : List AV} {l : List Value}, VRs φ as_ l → ∀ (i : Nat) {a : AV} {x : Value}, VR φ a x → VRs φ (as_.set i a) (l.set i x)
  | [], _, h, _, _, _, _ => by cases h; exact VRs.nil
  | _ :: _, _, ⟨x, xs, h1, h2, h3⟩, 0, _, _, hv => by subst h1; exact VRs.cons hv h3
  | _ :: _, _, ⟨x, xs, h1, h2, h3⟩, i + 1, _, _, hv => by subst h1; exact VRs.cons h2 (VRs.set h3 i hv)
theorem VRs.append {φ : Phi} : ∀ {as_ : List AV} {l : List Value} {bs : List AV} {k : List Value}, VRs φ as_ l → VRs φ bs k → VRs φ (as_ ++ bs) (l ++ k)
  | [], _, _, _, h, hk => by cases h; exact hk
  | _ :: _, _, _, _, ⟨x, xs, h1, h2, h3⟩, hk => by subst h1; exact VRs.cons h2 (VRs.append h3 hk)
theorem VRs.take {φ : Phi} : ∀ {as_ : List AV} {l : List Value}, VRs φ as_ l → ∀ (n : Nat), VRs φ (as_.take n) (l.take n)
  | [], _, h, n => by cases h; simp [VRs]
  | _ :: _, _, ⟨x, xs, h1, h2, h3⟩, 0 => by simp [VRs]
  | _ :: _, _, ⟨x, xs, h1, h2, h3⟩, n + 1 => by subst h1; exact VRs.cons h2 (VRs.take h3 n)
theorem VRs.drop {φ : Phi} : ∀ {as_ : List AV} {l : List Value}, VRs φ as_ l → ∀ (n : Nat), VRs φ (as_.drop n) (l.drop n)
  | [], _, h, n => by cases h; simp [VRs]
  | _ :: _, _, ⟨x, xs, h1, h2, h3⟩, 0 => by subst h1; exact VRs.cons h2 h3
  | _ :: _, _, ⟨x, xs, h1, h2, h3⟩, n + 1 => by subst h1; exact VRs.drop h3 n
theorem VRs.lits {φ : Phi} : ∀ (l : List Value), VRs φ (l.map .lit) l
  | [] => VRs.nil
  | x :: xs => VRs.cons (show VR φ (.lit x) x from rfl) (VRs.lits xs)
theorem VRs.map_of {α : Type} {φ : Phi} {f : α → AV} {g : α → Value} : ∀ (l : List α), (∀ x ∈ l, VR φ (f x) (g x)) → VRs φ (l.map f) (l.map g)
  | [], _ => VRs.nil
  | x :: xs, h => VRs.cons (h x (by simp)) (VRs.map_of xs fun y hy => h y (by simp [hy]))
mutual
def AV.toV : AV → Option Value
  | .lit v => some v
  | .gptr g o => some (.pointer (some ⟨g, o, none⟩))
  | .iface t a => match a.toV with | some x => some (.iface t x) | none => none
  | .agg cs => match AV.toVs cs with | some l => some (.agg l.toArray) | none => none
  | .tuple cs => match AV.toVs cs with | some l => some (.tuple l.toArray) | none => none
  | _ => none
def AV.toVs : List AV → Option (List Value)
  | [] => some []
  | a :: as_ => match a.toV, AV.toVs as_ with | some x, some xs => some (x :: xs) | _, _ => none
end
mutual
theorem AV.toV_eq {φ : Phi} : ∀ (a : AV) (v x : Value), a.toV = some v → VR φ a x → x = v
  | .any, _, _, h, _ => by simp [AV.toV] at h
  | .lit _, _, _, h, hv => by simp [AV.toV] at h; subst h; exact hv
  | .ptr _ _, _, _, h, _ => by simp [AV.toV] at h
  | .gptr _ _, _, _, h, hv => by simp [AV.toV] at h; subst h; exact hv
  | .slice _ _ _ _, _, _, h, _ => by simp [AV.toV] at h
  | .empty, _, _, h, _ => by simp [AV.toV] at h
  | .map _, _, _, h, _ => by simp [AV.toV] at h
  | .func _ _ _, _, _, h, _ => by simp [AV.toV] at h
  | .yield _, _, _, h, _ => by simp [AV.toV] at h
  | .iface t a, _, _, h, ⟨y, h1, h2⟩ => by
    simp only [AV.toV] at h
    split at h
    · rename_i z hz; cases h; rw [h1, AV.toV_eq a z y hz h2]
    · cases h
  | .agg cs, _, _, h, ⟨as_, h1, h2⟩ => by
    simp only [AV.toV] at h
    split at h
    · rename_i z hz; cases h; rw [h1, ← AV.toVs_eq cs z _ hz h2]
    · cases h
  | .tuple cs, _, _, h, ⟨as_, h1, h2⟩ => by
    simp only [AV.toV] at h
    split at h
    · rename_i z hz; cases h; rw [h1, ← AV.toVs_eq cs z _ hz h2]
    · cases h
theorem AV.toVs_eq {φ : Phi} : ∀ (as_ : List AV) (l k : List Value), AV.toVs as_ = some l → VRs φ as_ k → k = l
  | [], _, _, h, hv => by simp [AV.toVs] at h; subst h; exact hv
  | a :: as_, _, _, h, ⟨x, xs, h1, h2, h3⟩ => by
    simp only [AV.toVs] at h
    split at h
    · rename_i y ys hy hys; cases h; rw [h1, AV.toV_eq a y x hy h2, AV.toVs_eq as_ ys xs hys h3]
    · cases h
end
def AV.view : AV → AV
  | .lit (.agg cs) => .agg (cs.toList.map .lit)
  | .lit (.tuple cs) => .tuple (cs.toList.map .lit)
  | .lit (.iface t v) => .iface t (.lit v)
  | .lit (.func fn a b) => .func fn (a.toList.map .lit) (b.toList.map .lit)
  | a => a
theorem VR.view {φ : Phi} {a : AV} {x : Value} (h : VR φ a x) : VR φ a.view x := by
  unfold AV.view
  split
  · exact ⟨_, h, VRs.lits _⟩
  · exact ⟨_, h, VRs.lits _⟩
  · exact ⟨_, h, rfl⟩
  · exact ⟨_, _, h, VRs.lits _, VRs.lits _⟩
  · exact h
inductive TT where
  | tip
  | node (v : AV) (l r : TT)
def TT.get (t : TT) : Nat → AV :=
  TT.rec (motive := fun _ => Nat → AV) (fun _ => .lit undef)
    (fun v _ _ l r n => Nat.rec (motive := fun _ => AV) v (fun m _ => Nat.rec (motive := fun _ => AV) (l (Nat.div m 2)) (fun _ _ => r (Nat.div m 2)) (Nat.mod m 2)) n) t
def TT.path (d : Nat) : Nat → AV → TT :=
  Nat.rec (motive := fun _ => Nat → AV → TT) (fun _ _ => .tip)
    (fun _ ih n x => Nat.rec (motive := fun _ => TT) (.node x .tip .tip)
      (fun m _ => Nat.rec (motive := fun _ => TT) (.node (.lit undef) (ih (Nat.div m 2) x) .tip) (fun _ _ => .node (.lit undef) .tip (ih (Nat.div m 2) x)) (Nat.mod m 2)) n) d
def TT.set (t : TT) : Nat → AV → TT :=
  TT.rec (motive := fun _ => Nat → AV → TT) (fun n x => TT.path 10 n x)
    (fun v l r ihl ihr n x => Nat.rec (motive := fun _ => TT) (.node x l r)
      (fun m _ => Nat.rec (motive := fun _ => TT) (.node v (ihl (Nat.div m 2) x) r) (fun _ _ => .node v l (ihr (Nat.div m 2) x)) (Nat.mod m 2)) n) t
theorem TT.get_even (v : AV) (l r : TT) (m : Nat) (h : m % 2 = 0) : (TT.node v l r).get (m + 1) = l.get (m / 2) := by
  show Nat.rec (motive := fun _ => AV) _ _ (m % 2) = _
  rw [h]; rfl
theorem TT.get_odd (v : AV) (l r : TT) (m : Nat) (h : m % 2 = 1) : (TT.node v l r).get (m + 1) = r.get (m / 2) := by
  show Nat.rec (motive := fun _ => AV) _ _ (m % 2) = _
  rw [h]; rfl
theorem TT.path_zero (d : Nat) (x : AV) : TT.path (d + 1) 0 x = .node x .tip .tip := rfl
theorem TT.path_even (d m : Nat) (x : AV) (h : m % 2 = 0) : TT.path (d + 1) (m + 1) x = .node (.lit undef) (TT.path d (m / 2) x) .tip := by
  show Nat.rec (motive := fun _ => TT) _ _ (m % 2) = _
  rw [h]; rfl
theorem TT.path_odd (d m : Nat) (x : AV) (h : m % 2 = 1) : TT.path (d + 1) (m + 1) x = .node (.lit undef) .tip (TT.path d (m / 2) x) := by
  show Nat.rec (motive := fun _ => TT) _ _ (m % 2) = _
  rw [h]; rfl
theorem TT.set_zero (v : AV) (l r : TT) (x : AV) : (TT.node v l r).set 0 x = .node x l r := rfl
theorem TT.set_even (v : AV) (l r : TT) (m : Nat) (x : AV) (h : m % 2 = 0) : (TT.node v l r).set (m + 1) x = .node v (l.set (m / 2) x) r := by
  show Nat.rec (motive := fun _ => TT) _ _ (m % 2) = _
  rw [h]; rfl
theorem TT.set_odd (v : AV) (l r : TT) (m : Nat) (x : AV) (h : m % 2 = 1) : (TT.node v l r).set (m + 1) x = .node v l (r.set (m / 2) x) := by
  show Nat.rec (motive := fun _ => TT) _ _ (m % 2) = _
  rw [h]; rfl
theorem par (m : Nat) : m % 2 = 0 ∨ m % 2 = 1 := by omega
theorem TT.get_path_eq : ∀ (d n : Nat) (x : AV), n + 1 < 2 ^ d → (TT.path d n x).get n = x
  | 0, n, _, h => by simp at h
  | d + 1, 0, x, h => rfl
  | d + 1, m + 1, x, h => by
    rw [Nat.pow_succ] at h
    rcases par m with hp | hp
    · rw [TT.path_even _ _ _ hp, TT.get_even _ _ _ _ hp]; exact TT.get_path_eq d _ _ (by omega)
    · rw [TT.path_odd _ _ _ hp, TT.get_odd _ _ _ _ hp]; exact TT.get_path_eq d _ _ (by omega)
theorem TT.get_path_ne : ∀ (d n k : Nat) (x : AV), k ≠ n → (TT.path d n x).get k = .lit undef
  | 0, _, _, _, _ => rfl
  | d + 1, 0, 0, x, h => absurd rfl h
  | d + 1, 0, k + 1, x, h => by
    rw [TT.path_zero]
    rcases par k with hp | hp
    · rw [TT.get_even _ _ _ _ hp]; rfl
    · rw [TT.get_odd _ _ _ _ hp]; rfl
  | d + 1, m + 1, 0, x, h => by
    rcases par m with hp | hp
    · rw [TT.path_even _ _ _ hp]; rfl
    · rw [TT.path_odd _ _ _ hp]; rfl
  | d + 1, m + 1, k + 1, x, h => by
    rcases par m with hp | hp <;> rcases par k with hq | hq
    · rw [TT.path_even _ _ _ hp, TT.get_even _ _ _ _ hq]; exact TT.get_path_ne d _ _ _ (by omega)
    · rw [TT.path_even _ _ _ hp, TT.get_odd _ _ _ _ hq]; rfl
    · rw [TT.path_odd _ _ _ hp, TT.get_even _ _ _ _ hq]; rfl
    · rw [TT.path_odd _ _ _ hp, TT.get_odd _ _ _ _ hq]; exact TT.get_path_ne d _ _ _ (by omega)
theorem TT.get_set_eq : ∀ (t : TT) (n : Nat) (x : AV), n + 1 < 2 ^ 10 → (t.set n x).get n = x
  | .tip, n, x, h => TT.get_path_eq 10 n x h
  | .node v l r, 0, x, h => rfl
  | .node v l r, m + 1, x, h => by
    rcases par m with hp | hp
    · rw [TT.set_even _ _ _ _ _ hp, TT.get_even _ _ _ _ hp]; exact TT.get_set_eq _ _ _ (by omega)
    · rw [TT.set_odd _ _ _ _ _ hp, TT.get_odd _ _ _ _ hp]; exact TT.get_set_eq _ _ _ (by omega)
theorem TT.get_set_ne : ∀ (t : TT) (n k : Nat) (x : AV), k ≠ n → (t.set n x).get k = t.get k
  | .tip, n, k, x, h => TT.get_path_ne 10 n k x h
  | .node v l r, 0, 0, x, h => absurd rfl h
  | .node v l r, 0, k + 1, x, h => by
    rw [TT.set_zero]
    rcases par k with hp | hp
    · rw [TT.get_even _ _ _ _ hp, TT.get_even _ _ _ _ hp]
    · rw [TT.get_odd _ _ _ _ hp, TT.get_odd _ _ _ _ hp]
  | .node v l r, m + 1, 0, x, h => by
    rcases par m with hp | hp
    · rw [TT.set_even _ _ _ _ _ hp]; rfl
    · rw [TT.set_odd _ _ _ _ _ hp]; rfl
  | .node v l r, m + 1, k + 1, x, h => by
    rcases par m with hp | hp <;> rcases par k with hq | hq
    · rw [TT.set_even _ _ _ _ _ hp, TT.get_even _ _ _ _ hq, TT.get_even _ _ _ _ hq]; exact TT.get_set_ne _ _ _ _ (by omega)
    · rw [TT.set_even _ _ _ _ _ hp, TT.get_odd _ _ _ _ hq, TT.get_odd _ _ _ _ hq]
    · rw [TT.set_odd _ _ _ _ _ hp, TT.get_even _ _ _ _ hq, TT.get_even _ _ _ _ hq]
    · rw [TT.set_odd _ _ _ _ _ hp, TT.get_odd _ _ _ _ hq, TT.get_odd _ _ _ _ hq]; exact TT.get_set_ne _ _ _ _ (by omega)
structure ALoop where
  state : LoopState
  pending : Option Code
  n : Nat
  tmps : TT
  params : Array Tmp
  assign : Code
  body : Code
  defers : Nat
inductive Md where
  | exact
  | grow
  | ro
  deriving DecidableEq
inductive AO where
  | cells (cs : List AV) (elem : TypeId) (md : Md)
  | map (es : List (AV × AV × Nat)) (clock : Nat)
  | loop (r : ALoop)
  | defd (isOpen : Bool)
  | sIter (s : ByteArray) (pos : Nat)
  | dead
inductive Tr where
  | tip
  | node (o : AO) (l r : Tr)
def Tr.get (t : Tr) : Nat → Option AO :=
  Tr.rec (motive := fun _ => Nat → Option AO) (fun _ => none)
    (fun v _ _ l r n => Nat.rec (motive := fun _ => Option AO) (some v) (fun m _ => Nat.rec (motive := fun _ => Option AO) (l (Nat.div m 2)) (fun _ _ => r (Nat.div m 2)) (Nat.mod m 2)) n) t
def Tr.set (t : Tr) : Nat → AO → Tr :=
  Tr.rec (motive := fun _ => Nat → AO → Tr) (fun n x => Nat.rec (motive := fun _ => Tr) (.node x .tip .tip) (fun _ _ => .tip) n)
    (fun v l r ihl ihr n x => Nat.rec (motive := fun _ => Tr) (.node x l r)
      (fun m _ => Nat.rec (motive := fun _ => Tr) (.node v (ihl (Nat.div m 2) x) r) (fun _ _ => .node v l (ihr (Nat.div m 2) x)) (Nat.mod m 2)) n) t
theorem Tr.get_even (v : AO) (l r : Tr) (m : Nat) (h : m % 2 = 0) : (Tr.node v l r).get (m + 1) = l.get (m / 2) := by
  show Nat.rec (motive := fun _ => Option AO) _ _ (m % 2) = _
  rw [h]; rfl
theorem Tr.get_odd (v : AO) (l r : Tr) (m : Nat) (h : m % 2 = 1) : (Tr.node v l r).get (m + 1) = r.get (m / 2) := by
  show Nat.rec (motive := fun _ => Option AO) _ _ (m % 2) = _
  rw [h]; rfl
theorem Tr.set_even (v : AO) (l r : Tr) (m : Nat) (x : AO) (h : m % 2 = 0) : (Tr.node v l r).set (m + 1) x = .node v (l.set (m / 2) x) r := by
  show Nat.rec (motive := fun _ => Tr) _ _ (m % 2) = _
  rw [h]; rfl
theorem Tr.set_odd (v : AO) (l r : Tr) (m : Nat) (x : AO) (h : m % 2 = 1) : (Tr.node v l r).set (m + 1) x = .node v l (r.set (m / 2) x) := by
  show Nat.rec (motive := fun _ => Tr) _ _ (m % 2) = _
  rw [h]; rfl
theorem Tr.get_set_ne : ∀ (t : Tr) (n m : Nat) (x : AO), m ≠ n → (t.set n x).get m = t.get m
  | .tip, 0, 0, x, h => absurd rfl h
  | .tip, 0, m + 1, x, h => by
    show (Tr.node x .tip .tip).get (m + 1) = none
    rcases par m with hp | hp
    · rw [Tr.get_even _ _ _ _ hp]; rfl
    · rw [Tr.get_odd _ _ _ _ hp]; rfl
  | .tip, n + 1, m, x, h => rfl
  | .node v l r, 0, 0, x, h => absurd rfl h
  | .node v l r, 0, k + 1, x, h => by
    show (Tr.node x l r).get (k + 1) = _
    rcases par k with hp | hp
    · rw [Tr.get_even _ _ _ _ hp, Tr.get_even _ _ _ _ hp]
    · rw [Tr.get_odd _ _ _ _ hp, Tr.get_odd _ _ _ _ hp]
  | .node v l r, m + 1, 0, x, h => by
    rcases par m with hp | hp
    · rw [Tr.set_even _ _ _ _ _ hp]; rfl
    · rw [Tr.set_odd _ _ _ _ _ hp]; rfl
  | .node v l r, m + 1, k + 1, x, h => by
    rcases par m with hp | hp <;> rcases par k with hq | hq
    · rw [Tr.set_even _ _ _ _ _ hp, Tr.get_even _ _ _ _ hq, Tr.get_even _ _ _ _ hq]; exact Tr.get_set_ne _ _ _ _ (by omega)
    · rw [Tr.set_even _ _ _ _ _ hp, Tr.get_odd _ _ _ _ hq, Tr.get_odd _ _ _ _ hq]
    · rw [Tr.set_odd _ _ _ _ _ hp, Tr.get_even _ _ _ _ hq, Tr.get_even _ _ _ _ hq]
    · rw [Tr.set_odd _ _ _ _ _ hp, Tr.get_odd _ _ _ _ hq, Tr.get_odd _ _ _ _ hq]; exact Tr.get_set_ne _ _ _ _ (by omega)
theorem Tr.get_set_eq : ∀ (t : Tr) (n : Nat) (x : AO), (t.get n).isSome = true → (t.set n x).get n = some x
  | .tip, n, x, h => by cases h
  | .node v l r, 0, x, h => rfl
  | .node v l r, m + 1, x, h => by
    rcases par m with hp | hp
    · rw [Tr.get_even _ _ _ _ hp] at h
      rw [Tr.set_even _ _ _ _ _ hp, Tr.get_even _ _ _ _ hp]; exact Tr.get_set_eq _ _ _ h
    · rw [Tr.get_odd _ _ _ _ hp] at h
      rw [Tr.set_odd _ _ _ _ _ hp, Tr.get_odd _ _ _ _ hp]; exact Tr.get_set_eq _ _ _ h
theorem Tr.set_new : ∀ (t : Tr) (n : Nat) (x y : AO), (t.set n x).get n = some y → y = x
  | .tip, 0, x, y, h => by cases h; rfl
  | .tip, n + 1, x, y, h => by cases h
  | .node v l r, 0, x, y, h => by cases h; rfl
  | .node v l r, m + 1, x, y, h => by
    rcases par m with hp | hp
    · rw [Tr.set_even _ _ _ _ _ hp, Tr.get_even _ _ _ _ hp] at h; exact Tr.set_new _ _ _ _ h
    · rw [Tr.set_odd _ _ _ _ _ hp, Tr.get_odd _ _ _ _ hp] at h; exact Tr.set_new _ _ _ _ h
structure AH where
  size : Nat
  t : Tr
def AH.get (H : AH) (b : Nat) : Option AO :=
  AH.rec (motive := fun _ => Option AO) (fun s t => Nat.rec (motive := fun _ => Option AO) none (fun _ _ => t.get b) (Nat.sub s b)) H
theorem AH.get_eq (H : AH) (b : Nat) : H.get b = if b < H.size then H.t.get b else none := by
  obtain ⟨s, t⟩ := H
  show Nat.rec (motive := fun _ => Option AO) none (fun _ _ => t.get b) (s - b) = if b < s then t.get b else none
  by_cases h : b < s
  · obtain ⟨q, hq⟩ : ∃ q, s - b = q + 1 := ⟨s - b - 1, by omega⟩
    rw [hq, if_pos h]
  · rw [show s - b = 0 by omega, if_neg h]; rfl
def AH.set (H : AH) (b : Nat) (o : AO) : AH := match H with | ⟨s, t⟩ => ⟨s, t.set b o⟩
def AH.push (H : AH) (o : AO) : Option AH :=
  let t := H.t.set H.size o
  match t.get H.size with
  | some _ => some ⟨H.size + 1, t⟩
  | none => none
theorem AH.get_lt {H : AH} {b : Nat} {o : AO} (h : H.get b = some o) : b < H.size := by
  rw [AH.get_eq] at h; split at h
  · assumption
  · cases h
theorem AH.get_set {H : AH} {b : Nat} {o o' : AO} (h : H.get b = some o) (c : Nat) : (H.set b o').get c = if c = b then some o' else H.get c := by
  have hl := AH.get_lt h
  rw [AH.get_eq] at h
  rw [AH.get_eq, AH.get_eq]
  obtain ⟨s, t⟩ := H
  simp only [AH.set] at h hl ⊢
  rw [if_pos hl] at h
  by_cases hc : c = b
  · subst hc; simp only [hl, if_true]; exact Tr.get_set_eq t _ o' (by rw [h]; rfl)
  · rw [if_neg hc, Tr.get_set_ne _ _ _ _ hc]; rfl
theorem AH.get_push {H H' : AH} {o : AO} (h : H.push o = some H') (c : Nat) : c ≠ H.size → H'.get c = H.get c := by
  intro hc
  unfold AH.push at h
  simp only at h
  split at h
  · cases h
    rw [AH.get_eq, AH.get_eq]
    simp only
    rw [Tr.get_set_ne _ _ _ _ hc]
    by_cases h1 : c < H.size
    · rw [if_pos h1, if_pos (by omega)]
    · rw [if_neg h1, if_neg (by omega)]
  · cases h
theorem AH.push_size {H H' : AH} {o : AO} (h : H.push o = some H') : H'.size = H.size + 1 := by
  unfold AH.push at h
  simp only at h
  split at h
  · cases h; rfl
  · cases h
theorem AH.push_new {H H' : AH} {o : AO} (h : H.push o = some H') : H'.get H.size = some o := by
  unfold AH.push at h
  simp only at h
  split at h
  · rename_i y hy
    cases h
    rw [AH.get_eq]
    simp only
    rw [if_pos (Nat.lt_succ_self _), hy, Tr.set_new _ _ _ _ hy]
  · cases h
end
end Go.Proofs.YtlmglnobdcgbeaaGreat.D
namespace Go.Proofs.YtlmglnobdcgbeaaGreat.D
open Go Go.RowKit
noncomputable section
def callE (c : Call) : Bool :=
  match c.callee with
  | .builtin .len | .builtin .cap | .builtin .max | .builtin .min => false
  | _ => true
def isETab : Op → Bool := Op.rec (motive := fun _ => Bool) (fun _ => false) (fun _ => true) (fun _ _ _ => false) (fun _ => false) (fun _ _ => false) (fun _ _ => false) (fun _ _ _ => false) (fun _ _ _ _ => true) (fun _ _ => false) (fun _ _ _ => true) (fun _ => true) (fun _ => true) (fun _ => false) (fun _ _ _ _ _ => false) (fun _ _ _ => false) (fun _ _ _ => false) (fun _ _ => true) (fun _ _ => false) (fun _ _ _ => false) (fun _ _ => false) (fun _ _ => true) (fun _ _ _ => false) (fun _ _ _ _ _ => false) (fun _ _ _ => false) (fun _ _ _ => false) (fun _ _ _ => false) (fun _ _ _ => false) (fun _ _ _ _ => false) (fun _ _ _ _ => true) (fun _ _ _ => true) (fun _ _ _ _ => true) (fun _ _ => true) (fun _ _ => true) (fun _ => true) (fun _ _ _ _ => false) (fun _ _ => false) (fun c => callE c) (fun _ => true) (fun _ => true) (fun _ => true) (fun _ _ => true) (fun _ _ _ => true) (fun _ _ => true)
def isE (o : Oper) : Bool := isETab o.op
def depB (o : Oper) (j : Nat) : Bool := o.after.toList.any fun e => Region.binds .any e && decide (e.on = j)
def regOk (ops : Array Oper) : Bool :=
  (List.range ops.size).all fun i => match ops[i]? with
    | none => true
    | some o => o.after.toList.all (fun e => !Region.binds .any e || decide (e.on < i)) &&
      (List.range ops.size).all fun j => match ops[j]? with
        | none => true
        | some oj => isE oj || (match oj.dst with
          | none => true
          | some d => !(o.looksAt ops).contains d || (!decide (j = i) && depB o j))
def codeOk : Code → Bool
  | .region _ ops d => !d || regOk ops
  | .seq a b => codeOk a && codeOk b
  | .cond _ a b => codeOk a && codeOk b
  | .block _ a => codeOk a
  | .loop a => codeOk a
  | .rangeFunc _ _ a b => codeOk a && codeOk b
  | .scope a => codeOk a
  | _ => true
theorem regOk_before {ops : Array Oper} (h : regOk ops = true) {i : Nat} {o : Oper} (ho : ops[i]? = some o) : ∀ e ∈ o.after, Region.binds .any e = true → e.on < i := by
  intro e he hb
  have hlt : i < ops.size := (Array.getElem?_eq_some_iff.1 ho).1
  have := List.all_eq_true.1 h i (List.mem_range.2 hlt)
  rw [ho] at this
  simp only [Bool.and_eq_true] at this
  have h2 := List.all_eq_true.1 this.1 e (by simpa using he)
  simp [hb] at h2
  exact h2
theorem regOk_reads {ops : Array Oper} (h : regOk ops = true) {i j : Nat} {o oj : Oper} {d : Tmp} (ho : ops[i]? = some o) (hj : ops[j]? = some oj) (hE : isE oj = false) (hd : oj.dst = some d) (hl : d ∈ o.looksAt ops) : j ≠ i ∧ depB o j = true := by
  have hlt : i < ops.size := (Array.getElem?_eq_some_iff.1 ho).1
  have hlj : j < ops.size := (Array.getElem?_eq_some_iff.1 hj).1
  have := List.all_eq_true.1 h i (List.mem_range.2 hlt)
  rw [ho] at this
  simp only [Bool.and_eq_true] at this
  have h2 := List.all_eq_true.1 this.2 j (List.mem_range.2 hlj)
  rw [hj] at h2
  simp only [hE, hd, Bool.false_or] at h2
  simp [hl] at h2
  exact h2
theorem depB_iff {o : Oper} {j : Nat} (h : depB o j = true) : ∃ e ∈ o.after, Region.binds .any e = true ∧ e.on = j := by
  unfold depB at h
  obtain ⟨e, he, hb⟩ := List.any_eq_true.1 h
  simp at hb
  exact ⟨e, by simpa using he, hb.1, hb.2⟩
end
end Go.Proofs.YtlmglnobdcgbeaaGreat.D
namespace Go.Proofs.YtlmglnobdcgbeaaGreat.D
open Go Go.RowKit
noncomputable section
def esz (P : Program) (t : TypeId) : Nat := match P.info? t with | some i => i.size | none => 0
def ES (φ : Phi) : List (AV × AV × Nat) → List MapEntry → Prop
  | [], l => l = []
  | (k, v, b) :: es, l => ∃ e rest, l = e :: rest ∧ VR φ k e.key ∧ VR φ v e.val ∧ e.born = b ∧ ES φ es rest
theorem ES.mono {φ ψ : Phi} (h : φ.le ψ) : ∀ {es : List (AV × AV × Nat)} {l : List MapEntry}, ES φ es l → ES ψ es l
  | [], _, hv => hv
  | (_, _, _) :: _, _, ⟨e, r, h1, h2, h3, h4, h5⟩ => ⟨e, r, h1, h2.mono h, h3.mono h, h4, ES.mono h h5⟩
structure TR (φ : Phi) (n : Nat) (t : TT) (tm : Array Value) : Prop where
  size : tm.size = n
  le : n ≤ 1000
  get : ∀ i, VR φ (t.get i) (tm.getD i undef)
theorem TR.mono {φ ψ : Phi} (h : φ.le ψ) {n : Nat} {t : TT} {tm : Array Value} (hv : TR φ n t tm) : TR ψ n t tm := ⟨hv.size, hv.le, fun i => (hv.get i).mono h⟩
def OR (P : Program) (φ : Phi) (m : Nat) : AO → Obj → Prop
  | .cells cs elem md, o => ∃ (xs : Array Value) (fz : Nat × Nat), o = .cells xs elem fz ∧ (∀ i, i < xs.size → ¬ (fz.1 ≤ i ∧ i < fz.2)) ∧
      VRs φ cs (xs.toList.take cs.length) ∧ (md ≠ .grow → xs.size = cs.length) ∧ (md = .grow → xs.size = m * esz P elem)
  | .map es clock, o => ∃ es' : Array MapEntry, o = .map es' clock ∧ ES φ es es'.toList
  | .loop r, o => ∃ (fn : FuncId) (tm : Array Value) (d m' : Nat), φ r.defers = some (d, m') ∧
      o = .loop { state := r.state, pending := r.pending, fn, tmps := tm, params := r.params, assign := r.assign, body := r.body, defers := d } ∧ TR φ r.n r.tmps tm ∧ codeOk r.assign = true ∧ codeOk r.body = true
  | .defd b, o => o = .deferred (if b then some [] else none)
  | .sIter s p, o => o = .stringIter s p
  | .dead, _ => True
theorem OR.mono {P : Program} {φ ψ : Phi} (h : φ.le ψ) {m : Nat} {ao : AO} {o : Obj} (hv : OR P φ m ao o) : OR P ψ m ao o := by
  cases ao with
  | cells cs elem md => obtain ⟨xs, fz, h1, h2, h3, h4⟩ := hv; exact ⟨xs, fz, h1, h2, h3.mono h, h4⟩
  | map es clock => obtain ⟨es', h1, h2⟩ := hv; exact ⟨es', h1, h2.mono h⟩
  | loop r => obtain ⟨fn, tm, d, m', h1, h2, h3⟩ := hv; exact ⟨fn, tm, d, m', h _ _ h1, h2, h3.1.mono h, h3.2⟩
  | defd b => exact hv
  | sIter s p => exact hv
  | dead => trivial
abbrev Glob := Nat → Option (Array Value)
def GlobAt (w : World) (g : Nat) (vs : Array Value) : Prop := ∃ (xs : Array Value) (e : TypeId) (fz : Nat × Nat), w.heap[g]? = some (.cells xs e fz) ∧ xs.toList.take vs.size = vs.toList
theorem GlobAt.of {w v : World} {g : Nat} {vs : Array Value} (h : GlobAt w g vs) (e : v.heap[g]? = w.heap[g]?) : GlobAt v g vs := let ⟨xs, t, fz, h1, h2⟩ := h; ⟨xs, t, fz, by rw [e]; exact h1, h2⟩
structure R (P : Program) (G : Glob) (n0 : Nat) (φ : Phi) (H : AH) (w : World) : Prop where
  obj : ∀ b c m, φ b = some (c, m) → ∃ ao o, H.get b = some ao ∧ w.heap[c]? = some o ∧ OR P φ m ao o ∧ (n0 ≤ c ∨ ∃ cs e, ao = .cells cs e .ro)
  inj : ∀ b b' c m m', φ b = some (c, m) → φ b' = some (c, m') → H.get b ≠ some .dead → H.get b' ≠ some .dead → b = b'
  low : n0 ≤ w.heap.size
  glob : ∀ g vs, G g = some vs → GlobAt w g vs ∧ g < n0
structure Sim (P : Program) (G : Glob) (n0 : Nat) (φ : Phi) (H : AH) (w : World) (ψ : Phi) (K : AH) (v : World) : Prop where
  le : φ.le ψ
  new : ∀ b, φ b = none → b < H.size → ψ b = none
  sz : H.size ≤ K.size
  r : R P G n0 ψ K v
  bel : Below n0 w v
section
variable {P : Program} {G : Glob} {n0 : Nat} {φ ψ χ : Phi} {H K L : AH} {w v u : World}
theorem Sim.refl (h : R P G n0 φ H w) : Sim P G n0 φ H w φ H w := ⟨Phi.le_refl _, fun _ h _ => h, Nat.le_refl _, h, Below.refl _ _⟩
theorem Sim.trans (h : Sim P G n0 φ H w ψ K v) (k : Sim P G n0 ψ K v χ L u) : Sim P G n0 φ H w χ L u :=
  ⟨Phi.le_trans h.le k.le, fun b hb hs => k.new b (h.new b hb hs) (Nat.lt_of_lt_of_le hs h.sz), Nat.le_trans h.sz k.sz, k.r, h.bel.trans k.bel⟩
structure SameHeap (w v : World) : Prop where
  heap : v.heap = w.heap
  os : v.os = w.os
  tape : v.tape = w.tape
  output : v.output = w.output
theorem SameHeap.refl (w : World) : SameHeap w w := ⟨rfl, rfl, rfl, rfl⟩
theorem SameHeap.drew (w : World) : SameHeap w { w with drawn := w.drawn + 1 } := ⟨rfl, rfl, rfl, rfl⟩
theorem R.same (h : R P G n0 φ H w) (s : SameHeap w v) : R P G n0 φ H v :=
  ⟨fun b c m hb => by rw [s.heap]; exact h.obj b c m hb, h.inj, by rw [s.heap]; exact h.low, fun g vs hg => let ⟨h1, h2⟩ := h.glob g vs hg; ⟨h1.of (by rw [s.heap]), h2⟩⟩
theorem SameHeap.below (s : SameHeap w v) (B : Nat) : Below B w v := ⟨s.os, s.tape, s.output, by rw [s.heap]; exact Nat.le_refl _, fun k _ => by rw [s.heap]⟩
theorem Sim.same (h : R P G n0 φ H w) (s : SameHeap w v) : Sim P G n0 φ H w φ H v := ⟨Phi.le_refl _, fun _ h _ => h, Nat.le_refl _, h.same s, s.below _⟩
theorem R.lt (h : R P G n0 φ H w) {b c m : Nat} (hb : φ b = some (c, m)) : b < H.size ∧ c < w.heap.size := by
  obtain ⟨ao, o, h1, h2, _⟩ := h.obj b c m hb
  exact ⟨AH.get_lt h1, (Array.getElem?_eq_some_iff.1 h2).1⟩
theorem R.none_ge (h : R P G n0 φ H w) {b : Nat} (hb : H.size ≤ b) : φ b = none := by
  cases hp : φ b with
  | none => rfl
  | some x => exact absurd (h.lt (c := x.1) (m := x.2) hp).1 (by omega)
structure Upd (w : World) (c : Nat) (o : Obj) (v : World) : Prop where
  at_ : v.heap[c]? = some o
  other : ∀ k, k ≠ c → v.heap[k]? = w.heap[k]?
  size : v.heap.size = w.heap.size
  os : v.os = w.os
  tape : v.tape = w.tape
  output : v.output = w.output
theorem Upd.below {c : Nat} {o : Obj} (h : Upd w c o v) (hc : n0 ≤ c) : Below n0 w v :=
  ⟨h.os, h.tape, h.output, by rw [h.size]; exact Nat.le_refl _, fun k hk => h.other k (by omega)⟩
theorem Upd.putObj {c : Nat} (o : Obj) (hc : c < w.heap.size) : Upd w c o (w.putObj c o) :=
  ⟨World.putObj_heap_same hc, fun k hk => World.putObj_heap_other hk, World.putObj_size, rfl, rfl, rfl⟩
theorem R.set (h : R P G n0 φ H w) {b c m : Nat} {ao ao' : AO} {o : Obj} (hb : φ b = some (c, m)) (hg : H.get b = some ao) (hd : ao ≠ .dead) (hro : ∀ cs e, ao ≠ .cells cs e .ro)
    (ho : OR P φ m ao' o) (hu : Upd w c o v) : Sim P G n0 φ H w φ (H.set b ao') v := by
  have hc : n0 ≤ c := by
    obtain ⟨ao₁, o₁, h1, _, _, h4⟩ := h.obj b c m hb
    rw [hg] at h1; cases h1
    rcases h4 with h4 | ⟨cs, e, h4⟩
    · exact h4
    · exact absurd h4 (hro cs e)
  refine ⟨Phi.le_refl _, fun _ h _ => h, Nat.le_refl _, ⟨?_, ?_, by rw [hu.size]; exact h.low, ?_⟩, hu.below hc⟩
  · intro b' c' m' hb'
    by_cases hbb : b' = b
    · subst hbb
      rw [hb] at hb'; cases hb'
      exact ⟨ao', o, by rw [AH.get_set hg, if_pos rfl], hu.at_, ho, .inl hc⟩
    · obtain ⟨ao₁, o₁, h1, h2, h3, h4⟩ := h.obj b' c' m' hb'
      by_cases hcc : c' = c
      · subst hcc
        have : H.get b' = some .dead := by
          apply Classical.byContradiction
          intro hn
          exact hbb (h.inj b' b c' m' m hb' hb hn (by rw [hg]; intro e; cases e; exact hd rfl))
        rw [this] at h1; cases h1
        exact ⟨.dead, o, by rw [AH.get_set hg, if_neg hbb, this], hu.at_, trivial, .inl hc⟩
      · exact ⟨ao₁, o₁, by rw [AH.get_set hg, if_neg hbb]; exact h1, by rw [hu.other _ hcc]; exact h2, h3, h4⟩
  · intro b₁ b₂ c' m₁ m₂ h1 h2 hn1 hn2
    refine h.inj b₁ b₂ c' m₁ m₂ h1 h2 ?_ ?_
    · rw [AH.get_set hg] at hn1
      by_cases e : b₁ = b
      · subst e; rw [hg]; intro e; cases e; exact hd rfl
      · rw [if_neg e] at hn1; exact hn1
    · rw [AH.get_set hg] at hn2
      by_cases e : b₂ = b
      · subst e; rw [hg]; intro e; cases e; exact hd rfl
      · rw [if_neg e] at hn2; exact hn2
  · intro g vs hgv
    obtain ⟨he, hlt⟩ := h.glob g vs hgv
    exact ⟨he.of (hu.other g (by omega)), hlt⟩
theorem R.kill (h : R P G n0 φ H w) {b c m : Nat} {ao : AO} (hb : φ b = some (c, m)) (hg : H.get b = some ao) (hro : ∀ cs e, ao ≠ .cells cs e .ro) : Sim P G n0 φ H w φ (H.set b .dead) w := by
  refine ⟨Phi.le_refl _, fun _ h _ => h, Nat.le_refl _, ⟨?_, ?_, h.low, h.glob⟩, Below.refl _ _⟩
  · intro b' c' m' hb'
    obtain ⟨ao₁, o₁, h1, h2, h3, h4⟩ := h.obj b' c' m' hb'
    by_cases hbb : b' = b
    · subst hbb
      rw [hg] at h1; cases h1
      refine ⟨.dead, o₁, by rw [AH.get_set hg, if_pos rfl], h2, trivial, ?_⟩
      rcases h4 with h4 | ⟨cs, e, h4⟩
      · exact .inl h4
      · exact absurd h4 (hro cs e)
    · exact ⟨ao₁, o₁, by rw [AH.get_set hg, if_neg hbb]; exact h1, h2, h3, h4⟩
  · intro b₁ b₂ c' m₁ m₂ h1 h2 hn1 hn2
    refine h.inj b₁ b₂ c' m₁ m₂ h1 h2 ?_ ?_
    · rw [AH.get_set hg] at hn1
      by_cases e : b₁ = b
      · rw [if_pos e] at hn1; exact absurd rfl hn1
      · rw [if_neg e] at hn1; exact hn1
    · rw [AH.get_set hg] at hn2
      by_cases e : b₂ = b
      · rw [if_pos e] at hn2; exact absurd rfl hn2
      · rw [if_neg e] at hn2; exact hn2
theorem R.pushU (h : R P G n0 φ H w) {ao : AO} (hp : H.push ao = some K) : Sim P G n0 φ H w φ K w := by
  have hne : ∀ b x, φ b = some x → b ≠ H.size := fun b x hb => by have := (h.lt (c := x.1) (m := x.2) hb).1; omega
  refine ⟨Phi.le_refl _, fun _ h _ => h, by rw [AH.push_size hp]; omega, ⟨?_, ?_, h.low, h.glob⟩, Below.refl _ _⟩
  · intro b c m hb
    rw [AH.get_push hp b (hne _ _ hb)]
    exact h.obj b c m hb
  · intro b b' c m m' h1 h2
    rw [AH.get_push hp b (hne _ _ h1), AH.get_push hp b' (hne _ _ h2)]
    exact h.inj b b' c m m' h1 h2
def Phi.put (φ : Phi) (p : Nat) (x : Nat × Nat) : Phi := fun b => if b = p then some x else φ b
theorem Phi.put_same (φ : Phi) (p : Nat) (x : Nat × Nat) : φ.put p x p = some x := if_pos rfl
theorem Phi.le_put {φ : Phi} {p : Nat} (x : Nat × Nat) (h : φ p = none) : φ.le (φ.put p x) := fun b y hb => by
  unfold Phi.put
  by_cases e : b = p
  · subst e; rw [h] at hb; cases hb
  · rw [if_neg e]; exact hb
structure New (w : World) (o : Obj) (v : World) : Prop where
  heap : v.heap = w.heap.push o
  os : v.os = w.os
  tape : v.tape = w.tape
  output : v.output = w.output
theorem New.alloc (w : World) (o : Obj) : New w o (w.alloc o) := ⟨rfl, rfl, rfl, rfl⟩
theorem New.old {o : Obj} (h : New w o v) {k : Nat} (hk : k < w.heap.size) : v.heap[k]? = w.heap[k]? := by
  rw [h.heap, Array.getElem?_push, if_neg (by omega)]
theorem New.fresh {o : Obj} (h : New w o v) : v.heap[w.heap.size]? = some o := by rw [h.heap]; simp
theorem New.below {o : Obj} (h : New w o v) (hn : n0 ≤ w.heap.size) : Below n0 w v :=
  ⟨h.os, h.tape, h.output, by rw [h.heap]; simp, fun k hk => h.old (by omega)⟩
theorem R.late (h : R P G n0 φ H w) {p m : Nat} {ao : AO} {o : Obj} (hp : φ p = none) (hg : H.get p = some ao) (ho : OR P (φ.put p (w.heap.size, m)) m ao o) (hn : New w o v) :
    R P G n0 (φ.put p (w.heap.size, m)) H v ∧ Below n0 w v := by
  have hle := Phi.le_put (w.heap.size, m) hp
  refine ⟨⟨?_, ?_, by have := h.low; rw [hn.heap]; simp; omega, ?_⟩, hn.below h.low⟩
  · intro b c m' hb
    unfold Phi.put at hb
    by_cases e : b = p
    · subst e
      rw [if_pos rfl] at hb; cases hb
      exact ⟨ao, o, hg, hn.fresh, ho, .inl h.low⟩
    · rw [if_neg e] at hb
      obtain ⟨ao₁, o₁, h1, h2, h3, h4⟩ := h.obj b c m' hb
      exact ⟨ao₁, o₁, h1, by rw [hn.old (h.lt hb).2]; exact h2, h3.mono hle, h4⟩
  · intro b b' c m₁ m₂ h1 h2 hn1 hn2
    unfold Phi.put at h1 h2
    by_cases e : b = p
    · by_cases e' : b' = p
      · rw [e, e']
      · rw [if_pos e] at h1; rw [if_neg e'] at h2; cases h1
        exact absurd (h.lt h2).2 (by omega)
    · by_cases e' : b' = p
      · rw [if_neg e] at h1; rw [if_pos e'] at h2; cases h2
        exact absurd (h.lt h1).2 (by omega)
      · rw [if_neg e] at h1; rw [if_neg e'] at h2
        exact h.inj b b' c m₁ m₂ h1 h2 hn1 hn2
  · intro g vs hgv
    obtain ⟨he, hlt⟩ := h.glob g vs hgv
    exact ⟨he.of (hn.old (by have := h.low; omega)), hlt⟩
theorem R.push (h : R P G n0 φ H w) {m : Nat} {ao : AO} {o : Obj} (hp : H.push ao = some K) (ho : OR P (φ.put H.size (w.heap.size, m)) m ao o) (hn : New w o v) :
    Sim P G n0 φ H w (φ.put H.size (w.heap.size, m)) K v := by
  have h1 := h.pushU hp
  have hnone : φ H.size = none := h.none_ge (Nat.le_refl _)
  obtain ⟨h2, h3⟩ := h1.r.late hnone (AH.push_new hp) ho hn
  refine ⟨Phi.le_put _ hnone, fun b hb hs => ?_, h1.sz, h2, h3⟩
  unfold Phi.put
  rw [if_neg (by omega)]; exact hb
theorem R.move (h : R P G n0 φ H w) {b c m : Nat} {ao ao' : AO} {o : Obj} (hb : φ b = some (c, m)) (hg : H.get b = some ao) (hd : ao ≠ .dead) (hro : ∀ cs e, ao ≠ .cells cs e .ro)
    (hp : (H.set b .dead).push ao' = some K) (ho : OR P φ m ao' o) (hu : Upd w c o v) : Sim P G n0 φ H w (φ.put H.size (c, m)) K v := by
  have hc : n0 ≤ c := by
    obtain ⟨ao₁, o₁, h1, _, _, h4⟩ := h.obj b c m hb
    rw [hg] at h1; cases h1
    rcases h4 with h4 | ⟨cs, e, h4⟩
    · exact h4
    · exact absurd h4 (hro cs e)
  have hnone : φ H.size = none := h.none_ge (Nat.le_refl _)
  have hle := Phi.le_put (c, m) hnone
  have hbs : b < H.size := AH.get_lt hg
  have hsz : (H.set b .dead).size = H.size := rfl
  have hnew : K.get H.size = some ao' := by have := AH.push_new hp; rwa [hsz] at this
  have hold : ∀ x, x ≠ H.size → x ≠ b → K.get x = H.get x := fun x hx hxb => by
    rw [AH.get_push hp x (by rw [hsz]; exact hx), AH.get_set hg, if_neg hxb]
  have hdead : K.get b = some .dead := by rw [AH.get_push hp b (by rw [hsz]; omega), AH.get_set hg, if_pos rfl]
  refine ⟨hle, fun x hx hs => ?_, by rw [AH.push_size hp, hsz]; omega, ⟨?_, ?_, by rw [hu.size]; exact h.low, ?_⟩, hu.below hc⟩
  · unfold Phi.put; rw [if_neg (by omega)]; exact hx
  · intro x c' m' hx
    unfold Phi.put at hx
    by_cases e : x = H.size
    · rw [if_pos e] at hx; cases hx; subst e
      exact ⟨ao', o, hnew, hu.at_, ho.mono hle, .inl hc⟩
    · rw [if_neg e] at hx
      obtain ⟨ao₁, o₁, h1, h2, h3, h4⟩ := h.obj x c' m' hx
      by_cases hxb : x = b
      · subst hxb
        rw [hb] at hx; cases hx
        exact ⟨.dead, o, hdead, hu.at_, trivial, .inl hc⟩
      · by_cases hcc : c' = c
        · subst hcc
          have : H.get x = some .dead := by
            apply Classical.byContradiction
            intro hn
            exact hxb (h.inj x b c' m' m hx hb hn (by rw [hg]; intro e; cases e; exact hd rfl))
          exact ⟨.dead, o, by rw [hold x e hxb, this], hu.at_, trivial, .inl hc⟩
        · exact ⟨ao₁, o₁, by rw [hold x e hxb]; exact h1, by rw [hu.other _ hcc]; exact h2, h3.mono hle, h4⟩
  · have key : ∀ x c' m', (φ.put H.size (c, m)) x = some (c', m') → K.get x ≠ some .dead → x ≠ b := fun x c' m' _ hn e => by subst e; exact hn hdead
    intro x y c' m₁ m₂ h1 h2 hn1 hn2
    have hxb := key x _ _ h1 hn1
    have hyb := key y _ _ h2 hn2
    unfold Phi.put at h1 h2
    by_cases e : x = H.size
    · by_cases e' : y = H.size
      · rw [e, e']
      · rw [if_pos e] at h1; rw [if_neg e'] at h2; cases h1
        rw [hold y e' hyb] at hn2
        exact absurd (h.inj y b c m₂ m h2 hb hn2 (by rw [hg]; intro e; cases e; exact hd rfl)) hyb
    · by_cases e' : y = H.size
      · rw [if_neg e] at h1; rw [if_pos e'] at h2; cases h2
        rw [hold x e hxb] at hn1
        exact absurd (h.inj x b c m₁ m h1 hb hn1 (by rw [hg]; intro e; cases e; exact hd rfl)) hxb
      · rw [if_neg e] at h1; rw [if_neg e'] at h2
        rw [hold x e hxb] at hn1
        rw [hold y e' hyb] at hn2
        exact h.inj x y c' m₁ m₂ h1 h2 hn1 hn2
  · intro g vs hgv
    obtain ⟨he, hlt⟩ := h.glob g vs hgv
    exact ⟨he.of (hu.other g (by omega)), hlt⟩
end
end
end Go.Proofs.YtlmglnobdcgbeaaGreat.D
namespace Go.Proofs.YtlmglnobdcgbeaaGreat.D
open Go Go.RowKit
noncomputable section
def calm {α : Type} (P : Program) : Sem α → Option α
  | .pure a => some a
  | .program k => calm P (k P)
  | _ => none
theorem calm_run {α : Type} {P : Program} : ∀ {s : Sem α} {a : α}, calm P s = some a → ∀ w, s.run P w = .ok a w := by
  intro s
  induction s with
  | pure a => intro b h w; simp [calm] at h; subst h; rfl
  | program k ih => intro b h w; exact ih P h w
  | _ => intro b h; simp [calm] at h
def AV.one : AV → Bool
  | .any | .agg _ | .tuple _ => false
  | .lit v => v.oneCell'
  | _ => true
theorem AV.one_sound {φ : Phi} {a : AV} {v : Value} (h : a.one = true) (hv : VR φ a v) : v.oneCell' = true := by
  cases a with
  | any => cases h
  | lit u => cases hv; exact h
  | ptr b o => obtain ⟨c, m, _, rfl⟩ := hv; rfl
  | gptr g o => cases hv; rfl
  | slice b o n cap => obtain ⟨c, m, k, _, rfl, _⟩ := hv; rfl
  | empty => obtain ⟨a, k, rfl⟩ := hv; rfl
  | map b => obtain ⟨c, m, _, rfl⟩ := hv; rfl
  | func fn xs ys => obtain ⟨as_, bs, rfl, _⟩ := hv; rfl
  | yield l => obtain ⟨c, m, _, rfl⟩ := hv; rfl
  | iface t a => obtain ⟨y, rfl, _⟩ := hv; rfl
  | agg cs => cases h
  | tuple cs => cases h
def AV.parts : AV → Option (List AV)
  | .any | .tuple _ => none
  | .lit v => some (v.cells.toList.map .lit)
  | .agg cs => some cs
  | a => some [a]
theorem AV.parts_sound {φ : Phi} {a : AV} {cs : List AV} {v : Value} (h : a.parts = some cs) (hv : VR φ a v) : VRs φ cs v.cells.toList := by
  cases a with
  | any => cases h
  | tuple _ => cases h
  | lit u => cases h; cases hv; exact VRs.lits _
  | agg ds => cases h; obtain ⟨as_, rfl, h2⟩ := hv; exact h2
  | ptr b o => cases h; have hv' := hv; obtain ⟨c, m, _, rfl⟩ := hv; exact VRs.cons hv' VRs.nil
  | gptr g o => cases h; have hv' := hv; cases hv; exact VRs.cons hv' VRs.nil
  | slice b o n cap => cases h; have hv' := hv; obtain ⟨c, m, k, _, rfl, _⟩ := hv; exact VRs.cons hv' VRs.nil
  | empty => cases h; have hv' := hv; obtain ⟨a, k, rfl⟩ := hv; exact VRs.cons hv' VRs.nil
  | map b => cases h; have hv' := hv; obtain ⟨c, m, _, rfl⟩ := hv; exact VRs.cons hv' VRs.nil
  | func fn xs ys => cases h; have hv' := hv; obtain ⟨as_, bs, rfl, _⟩ := hv; exact VRs.cons hv' VRs.nil
  | yield l => cases h; have hv' := hv; obtain ⟨c, m, _, rfl⟩ := hv; exact VRs.cons hv' VRs.nil
  | iface t a => cases h; have hv' := hv; obtain ⟨y, rfl, _⟩ := hv; exact VRs.cons hv' VRs.nil
def setMany {α : Type} : List α → Nat → List α → List α
  | l, _, [] => l
  | l, o, x :: xs => setMany (l.set o x) (o + 1) xs
theorem setMany_VRs {φ : Phi} : ∀ (cs : List AV) (xs : List Value) (as_ : List AV) (l : List Value) (o : Nat), VRs φ cs xs → VRs φ as_ l → VRs φ (setMany as_ o cs) (setMany l o xs)
  | [], _, as_, l, o, h, hl => by cases h; exact hl
  | c :: cs, _, as_, l, o, ⟨x, xs, h1, h2, h3⟩, hl => by subst h1; exact setMany_VRs cs xs _ _ _ h3 (hl.set o h2)
theorem setMany_length {α : Type} : ∀ (xs : List α) (l : List α) (o : Nat), (setMany l o xs).length = l.length
  | [], _, _ => rfl
  | x :: xs, l, o => by rw [setMany, setMany_length xs]; simp
theorem foldl_setMany (o : Nat) : ∀ (xs : List Value) (k : Nat) (arr : Array Value),
    ((xs.zipIdx k).foldl (fun cs (p : Value × Nat) => cs.setIfInBounds (o + p.2) p.1) arr).toList = setMany arr.toList (o + k) xs
  | [], _, _ => rfl
  | x :: xs, k, arr => by
    rw [List.zipIdx_cons, List.foldl_cons, foldl_setMany o xs (k + 1)]
    simp only [setMany, Array.toList_setIfInBounds]
    rw [Nat.add_assoc]
def fillA (place : Nat → Option (Nat × Nat)) (cells : List AV) : List (Nat × AV) → Option (List AV)
  | [] => some cells
  | (i, a) :: rest =>
    match place i, a.parts with
    | some (off, size), some cs => if cs.length ≠ size || off + cs.length > cells.length then none else fillA place (setMany cells off cs) rest
    | _, _ => none
theorem fillA_sound {φ : Phi} {place : Nat → Option (Nat × Nat)} : ∀ (ps : List (Nat × AV)) (qs : List (Nat × Value)) (cells : List AV) (arr : Array Value) (out : List AV),
    fillA place cells ps = some out → VRs φ cells arr.toList → ps.map (·.1) = qs.map (·.1) → VRs φ (ps.map (·.2)) (qs.map (·.2)) → ∃ arr', Instr.fill place arr qs = some arr' ∧ VRs φ out arr'.toList
  | [], [], cells, arr, out, h, hc, _, _ => by simp [fillA] at h; subst h; exact ⟨arr, rfl, hc⟩
  | [], _ :: _, _, _, _, _, _, h, _ => by simp at h
  | _ :: _, [], _, _, _, _, _, h, _ => by simp at h
  | (i, a) :: ps, (j, v) :: qs, cells, arr, out, h, hc, hi, hv => by
    simp only [List.map_cons, List.cons.injEq] at hi hv
    obtain ⟨rfl, hi⟩ := hi
    obtain ⟨x, xs, hx, hv1, hv2⟩ := hv
    cases hx
    simp only [fillA] at h
    split at h
    case h_2 => cases h
    rename_i off size cs hp hcs
    split at h
    · cases h
    rename_i hn
    have hvc := AV.parts_sound hcs hv1
    have hlen := hvc.length
    have hlc := hc.length
    simp only [Array.length_toList] at hlen hlc
    simp only [Bool.or_eq_true, decide_eq_true_eq, not_or, bne_iff_ne, ne_eq, Decidable.not_not, Nat.not_lt] at hn
    simp only [Instr.fill, hp]
    rw [if_neg (by simp only [Bool.or_eq_true, decide_eq_true_eq, not_or, bne_iff_ne, ne_eq, Decidable.not_not]; omega)]
    refine fillA_sound ps qs _ _ out h ?_ hi hv2
    have he := foldl_setMany off v.cells.toList 0 arr
    rw [Nat.add_zero] at he
    have : (v.cells.zipIdx.foldl (fun (cs : Array Value) (p : Value × Nat) => cs.setIfInBounds (off + p.2) p.1) arr).toList = setMany arr.toList off v.cells.toList := by
      rw [← he, ← Array.foldl_toList, Array.toList_zipIdx]
    rw [show (v.cells.zipIdx.foldl (fun (cs : Array Value) (x : Value × Nat) => match x with | (c, j) => cs.setIfInBounds (off + j) c) arr) = (v.cells.zipIdx.foldl (fun (cs : Array Value) (p : Value × Nat) => cs.setIfInBounds (off + p.2) p.1) arr) from rfl, this]
    exact setMany_VRs _ _ _ _ _ hvc hc
def isRowB (P : Program) (t : TypeId) : Option Bool :=
  match P.underlying t with
  | some (.struct _) | some (.array _ _) => some true
  | some _ => some false
  | none => none
def sizeB (P : Program) (t : TypeId) : Option Nat := (P.info? t).map (·.size)
theorem run_isAgg {P : Program} {t : TypeId} {b : Bool} (h : isRowB P t = some b) (w : World) : (isAgg t).run P w = .ok b w := by
  unfold isRowB at h
  cases hu : P.underlying t with
  | none => simp [hu] at h
  | some d =>
    unfold isAgg
    rw [Sem.run_bind, run_underlying hu w]
    cases d <;> simp_all
theorem run_sizeB {P : Program} {t : TypeId} {n : Nat} (h : sizeB P t = some n) (w : World) : (sizeOf t).run P w = .ok n w := by
  unfold sizeB at h
  cases hi : P.info? t with
  | none => simp [hi] at h
  | some i => simp [hi] at h; simp [sizeOf, typeInfo, hi, h]
def partA (P : Program) (t : TypeId) (cs : List AV) (off : Nat) : Option AV :=
  match isRowB P t with
  | some true => match sizeB P t with
    | some n => some (.agg ((cs.drop off).take n))
    | none => none
  | some false => cs[off]?
  | none => none
theorem partA_sound {P : Program} {φ : Phi} {t : TypeId} {cs : List AV} {off : Nat} {r : AV} {arr : Array Value} (h : partA P t cs off = some r) (hv : VRs φ cs arr.toList) :
    ∃ v, VR φ r v ∧ ∀ w, (part t arr off).run P w = .ok v w := by
  unfold partA at h
  split at h
  · rename_i hb
    split at h
    · rename_i n hn
      cases h
      refine ⟨.agg (arr.extract off (off + n)), ⟨_, rfl, ?_⟩, fun w => ?_⟩
      · have := (hv.drop off).take n
        rw [Array.toList_extract]
        simpa using this
      · simp [part, run_isAgg hb w, run_sizeB hn w]
    · cases h
  · rename_i hb
    obtain ⟨x, hx, hvx⟩ := hv.get h
    refine ⟨x, hvx, fun w => ?_⟩
    have hx' : arr[off]? = some x := by simpa using hx
    simp [part, run_isAgg hb w, hx']
  · cases h
end
end Go.Proofs.YtlmglnobdcgbeaaGreat.D
namespace Go.Proofs.YtlmglnobdcgbeaaGreat.D
open Go Go.RowKit
noncomputable section
abbrev Ev := Operand → AV
def popFlat (P : Program) (ev : Ev) (o : Oper) : Option AV :=
  match o.op with
  | .select _ _ => none
  | _ => if o.op.operands.toList.all (fun x => (ev x).toV.isSome) then
      match calm P (execOp (fun x => (ev x).toV.getD undef) o) with
      | some (.value v) => some (.lit v)
      | _ => none
    else none
def Yld (P : Program) (φ : Phi) (ρ : Operand → Value) (o : Oper) (r : AV) : Prop := ∃ v, VR φ r v ∧ ∀ w, (execOp ρ o).run P w = .ok (.value v) w
section
variable {P : Program} {φ : Phi} {ev : Ev} {ρ : Operand → Value} {o : Oper} {r : AV}
theorem popFlat_sound (hev : ∀ x, VR φ (ev x) (ρ x)) (h : popFlat P ev o = some r) : Yld P φ ρ o r := by
  unfold popFlat at h
  have hsel : ∀ cs b, o.op ≠ .select cs b := by
    intro cs b e
    rw [e] at h
    cases h
  have h' : (if o.op.operands.toList.all (fun x => (ev x).toV.isSome) = true then
      match calm P (execOp (fun x => (ev x).toV.getD undef) o) with
      | some (.value v) => some (AV.lit v)
      | _ => none
    else none) = some r := by
    cases ho : o.op <;> rw [ho] at h <;> first | (exact h) | (cases h)
  clear h
  split at h'
  case isFalse => cases h'
  rename_i hall
  split at h'
  case h_2 => cases h'
  rename_i v hc
  cases h'
  refine ⟨v, rfl, fun w => ?_⟩
  have : execOp ρ o = execOp (fun x => (ev x).toV.getD undef) o := by
    refine execOp_congr o hsel fun x hx => ?_
    have hs := List.all_eq_true.1 hall x (by simpa using hx)
    obtain ⟨u, hu⟩ := Option.isSome_iff_exists.1 hs
    rw [hu]
    exact AV.toV_eq _ u _ hu (hev x)
  rw [this]
  exact calm_run hc w
def asInt? : AV → Option (IntKind × Int)
  | .lit (.int k n) => some (k, n)
  | _ => none
theorem asInt?_sound {a : AV} {k : IntKind} {n : Int} {v : Value} (h : asInt? a = some (k, n)) (hv : VR φ a v) : v = .int k n := by
  unfold asInt? at h
  split at h
  · cases h; exact hv
  · cases h
def popIndexAddr (P : Program) (t : TypeId) (x ix : AV) : Option AV :=
  match P.underlying t, x, asInt? ix with
  | some (.slice elem), .slice b off len _, some (_, i) =>
    match sizeB P elem with
    | some s => if 0 ≤ i ∧ i < len then some (.ptr b (off + i.toNat * s)) else none
    | none => none
  | some (.array len elem), .ptr b off, some (_, i) =>
    match sizeB P elem with
    | some s => if 0 ≤ i ∧ i < len then some (.ptr b (off + i.toNat * s)) else none
    | none => none
  | some (.array len elem), .gptr b off, some (_, i) =>
    match sizeB P elem with
    | some s => if 0 ≤ i ∧ i < len then some (.gptr b (off + i.toNat * s)) else none
    | none => none
  | _, _, _ => none
theorem popIndexAddr_sound {t : TypeId} {x ix : AV} {xv iv : Value} (hx : VR φ x xv) (hi : VR φ ix iv) (h : popIndexAddr P t x ix = some r) :
    ∃ v, VR φ r v ∧ ∀ w, (Instr.indexAt t xv iv).run P w = .ok v w := by
  unfold popIndexAddr at h
  split at h
  · rename_i elem b off len cap k i hu hii
    split at h
    case h_2 => cases h
    rename_i s hs
    split at h
    case isFalse => cases h
    rename_i hr
    cases h
    obtain ⟨c, m, kk, hb, rfl, _⟩ := hx
    obtain rfl := asInt?_sound hii hi
    refine ⟨.pointer (some ⟨c, off + i.toNat * s, none⟩), ⟨c, m, hb, rfl⟩, fun w => ?_⟩
    simp [Instr.indexAt, asIntOf, run_underlying hu, run_sizeB hs, Addr.add_mid, hr.1, hr.2]
  · rename_i len elem b off k i hu hii
    split at h
    case h_2 => cases h
    rename_i s hs
    split at h
    case isFalse => cases h
    rename_i hr
    cases h
    obtain ⟨c, m, hb, rfl⟩ := hx
    obtain rfl := asInt?_sound hii hi
    refine ⟨.pointer (some ⟨c, off + i.toNat * s, none⟩), ⟨c, m, hb, rfl⟩, fun w => ?_⟩
    simp [Instr.indexAt, Instr.sureAddr, asIntOf, run_underlying hu, run_sizeB hs, Addr.add_mid, hr.1, hr.2]
  · rename_i len elem b off k i hu hii
    split at h
    case h_2 => cases h
    rename_i s hs
    split at h
    case isFalse => cases h
    rename_i hr
    cases h
    cases hx
    obtain rfl := asInt?_sound hii hi
    refine ⟨.pointer (some ⟨b, off + i.toNat * s, none⟩), rfl, fun w => ?_⟩
    simp [Instr.indexAt, Instr.sureAddr, asIntOf, run_underlying hu, run_sizeB hs, Addr.add_mid, hr.1, hr.2]
  · cases h
def popFieldAddr (P : Program) (s : TypeId) (x : AV) (f : Nat) : Option AV :=
  match P.underlying s, x with
  | some (.struct fields), .ptr b off =>
    match fields[f]? with
    | some fd => match sizeB P fd.type with
      | some (_ + 1) => some (.ptr b (off + fd.offset))
      | _ => none
    | none => none
  | _, _ => none
theorem popFieldAddr_sound {s : TypeId} {x : AV} {f : Nat} {xv : Value} (hx : VR φ x xv) (h : popFieldAddr P s x f = some r) :
    ∃ v, VR φ r v ∧ ∀ w, (Instr.fieldAt s xv f).run P w = .ok v w := by
  unfold popFieldAddr at h
  split at h
  case h_2 => cases h
  rename_i fields b off hu
  split at h
  case h_2 => cases h
  rename_i fd hf
  split at h
  case h_2 => cases h
  rename_i n hs
  cases h
  obtain ⟨c, m, hb, rfl⟩ := hx
  refine ⟨.pointer (some ⟨c, off + fd.offset, none⟩), ⟨c, m, hb, rfl⟩, fun w => ?_⟩
  simp [Instr.fieldAt, Instr.sureAddr, run_underlying hu, hf, fieldPlace, run_sizeB hs, Addr.add_mid]
def popField (P : Program) (t : TypeId) (x : AV) (f : Nat) : Option AV :=
  match P.underlying t, x.view with
  | some (.struct fields), .agg cs =>
    match fields[f]? with
    | some fd => partA P fd.type cs fd.offset
    | none => none
  | _, _ => none
theorem popField_sound {t : TypeId} {x : AV} {f : Nat} {xv : Value} (hx : VR φ x xv) (h : popField P t x f = some r) :
    ∃ v, VR φ r v ∧ ∀ w, (Instr.field t xv f).run P w = .ok v w := by
  unfold popField at h
  split at h
  case h_2 => cases h
  rename_i fields cs hu hv
  split at h
  case h_2 => cases h
  rename_i fd hf
  have hx' := hx.view
  rw [hv] at hx'
  obtain ⟨as_, rfl, hcs⟩ := hx'
  obtain ⟨v, h1, h2⟩ := partA_sound h hcs
  refine ⟨v, h1, fun w => ?_⟩
  simp [Instr.field, run_underlying hu, hf, asAgg, h2]
def popIndex (P : Program) (t : TypeId) (x ix : AV) : Option AV :=
  match P.underlying t, x.view, asInt? ix with
  | some (.array len elem), .agg cs, some (_, i) =>
    match sizeB P elem with
    | some s => if 0 ≤ i ∧ i < len then partA P elem cs (i.toNat * s) else none
    | none => none
  | _, _, _ => none
theorem popIndex_sound {t : TypeId} {x ix : AV} {xv iv : Value} (hx : VR φ x xv) (hi : VR φ ix iv) (h : popIndex P t x ix = some r) :
    ∃ v, VR φ r v ∧ ∀ w, (Instr.index t xv iv).run P w = .ok v w := by
  unfold popIndex at h
  split at h
  case h_2 => cases h
  rename_i len elem cs k i hu hv hii
  split at h
  case h_2 => cases h
  rename_i s hs
  split at h
  case isFalse => cases h
  rename_i hr
  have hx' := hx.view
  rw [hv] at hx'
  obtain ⟨as_, rfl, hcs⟩ := hx'
  obtain rfl := asInt?_sound hii hi
  obtain ⟨v, h1, h2⟩ := partA_sound h hcs
  refine ⟨v, h1, fun w => ?_⟩
  simp [Instr.index, asIntOf, run_underlying hu, run_sizeB hs, hr.1, hr.2, h2]
def zeroB (P : Program) (t : TypeId) : Option Value := (P.info? t).bind (·.zero)
theorem run_zeroB {t : TypeId} {z : Value} (h : zeroB P t = some z) (w : World) : (zeroValue t).run P w = .ok z w := by
  unfold zeroB at h
  cases hi : P.info? t with
  | none => simp [hi] at h
  | some i => simp [hi] at h; simp [zeroValue, typeInfo, hi, h]
def placesB (P : Program) : List Field → Option (List (Nat × Nat))
  | [] => some []
  | f :: fs => match sizeB P f.type, placesB P fs with
    | some s, some l => some ((f.offset, s) :: l)
    | _, _ => none
theorem run_placesB : ∀ {fs : List Field} {l : List (Nat × Nat)}, placesB P fs = some l → ∀ w,
    (fs.mapM (fun f => do pure (f.offset, ← sizeOf f.type)) : Sem (List (Nat × Nat))).run P w = .ok l w
  | [], l, h, w => by simp [placesB] at h; subst h; simp
  | f :: fs, l, h, w => by
    simp only [placesB] at h
    split at h
    case h_2 => cases h
    rename_i s l' hs hl
    cases h
    have ih := run_placesB (fs := fs) hl w
    simp at ih
    simp [List.mapM_cons, run_sizeB hs, ih]
def popBuild (P : Program) (t : TypeId) (ps : List (Nat × AV)) : Option AV :=
  match zeroB P t, P.underlying t with
  | some z, some (.struct fields) =>
    match placesB P fields.toList with
    | some pl => (fillA (pl[·]?) (z.cells.toList.map .lit) ps).map .agg
    | none => none
  | some z, some (.array _ elem) =>
    match sizeB P elem with
    | some s => (fillA (fun i => some (i * s, s)) (z.cells.toList.map .lit) ps).map .agg
    | none => none
  | _, _ => none
theorem popBuild_sound {t : TypeId} {ps : List (Nat × AV)} {qs : Array (Nat × Value)} (hi : ps.map (·.1) = qs.toList.map (·.1)) (hv : VRs φ (ps.map (·.2)) (qs.toList.map (·.2)))
    (h : popBuild P t ps = some r) : ∃ v, VR φ r v ∧ ∀ w, (Instr.build t qs).run P w = .ok v w := by
  unfold popBuild at h
  split at h
  · rename_i z fields hz hu
    split at h
    case h_2 => cases h
    rename_i pl hpl
    cases hf : fillA (pl[·]?) (z.cells.toList.map .lit) ps with
    | none => simp [hf] at h
    | some out =>
      simp [hf] at h; subst h
      obtain ⟨arr, h1, h2⟩ := fillA_sound (φ := φ) ps qs.toList _ z.cells out hf (VRs.lits _) hi hv
      refine ⟨.agg arr, ⟨arr, rfl, h2⟩, fun w => ?_⟩
      have hp : (fields.mapM (fun f => do pure (f.offset, ← sizeOf f.type)) : Sem (Array (Nat × Nat))).run P w = .ok pl.toArray w := by
        rw [Array.mapM_eq_mapM_toList, Sem.run_map, run_placesB hpl]; rfl
      simp only [Instr.build, Sem.run_bind, run_zeroB hz, Result.andThen_ok, run_underlying hu, hp]
      rw [show (fun x : Nat => (pl.toArray[x]? : Option (Nat × Nat))) = (fun x : Nat => pl[x]?) from by funext x; simp, h1]
      rfl
  · rename_i z len elem hz hu
    split at h
    case h_2 => cases h
    rename_i s hs
    cases hf : fillA (fun i => some (i * s, s)) (z.cells.toList.map .lit) ps with
    | none => simp [hf] at h
    | some out =>
      simp [hf] at h; subst h
      obtain ⟨arr, h1, h2⟩ := fillA_sound (φ := φ) ps qs.toList _ z.cells out hf (VRs.lits _) hi hv
      refine ⟨.agg arr, ⟨arr, rfl, h2⟩, fun w => ?_⟩
      simp only [Instr.build, Sem.run_bind, run_zeroB hz, Result.andThen_ok, run_underlying hu, run_sizeB hs, h1]
      rfl
  · cases h
def bound? : Option AV → Option (Option Int)
  | none => some none
  | some a => match asInt? a with | some (_, i) => some (some i) | none => none
theorem bound?_none {x : Option AV} {v : Option Value} (h : bound? x = some none) (hx : ∀ a, x = some a → ∃ u, v = some u ∧ VR φ a u) (hn : x = none → v = none) : v = none := by
  cases x with
  | none => exact hn rfl
  | some a => cases ha : asInt? a <;> simp [bound?, ha] at h
theorem bound?_some {x : Option AV} {v : Option Value} {i : Int} (h : bound? x = some (some i)) (hx : ∀ a, x = some a → ∃ u, v = some u ∧ VR φ a u) : ∃ k, v = some (.int k i) := by
  cases x with
  | none => cases h
  | some a =>
    cases ha : asInt? a with
    | none => simp [bound?, ha] at h
    | some p =>
      simp [bound?, ha] at h
      obtain ⟨u, hu, hv⟩ := hx a rfl
      exact ⟨p.1, by rw [hu, asInt?_sound (k := p.1) (n := i) (by rw [ha, ← h]) hv]⟩
theorem run_sliceBound {k : IntKind} {i : Int} {y : Nat} {code : BoundsCode} (h0 : 0 ≤ i) (h1 : i ≤ y) (w : World) : (Instr.sliceBound (.int k i) y code).run P w = .ok i.toNat w := by
  simp [Instr.sliceBound, asIntOf, h0, h1]
theorem run_sliceBounds {len k l h : Nat} {lv hv : Option Value} (hH : hv = none ∧ h = len ∨ ∃ kk i, hv = some (.int kk i) ∧ 0 ≤ i ∧ i ≤ (k : Int) ∧ h = i.toNat)
    (hL : lv = none ∧ l = 0 ∨ ∃ kk i, lv = some (.int kk i) ∧ 0 ≤ i ∧ i ≤ (h : Int) ∧ l = i.toNat) (w : World) : (Instr.sliceBounds true len k lv hv none).run P w = .ok (l, h, k) w := by
  unfold Instr.sliceBounds
  rcases hH with ⟨rfl, rfl⟩ | ⟨kk, i, rfl, h0, h1, rfl⟩ <;> rcases hL with ⟨rfl, rfl⟩ | ⟨kk', i', rfl, h0', h1', rfl⟩
  · simp
  · simp [run_sliceBound h0' h1']
  · simp [run_sliceBound h0 h1]
  · simp [run_sliceBound h0 h1, run_sliceBound h0' h1']
theorem run_sliceBounds3 {len k l h m : Nat} {lv : Option Value} {km kh : IntKind} {m' h' : Int} (hm0 : 0 ≤ m') (hm1 : m' ≤ (k : Int)) (hm : m = m'.toNat) (hh0 : 0 ≤ h') (hh1 : h' ≤ (m : Int)) (hh : h = h'.toNat)
    (hL : lv = none ∧ l = 0 ∨ ∃ kk i, lv = some (.int kk i) ∧ 0 ≤ i ∧ i ≤ (h : Int) ∧ l = i.toNat) (w : World) : (Instr.sliceBounds true len k lv (some (.int kh h')) (some (.int km m'))).run P w = .ok (l, h, m) w := by
  unfold Instr.sliceBounds
  subst hm hh
  rcases hL with ⟨rfl, rfl⟩ | ⟨kk', i', rfl, h0', h1', rfl⟩
  · simp [run_sliceBound hm0 hm1, run_sliceBound hh0 hh1]
  · simp [run_sliceBound hm0 hm1, run_sliceBound hh0 hh1, run_sliceBound h0' h1']
def popSlice (P : Program) (t : TypeId) (x : AV) (lo hi mx : Option AV) : Option AV :=
  match P.underlying t, x with
  | some (.slice elem), .slice b off len cap =>
    match sizeB P elem, bound? lo, bound? hi, bound? mx with
    | some (s + 1), some lo, some hi, some none =>
      let h : Int := hi.getD len
      let l : Int := lo.getD 0
      if 0 ≤ l ∧ l ≤ h then
        match cap with
        | some k =>
          if h ≤ k then some (.slice b (if (k : Int) = l then off else off + l.toNat * (s + 1)) (h.toNat - l.toNat) (some (k - l.toNat))) else none
        | none =>
          if h ≤ len then
            if l = 0 then some (.slice b off h.toNat none)
            else if l < h then some (.slice b (off + l.toNat * (s + 1)) (h.toNat - l.toNat) none)
            else some .empty
          else none
      else none
    | some (s + 1), some lo, some (some h), some (some m) =>
      let l : Int := lo.getD 0
      if 0 ≤ l ∧ l ≤ h ∧ h ≤ m ∧ m ≤ (cap.getD len : Nat) then
        some (.slice b (if m = l then off else off + l.toNat * (s + 1)) (h.toNat - l.toNat) (some (m.toNat - l.toNat)))
      else none
    | _, _, _, _ => none
  | _, _ => none
theorem popSlice_sound {t : TypeId} {x : AV} {lo hi mx : Option AV} {xv : Value} {lv hv mv : Option Value} (hx : VR φ x xv)
    (hl : ∀ a, lo = some a → ∃ u, lv = some u ∧ VR φ a u) (hln : lo = none → lv = none) (hh : ∀ a, hi = some a → ∃ u, hv = some u ∧ VR φ a u) (hhn : hi = none → hv = none)
    (hm : ∀ a, mx = some a → ∃ u, mv = some u ∧ VR φ a u) (hmn : mx = none → mv = none)
    (h : popSlice P t x lo hi mx = some r) : ∃ v, VR φ r v ∧ ∀ w, (Instr.sliceAt t xv lv hv mv).run P w = .ok v w := by
  unfold popSlice at h
  split at h
  case h_2 => cases h
  rename_i elem b off len cap hu
  obtain ⟨c, m, k, hb, rfl, hnk, hk1, hk2⟩ := hx
  split at h
  · rename_i s lo' hi' hs hlo hhi hmx
    obtain rfl := bound?_none hmx hm hmn
    simp only at h
    split at h
    case isFalse => cases h
    rename_i hlh
    have hbounds : ∀ w, (hi'.getD (len : Int) ≤ (k : Int)) → (Instr.sliceBounds true len k lv hv none).run P w = .ok ((lo'.getD 0).toNat, (hi'.getD (len : Int)).toNat, k) w := by
      intro w hy
      refine run_sliceBounds ?_ ?_ w
      · cases hi' with
        | none => exact .inl ⟨bound?_none hhi hh hhn, by simp⟩
        | some i => obtain ⟨kk, rfl⟩ := bound?_some hhi hh; exact .inr ⟨kk, i, rfl, by simp at hlh; omega, by simpa using hy, rfl⟩
      · cases lo' with
        | none => exact .inl ⟨bound?_none hlo hl hln, by simp⟩
        | some i => obtain ⟨kk, rfl⟩ := bound?_some hlo hl; exact .inr ⟨kk, i, rfl, by simp at hlh; omega, by simp at hlh; omega, rfl⟩
    have hrun : ∀ w, (hi'.getD (len : Int) ≤ (k : Int)) → (Instr.sliceAt t (.slice (some ⟨c, off, none⟩) len k) lv hv none).run P w =
        .ok (.slice (if k = (lo'.getD 0).toNat then some ⟨c, off, none⟩ else some ⟨c, off + (lo'.getD 0).toNat * (s + 1), none⟩) ((hi'.getD (len : Int)).toNat - (lo'.getD 0).toNat) (k - (lo'.getD 0).toNat)) w := by
      intro w hy
      simp only [Instr.sliceAt, Instr.slice, Sem.run_bind, run_underlying hu, Result.andThen_ok, hbounds w hy, run_sizeB hs, Option.map_some, Addr.add_mid, Sem.run_pure]
    split at h
    · rename_i k'
      obtain rfl := hk1 k' rfl
      split at h
      case isFalse => cases h
      rename_i hhk
      cases h
      refine ⟨_, ?_, fun w => hrun w hhk⟩
      by_cases e : k = (lo'.getD 0).toNat
      · rw [if_pos e, if_pos (by omega)]
        exact ⟨c, m, _, hb, rfl, by omega, fun _ e => by cases e; rfl, fun e => by cases e⟩
      · rw [if_neg e, if_neg (by omega)]
        exact ⟨c, m, _, hb, rfl, by omega, fun _ e => by cases e; rfl, fun e => by cases e⟩
    · split at h
      case isFalse => cases h
      rename_i hhk
      have hhk' : hi'.getD (len : Int) ≤ (k : Int) := by omega
      split at h
      · rename_i hl0
        cases h
        refine ⟨_, ?_, fun w => hrun w hhk'⟩
        rw [hl0]
        simp only [Int.toNat_zero, Nat.zero_mul, Nat.add_zero, ite_self, Nat.sub_zero]
        exact ⟨c, m, k, hb, rfl, by omega, fun _ e => (by cases e), hk2⟩
      · rename_i hl0
        split at h
        · rename_i hl1
          cases h
          refine ⟨_, ?_, fun w => hrun w hhk'⟩
          rw [if_neg (by omega)]
          refine ⟨c, m, _, hb, rfl, by omega, fun _ e => (by cases e), fun _ e => ?_⟩
          have : 0 < (lo'.getD 0).toNat * (s + 1) := Nat.mul_pos (by omega) (by omega)
          omega
        · cases h
          refine ⟨_, ?_, fun w => hrun w hhk'⟩
          have : (hi'.getD (len : Int)).toNat - (lo'.getD 0).toNat = 0 := by omega
          rw [this]
          split
          · exact ⟨_, _, rfl⟩
          · exact ⟨_, _, rfl⟩
  · rename_i s lo' h' m' hs hlo hhi hmx
    simp only at h
    split at h
    case isFalse => cases h
    rename_i hc
    cases h
    obtain ⟨km, rfl⟩ := bound?_some hmx hm
    obtain ⟨kh, rfl⟩ := bound?_some hhi hh
    have hmk : m' ≤ (k : Int) := by
      cases cap with
      | none => simp at hc; omega
      | some k' => have := hk1 k' rfl; subst this; simp at hc; omega
    have hrun : ∀ w, (Instr.sliceAt t (.slice (some ⟨c, off, none⟩) len k) lv (some (.int kh h')) (some (.int km m'))).run P w =
        .ok (.slice (if m'.toNat = (lo'.getD 0).toNat then some ⟨c, off, none⟩ else some ⟨c, off + (lo'.getD 0).toNat * (s + 1), none⟩) (h'.toNat - (lo'.getD 0).toNat) (m'.toNat - (lo'.getD 0).toNat)) w := by
      intro w
      have hb : (Instr.sliceBounds true len k lv (some (.int kh h')) (some (.int km m'))).run P w = .ok ((lo'.getD 0).toNat, h'.toNat, m'.toNat) w := by
        refine run_sliceBounds3 (by omega) hmk rfl (by omega) (by omega) rfl ?_ w
        cases lo' with
        | none => exact .inl ⟨bound?_none hlo hl hln, by simp⟩
        | some i => obtain ⟨kk, rfl⟩ := bound?_some hlo hl; exact .inr ⟨kk, i, rfl, by simp at hc; omega, by simp at hc; omega, rfl⟩
      simp only [Instr.sliceAt, Instr.slice, Sem.run_bind, run_underlying hu, Result.andThen_ok, hb, run_sizeB hs, Option.map_some, Addr.add_mid, Sem.run_pure]
    refine ⟨_, ?_, hrun⟩
    by_cases e : m'.toNat = (lo'.getD 0).toNat
    · rw [if_pos e, if_pos (by omega)]
      exact ⟨c, m, _, hb, rfl, by omega, fun _ e => by cases e; rfl, fun e => by cases e⟩
    · rw [if_neg e, if_neg (by omega)]
      exact ⟨c, m, _, hb, rfl, by omega, fun _ e => by cases e; rfl, fun e => by cases e⟩
  · cases h
end
end
end Go.Proofs.YtlmglnobdcgbeaaGreat.D
namespace Go.Proofs.YtlmglnobdcgbeaaGreat.D
open Go Go.RowKit
noncomputable section
def nilF (P : Program) (t : TypeId) (a b : AV) : Bool :=
  match P.underlying t, a, b with
  | some (.pointer _), .ptr _ _, .lit (.pointer none) => true
  | some (.pointer _), .lit (.pointer none), .ptr _ _ => true
  | some (.slice _), .slice _ _ _ _, .lit (.slice none _ _) => true
  | some (.slice _), .lit (.slice none _ _), .slice _ _ _ _ => true
  | some (.slice _), .empty, .lit (.slice none _ _) => true
  | some (.slice _), .lit (.slice none _ _), .empty => true
  | some (.map _ _), .map _, .lit (.map none) => true
  | some (.map _ _), .lit (.map none), .map _ => true
  | some (.func _ _ _), .func _ _ _, .lit .nilFunc => true
  | some (.func _ _ _), .lit .nilFunc, .func _ _ _ => true
  | some (.func _ _ _), .yield _, .lit .nilFunc => true
  | some (.func _ _ _), .lit .nilFunc, .yield _ => true
  | some (.interface _), .iface _ _, .lit .nilIface => true
  | some (.interface _), .lit .nilIface, .iface _ _ => true
  | _, _, _ => false
def popNil (P : Program) (op : BinOp) (t : TypeId) (a b : AV) : Option AV :=
  match op with
  | .eql => if nilF P t a b then some (.lit (.bool false)) else none
  | .neq => if nilF P t a b then some (.lit (.bool true)) else none
  | _ => none
section
variable {P : Program} {φ : Phi} {ev : Ev} {ρ : Operand → Value} {o : Oper} {r : AV}
theorem binOp_of_equal {t : TypeId} {x y : Value} {w : World} (op : BinOp) (hop : op = .eql ∨ op = .neq) (hE : (Op.equal t x y).run P w = .ok false w)
    (h1 : binOp .eql t x y = (do pure (.bool (← Op.equal t x y)))) (h2 : binOp .neq t x y = (do pure (.bool (!(← Op.equal t x y))))) : (binOp op t x y).run P w = .ok (.bool (op == .neq)) w := by
  rcases hop with rfl | rfl
  · rw [h1]; simp only [Sem.run_bind, hE, Result.andThen_ok, Sem.run_pure]; rfl
  · rw [h2]; simp only [Sem.run_bind, hE, Result.andThen_ok, Sem.run_pure]; rfl
theorem nilF_sound {t : TypeId} {a b : AV} {x y : Value} (h : nilF P t a b = true) (ha : VR φ a x) (hb : VR φ b y) (w : World) (u v : Operand) (op : BinOp) (hop : op = .eql ∨ op = .neq) :
    (eqGuard op t u v x y).run P w = .ok () w ∧ (binOp op t x y).run P w = .ok (.bool (op == .neq)) w := by
  unfold nilF at h
  split at h <;> (try cases h) <;> rename_i hu <;>
    simp only [VR] at ha hb <;> (try subst ha) <;> (try subst hb) <;>
    (first
      | (obtain ⟨c, m, k, _, rfl, _⟩ := ha)
      | (obtain ⟨c, m, k, _, rfl, _⟩ := hb)
      | (obtain ⟨c, m, _, rfl⟩ := ha)
      | (obtain ⟨c, m, _, rfl⟩ := hb)
      | (obtain ⟨c, m, rfl⟩ := ha)
      | (obtain ⟨c, m, rfl⟩ := hb)
      | (obtain ⟨c, m, rfl, _⟩ := ha)
      | (obtain ⟨c, m, rfl, _⟩ := hb)
      | (obtain ⟨c, rfl, _⟩ := ha)
      | (obtain ⟨c, rfl, _⟩ := hb)) <;>
    (refine ⟨by rcases hop with rfl | rfl <;> rfl, binOp_of_equal op hop ?_ rfl rfl⟩
     show (Op.equalIn (9999 + 1) t _ _).run P w = _
     unfold Op.equalIn
     simp only [Sem.run_bind, run_underlying hu, Result.andThen_ok]
     rfl)
end
end
end Go.Proofs.YtlmglnobdcgbeaaGreat.D
namespace Go.Proofs.YtlmglnobdcgbeaaGreat.D
open Go Go.RowKit
noncomputable section
def popAssert (P : Program) (x : AV) (t : TypeId) (ok : Bool) : Option AV :=
  match P.underlying t, x with
  | some (.interface _), _ => none
  | some _, .iface u v => if u = t then some (if ok then .tuple [v, .lit (.bool true)] else v) else
      if ok then match zeroB P t with | some z => some (.tuple [.lit z, .lit (.bool false)]) | none => none
      else none
  | _, _ => none
def popLen (P : Program) (b : Builtin) (ts : List TypeId) (xs : List AV) : Option AV :=
  match b, ts, xs with
  | .len, t :: _, .slice _ _ n _ :: _ => match P.underlying t with | some (.slice _) => some (.lit (goInt n)) | _ => none
  | .len, t :: _, .empty :: _ => match P.underlying t with | some (.slice _) => some (.lit (goInt 0)) | _ => none
  | .cap, t :: _, .slice _ _ _ (some k) :: _ => match P.underlying t with | some (.slice _) => some (.lit (goInt k)) | _ => none
  | _, _, _ => none
def orElse (a : Option AV) (b : Option AV) : Option AV := match a with | some r => some r | none => b
def pop (P : Program) (ev : Ev) (o : Oper) : Option AV :=
  match o.op with
  | .move x => some (ev x)
  | .assign x => some (ev x)
  | .pick c a b => match ev c with | .lit (.bool t) => some (if t then ev a else ev b) | _ => none
  | .extract t i => match (ev t).view with | .tuple cs => cs[i]? | _ => none
  | .field t x f => popField P t (ev x) f
  | .build t ps => popBuild P t (ps.toList.map fun p => (p.1, ev p.2))
  | .index t x ix => orElse (popIndex P t (ev x) (ev ix)) (popFlat P ev o)
  | .makeInterface t x => match P.underlying t with | some (.interface _) => none | some _ => some (.iface t (ev x)) | none => none
  | .makeFunc fn first captured => some (.func fn (first.toList.map ev) (captured.toList.map ev))
  | .indexAddr t x ix => popIndexAddr P t (ev x) (ev ix)
  | .fieldAddr s x f => popFieldAddr P s (ev x) f
  | .slice t x lo hi mx => orElse (popSlice P t (ev x) (lo.map ev) (hi.map ev) (mx.map ev)) (popFlat P ev o)
  | .nilCheck x => match ev x with
    | .ptr b off => some (.ptr b off)
    | .gptr b off => some (.gptr b off)
    | .iface t v => some (.iface t v)
    | .func (.func f) a b => some (.func (.func f) a b)
    | .yield l => some (.yield l)
    | _ => popFlat P ev o
  | .binOp op t x y _ => orElse (popNil P op t (ev x) (ev y)) (popFlat P ev o)
  | .typeAssert x _ t ok => orElse (popAssert P (ev x) t ok) (popFlat P ev o)
  | .call c => match c.callee with
    | .builtin b => orElse (popLen P b c.argTypes.toList (c.args.toList.map ev)) (popFlat P ev o)
    | _ => none
  | _ => popFlat P ev o
section
variable {P : Program} {φ : Phi} {ev : Ev} {ρ : Operand → Value} {o : Oper} {r : AV}
theorem orElse_some {a b : Option AV} (h : orElse a b = some r) : a = some r ∨ b = some r := by
  cases a with
  | some x => exact .inl h
  | none => exact .inr h
theorem yld_of {s : Sem Value} (he : execOp ρ o = (do pure (.value (← s)))) (h : ∃ v, VR φ r v ∧ ∀ w, s.run P w = .ok v w) : Yld P φ ρ o r := by
  obtain ⟨v, h1, h2⟩ := h
  exact ⟨v, h1, fun w => by rw [he]; simp only [Sem.run_bind, h2 w, Result.andThen_ok, Sem.run_pure]⟩
theorem popAssert_sound {x : AV} {xt t : TypeId} {ok : Bool} {xv : Value} (hx : VR φ x xv) (h : popAssert P x t ok = some r) :
    ∃ v, VR φ r v ∧ ∀ w, (Instr.typeAssert xv xt t ok).run P w = .ok v w := by
  unfold popAssert at h
  split at h
  · cases h
  · rename_i d u v hni hu
    obtain ⟨y, rfl, hy⟩ := hx
    have hnot : ∀ ms, d ≠ .interface ms := fun ms e => hni ms (by first | exact e | rw [hu, e])
    split at h
    · rename_i hut
      subst hut
      cases h
      refine ⟨if ok then .tuple #[y, .bool true] else y, ?_, fun w => ?_⟩
      · cases ok
        · exact hy
        · exact ⟨_, rfl, VRs.cons hy (VRs.cons (show VR φ (.lit _) _ from rfl) VRs.nil)⟩
      · cases d <;> first | exact absurd rfl (hnot _) | (simp [Instr.typeAssert, run_underlying hu])
    · rename_i hut
      split at h
      case isFalse => cases h
      rename_i hok
      split at h
      case h_2 => cases h
      rename_i z hz
      cases h
      refine ⟨.tuple #[z, .bool false], ⟨_, rfl, VRs.cons (show VR φ (.lit _) _ from rfl) (VRs.cons (show VR φ (.lit _) _ from rfl) VRs.nil)⟩, fun w => ?_⟩
      cases d <;> first | exact absurd rfl (hnot _) | (simp [Instr.typeAssert, run_underlying hu, hut, hok, run_zeroB hz])
  · cases h
theorem popLen_sound {b : Builtin} {ts : List TypeId} {ty : TypeId} {xs : List AV} {cs : Array Bool} {as_ : Array TypeId} {vs : Array Value} (ha : as_.toList = ts) (hx : VRs φ xs vs.toList) (h : popLen P b ts xs = some r) :
    ∃ v, VR φ r v ∧ ∀ w, (builtin b as_ ty cs vs).run P w = .ok (.value v) w := by
  unfold popLen at h
  split at h
  · rename_i t ts b' off n cap xs
    split at h
    case h_2 => cases h
    rename_i e hu
    cases h
    obtain ⟨x, xs', hx1, hx2, _⟩ := hx
    obtain ⟨c, m, k, _, rfl, _⟩ := hx2
    refine ⟨goInt n, rfl, fun w => ?_⟩
    have h0 : as_[0]? = some t := by rw [← Array.getElem?_toList, ha]; rfl
    have h1 : vs[0]? = some (.slice (some ⟨c, off, none⟩) n k) := by rw [← Array.getElem?_toList, hx1]; rfl
    simp [builtin, Builtin.len_, h0, h1, run_underlying hu]
  · rename_i t ts xs
    split at h
    case h_2 => cases h
    rename_i e hu
    cases h
    obtain ⟨x, xs', hx1, hx2, _⟩ := hx
    obtain ⟨a, k, rfl⟩ := hx2
    refine ⟨goInt 0, rfl, fun w => ?_⟩
    have h0 : as_[0]? = some t := by rw [← Array.getElem?_toList, ha]; rfl
    have h1 : vs[0]? = some (.slice (some a) 0 k) := by rw [← Array.getElem?_toList, hx1]; rfl
    simp [builtin, Builtin.len_, h0, h1, run_underlying hu]
  · rename_i t ts b' off n k' xs
    split at h
    case h_2 => cases h
    rename_i e hu
    cases h
    obtain ⟨x, xs', hx1, hx2, _⟩ := hx
    obtain ⟨c, m, k, _, rfl, _, hk, _⟩ := hx2
    obtain rfl := hk k' rfl
    refine ⟨goInt k, rfl, fun w => ?_⟩
    have h0 : as_[0]? = some t := by rw [← Array.getElem?_toList, ha]; rfl
    have h1 : vs[0]? = some (.slice (some ⟨c, off, none⟩) n k) := by rw [← Array.getElem?_toList, hx1]; rfl
    simp [builtin, Builtin.cap_, h0, h1, run_underlying hu]
  · cases h
theorem VRs.evs (hev : ∀ x, VR φ (ev x) (ρ x)) (l : Array Operand) : VRs φ (l.toList.map ev) (l.map ρ).toList := by
  rw [Array.toList_map]
  exact VRs.map_of _ fun x _ => hev x
theorem pop_sound (hev : ∀ x, VR φ (ev x) (ρ x)) (h : pop P ev o = some r) : Yld P φ ρ o r := by
  have hfl := fun h => popFlat_sound (P := P) (r := r) (o := o) hev h
  unfold pop at h
  split at h
  · rename_i x ho; cases h; exact ⟨ρ x, hev x, fun w => by simp [execOp, ho]⟩
  · rename_i x ho; cases h; exact ⟨ρ x, hev x, fun w => by simp [execOp, ho]⟩
  · rename_i c a b ho
    split at h
    case h_2 => cases h
    rename_i t hc
    cases h
    have hc' := hev c
    rw [hc] at hc'
    have hc'' : ρ c = .bool t := hc'
    refine ⟨if t then ρ a else ρ b, ?_, fun w => by simp [execOp, ho, hc'', asBool]⟩
    cases t
    · exact hev b
    · exact hev a
  · rename_i t i ho
    split at h
    case h_2 => cases h
    rename_i cs hv
    have hx := (hev t).view
    rw [hv] at hx
    obtain ⟨as_, ha, hcs⟩ := hx
    obtain ⟨y, hy, hvy⟩ := hcs.get h
    have hy' : as_[i]? = some y := by simpa using hy
    exact ⟨y, hvy, fun w => by simp [execOp, ho, ha, Instr.extract, hy']⟩
  · rename_i t x f ho
    exact yld_of (by simp only [execOp, ho]) (popField_sound (hev x) h)
  · rename_i t ps ho
    refine yld_of (s := Instr.build t (ps.map fun x => (x.1, ρ x.2))) (by simp only [execOp, ho]) (popBuild_sound ?_ ?_ h)
    · simp [Function.comp_def]
    · have := VRs.map_of (φ := φ) (f := fun p : Nat × Operand => ev p.2) (g := fun p => ρ p.2) ps.toList fun p _ => hev p.2
      simpa [Function.comp_def] using this
  · rename_i t x ix ho
    rcases orElse_some h with h | h
    · exact yld_of (by simp only [execOp, ho]) (popIndex_sound (hev x) (hev ix) h)
    · exact hfl h
  · rename_i t x ho
    split at h
    · cases h
    · rename_i d hni hu
      cases h
      have hnot : ∀ ms, d ≠ .interface ms := fun ms e => hni ms (by first | exact e | rw [hu, e])
      refine ⟨.iface t (ρ x), ⟨_, rfl, hev x⟩, fun w => ?_⟩
      cases d <;> first | exact absurd rfl (hnot _) | (simp [execOp, ho, Instr.makeInterface, run_underlying hu])
    · cases h
  · rename_i fn first captured ho
    cases h
    exact ⟨.func fn (first.map ρ) (captured.map ρ), ⟨_, _, rfl, VRs.evs hev _, VRs.evs hev _⟩, fun w => by simp [execOp, ho, Instr.makeFunc]⟩
  · rename_i t x ix ho
    exact yld_of (by simp only [execOp, ho]) (popIndexAddr_sound (hev x) (hev ix) h)
  · rename_i s x f ho
    exact yld_of (by simp only [execOp, ho]) (popFieldAddr_sound (hev x) h)
  · rename_i t x lo hi mx ho
    rcases orElse_some h with h | h
    · have key : ∀ (l : Option Operand), (∀ a, l.map ev = some a → ∃ u, l.map ρ = some u ∧ VR φ a u) ∧ (l.map ev = none → l.map ρ = none) := by
        intro l
        cases l with
        | none => exact ⟨fun a e => (by cases e), fun _ => rfl⟩
        | some y => exact ⟨fun a e => (by cases e; exact ⟨_, rfl, hev y⟩), fun e => (by cases e)⟩
      exact yld_of (by simp only [execOp, ho]) (popSlice_sound (hev x) (key lo).1 (key lo).2 (key hi).1 (key hi).2 (key mx).1 (key mx).2 h)
    · exact hfl h
  · rename_i x ho
    split at h
    · rename_i b off hx
      cases h
      have hv := hev x
      rw [hx] at hv
      have hv' := hv
      obtain ⟨c, m, _, hc⟩ := hv
      rw [hc] at hv'
      exact ⟨_, hv', fun w => by simp [execOp, ho, hc]⟩
    · rename_i b off hx
      cases h
      have hv := hev x
      rw [hx] at hv
      have hv' := hv
      have hc : ρ x = .pointer (some ⟨b, off, none⟩) := hv
      rw [hc] at hv'
      exact ⟨_, hv', fun w => by simp [execOp, ho, hc]⟩
    · rename_i b off hx
      cases h
      have hv := hev x
      rw [hx] at hv
      have hv' := hv
      obtain ⟨c, hc, _⟩ := hv
      rw [hc] at hv'
      exact ⟨_, hv', fun w => by simp [execOp, ho, hc]⟩
    · rename_i f a b hx
      cases h
      have hv := hev x
      rw [hx] at hv
      have hv' := hv
      obtain ⟨c, m, hc, _⟩ := hv
      rw [hc] at hv'
      exact ⟨_, hv', fun w => by simp [execOp, ho, hc]⟩
    · rename_i l hx
      cases h
      have hv := hev x
      rw [hx] at hv
      have hv' := hv
      obtain ⟨c, m, _, hc⟩ := hv
      rw [hc] at hv'
      exact ⟨_, hv', fun w => by simp [execOp, ho, hc]⟩
    · exact hfl h
  · rename_i op t x y yt ho
    rcases orElse_some h with h | h
    · have key : ∀ q, nilF P t (ev x) (ev y) = true → (op = .eql ∨ op = .neq) → q = (op == .neq) → r = .lit (.bool q) → Yld P φ ρ o r := by
        intro q hn hop hq hr
        subst hr
        refine ⟨.bool q, rfl, fun w => ?_⟩
        obtain ⟨h1, h2⟩ := nilF_sound hn (hev x) (hev y) w x y op hop
        simp only [execOp, ho, Sem.run_bind, h1, Result.andThen_ok, h2, Sem.run_pure, hq]
      unfold popNil at h
      split at h
      · split at h
        · rename_i hn; cases h; exact key false hn (.inl rfl) rfl rfl
        · cases h
      · split at h
        · rename_i hn; cases h; exact key true hn (.inr rfl) rfl rfl
        · cases h
      · cases h
    · exact hfl h
  · rename_i x xt t ok ho
    rcases orElse_some h with h | h
    · exact yld_of (by simp only [execOp, ho]) (popAssert_sound (xt := xt) (hev x) h)
    · exact hfl h
  · rename_i c ho
    split at h
    · rename_i b hb
      rcases orElse_some h with h | h
      · obtain ⟨v, h1, h2⟩ := popLen_sound (as_ := c.argTypes) (ty := o.type) (cs := (c.args.map fun | .const _ => true | _ => false)) rfl (VRs.evs hev c.args) h
        refine ⟨v, h1, fun w => ?_⟩
        simp only [execOp, ho, resolve, hb, Sem.run_bind, Sem.run_pure, Result.andThen_ok, invoke]
        exact h2 w
      · exact hfl h
    · cases h
  · exact hfl h
end
end
end Go.Proofs.YtlmglnobdcgbeaaGreat.D
