/- Part 2 of what the law's proof needs: words, walks of functions and plain facts. -/
import Derived.ArgAppend
import Derived.Shelf.SortM.Plain
import Derived.Shelf.SortM.SortNone
import Derived.Ground.SlgmProg
import Derived.Test.YtlmglnobdcgbeaaGreatProg
import Derived.Lib.SlKeysI
import Derived.Shelf.SlicesQ.Load
import Derived.Shelf.Abstract
import Derived.Lib.Hide
import Derived.Lib.BufferMore
import Derived.Lib.LazyBuf
import Derived.Test.YtlmglnobdcgbeaaGreatF01
set_option linter.unusedVariables false
set_option linter.unusedSimpArgs false
namespace Go.Proofs.YtlmglnobdcgbeaaGreat.P
open Go.RowKit Go.Shelf Go.Proofs.YtlmglnobdcgbeaaGreatW.PrintWords Go.Proofs.YtlmglnobdcgbeaaGreatW.PrintLast Go.Proofs.YtlmglnobdcgbeaaGreatW.PrintMore Go.Proofs.YtlmglnobdcgbeaaGreat.R
theorem regW_lit_ {n id : Nat} {P : Program} {l : List Oper} {Q : Exit → Act → World → Prop} {a : Act} {w : World} (h : wpList P l.toArray Q l a w) :
    (Code.region id l.toArray false).wpIn Fence.wide n P Q a w := wpIn_wide.2 (wp_region_lit h)
theorem slice_of_own {w : World} {base n : Nat} {v : Value} {xs : List Value} (h : w.ownsRow base 3 1 v n xs) : (v = .slice none 0 0 ∧ n = 0 ∧ xs = []) ∨ ∃ g c cells, v = .slice (some ⟨g, 0, none⟩) n c ∧ base ≤ g ∧ w.heap[g]? = some (.cells cells 3 (0, 0)) ∧ n ≤ c ∧ c ≤ maxLen ∧ cells.size = c * 1 ∧ cells.toList.take xs.length = xs := by
  obtain ⟨h1, h2⟩ := h
  rcases h2 with ⟨h2, h3⟩ | ⟨g, cap, cur, rfl, hg, hh, r⟩
  · exact .inl ⟨h2, h3, by subst h3; simpa using h1⟩
  · exact .inr ⟨g, cap, cur, rfl, hg, hh, r.1, r.2.1, r.2.2.1, by rw [h1]; exact r.2.2.2⟩
def mk (D : Nat) : Deferred := { target := .collected D, args := #[] }
inductive Marks (lo : Nat) : List Nat → World → Prop
  | nil (W : World) : Marks lo [] W
  | cons {D : Nat} {Ds : List Nat} {W : World} (h : W.heap[D]? = some (.deferred (some []))) (hlo : lo ≤ D) (hd : ∀ E ∈ Ds, E ≠ D) (t : Marks lo Ds W) : Marks lo (D :: Ds) W
theorem Marks.keep {lo : Nat} {Ds : List Nat} {W W' : World} (h : Marks lo Ds W) (hk : ∀ D ∈ Ds, lo ≤ D → W.heap[D]? = some (.deferred (some [])) → W'.heap[D]? = some (.deferred (some []))) : Marks lo Ds W' := by
  induction h with
  | nil => exact .nil _
  | cons h hlo hd t ih => exact .cons (hk _ (List.mem_cons_self ..) hlo h) hlo hd (ih fun D hD => hk D (List.mem_cons_of_mem _ hD))
theorem Marks.leaves {lo n : Nat} {P : Program} {fn : Func} {tmps : Array Value} {R : Ending → World → Prop} {Ds : List Nat} :
    ∀ {W : World}, Marks lo Ds W → (∀ W', IStep lo lo 0 W W' → ∃ v, (results fn tmps).run P W' = .ok v W' ∧ R (.returned v) W') → LeavesInM Fence.wide n P fn tmps R (Ds.map mk) .returning W := by
  induction Ds with
  | nil =>
    intro W h hR
    exact hR _ (IStep.refl _ _ _ _)
  | cons D Ds ih =>
    intro W h hR
    cases h with
    | cons h hlo hd t =>
      refine ⟨by simp, .inl ⟨D, _, rfl, run_takeDeferred h, ?_⟩⟩
      refine ih (t.keep fun E hE _ he => (World.putObj_heap_other (hd E hE)).trans he) fun W' hs => hR W' ((istep_putObj _ h rfl hlo).trans hs)
theorem Marks.lt {lo : Nat} {Ds : List Nat} {W : World} (h : Marks lo Ds W) : ∀ D ∈ Ds, D < W.heap.size := by
  induction h with
  | nil => intro D hD; cases hD
  | cons h hlo hd t ih => intro D hD; rcases List.mem_cons.1 hD with rfl | hD; exact (Array.getElem?_eq_some_iff.1 h).1; exact ih D hD
theorem own_C {w : World} {base n : Nat} {A : Option Addr} {c : Nat} {xs : List Int} (h : w.ownsRow base 3 1 (.slice A n c) n (nums .i64 xs)) : Kd.C (Kd.int .i64) w A n xs := by
  obtain ⟨A', c', e, hr⟩ := own_reads_of (enc := Value.int .i64) (d := (0 : Int)) h
  cases e
  exact Kd.C_of_reads hr
theorem R_istep {W W' : World} {b lo base : Nat} {v : Value} {xs : List Int} (h : Kd.R (Kd.int .i64) 3 W base (fun _ => True) v xs) (k : IStep b lo 0 W W') : Kd.R (Kd.int .i64) 3 W' base (fun _ => True) v xs := by
  refine Kd.R_mono (Kd.R_move (Kd.R_tight rfl h) fun g hg => ?_) (fun _ _ => trivial)
  obtain ⟨_, inner, ho, _⟩ := h
  obtain ⟨cells, hc⟩ := own_typed ho g hg.symm
  rw [hc]
  exact k.same g _ hc (fun h3 => by omega) (fun _ => rfl)
theorem Below_istep {n : Nat} {w W W' : World} {b lo : Nat} (h : Below n w W) (hw : n ≤ w.heap.size) (k : IStep b lo 0 W W') (hb : n ≤ b) : Below n w W' := by
  refine h.trans ⟨k.os, k.tape, k.output, k.size, fun j hj => ?_⟩
  have hjW : j < W.heap.size := Nat.lt_of_lt_of_le (Nat.lt_of_lt_of_le hj hw) h.size
  rw [k.same j _ (Array.getElem?_eq_getElem hjW) (fun h3 => by omega) (fun h3 => by omega), Array.getElem?_eq_getElem hjW]
def RvI (x : Int) (vs : Array Value) (W : World) : Prop := vs = #[.int .i64 x]
set_option maxHeartbeats 4000000 in
set_option maxRecDepth 100000 in
theorem values_iter (zs : List Int) (A : Option Addr) (c n : Nat) (w : World) (B : Nat) (Ex E : Nat → Prop) (hn : 1 ≤ n)
    (hC : ∀ W', w.heap.size ≤ W'.heap.size → (∀ k, k < w.heap.size → ¬ Ex k → W'.heap[k]? = w.heap[k]?) → W'.heap[B]? = some (.cells #[.slice A zs.length c] 23 (0, 0)) ∧ Kd.C (Kd.int .i64) W' A zs.length zs) :
    IterC Fence.wide n Tryz.prog 118 #[.pointer (some ⟨B, 0, none⟩)] zs RvI Ex 0 E w := by
  intro l J Jx W hW hJ hJx hY h0
  have hcap := hC W hW.size (fun k hk _ => hW.block k hk)
  have hbig : zs.length ≤ 9223372036854775807 := hcap.2.2.1
  have hc0 : W.cell? ⟨B, 0, none⟩ = some (.slice A zs.length c) := (blk_cell hcap.1 0).trans rfl
  have HC := Aside0.mk hC
  have HJ := Aside0.mk hJ
  have HY := Aside0.mk hY
  have HW := Aside0.mk hW
  clear hC hJ hJx hY hcap hW
  refine callsIn_of_wp Tryz.func118 rfl trivial ?_ rfl
  simp only [Tryz.ntmps118, List.size_toArray, List.length_cons, List.length_nil, Nat.reduceAdd, Nat.reduceSub, Array.replicate_succ, Array.replicate_zero, List.push_toArray, List.append_toArray, List.nil_append, List.cons_append]
  gi_wp2
  gi_loopw [7] (fun i wr => ∃ k : Nat, k ≤ zs.length ∧ i = .int .i64 k ∧ J k wr ∧ Aside0 (W.heap.size ≤ wr.heap.size) ∧ Aside0 (∀ j, j < w.heap.size → ¬ Ex j → wr.heap[j]? = W.heap[j]?))
    (fun i _ => zs.length - (intOf i).toNat)
  case atStart => exact ⟨0, Nat.zero_le _, rfl, h0, ⟨Nat.le_refl _⟩, ⟨fun _ _ _ => rfl⟩⟩
  case round =>
    obtain ⟨k, hk, rfl, hJs, HS, HK⟩ := hrel
    by_cases hlt : k < zs.length
    · have hread := (HC.out wr (Nat.le_trans HW.out.size HS.out) (fun j hj hx => (HK.out j hj hx).trans (HW.out.block j hj))).2
      obtain ⟨ad, rfl, hcell⟩ := Kd.at_int hread (k : Int) (by omega) (by omega)
      rw [Int.toNat_natCast] at hcell
      have hrd : rd zs (k : Int) = zs[k] := by simp [rd, List.getD_eq_getElem?_getD, List.getElem?_eq_getElem hlt]
      rw [hrd] at hcell
      obtain ⟨fn, tmps, assign, body, hy, hR⟩ := HY.out k zs[k] #[.int .i64 zs[k]] wr (List.getElem?_eq_getElem hlt) hJs rfl HS.out
      have HR := Aside0.mk hR
      clear hread hrd hR hc0 hJs h0
      generalize zs[k] = x at hcell hy HR
      gi_wp2
      refine HR.out.mono ?_
      rintro e W3 (⟨rfl, hJ3, hk3⟩ | ⟨rfl, hJx3, hk3⟩)
      · have H3 := Aside0.mk hk3
        clear hk3
        gi_wp2
        go_roundw
        case rel =>
          exact ⟨k + 1, by omega, by simp, hJ3, ⟨Nat.le_trans HS.out H3.out.size⟩, ⟨fun j hj hx => (H3.out.same j (Nat.lt_of_lt_of_le hj (Nat.le_trans HW.out.size HS.out)) (.inl ⟨hj, hx⟩)).trans (HK.out j hj hx)⟩⟩
        case measure => simp [intOf]; omega
      · clear hk3
        gi_wp2
        refine bodyPost_ret (results_none rfl _ _ _) rfl ?_
        exact ⟨⟨_, rfl⟩, .inr ⟨_, by omega, hJx3⟩⟩
    · obtain rfl : k = zs.length := by omega
      gi_wp2
      go_end0
      exact ⟨⟨_, rfl⟩, .inl hJs⟩
set_option maxHeartbeats 1000000 in
theorem values_calls (A : Option Addr) (n c : Nat) (w : World) : Calls Tryz.prog 95 #[.slice A n c] w fun e w' => e = .returned (.func (.func 118) #[] #[.pointer (some ⟨w.heap.size, 0, none⟩)]) ∧ w' = w.alloc (.cells #[.slice A n c] 23) := by
  go_enter Tryz.func95, Tryz.ntmps95
  go_wp2
  go_ret
  exact ⟨rfl, rfl⟩
theorem bkeep_append {n0 gb B0 B : Nat} {W W1 : World} {v u : Value} {cs : Array Value} {t : TypeId} (hcs : W.heap[gb]? = some (.cells cs t (0, 0))) (hg : W.grownBy W1 v.ownBlock) (hv : ∀ k, v.ownBlock = some k → n0 ≤ k ∧ ∃ cells, W.heap[k]? = some (.cells cells 3 (0, 0))) :
    BKeep n0 (fun k => k = gb) B0 B (fun _ => False) W (W1.setCell ⟨gb, 0, none⟩ u) := by
  have hsame : ∀ k, k < W.heap.size → k ≠ gb → v.ownBlock ≠ some k → (W1.setCell ⟨gb, 0, none⟩ u).heap[k]? = W.heap[k]? := fun k hk h1 h2 => (Below.heap_setCell W1 ⟨gb, 0, none⟩ u k h1).trans (hg.block k hk (fun e => h2 e.symm))
  have hsz : W.heap.size ≤ (W1.setCell ⟨gb, 0, none⟩ u).heap.size := by simpa [World.setCell] using hg.size
  have hbk : ∀ (k : Nat) (o : Obj), W.heap[k]? = some o → o.isCells = false → (W1.setCell ⟨gb, 0, none⟩ u).heap[k]? = some o := fun k o ho hc =>
    (hsame k (Array.getElem?_eq_some_iff.1 ho).1 (fun e => by subst e; rw [hcs] at ho; cases ho; cases hc) (fun e => by obtain ⟨cells, h⟩ := (hv k e).2; rw [h] at ho; cases ho; cases hc)).trans ho
  refine ⟨fun k o _ ho hc => hbk k o ho hc, hsz, fun k hk h1 => ?_, fun k o _ ho hc => hbk k o ho hc⟩
  rcases h1 with ⟨h1, h2⟩ | ⟨_, h2⟩
  · exact hsame k hk h2 (fun e => by have := (hv k e).1; omega)
  · exact h2.elim
set_option maxHeartbeats 16000000 in
set_option maxRecDepth 100000 in
theorem appendSeq_calls (zs : List Int) (A : Option Addr) (c : Nat) (B : Nat) (w : World) (hB : w.heap[B]? = some (.cells #[.slice A zs.length c] 23 (0, 0))) (hr : Kd.C (Kd.int .i64) w A zs.length zs) (hlen : zs.length ≤ 1000000) :
    Calls Tryz.prog 124 #[.slice none 0 0, .func (.func 118) #[] #[.pointer (some ⟨B, 0, none⟩)]] w fun e w' => ∃ v, e = .returned v ∧ Kd.R (Kd.int .i64) 3 w' w.heap.size (fun _ => True) v zs ∧ Below w.heap.size w w' := by
  refine (callsIn_wide (n := 5)).1 (callsIn_of_wp_marks Tryz.func124 rfl trivial ?_ rfl)
  simp only [Tryz.ntmps124, List.size_toArray, List.length_cons, List.length_nil, Nat.reduceAdd, Nat.reduceSub, Array.replicate_succ, Array.replicate_zero, List.push_toArray, List.append_toArray, List.nil_append, List.cons_append]
  have Ab := Aside0.mk hB
  have Ar := Aside0.mk hr
  have Al := Aside0.mk hlen
  clear hB hr hlen
  go_wp2_with (first
    | ((with_reducible refine gate_dst (N := 2) rfl ?_); refine box_event ?hg (N := 2) ?hd (cs := #[.slice none 0 0]) (t := 23) ?hr ?_; (case hd => rfl); (case hg => rfl); (case hr => first | (go_simp; done) | (go_simp; rfl)); intro gb102 hg2 w2 hx2 hb2; have HG2 := Aside0.mk hg2; clear hg2)
    | (with_reducible refine regW_lit_ ?_) | gi_step)
  have hs2 := hb2.size
  have g2 := HG2.out
  have hgl := (Array.getElem?_eq_some_iff.1 hx2).1
  have hBl := (Array.getElem?_eq_some_iff.1 Ab.out).1
  have hseq := values_iter zs A c 4 w2 B (fun k => k = gb102) (fun _ => False) (by omega) (by
    intro W' hsz hsame
    refine ⟨(hsame _ (by omega) (by omega)).trans ((hb2.block _ (by omega)).trans Ab.out), ?_⟩
    exact Kd.C_F (Kd.heap_int _) Ar.out W' (fun k hk _ => (hsame k (by omega) (by omega)).trans (hb2.block k hk)))
  refine range_outer (xs := zs) (Rv := RvI) (Ex := fun k => k = gb102) (c := 0) (E := fun _ => False) (w0 := w2) rfl (fun h0 => by cases h0) (gf := 118) rfl trivial (fun args w => enters_ Tryz.func118 (by kernel_rfl) rfl args w) hseq (Below.refl _ _) (fun x vs W h => by subst h; rfl)
    (fun i W' => ∃ v, W'.heap[gb102]? = some (.cells #[v] 23 (0, 0)) ∧ Kd.R (Kd.int .i64) 3 W' w2.heap.size (fun _ => True) v (zs.take i) ∧ Below w.heap.size w W')
    (fun _ _ _ => False) ?hI (fun _ _ _ _ h _ => h) ⟨.slice none 0 0, hx2, Kd.R_nil _ _ _ _ _, below_step (Below.refl _ _) hb2⟩
    (fun i x a' W' => a' = { tmps := #[.slice none 0 0, .func (.func 118) #[] #[.pointer (some ⟨B, 0, none⟩)], .pointer (some ⟨gb102, 0, none⟩), undef, .slice none 0 0, .int .i64 x, .func (.func 118) #[] #[.pointer (some ⟨B, 0, none⟩)], .int .i64 x, undef, undef, undef, undef, undef], defers := [] } ∧ ∃ v, W'.heap[gb102]? = some (.cells #[v] 23 (0, 0)) ∧ Kd.R (Kd.int .i64) 3 W' w2.heap.size (fun _ => True) v (zs.take i) ∧ Below w.heap.size w W')
    ?hAx ?assign ?body ?done (fun _ _ _ _ _ _ h => h.elim)
  case hI =>
    rintro i X Y ⟨v, h1, h2, h3⟩ hs
    exact ⟨v, hs.same _ _ h1 (by omega) (fun _ => rfl), R_istep h2 hs, Below_istep h3 (Nat.le_refl _) hs (by omega)⟩
  case hAx =>
    rintro i x a' _ X Y ⟨ha, v, h1, h2, h3⟩ hs
    exact ⟨ha, v, hs.same _ _ h1 (by omega) (fun _ => rfl), R_istep h2 hs, Below_istep h3 (Nat.le_refl _) hs (by omega)⟩
  case assign =>
    rintro l' i x vs W' K hx hi rfl hsz hK
    simp only [List.zip_toArray, List.zip_cons_cons, List.zip_nil_right, List.zip_nil_left, List.size_toArray, List.foldl_toArray', List.foldl_cons, List.foldl_nil, List.setIfInBounds_toArray, List.set_cons_zero, List.set_cons_succ, List.length_cons, List.length_nil]
    clear hseq
    have Hi := Aside0.mk hi
    clear hi hx2 g2
    go_wp2_with (first | ((with_reducible refine regIn_lit_ ?hnd ?hlo ?_); (case hnd => kernel_rfl); (case hlo => rintro ⟨_, _, h⟩; exact h)) | gi_step)
    exact hK _ _ (Below.refl _ _) ⟨rfl, Hi.out⟩
  case body =>
    rintro l' i x a' W' hl' hloop hx ⟨rfl, v, h1, h2, h3⟩ hsz
    obtain ⟨hlt, hxe⟩ := List.getElem?_eq_some_iff.1 hx
    have hsn : zs.take i ++ [x] = zs.take (i + 1) := by rw [← hxe, List.take_succ_eq_append_getElem hlt]
    have hll : (zs.take i).length ≤ 1000000 := by have := Al.out; have := List.length_take_le i zs; omega
    obtain ⟨A2, c2, rfl⟩ := Kd.R_slice h2
    have hty := Kd.R_bound h2
    have hRt := Kd.R_types h2 h1 (by decide)
    have hne := Kd.R_ne h2 h1 (by decide)
    have hbase := Kd.R_base h2
    have hc : W'.cell? ⟨gb102, 0, none⟩ = some (.slice A2 (zs.take i).length c2) := (blk_cell h1 0).trans rfl
    have Hsn := Aside0.mk hsn
    have Hll := Aside0.mk hll
    have Hrt := Aside0.mk hRt
    have Hty := Aside0.mk hty
    have Hne := Aside0.mk hne
    have Hba := Aside0.mk hbase
    have H1 := Aside0.mk h1
    have H3 := Aside0.mk h3
    have Hsz := Aside0.mk hsz
    clear hsn hll hRt hty hne hbase h1 h2 h3 hsz hx hxe hseq hloop hlt hx2 g2 hl'
    generalize zs.take i = ys at *
    go_wp2_with (first
      | ((with_reducible refine regIn_lit_ ?hnd ?hlo ?_); (case hnd => kernel_rfl); (case hlo => rintro ⟨_, _, h⟩; exact h))
      | ((with_reducible refine gate_builtin (b := .append) (xs := #[.tmp 8, .tmp 10]) rfl ?_); at_builtin; refine Kd.R_append (Kd.int .i64) (w0 := W') w2.heap.size rfl (.tmp 8) (.tmp 10) 23 3 (.int .i64 0) 8 rfl Tryz.underlying23 info3 rfl (by decide) (by omega) (.slice A2 ys.length c2) ys x [.int .i64 x] (fun k_ => True ∧ k_ ≠ gb102) (fun _ => False) rfl (by first | (go_simp; done) | (go_simp; rfl)) ?aP (fun _ hk => hk.elim) ?aF ?aO ?aB ?aS ?aL ?_; (case aP => exact rfl); (case aB => exact ⟨rfl, rfl, rfl, Nat.le_refl _, fun _ _ => rfl⟩); (case aF => exact (fun k_ hk => ⟨trivial, by have := Hsz.out; omega⟩)); (case aO => exact Hrt.out); (case aS => have := Hsz.out; omega); (case aL => have := Hll.out; omega); intro v1 w3 ho hb hg hat; have ho3 := Aside0.mk ho; have hb3 := Aside0.mk hb; have hg3 := Aside0.mk hg; have h13 := Aside0.mk (blk_grown H1.out hg Hne.out); have hc3 : w3.cell? ⟨gb102, 0, none⟩ = some (.slice A2 ys.length c2) := (blk_cell h13.out 0).trans rfl; have hf3 := blk_frozen h13.out 0; obtain ⟨A3, c3, rfl⟩ := Kd.R_slice ho; clear ho hb hg hat hc)
      | gi_step)
    refine ⟨bkeep_append (v := .slice A2 ys.length c2) H1.out hg3.out (fun k e => ⟨Hba.out k e, ?_⟩), _, blk_put (cs := #[.slice A2 ys.length c2]) h13.out 0 _ rfl, ?_, ?_⟩
    · obtain ⟨_, _, _, q, hq, cells, hcl⟩ := Hty.out.1 k e
      have hq3 : q = 3 := by
        rcases List.mem_cons.1 hq with h | h
        · exact h
        · exact absurd (show q ∈ ([] : List Nat) from h) (by simp)
      subst hq3
      exact ⟨cells, hcl⟩
    · rw [← Hsn.out]
      exact Kd.R_mono (Kd.R_far (p := ⟨gb102, 0, none⟩) (show Kd.R (Kd.int .i64) 3 w3 w2.heap.size (fun k_ => True ∧ k_ ≠ gb102) (.slice A3 (ys.length + 1) c3) (ys ++ [x]) from by have h_ := ho3.out; rw [List.length_append] at h_; exact h_) (fun k hk => hk.2) _) (fun _ _ => trivial)
    · exact (H3.out.trans (hb3.out.mono (by omega))).setCell (p := ⟨gb102, 0, none⟩) (by show w.heap.size ≤ gb102; have := HG2.out; omega) _
  case done =>
    rintro D W' hD ⟨v, h1, h2, h3⟩ hmk
    rw [List.take_length] at h2
    obtain ⟨A2, c2, rfl⟩ := Kd.R_slice h2
    have hc : W'.cell? ⟨gb102, 0, none⟩ = some (.slice A2 zs.length c2) := (blk_cell h1 0).trans rfl
    have H2 := Aside0.mk h2
    have H3 := Aside0.mk h3
    have HD := Aside0.mk hD
    have HM := Aside0.mk hmk
    clear hseq h1 h2 h3 hmk hD hx2 g2
    simp only [Exit.inBlock, Exit.then, Act.put, List.setIfInBounds_toArray, List.set_cons_zero, List.set_cons_succ]
    go_wp2_with (first | (with_reducible refine regW_lit_ ?_) | gi_step)
    refine Marks.leaves (lo := w2.heap.size) (Ds := [D]) (.cons (show W'.heap[D]? = _ from HM.out) HD.out (fun E hE => by cases hE) (.nil _)) fun W2 hs => ⟨.slice A2 zs.length c2, ?res, _, rfl, Kd.R_lower (R_istep H2.out hs) (by omega), Below_istep H3.out (Nat.le_refl _) hs (by omega)⟩
    have hr : Tryz.f124.results = #[.tmp 4] := rfl
    unfold results
    rw [hr]
    simp [go_sem]
set_option maxHeartbeats 1000000 in
theorem collect_calls (zs : List Int) (A : Option Addr) (c : Nat) (B : Nat) (w : World) (hB : w.heap[B]? = some (.cells #[.slice A zs.length c] 23 (0, 0))) (hr : Kd.C (Kd.int .i64) w A zs.length zs) (hlen : zs.length ≤ 1000000) :
    Calls Tryz.prog 117 #[.func (.func 118) #[] #[.pointer (some ⟨B, 0, none⟩)]] w fun e w' => ∃ v, e = .returned v ∧ Kd.R (Kd.int .i64) 3 w' w.heap.size (fun _ => True) v zs ∧ Below w.heap.size w w' := by
  have H := Aside0.mk (appendSeq_calls zs A c B w hB hr hlen)
  clear hB hr hlen
  go_enter Tryz.func117, Tryz.ntmps117
  go_wp2_with (first | (go_at_call 124; refine H.out.mono ?_; rintro e w' ⟨v, rfl, h1, h2⟩; have H1 := Aside0.mk h1; have H2 := Aside0.mk h2; clear h1 h2))
  go_ret
  exact ⟨_, rfl, H1.out, H2.out⟩
end Go.Proofs.YtlmglnobdcgbeaaGreat.P
namespace Go.Proofs
open Go.Shelf
def Tryz.sortA_ren : Go.Shelf.Ren := ⟨fun | 5 => 100 | 8 => 120 | 7 => 121 | 19 => 133 | 20 => 134 | 10 => 135 | 11 => 136 | 12 => 137 | 13 => 138 | 14 => 139 | 15 => 140 | 16 => 141 | 17 => 142 | 18 => 143 | 30 => 150 | 31 => 146 | 32 => 147 | 33 => 151 | 34 => 152 | 35 => 153 | 40 => 155 | n => n, fun | 23 => 23 | 25 => 3 | 3 => 3 | 32 => 90 | 22 => 23 | 0 => 0 | 44 => 161 | 46 => 163 | 4 => 4 | 36 => 154 | 35 => 153 | 41 => 158 | 5 => 5 | 9 => 9 | 53 => 168 | 57 => 172 | 63 => 176 | 64 => 49 | n => n, fun | n => n⟩
theorem Tryz.sortA : Go.Proofs.SlLaysM.n5 Tryz.prog Tryz.sortA_ren := {
  mixed := by kernel_rfl
  f5 := ⟨Tryz.f100.name, by decide, Tryz.func100.trans (congrArg some (by kernel_rfl))⟩
  f7 := ⟨Tryz.f121.name, by decide, Tryz.func121.trans (congrArg some (by kernel_rfl))⟩
  f8 := Tryz.func120.trans (congrArg some (by kernel_rfl))
  f10 := ⟨Tryz.f135.name, by decide, Tryz.func135.trans (congrArg some (by kernel_rfl))⟩
  f11 := ⟨Tryz.f136.name, by decide, Tryz.func136.trans (congrArg some (by kernel_rfl))⟩
  f12 := ⟨Tryz.f137.name, by decide, Tryz.func137.trans (congrArg some (by kernel_rfl))⟩
  f13 := ⟨Tryz.f138.name, by decide, Tryz.func138.trans (congrArg some (by kernel_rfl))⟩
  f14 := ⟨Tryz.f139.name, by decide, Tryz.func139.trans (congrArg some (by kernel_rfl))⟩
  f15 := ⟨Tryz.f140.name, by decide, Tryz.func140.trans (congrArg some (by kernel_rfl))⟩
  f16 := ⟨Tryz.f141.name, by decide, Tryz.func141.trans (congrArg some (by kernel_rfl))⟩
  f17 := ⟨Tryz.f142.name, by decide, Tryz.func142.trans (congrArg some (by kernel_rfl))⟩
  f18 := ⟨Tryz.f143.name, by decide, Tryz.func143.trans (congrArg some (by kernel_rfl))⟩
  f19 := Tryz.func133.trans (congrArg some (by kernel_rfl))
  f20 := Tryz.func134.trans (congrArg some (by kernel_rfl))
  f30 := ⟨Tryz.f150.name, by decide, Tryz.func150.trans (congrArg some (by kernel_rfl))⟩
  f31 := Tryz.func146.trans (congrArg some (by kernel_rfl))
  f32 := Tryz.func147.trans (congrArg some (by kernel_rfl))
  f33 := ⟨Tryz.f151.name, by decide, Tryz.func151.trans (congrArg some (by kernel_rfl))⟩
  f34 := ⟨Tryz.f152.name, by decide, Tryz.func152.trans (congrArg some (by kernel_rfl))⟩
  f35 := ⟨Tryz.f153.name, by decide, Tryz.func153.trans (congrArg some (by kernel_rfl))⟩
  f40 := ⟨Tryz.f155.name, by decide, Tryz.func155.trans (congrArg some (by kernel_rfl))⟩
  t0 := Tryz.underlying0
  a0 := Tryz.isAgg0
  z0 := Tryz.sizeOf0
  v0 := Tryz.zeroValue0
  t3 := Tryz.underlying3
  a3 := Tryz.isAgg3
  z3 := Tryz.sizeOf3
  v3 := Tryz.zeroValue3
  t4 := Tryz.underlying4
  a4 := Tryz.isAgg4
  z4 := Tryz.sizeOf4
  v4 := Tryz.zeroValue4
  t5 := Tryz.underlying5
  a5 := Tryz.isAgg5
  z5 := Tryz.sizeOf5
  v5 := Tryz.zeroValue5
  t9 := Tryz.underlying9
  a9 := Tryz.isAgg9
  z9 := Tryz.sizeOf9
  v9 := Tryz.zeroValue9
  t22 := Tryz.underlying23
  a22 := Tryz.isAgg23
  z22 := Tryz.sizeOf23
  v22 := Tryz.zeroValue23
  t23 := Tryz.underlying23
  a23 := Tryz.isAgg23
  z23 := Tryz.sizeOf23
  v23 := Tryz.zeroValue23
  t25 := Tryz.underlying3
  a25 := Tryz.isAgg3
  z25 := Tryz.sizeOf3
  v25 := Tryz.zeroValue3
  t32 := Tryz.underlying90
  a32 := Tryz.isAgg90
  z32 := Tryz.sizeOf90
  v32 := Tryz.zeroValue90
  t35 := Tryz.underlying153
  a35 := Tryz.isAgg153
  z35 := Tryz.sizeOf153
  v35 := Tryz.zeroValue153
  t36 := Tryz.underlying154
  a36 := Tryz.isAgg154
  z36 := Tryz.sizeOf154
  v36 := Tryz.zeroValue154
  t41 := Tryz.underlying158
  a41 := Tryz.isAgg158
  z41 := Tryz.sizeOf158
  v41 := Tryz.zeroValue158
  t44 := Tryz.underlying161
  a44 := Tryz.isAgg161
  z44 := Tryz.sizeOf161
  v44 := Tryz.zeroValue161
  t46 := Tryz.underlying163
  a46 := Tryz.isAgg163
  z46 := Tryz.sizeOf163
  v46 := Tryz.zeroValue163
  t53 := Tryz.underlying168
  a53 := Tryz.isAgg168
  z53 := Tryz.sizeOf168
  v53 := Tryz.zeroValue168
  t57 := Tryz.underlying172
  a57 := Tryz.isAgg172
  z57 := Tryz.sizeOf172
  v57 := Tryz.zeroValue172
  t63 := Tryz.underlying176
  a63 := Tryz.isAgg176
  z63 := Tryz.sizeOf176
  v63 := Tryz.zeroValue176
  t64 := Tryz.underlying49
  a64 := Tryz.isAgg49
  z64 := Tryz.sizeOf49
  v64 := Tryz.zeroValue49 }
end Go.Proofs
namespace Go.Proofs.YtlmglnobdcgbeaaGreat.P
open Go.RowKit Go.Shelf Go.Sort Go.Proofs.YtlmglnobdcgbeaaGreatW.PrintWords Go.Proofs.YtlmglnobdcgbeaaGreatW.PrintLast Go.Proofs.YtlmglnobdcgbeaaGreatW.PrintMore Go.Proofs.YtlmglnobdcgbeaaGreat.R
def srt (l : List Int) : List Int := l.mergeSort fun x y => decide (x ≤ y)
theorem srt_length (l : List Int) : (srt l).length = l.length := by simp [srt]
theorem R_block {w : World} {base : Nat} {ok : Nat → Prop} {v : Value} {xs : List Int} (h : Kd.R (Kd.int .i64) 3 w base ok v xs) :
    (v = .slice none 0 0 ∧ xs = []) ∨ ∃ g cap cur, v = .slice (some ⟨g, 0, none⟩) xs.length cap ∧ base ≤ g ∧ w.heap[g]? = some (.cells cur 3 (0, 0)) ∧ xs.length ≤ cap ∧ cap ≤ maxLen ∧ cur.size = cap * 1 ∧ cur.toList.take xs.length = xs.map encZ := by
  have ho := Kd.own_of_R h
  rcases slice_of_own ho with ⟨h1, h2, h3⟩ | ⟨g, c, cells, h1, h2, h3, h4, h5, h6, h7⟩
  · exact .inl ⟨h1, List.eq_nil_of_length_eq_zero h2⟩
  · exact .inr ⟨g, c, cells, h1, h2, h3, h4, h5, h6, by have e : (encs (Value.int .i64) xs).length = xs.length := encs_length _; rw [e] at h7; exact h7⟩
set_option maxHeartbeats 2000000 in
theorem sort_calls {W : World} {base : Nat} {v : Value} {xs : List Int} (h : Kd.R (Kd.int .i64) 3 W base (fun _ => True) v xs) (hlen : xs.length ≤ 1000000) :
    Calls Tryz.prog 100 #[v] W fun e w' => e = .returned (.tuple #[]) ∧ Kd.R (Kd.int .i64) 3 w' base (fun _ => True) v (srt xs) ∧ W.grownBy w' v.ownBlock := by
  rcases R_block h with ⟨rfl, rfl⟩ | ⟨g, cap, cur, rfl, hb, hg, h1, h2, h3, h4⟩
  · refine (AnyM.slices_Sort_int_none Tryz.sortA none 0 W).mono ?_
    rintro e w' ⟨rfl, rfl⟩
    exact ⟨rfl, by simpa [srt] using h, World.grownBy.refl _ _⟩
  · have hH : Holds encZ W g 0 xs.toArray := holds_of_block_i hg h4
    refine (AnyM.slices_Sort_int Tryz.sortA g 0 cap xs W hH (Array.getElem?_eq_some_iff.1 hg).1 (by omega)).mono ?_
    rintro e w' ⟨rfl, n, os, rfl⟩
    refine ⟨rfl, ?_, grownBy_sorted_i _⟩
    have ho := ownsRow_sorted_i (n := n) (os := os) (ts := srt xs) (srt_length xs) hb hg h1 h2 h3
    have hl := srt_length xs
    refine Kd.R_of_own (h1 := fun _ => rfl) (enc := Value.int .i64) (xs := srt xs) ?_ (fun _ _ => trivial)
    rw [hl]
    exact ho
set_option maxHeartbeats 2000000 in
theorem sorted_calls (zs : List Int) (A : Option Addr) (c : Nat) (B : Nat) (w : World) (hB : w.heap[B]? = some (.cells #[.slice A zs.length c] 23 (0, 0))) (hr : Kd.C (Kd.int .i64) w A zs.length zs) (hlen : zs.length ≤ 1000000) :
    Calls Tryz.prog 94 #[.func (.func 118) #[] #[.pointer (some ⟨B, 0, none⟩)]] w fun e w' => ∃ v, e = .returned v ∧ Kd.R (Kd.int .i64) 3 w' w.heap.size (fun _ => True) v (srt zs) ∧ Below w.heap.size w w' := by
  have H := Aside0.mk (collect_calls zs A c B w hB hr hlen)
  have HL := Aside0.mk hlen
  clear hB hr hlen
  go_enter Tryz.func94, Tryz.ntmps94
  go_wp2_with (first
    | (go_at_call 117; refine H.out.mono ?_; rintro e w1 ⟨v, rfl, h1, h2⟩; have H1 := Aside0.mk h1; have H2 := Aside0.mk h2; clear h1 h2)
    | (go_at_call 100; refine (sort_calls H1.out HL.out).mono ?_; rintro e w2 ⟨rfl, h3, h4⟩; have H3 := Aside0.mk h3; have H4 := Aside0.mk h4; clear h3 h4))
  go_ret
  exact ⟨_, rfl, H3.out, H2.out.grown H4.out H2.out.size (Kd.R_base H1.out)⟩
end Go.Proofs.YtlmglnobdcgbeaaGreat.P
namespace Go.Proofs.YtlmglnobdcgbeaaGreat.P
open Go.RowKit Go.Proofs.YtlmglnobdcgbeaaGreatW.PrintWords Go.Proofs.YtlmglnobdcgbeaaGreatW.PrintLast Go.Proofs.YtlmglnobdcgbeaaGreatW.PrintMore
attribute [local go_sem] max2_int min2_int max_two min_two max_three min_three max_four min_four
def idxO {α : Type} (q : α → Option Bool) : List α → Nat → Option Int
  | [], _ => some (-1)
  | x :: r, i => (q x).bind fun b => if b = true then some (i : Int) else idxO q r (i + 1)
def anyO {α : Type} (q : α → Option Bool) : List α → Option Bool
  | [] => some false
  | x :: r => (q x).bind fun b => if b = true then some true else anyO q r
theorem goesV_ {P : Program} {ops : Array Oper} {Q : Exit → Act → World → Prop} {oi : Oper} {N : Option Tmp} {a : Act} {w : World} {K : Act → World → Prop} {f : FuncId} {fn : Func} {o : Operand} {xs : Array Operand} {ts : Array TypeId} {lb : Array Value} (hf : P.funcs[f]? = some fn) (hname : (fn.name == "runtime.NumGoroutine") = false) (hb : fn.body.isSome = true) (args : Array Value)
    (hw : Region.wanted oi (yielded ops a.tmps) = true) (hN : oi.dst = N) (hop : oi.op = .call { callee := .value o, args := xs, argTypes := ts }) (ho : a.eval o = .func (.func f) #[] lb) (hargs : xs.map a.eval ++ lb = args)
    (h : Calls P f args w fun e w' => ∃ v, e = .returned v ∧ K (a.put N v) w') : if Region.wanted oi (yielded ops a.tmps) = true then Oper.wp P oi a w K Q else K (a.put N undef) w := by
  refine call_ f args hw hN ?_ h
  have he := enters_ hf hname hb args w
  unfold execOp
  simp [hop, resolve, Deferred.ofValue, invoke, ho, hargs, he]
theorem goesW_ {P : Program} {ops : Array Oper} {Q : Exit → Act → World → Prop} {oi : Oper} {N : Option Tmp} {a : Act} {w : World} {K : Act → World → Prop} {f : FuncId} {fn : Func} {o : Operand} {xs : Array Operand} {ts : Array TypeId} {fb : Array Value} (hf : P.funcs[f]? = some fn) (hname : (fn.name == "runtime.NumGoroutine") = false) (hb : fn.body.isSome = true) (args : Array Value)
    (hw : Region.wanted oi (yielded ops a.tmps) = true) (hN : oi.dst = N) (hop : oi.op = .call { callee := .value o, args := xs, argTypes := ts }) (ho : a.eval o = .func (.func f) fb #[]) (hargs : fb ++ xs.map a.eval = args)
    (h : Calls P f args w fun e w' => ∃ v, e = .returned v ∧ K (a.put N v) w') : if Region.wanted oi (yielded ops a.tmps) = true then Oper.wp P oi a w K Q else K (a.put N undef) w := by
  refine call_ f args hw hN ?_ h
  have he := enters_ hf hname hb args w
  unfold execOp
  simp [hop, resolve, Deferred.ofValue, invoke, ho, hargs, he]
theorem idxO_any {α : Type} (q : α → Option Bool) : ∀ (l : List α) (i : Nat) (r : Bool), anyO q l = some r → ∃ j, idxO q l i = some j ∧ decide (j ≥ 0) = r
  | [], i, r, h => ⟨-1, rfl, by simpa [anyO] using h⟩
  | x :: l, i, r, h => by
    unfold anyO at h
    unfold idxO
    obtain ⟨b, hb, h⟩ := Option.bind_eq_some_iff.mp h
    rw [hb]
    cases b with
    | true =>
      simp at h
      subst h
      exact ⟨i, rfl, by simp⟩
    | false =>
      simp at h
      obtain ⟨j, h1, h2⟩ := idxO_any q l (i + 1) r h
      exact ⟨j, by simpa using h1, h2⟩
theorem idxO_drop {α : Type} (q : α → Option Bool) (l : List α) (k : Nat) (h : k < l.length) : idxO q (l.drop k) k = (q l[k]).bind fun b => if b = true then some (k : Int) else idxO q (l.drop (k + 1)) (k + 1) := by
  rw [List.drop_eq_getElem_cons h]; rfl
theorem anyO_le {α : Type} {q q' : α → Option Bool} (h : ∀ x, LeO (q x) (q' x)) : ∀ l, LeO (anyO q l) (anyO q' l)
  | [] => fun _ h => h
  | x :: l => by
    intro r hr
    unfold anyO at hr ⊢
    obtain ⟨b, hb, hr⟩ := Option.bind_eq_some_iff.mp hr
    rw [h x b hb]
    cases b with
    | true => simpa using hr
    | false =>
      simp at hr
      simpa using anyO_le h l r hr
theorem anyO_of {α : Type} {q : α → Option Bool} {p : α → Bool} : ∀ {l : List α}, (∀ x ∈ l, q x = some (p x)) → anyO q l = some (l.any p)
  | [], _ => rfl
  | x :: l, h => by
    unfold anyO
    rw [h x (by simp)]
    have ih := anyO_of (q := q) (p := p) (l := l) (fun y hy => h y (by simp [hy]))
    cases hp : p x <;> simp [hp, ih]
end Go.Proofs.YtlmglnobdcgbeaaGreat.P
namespace Go.Proofs.YtlmglnobdcgbeaaGreat.P
open Go.RowKit Go.Shelf Go.Proofs.YtlmglnobdcgbeaaGreatW.PrintWords Go.Proofs.YtlmglnobdcgbeaaGreatW.PrintLast Go.Proofs.YtlmglnobdcgbeaaGreatW.PrintMore Go.Proofs.YtlmglnobdcgbeaaGreat.R
attribute [local go_sem] max2_int min2_int max_two min_two max_three min_three max_four min_four
def turn_round.T5 : Bool × List (List Nat × List Nat) := (true, [([], []), ([], []), ([1], [1]), ([], []), ([3], [3]), ([4], [4]), ([2, 5], [2, 5]), ([0, 6], [0, 6]), ([], []), ([8, 7, 0, 1, 2, 3, 4, 5, 6, 7, 8], [7, 8])])
def turn_round.B5 : List Nat := [0, 0, 2, 0, 8, 24, 62, 127, 0, 511]
theorem turn_round.tab5 : rtab .any (opsOf Tryz.f99 5) = turn_round.T5 := by kernel_rfl
theorem turn_round.bits5 : waitsOk turn_round.T5.2 turn_round.B5 = true := by kernel_rfl
def turn_round.T6 : Bool × List (List Nat × List Nat) := (true, [([], []), ([0], [0]), ([], []), ([], []), ([3], [3]), ([2, 4], [2, 4]), ([1, 5], [1, 5]), ([0, 1, 2, 3, 4, 5, 6], []), ([7, 6, 5, 0, 1, 2, 3, 4, 5, 6], [6, 7])])
def turn_round.B6 : List Nat := [0, 1, 0, 0, 8, 28, 63, 127, 255]
theorem turn_round.tab6 : rtab .any (opsOf Tryz.f99 6) = turn_round.T6 := by kernel_rfl
theorem turn_round.bits6 : waitsOk turn_round.T6.2 turn_round.B6 = true := by kernel_rfl
def loopBody : Code → Option Code
  | .seq a b => match loopBody a with | some x => some x | none => loopBody b
  | .block _ c => loopBody c
  | .loop c => some c
  | .cond _ a b => match loopBody a with | some x => some x | none => loopBody b
  | _ => none
def firstBlock : Code → Option Code
  | .seq a b => match firstBlock a with | some x => some x | none => firstBlock b
  | .block _ c => some c
  | .cond _ a b => match firstBlock a with | some x => some x | none => firstBlock b
  | _ => none
def seqL : Code → List Code
  | .seq a b => a :: seqL b
  | c => [c]
structure TurnDone (P0_ : Nat → Prop) (w0 w : World) (u : Value) (l0 : List Int) (x tk dn : Int) (g10 : Nat) (w' : World) : Prop where
  t : w'.heap[g10]? = some (.cells #[.int .i64 x, .int .i64 tk, .int .i64 dn] 107 (0, 0))
  ge : w.heap.size ≤ g10
  row : Kd.R (Kd.int .i64) 3 w' w0.heap.size (fun k_ => (P0_ k_ ∨ w.heap.size ≤ k_)) u (l0.set 0 dn)
  bel : Below w0.heap.size w0 w'
  kept : Kept w w' (fun k_ => P0_ k_)
set_option maxHeartbeats 16000000 in
set_option maxRecDepth 100000 in
theorem turn_round {n : Nat} {Q : Exit → Act → World → Prop} (P0_ : Nat → Prop) (u9000_ : Value) (l0 : List Int) (a1 : Int) (B3 : Nat) (A3_0 : Option Addr) (c3_0 : Nat) (l3_0 : List (S67)) (A3_1 : Option Addr) (c3_1 : Nat) (l3_1 : List Int) (B4 : Nat) (g : FuncId) (fng : Func) (w0 w : World)
    (hB : Below w0.heap.size w0 w) (ho0 : Kd.R (Kd.int .i64) 3 w w0.heap.size P0_ u9000_ l0) (hb3 : w.heap[B3]? = some (.cells #[.slice A3_0 l3_0.length c3_0, .slice A3_1 l3_1.length c3_1] 99 (0, 0))) (hr3_0 : Kd.C k67 w A3_0 l3_0.length l3_0)
    (hb4 : w.heap[B4]? = some (.cells #[.func (.func g) #[] #[]] 135 (0, 0))) (nb3_4 : B3 ≠ B4) (hg1 : Tryz.prog.funcs[g]? = some fng) (hg2 : (fng.name == "runtime.NumGoroutine") = false) (hg3 : fng.body.isSome = true)
    (t105 : Int) (hof : ∀ W_, Calls Tryz.prog g #[.agg #[.int .i64 ((rd_T67 l3_0 a1).f2.f0), .int .i64 ((rd_T67 l3_0 a1).f2.f1)]] W_ fun e w' => e = .returned (.int .i64 t105) ∧ Below W_.heap.size W_ w')
    (c6 : 0 ≤ a1) (c7 : a1 < (l3_0.length : Int)) (c8 : 0 < (l0.length : Int)) (y0 y1 y2 y5 y7 y9 y10 y11 y12 y13 y14 y15 y16 y17 y18 y19 y20 y21 y22 y23 y24 y25 y26 y27 y28 y29 y30 y31 y32 y33 y34 y35 y36 y37 y38 y39 y40 y41 y42 y43 y44 y45 y46 y47 y48 y49 y50 y51 : Value) (ds : List Deferred) (r4 r5 r6 r7 z : Code) (hc : ((Tryz.f99.body.bind loopBody).bind firstBlock).map (fun c => ((seqL c).drop 1).take 4) = some [r4, r5, r6, r7])
    (hqp : ∀ c a a' w, a.defers = a'.defers → Q (.panic c) a w → Q (.panic c) a' w)
    (hQ : ∀ (g10 : Nat) (w' : World) (z9 z19 z20 z21 z22 z23 z24 z25 z26 z27 z28 z29 z30 z31 z32 z33 z34 z35 z36 z37 z38 z39 z40 z41 z42 z43 z44 : Value), TurnDone P0_ w0 w u9000_ l0 a1 (mx ((rd_T67 l3_0 a1).f1) (rd l0 0)) (wrap64 ((mx ((rd_T67 l3_0 a1).f1) (rd l0 0)) + t105)) g10 w' → z.wpIn Fence.wide n Tryz.prog Q { tmps := #[y0, y1, y2, .pointer (some ⟨B3, 0, none⟩), .pointer (some ⟨B4, 0, none⟩), y5, u9000_, y7, .int .i64 a1, z9, .pointer (some ⟨g10, 0, none⟩), y11, y12, y13, y14, y15, y16, y17, y18, z19, z20, z21, z22, z23, z24, z25, z26, z27, z28, z29, z30, z31, z32, z33, z34, z35, z36, z37, z38, z39, z40, z41, z42, z43, z44, y45, y46, y47, y48, y49, y50, y51], defers := ds } w') :
    (r4.seq (r5.seq (r6.seq (r7.seq z)))).wpIn Fence.wide n Tryz.prog Q { tmps := #[y0, y1, y2, .pointer (some ⟨B3, 0, none⟩), .pointer (some ⟨B4, 0, none⟩), y5, u9000_, y7, .int .i64 a1, y9, y10, y11, y12, y13, y14, y15, y16, y17, y18, y19, y20, y21, y22, y23, y24, y25, y26, y27, y28, y29, y30, y31, y32, y33, y34, y35, y36, y37, y38, y39, y40, y41, y42, y43, y44, y45, y46, y47, y48, y49, y50, y51], defers := ds } w := by
  simp only [Tryz.f99, Option.bind_some, loopBody, firstBlock, seqL, Option.map_some, List.drop_succ_cons, List.drop_zero, List.take_succ_cons, List.take_zero, Option.some.injEq, List.cons.injEq, and_true] at hc
  obtain ⟨rfl, rfl, rfl, rfl⟩ := hc
  have hu67 := Tryz.underlying67
  have hu107 := Tryz.underlying107
  have hu42 := Tryz.underlying42
  have HO0 := Aside0.mk (show Kd.R (Kd.int .i64) 3 w w0.heap.size (fun k_ => (P0_ k_ ∨ w.heap.size ≤ k_)) u9000_ l0 from Kd.R_mono ho0 (fun k_ hk => (.inl hk)))
  have HR3_0 := Aside0.mk hr3_0
  clear hr3_0
  have BK3 := Aside0.mk hb3
  clear hb3
  have BK4 := Aside0.mk hb4
  clear hb4
  have NB3_4 := Aside0.mk nb3_4
  have NB4_3 := Aside0.mk nb3_4.symm
  clear nb3_4
  have HK := Aside0.mk (Kept.refl w (fun k_ => P0_ k_))
  have HW0 := Aside0.mk hB.size
  have HB := Aside0.mk hB
  clear hB ho0
  have HG1 := Aside0.mk hg1
  have HG2 := Aside0.mk hg2
  have HG3 := Aside0.mk hg3
  have HOF := Aside0.mk hof
  have HQ := Aside0.mk hQ
  have HQP := Aside0.mk hqp
  clear hqp hg1 hg2 hg3 hof hQ
  have c6b0 : decide (0 ≤ a1) = true := decide_eq_true c6
  clear c6
  have c7b0 : decide (a1 < (l3_0.length : Int)) = true := decide_eq_true c7
  clear c7
  have c8b0 : decide (0 < (l0.length : Int)) = true := decide_eq_true c8
  have c8b1 : decide (0 < l0.length) = true := decide_eq_true (by omega)
  clear c8
  obtain ⟨ji9, hji9⟩ : ∃ j_ : Int, (mx ((rd_T67 l3_0 a1).f1) (rd l0 0)) = j_ := ⟨_, rfl⟩
  have hji9_ : (if ((rd_T67 l3_0 a1).f1) < (rd l0 0) then (rd l0 0) else ((rd_T67 l3_0 a1).f1)) = ji9 := hji9
  obtain ⟨y106, hy106⟩ : ∃ y_ : List Int, y_ = (l0.set (0 : Int).toNat (wrap64 ((ji9) + t105))) := ⟨_, rfl⟩
  have Ny106 := Aside0.mk hy106
  clear hy106
  have hnb12 := NB3_4.out
  have hnc12 := NB4_3.out
  obtain ⟨_, _, _, _⟩ := cf2 BK3
  have p101 : 0 ≤ (a1 : Int) := dT
  have q101 : a1 < (l3_0.length : Int) := dT
  obtain ⟨ad101, e101, hx101_0, hx101_1, hx101_2, hx101_3⟩ := at_T67 HR3_0.out a1 p101 q101
  cases e101
  replace p101 := eq_true p101
  replace q101 := eq_true q101
  go_wp2_with (first | ((with_reducible refine gate_dst (N := 9) rfl ?_); refine bx 9 #[.int .i64 0, .int .i64 0, .int .i64 0, .int .i64 0] 67 ?_; intro gb102 hg w14 hbox hb; replace HO0 := rb HO0 hb; have BK102 := hbox; have GW102 := Aside0.mk ((by rw [hg]; exact (by first | exact HK.out.1 | exact (show Kept w _ (fun k_ => P0_ k_) from by repeat (first | (with_reducible first | exact HK.out | apply Kept.alloc | apply Kept.drewN | apply Kept.drew | refine Kept.setCell ?_ (.inr GW3.out) _ | refine Kept.setCell ?_ (.inr GW4.out) _) | exact HK.out)).1) : w.heap.size ≤ gb102)); replace HK := Aside0.mk (Kept.below (S := (fun k_ => P0_ k_)) (by repeat (first | (with_reducible first | exact HK.out | apply Kept.alloc | apply Kept.drewN | apply Kept.drew | refine Kept.setCell ?_ (.inr GW3.out) _ | refine Kept.setCell ?_ (.inr GW4.out) _) | exact HK.out)) hb); have GE102 := Aside0.mk ((by rw [hg]; exact (below_size (pE HB)) : w0.heap.size ≤ gb102)); replace HB := bs HB hb; have NB3_102 := nl BK3 hg; have NB102_3 := nr BK3 hg; replace BK3 := bb BK3 hb; have NB4_102 := nl BK4 hg; have NB102_4 := nr BK4 hg; replace BK4 := bb BK4 hb; clear hb hbox hg; have hnb15 := NB102_3.out; have hnc15 := NB3_102.out; have hnb16 := NB102_4.out; have hnc16 := NB4_102.out; obtain ⟨_, _, _, _, _, _, _, _⟩ := cf4 BK102) | (with_reducible refine regW_lit_ ?_) | gi_step)
  have n0_ : Aside0 (Kd.R (Kd.int .i64) 3 ((((w14.setCell ⟨gb102, 0, none⟩ (.int .i64 ((rd_T67 l3_0 a1).f0))).setCell ⟨gb102, 1, none⟩ (.int .i64 ((rd_T67 l3_0 a1).f1))).setCell ⟨gb102, 2, none⟩ (.int .i64 ((rd_T67 l3_0 a1).f2.f0))).setCell ⟨gb102, 3, none⟩ (.int .i64 ((rd_T67 l3_0 a1).f2.f1))) w0.heap.size (fun k_ => (P0_ k_ ∨ w.heap.size ≤ k_)) u9000_ l0) := ⟨by (with_reducible repeat (first | apply Kd.R_alloc | apply Kd.R_drewN | apply Kd.R_drew)); exact Kd.R_mono (Kd.R_far (p := ⟨gb102, 3, none⟩) (Kd.R_far (p := ⟨gb102, 2, none⟩) (Kd.R_far (p := ⟨gb102, 1, none⟩) (Kd.R_far (p := ⟨gb102, 0, none⟩) (Kd.R_types HO0.out BK102.out (by decide)) (fun _ hk => hk.2) (.int .i64 ((rd_T67 l3_0 a1).f0))) (fun _ hk => hk.2) (.int .i64 ((rd_T67 l3_0 a1).f1))) (fun _ hk => hk.2) (.int .i64 ((rd_T67 l3_0 a1).f2.f0))) (fun _ hk => hk.2) (.int .i64 ((rd_T67 l3_0 a1).f2.f1))) (fun _ hk => hk.1)⟩
  have n1_ : Aside0 (((((w14.setCell ⟨gb102, 0, none⟩ (.int .i64 ((rd_T67 l3_0 a1).f0))).setCell ⟨gb102, 1, none⟩ (.int .i64 ((rd_T67 l3_0 a1).f1))).setCell ⟨gb102, 2, none⟩ (.int .i64 ((rd_T67 l3_0 a1).f2.f0))).setCell ⟨gb102, 3, none⟩ (.int .i64 ((rd_T67 l3_0 a1).f2.f1))).heap[B3]? = some (.cells #[.slice (some ad101) l3_0.length c3_0, .slice A3_1 l3_1.length c3_1] 99 (0, 0))) := ⟨pF BK3⟩
  have n2_ : Aside0 (((((w14.setCell ⟨gb102, 0, none⟩ (.int .i64 ((rd_T67 l3_0 a1).f0))).setCell ⟨gb102, 1, none⟩ (.int .i64 ((rd_T67 l3_0 a1).f1))).setCell ⟨gb102, 2, none⟩ (.int .i64 ((rd_T67 l3_0 a1).f2.f0))).setCell ⟨gb102, 3, none⟩ (.int .i64 ((rd_T67 l3_0 a1).f2.f1))).heap[B4]? = some (.cells #[.func (.func g) #[] #[]] 135 (0, 0))) := ⟨pF BK4⟩
  have n3_ : Aside0 (((((w14.setCell ⟨gb102, 0, none⟩ (.int .i64 ((rd_T67 l3_0 a1).f0))).setCell ⟨gb102, 1, none⟩ (.int .i64 ((rd_T67 l3_0 a1).f1))).setCell ⟨gb102, 2, none⟩ (.int .i64 ((rd_T67 l3_0 a1).f2.f0))).setCell ⟨gb102, 3, none⟩ (.int .i64 ((rd_T67 l3_0 a1).f2.f1))).heap[gb102]? = some (.cells #[.int .i64 ((rd_T67 l3_0 a1).f0), .int .i64 ((rd_T67 l3_0 a1).f1), .int .i64 ((rd_T67 l3_0 a1).f2.f0), .int .i64 ((rd_T67 l3_0 a1).f2.f1)] 67 (0, 0))) := ⟨by refine pB ?_; refine blk_put (cs := #[.int .i64 ((rd_T67 l3_0 a1).f0), .int .i64 ((rd_T67 l3_0 a1).f1), .int .i64 ((rd_T67 l3_0 a1).f2.f0), .int .i64 0]) ?_ 3 _ rfl; refine pB ?_; refine blk_put (cs := #[.int .i64 ((rd_T67 l3_0 a1).f0), .int .i64 ((rd_T67 l3_0 a1).f1), .int .i64 0, .int .i64 0]) ?_ 2 _ rfl; refine pB ?_; refine blk_put (cs := #[.int .i64 ((rd_T67 l3_0 a1).f0), .int .i64 0, .int .i64 0, .int .i64 0]) ?_ 1 _ rfl; refine pB ?_; refine blk_put (cs := #[.int .i64 0, .int .i64 0, .int .i64 0, .int .i64 0]) ?_ 0 _ rfl; exact pB BK102.out⟩
  have n4_ : Aside0 (Kept w ((((w14.setCell ⟨gb102, 0, none⟩ (.int .i64 ((rd_T67 l3_0 a1).f0))).setCell ⟨gb102, 1, none⟩ (.int .i64 ((rd_T67 l3_0 a1).f1))).setCell ⟨gb102, 2, none⟩ (.int .i64 ((rd_T67 l3_0 a1).f2.f0))).setCell ⟨gb102, 3, none⟩ (.int .i64 ((rd_T67 l3_0 a1).f2.f1))) (fun k_ => P0_ k_)) := ⟨by repeat (first | (with_reducible first | exact HK.out | apply Kept.alloc | apply Kept.drewN | apply Kept.drew | refine Kept.setCell ?_ (.inr GW3.out) _ | refine Kept.setCell ?_ (.inr GW4.out) _ | refine Kept.setCell ?_ (.inr GW102.out) _) | exact HK.out)⟩
  have n5_ : Aside0 (Below w0.heap.size w0 ((((w14.setCell ⟨gb102, 0, none⟩ (.int .i64 ((rd_T67 l3_0 a1).f0))).setCell ⟨gb102, 1, none⟩ (.int .i64 ((rd_T67 l3_0 a1).f1))).setCell ⟨gb102, 2, none⟩ (.int .i64 ((rd_T67 l3_0 a1).f2.f0))).setCell ⟨gb102, 3, none⟩ (.int .i64 ((rd_T67 l3_0 a1).f2.f1)))) := ⟨pE HB⟩
  (try clear HO0)
  (try clear BK3)
  (try clear BK4)
  (try clear BK102)
  (try clear HK)
  (try clear HB)
  generalize ((((w14.setCell ⟨gb102, 0, none⟩ (.int .i64 ((rd_T67 l3_0 a1).f0))).setCell ⟨gb102, 1, none⟩ (.int .i64 ((rd_T67 l3_0 a1).f1))).setCell ⟨gb102, 2, none⟩ (.int .i64 ((rd_T67 l3_0 a1).f2.f0))).setCell ⟨gb102, 3, none⟩ (.int .i64 ((rd_T67 l3_0 a1).f2.f1))) = w18 at n0_ n1_ n2_ n3_ n4_ n5_ ⊢
  have HO0 := n0_
  have BK3 := n1_
  have BK4 := n2_
  have BK102 := n3_
  have HK := n4_
  have HB := n5_
  clear n0_ n1_ n2_ n3_ n4_ n5_
  replace HO0 := Aside0.mk (Kd.R_drew HO0.out)
  replace BK3 := Aside0.mk (blk_drew BK3.out)
  replace BK4 := Aside0.mk (blk_drew BK4.out)
  replace BK102 := Aside0.mk (blk_drew BK102.out)
  replace HK := Aside0.mk (Kept.drew HK.out)
  replace HB := Aside0.mk (below_drew1 HB.out)
  obtain ⟨Ao20, co20, eo20⟩ := Kd.R_slice HO0.out
  (first | subst eo20 | (injection eo20 with f1_ f2_ f3_; have f4_ := f1_.symm; have f5_ := f3_.symm; clear f1_ f2_ f3_; subst f4_; subst f5_))
  have p103 : 0 ≤ (0 : Int) := (by omega)
  have q103 : 0 < (l0.length : Int) := dT
  obtain ⟨ad103, e103, hx103_0⟩ := Kd.at_int (Kd.R_reads' HO0.out).2.2 0 p103 q103
  cases e103
  have qi103 : (0 < l0.length) = True := eq_true (by omega)
  (try rw [show ((0 : Int)).toNat = 0 from rfl] at hx103_0)
  (try rw [Addr.add_zero'] at hx103_0)
  replace p103 := eq_true p103
  replace q103 := eq_true q103
  refine wpIn_wide.2 (start_ (n := 10) (S := fun w' => w'.cell? ⟨gb102, 0, none⟩ = some (.int .i64 ((rd_T67 l3_0 a1).f0)) ∧ w'.cell? ⟨gb102, 1, none⟩ = some (.int .i64 ((rd_T67 l3_0 a1).f1)) ∧ w'.cell? ⟨gb102, 2, none⟩ = some (.int .i64 ((rd_T67 l3_0 a1).f2.f0)) ∧ w'.cell? ⟨gb102, 3, none⟩ = some (.int .i64 ((rd_T67 l3_0 a1).f2.f1)) ∧ w'.cell? ad103 = some (.int .i64 (rd l0 0))) (ds := []) #[false, false, false, false, false, false, false, false, false, false] (by kernel_rfl) rfl rfl ⟨(blk_cell BK102.out 0).trans rfl, (blk_cell BK102.out 1).trans rfl, (blk_cell BK102.out 2).trans rfl, (blk_cell BK102.out 3).trans rfl, hx103_0⟩ (fun hHeld => ?_)); refine with_tabW turn_round.tab5 turn_round.bits5 (fun HT_ HW_ => ?_)
  generalize w18.drew = w19 at HO0 BK3 BK4 BK102 HK HB hx103_0 hHeld ⊢
  refine pu 0 25 ?_ (hQ := (fun c_ a_ w_ h_ => HQP.out c_ _ a_ w_ (by rfl) h_))
  refine pu 1 26 ?_ (hQ := (fun c_ a_ w_ h_ => HQP.out c_ _ a_ w_ (by rfl) h_))
  refine pu 3 28 ?_ (hQ := (fun c_ a_ w_ h_ => HQP.out c_ _ a_ w_ (by rfl) h_))
  refine pu 4 29 ?_ (hQ := (fun c_ a_ w_ h_ => HQP.out c_ _ a_ w_ (by rfl) h_))
  refine tk 2 27 hHeld ?_ (hQ := (fun c_ a_ w_ h_ => HQP.out c_ _ a_ w_ (by rfl) h_))
  refine tk 5 30 hHeld ?_ (hQ := (fun c_ a_ w_ h_ => HQP.out c_ _ a_ w_ (by rfl) h_))
  refine pu 6 31 ?_ (hQ := (fun c_ a_ w_ h_ => HQP.out c_ _ a_ w_ (by rfl) h_))
  refine pu 7 32 ?_ (hQ := (fun c_ a_ w_ h_ => HQP.out c_ _ a_ w_ (by rfl) h_))
  refine on 8 (fun K hK => ?_)
  refine box_step ?hg (N := 10) ?hd (cs := #[.int .i64 0, .int .i64 0, .int .i64 0]) (t := 107) ?hr ?_; (case hd => rfl); (case hg => rfl); (case hr => first | (go_simp; done) | (go_simp; rfl))
  intro gb104 hg w21 hbox hb
  have HS4_ := (hb.cell (World.block_lt_of_cell? _ _ (hHeld.2.2.2.2))).trans (hHeld.2.2.2.2)
  replace HO0 := rb HO0 hb
  have BK104 := Aside0.mk (hbox)
  have GW104 := Aside0.mk ((by rw [hg]; exact (by first | exact HK.out.1 | exact (show Kept w _ (fun k_ => P0_ k_) from by repeat (first | (with_reducible first | exact HK.out | apply Kept.alloc | apply Kept.drewN | apply Kept.drew | refine Kept.setCell ?_ (.inr GW3.out) _ | refine Kept.setCell ?_ (.inr GW4.out) _ | refine Kept.setCell ?_ (.inr GW102.out) _) | exact HK.out)).1) : w.heap.size ≤ gb104))
  replace HK := Aside0.mk (Kept.below (S := (fun k_ => P0_ k_)) (by repeat (first | (with_reducible first | exact HK.out | apply Kept.alloc | apply Kept.drewN | apply Kept.drew | refine Kept.setCell ?_ (.inr GW3.out) _ | refine Kept.setCell ?_ (.inr GW4.out) _ | refine Kept.setCell ?_ (.inr GW102.out) _) | exact HK.out)) hb)
  have GE104 := Aside0.mk ((by rw [hg]; exact (below_size (pE HB)) : w0.heap.size ≤ gb104))
  replace HB := bs HB hb
  have NB3_104 := nl BK3 hg
  have NB104_3 := nr BK3 hg
  replace BK3 := bb BK3 hb
  have NB4_104 := nl BK4 hg
  have NB104_4 := nr BK4 hg
  replace BK4 := bb BK4 hb
  have NB102_104 := nl BK102 hg
  have NB104_102 := nr BK102 hg
  replace BK102 := bb BK102 hb
  clear hb hbox hg
  refine hK.out _ _ ⟨(blk_cell BK102.out 0).trans rfl, (blk_cell BK102.out 1).trans rfl, (blk_cell BK102.out 2).trans rfl, (blk_cell BK102.out 3).trans rfl, HS4_⟩ (fun hHeld => ?_)
  clear hK K
  refine norm_ (a' := ?_) ?_ ?_
  rotate_left
  · show Act.put _ (some 10) _ = _
    simp only [Act.put, List.setIfInBounds_toArray, List.set_cons_zero, List.set_cons_succ, i64_w, i32_w]
    rfl
  refine on 9 (fun K hK => ?_)
  have hs22 : w21.cell? ⟨gb104, 0, none⟩ = some (.int .i64 0) := (blk_cell BK104.out 0).trans rfl
  have hfs22 := blk_frozen BK104.out 0
  have hns22_0 := NB3_104.out
  have hns22_1 := NB4_104.out
  have hns22_2 := NB102_104.out
  have hms22_0 := NB104_3.out
  have hms22_1 := NB104_4.out
  have hms22_2 := NB104_102.out
  have hs23 : w21.cell? ⟨gb104, 1, none⟩ = some (.int .i64 0) := (blk_cell BK104.out 1).trans rfl
  have hfs23 := blk_frozen BK104.out 1
  have hns23_0 := NB3_104.out
  have hns23_1 := NB4_104.out
  have hns23_2 := NB102_104.out
  have hms23_0 := NB104_3.out
  have hms23_1 := NB104_4.out
  have hms23_2 := NB104_102.out
  have hs24 : w21.cell? ⟨gb104, 2, none⟩ = some (.int .i64 0) := (blk_cell BK104.out 2).trans rfl
  have hfs24 := blk_frozen BK104.out 2
  have hns24_0 := NB3_104.out
  have hns24_1 := NB4_104.out
  have hns24_2 := NB102_104.out
  have hms24_0 := NB104_3.out
  have hms24_1 := NB104_4.out
  have hms24_2 := NB104_102.out
  refine skip_ (w1 := ?_) (by rfl) rfl ?_ ?_
  rotate_left
  · go_simp
    rfl
  refine hK.out _ _ ⟨((cell_far (p := ⟨gb104, _, none⟩) NB102_104.out _).trans (((cell_far (p := ⟨gb104, _, none⟩) NB102_104.out _).trans (((cell_far (p := ⟨gb104, _, none⟩) NB102_104.out _).trans (hHeld.1)))))), ((cell_far (p := ⟨gb104, _, none⟩) NB102_104.out _).trans (((cell_far (p := ⟨gb104, _, none⟩) NB102_104.out _).trans (((cell_far (p := ⟨gb104, _, none⟩) NB102_104.out _).trans (hHeld.2.1)))))), ((cell_far (p := ⟨gb104, _, none⟩) NB102_104.out _).trans (((cell_far (p := ⟨gb104, _, none⟩) NB102_104.out _).trans (((cell_far (p := ⟨gb104, _, none⟩) NB102_104.out _).trans (hHeld.2.2.1)))))), ((cell_far (p := ⟨gb104, _, none⟩) NB102_104.out _).trans (((cell_far (p := ⟨gb104, _, none⟩) NB102_104.out _).trans (((cell_far (p := ⟨gb104, _, none⟩) NB102_104.out _).trans (hHeld.2.2.2.1)))))), ((cell_far (p := ⟨gb104, _, none⟩) (by first | exact Kd.own_blk (Kd.R_ne HO0.out BK104.out (by decide)) | (rw [add_block]; exact Kd.own_blk (Kd.R_ne HO0.out BK104.out (by decide))) | (show (Addr.add _ _).block ≠ _; rw [add_block]; exact Kd.own_blk (Kd.R_ne HO0.out BK104.out (by decide))) | (dsimp only; exact Kd.own_blk (Kd.R_ne HO0.out BK104.out (by decide)))) _).trans (((cell_far (p := ⟨gb104, _, none⟩) (by first | exact Kd.own_blk (Kd.R_ne HO0.out BK104.out (by decide)) | (rw [add_block]; exact Kd.own_blk (Kd.R_ne HO0.out BK104.out (by decide))) | (show (Addr.add _ _).block ≠ _; rw [add_block]; exact Kd.own_blk (Kd.R_ne HO0.out BK104.out (by decide))) | (dsimp only; exact Kd.own_blk (Kd.R_ne HO0.out BK104.out (by decide)))) _).trans (((cell_far (p := ⟨gb104, _, none⟩) (by first | exact Kd.own_blk (Kd.R_ne HO0.out BK104.out (by decide)) | (rw [add_block]; exact Kd.own_blk (Kd.R_ne HO0.out BK104.out (by decide))) | (show (Addr.add _ _).block ≠ _; rw [add_block]; exact Kd.own_blk (Kd.R_ne HO0.out BK104.out (by decide))) | (dsimp only; exact Kd.own_blk (Kd.R_ne HO0.out BK104.out (by decide)))) _).trans (hHeld.2.2.2.2))))))⟩ (fun hHeld => ?_)
  clear hK K
  refine done_ (done_of HT_.out (by kernel_rfl)) ?_
  go_wp2_with (first | (with_reducible refine regW_lit_ ?_) | gi_step)
  have n0_ : Aside0 (Kd.R (Kd.int .i64) 3 (((w21.setCell ⟨gb104, 0, none⟩ (.int .i64 a1)).setCell ⟨gb104, 1, none⟩ (.int .i64 ji9)).setCell ⟨gb104, 2, none⟩ (.int .i64 0)) w0.heap.size (fun k_ => (P0_ k_ ∨ w.heap.size ≤ k_)) (.slice (some ad103) l0.length co20) l0) := ⟨by (with_reducible repeat (first | apply Kd.R_alloc | apply Kd.R_drewN | apply Kd.R_drew)); exact Kd.R_mono (Kd.R_far (p := ⟨gb104, 2, none⟩) (Kd.R_far (p := ⟨gb104, 1, none⟩) (Kd.R_far (p := ⟨gb104, 0, none⟩) (Kd.R_types HO0.out BK104.out (by decide)) (fun _ hk => hk.2) (.int .i64 a1)) (fun _ hk => hk.2) (.int .i64 ji9)) (fun _ hk => hk.2) (.int .i64 0)) (fun _ hk => hk.1)⟩
  have n1_ : Aside0 ((((w21.setCell ⟨gb104, 0, none⟩ (.int .i64 a1)).setCell ⟨gb104, 1, none⟩ (.int .i64 ji9)).setCell ⟨gb104, 2, none⟩ (.int .i64 0)).heap[B3]? = some (.cells #[.slice (some ad101) l3_0.length c3_0, .slice A3_1 l3_1.length c3_1] 99 (0, 0))) := ⟨pF BK3⟩
  have n2_ : Aside0 ((((w21.setCell ⟨gb104, 0, none⟩ (.int .i64 a1)).setCell ⟨gb104, 1, none⟩ (.int .i64 ji9)).setCell ⟨gb104, 2, none⟩ (.int .i64 0)).heap[B4]? = some (.cells #[.func (.func g) #[] #[]] 135 (0, 0))) := ⟨pF BK4⟩
  have n3_ : Aside0 ((((w21.setCell ⟨gb104, 0, none⟩ (.int .i64 a1)).setCell ⟨gb104, 1, none⟩ (.int .i64 ji9)).setCell ⟨gb104, 2, none⟩ (.int .i64 0)).heap[gb102]? = some (.cells #[.int .i64 ((rd_T67 l3_0 a1).f0), .int .i64 ((rd_T67 l3_0 a1).f1), .int .i64 ((rd_T67 l3_0 a1).f2.f0), .int .i64 ((rd_T67 l3_0 a1).f2.f1)] 67 (0, 0))) := ⟨pF BK102⟩
  have n4_ : Aside0 ((((w21.setCell ⟨gb104, 0, none⟩ (.int .i64 a1)).setCell ⟨gb104, 1, none⟩ (.int .i64 ji9)).setCell ⟨gb104, 2, none⟩ (.int .i64 0)).heap[gb104]? = some (.cells #[.int .i64 a1, .int .i64 ji9, .int .i64 0] 107 (0, 0))) := ⟨by refine pB ?_; refine blk_put (cs := #[.int .i64 a1, .int .i64 ji9, .int .i64 0]) ?_ 2 _ rfl; refine pB ?_; refine blk_put (cs := #[.int .i64 a1, .int .i64 0, .int .i64 0]) ?_ 1 _ rfl; refine pB ?_; refine blk_put (cs := #[.int .i64 0, .int .i64 0, .int .i64 0]) ?_ 0 _ rfl; exact pB BK104.out⟩
  have n5_ : Aside0 (Kept w (((w21.setCell ⟨gb104, 0, none⟩ (.int .i64 a1)).setCell ⟨gb104, 1, none⟩ (.int .i64 ji9)).setCell ⟨gb104, 2, none⟩ (.int .i64 0)) (fun k_ => P0_ k_)) := ⟨by repeat (first | (with_reducible first | exact HK.out | apply Kept.alloc | apply Kept.drewN | apply Kept.drew | refine Kept.setCell ?_ (.inr GW3.out) _ | refine Kept.setCell ?_ (.inr GW4.out) _ | refine Kept.setCell ?_ (.inr GW102.out) _ | refine Kept.setCell ?_ (.inr GW104.out) _) | exact HK.out)⟩
  have n6_ : Aside0 (Below w0.heap.size w0 (((w21.setCell ⟨gb104, 0, none⟩ (.int .i64 a1)).setCell ⟨gb104, 1, none⟩ (.int .i64 ji9)).setCell ⟨gb104, 2, none⟩ (.int .i64 0))) := ⟨pE HB⟩
  (try clear HO0)
  (try clear BK3)
  (try clear BK4)
  (try clear BK102)
  (try clear BK104)
  (try clear HK)
  (try clear HB)
  generalize (((w21.setCell ⟨gb104, 0, none⟩ (.int .i64 a1)).setCell ⟨gb104, 1, none⟩ (.int .i64 ji9)).setCell ⟨gb104, 2, none⟩ (.int .i64 0)) = w25 at n0_ n1_ n2_ n3_ n4_ n5_ n6_ ⊢
  have HO0 := n0_
  have BK3 := n1_
  have BK4 := n2_
  have BK102 := n3_
  have BK104 := n4_
  have HK := n5_
  have HB := n6_
  clear n0_ n1_ n2_ n3_ n4_ n5_ n6_
  replace HO0 := Aside0.mk (Kd.R_drew HO0.out)
  replace BK3 := Aside0.mk (blk_drew BK3.out)
  replace BK4 := Aside0.mk (blk_drew BK4.out)
  replace BK102 := Aside0.mk (blk_drew BK102.out)
  replace BK104 := Aside0.mk (blk_drew BK104.out)
  replace HK := Aside0.mk (Kept.drew HK.out)
  replace HB := Aside0.mk (below_drew1 HB.out)
  refine wpIn_wide.2 (start_ (n := 9) (S := fun w' => w'.cell? ⟨gb104, 0, none⟩ = some (.int .i64 a1) ∧ w'.cell? ⟨gb104, 1, none⟩ = some (.int .i64 ji9) ∧ w'.cell? ⟨gb104, 2, none⟩ = some (.int .i64 0) ∧ w'.cell? ⟨B4, 0, none⟩ = some (.func (.func g) #[] #[]) ∧ w'.cell? ⟨gb102, 0, none⟩ = some (.int .i64 ((rd_T67 l3_0 a1).f0)) ∧ w'.cell? ⟨gb102, 1, none⟩ = some (.int .i64 ((rd_T67 l3_0 a1).f1)) ∧ w'.cell? ⟨gb102, 2, none⟩ = some (.int .i64 ((rd_T67 l3_0 a1).f2.f0)) ∧ w'.cell? ⟨gb102, 3, none⟩ = some (.int .i64 ((rd_T67 l3_0 a1).f2.f1))) (ds := [8]) #[false, false, false, false, false, false, false, false, false] (by kernel_rfl) rfl rfl ⟨(blk_cell BK104.out 0).trans rfl, (blk_cell BK104.out 1).trans rfl, (blk_cell BK104.out 2).trans rfl, (blk_cell BK4.out 0).trans rfl, (blk_cell BK102.out 0).trans rfl, (blk_cell BK102.out 1).trans rfl, (blk_cell BK102.out 2).trans rfl, (blk_cell BK102.out 3).trans rfl⟩ (fun hHeld => ?_)); refine with_tabW turn_round.tab6 turn_round.bits6 (fun HT_ HW_ => ?_)
  generalize w25.drew = w26 at HO0 BK3 BK4 BK102 BK104 HK HB hHeld ⊢
  refine pu 0 33 ?_ (hQ := (fun c_ a_ w_ h_ => HQP.out c_ _ a_ w_ (by rfl) h_))
  refine pu 3 36 ?_ (hQ := (fun c_ a_ w_ h_ => HQP.out c_ _ a_ w_ (by rfl) h_))
  refine tk 1 34 hHeld ?_ (hQ := (fun c_ a_ w_ h_ => HQP.out c_ _ a_ w_ (by rfl) h_))
  refine tk 2 35 hHeld ?_ (hQ := (fun c_ a_ w_ h_ => HQP.out c_ _ a_ w_ (by rfl) h_))
  refine tk 4 37 hHeld ?_ (hQ := (fun c_ a_ w_ h_ => HQP.out c_ _ a_ w_ (by rfl) h_))
  refine on 5 (fun K hK => ?_)
  refine goesV_ HG1.out HG2.out HG3.out #[.agg #[.int .i64 ((rd_T67 l3_0 a1).f2.f0), .int .i64 ((rd_T67 l3_0 a1).f2.f1)]] (by rfl) rfl rfl rfl (by (try simp only [List.map_toArray, List.map_cons, List.map_nil]); first | done | rfl | (simp only [List.length_drop, List.length_take]; rfl)) ?_
  with_reducible refine (HOF.out _).mono ?_
  rintro e w27 ⟨rfl, hb⟩
  refine ⟨_, rfl, ?_⟩
  replace HO0 := rb HO0 hb
  replace BK3 := bb BK3 hb
  replace BK4 := bb BK4 hb
  replace BK102 := bb BK102 hb
  replace BK104 := bb BK104 hb
  replace HK := Aside0.mk (Kept.below (S := (fun k_ => P0_ k_)) (by repeat (first | (with_reducible first | exact HK.out | apply Kept.alloc | apply Kept.drewN | apply Kept.drew | refine Kept.setCell ?_ (.inr GW3.out) _ | refine Kept.setCell ?_ (.inr GW4.out) _ | refine Kept.setCell ?_ (.inr GW102.out) _ | refine Kept.setCell ?_ (.inr GW104.out) _) | exact HK.out)) hb)
  replace HB := bs HB hb
  (try clear hb)
  (try clear hb2)
  (try clear hk)
  (try clear hi)
  refine hK.out _ _ ⟨(blk_cell BK104.out 0).trans rfl, (blk_cell BK104.out 1).trans rfl, (blk_cell BK104.out 2).trans rfl, (blk_cell BK4.out 0).trans rfl, (blk_cell BK102.out 0).trans rfl, (blk_cell BK102.out 1).trans rfl, (blk_cell BK102.out 2).trans rfl, (blk_cell BK102.out 3).trans rfl⟩ (fun hHeld => ?_)
  clear hK K
  refine norm_ (a' := ?_) ?_ ?_
  rotate_left
  · show Act.put _ (some 38) _ = _
    simp only [Act.put, List.setIfInBounds_toArray, List.set_cons_zero, List.set_cons_succ, i64_w, i32_w]
    rfl
  refine pu 6 39 ?_ (hQ := (fun c_ a_ w_ h_ => HQP.out c_ _ a_ w_ (by rfl) h_))
  refine pu 7 40 ?_ (hQ := (fun c_ a_ w_ h_ => HQP.out c_ _ a_ w_ (by rfl) h_))
  refine last_ (i := 8) (N := none) #[true, true, true, true, true, true, true, true, true] rfl rfl (one_of HT_.out (by kernel_rfl)) (by decide) (fun K hK => ?_)
  have hs28 : w27.cell? ⟨gb104, 2, none⟩ = some (.int .i64 0) := (blk_cell BK104.out 2).trans rfl
  have hfs28 := blk_frozen BK104.out 2
  have hns28_0 := NB3_104.out
  have hns28_1 := NB4_104.out
  have hns28_2 := NB102_104.out
  have hms28_0 := NB104_3.out
  have hms28_1 := NB104_4.out
  have hms28_2 := NB104_102.out
  refine skip_ (w1 := ?_) (by rfl) rfl ?_ ?_
  rotate_left
  · go_simp
    rfl
  refine hK.out _ _ ?_
  clear hK K
  refine done_ (done_of HT_.out (by kernel_rfl)) ?_
  have n0_ : Aside0 (Kd.R (Kd.int .i64) 3 (w27.setCell ⟨gb104, 2, none⟩ (.int .i64 (wrap64 ((ji9) + t105)))) w0.heap.size (fun k_ => (P0_ k_ ∨ w.heap.size ≤ k_)) (.slice (some ad103) l0.length co20) l0) := ⟨by (with_reducible repeat (first | apply Kd.R_alloc | apply Kd.R_drewN | apply Kd.R_drew)); exact Kd.R_mono (Kd.R_far (p := ⟨gb104, 2, none⟩) (Kd.R_types HO0.out BK104.out (by decide)) (fun _ hk => hk.2) (.int .i64 (wrap64 ((ji9) + t105)))) (fun _ hk => hk.1)⟩
  have n1_ : Aside0 ((w27.setCell ⟨gb104, 2, none⟩ (.int .i64 (wrap64 ((ji9) + t105)))).heap[B3]? = some (.cells #[.slice (some ad101) l3_0.length c3_0, .slice A3_1 l3_1.length c3_1] 99 (0, 0))) := ⟨pF BK3⟩
  have n2_ : Aside0 ((w27.setCell ⟨gb104, 2, none⟩ (.int .i64 (wrap64 ((ji9) + t105)))).heap[B4]? = some (.cells #[.func (.func g) #[] #[]] 135 (0, 0))) := ⟨pF BK4⟩
  have n3_ : Aside0 ((w27.setCell ⟨gb104, 2, none⟩ (.int .i64 (wrap64 ((ji9) + t105)))).heap[gb102]? = some (.cells #[.int .i64 ((rd_T67 l3_0 a1).f0), .int .i64 ((rd_T67 l3_0 a1).f1), .int .i64 ((rd_T67 l3_0 a1).f2.f0), .int .i64 ((rd_T67 l3_0 a1).f2.f1)] 67 (0, 0))) := ⟨pF BK102⟩
  have n4_ : Aside0 ((w27.setCell ⟨gb104, 2, none⟩ (.int .i64 (wrap64 ((ji9) + t105)))).heap[gb104]? = some (.cells #[.int .i64 a1, .int .i64 ji9, .int .i64 (wrap64 ((ji9) + t105))] 107 (0, 0))) := ⟨by refine pB ?_; refine blk_put (cs := #[.int .i64 a1, .int .i64 ji9, .int .i64 0]) ?_ 2 _ rfl; exact pB BK104.out⟩
  have n5_ : Aside0 (Kept w (w27.setCell ⟨gb104, 2, none⟩ (.int .i64 (wrap64 ((ji9) + t105)))) (fun k_ => P0_ k_)) := ⟨by repeat (first | (with_reducible first | exact HK.out | apply Kept.alloc | apply Kept.drewN | apply Kept.drew | refine Kept.setCell ?_ (.inr GW3.out) _ | refine Kept.setCell ?_ (.inr GW4.out) _ | refine Kept.setCell ?_ (.inr GW102.out) _ | refine Kept.setCell ?_ (.inr GW104.out) _) | exact HK.out)⟩
  have n6_ : Aside0 (Below w0.heap.size w0 (w27.setCell ⟨gb104, 2, none⟩ (.int .i64 (wrap64 ((ji9) + t105))))) := ⟨pE HB⟩
  (try clear HO0)
  (try clear BK3)
  (try clear BK4)
  (try clear BK102)
  (try clear BK104)
  (try clear HK)
  (try clear HB)
  generalize (w27.setCell ⟨gb104, 2, none⟩ (.int .i64 (wrap64 ((ji9) + t105)))) = w29 at n0_ n1_ n2_ n3_ n4_ n5_ n6_ ⊢
  have HO0 := n0_
  have BK3 := n1_
  have BK4 := n2_
  have BK102 := n3_
  have BK104 := n4_
  have HK := n5_
  have HB := n6_
  clear n0_ n1_ n2_ n3_ n4_ n5_ n6_
  have hnb30 := NB104_3.out
  have hnc30 := NB3_104.out
  have hnb31 := NB104_4.out
  have hnc31 := NB4_104.out
  have hnb32 := NB104_102.out
  have hnc32 := NB102_104.out
  have hcz33_0 := cz0 BK104
  have hcz33_1 := cz1 BK104
  have hcz33_2 : w29.cell? ⟨gb104, 2, none⟩ = some (.int .i64 (wrap64 ((ji9) + t105))) := (blk_cell BK104.out 2).trans rfl
  have hfz33_0 := blk_frozen BK104.out 0
  have hfz33_1 := blk_frozen BK104.out 1
  have hfz33_2 := blk_frozen BK104.out 2
  have p11 : 0 ≤ (0 : Int) := (by omega)
  have q11 : (0 : Int) < ((l0.length : Int) : Int) := dT
  have qi11 : (0 < l0.length) = True := eq_true (by omega)
  obtain ⟨go11, co11, eo11, gb11, gl11, cl11, HG11⟩ := Kd.R_form HO0.out (by omega)
  (first | cases eo11 | (injection eo11 with ea_ en_ ec_; (first | subst ea_ | (injection ea_ with ea_; subst ea_)); subst ec_; clear en_))
  have GB11 := Aside0.mk gb11
  have GG11 := Aside0.mk HG11
  clear gb11 gl11 HG11
  have HMgo11 := Aside0.mk (show (P0_ go11 ∨ w.heap.size ≤ go11) from (HO0.out.1 _ rfl))
  (first | simp only [add_plain] at hx103_0 | skip)
  obtain ⟨hx11_0, hf11_0⟩ := Kd.R_celln 0 HO0.out (0 : Int) p11 q11
  (try rw [show ((0 : Int)).toNat = 0 from rfl] at hx11_0)
  (try simp only [Nat.reduceMul, Nat.zero_mul, Nat.zero_add, Nat.reduceAdd] at hx11_0)
  (try rw [show ((0 : Int)).toNat = 0 from rfl] at hf11_0)
  (try simp only [Nat.reduceMul, Nat.zero_mul, Nat.zero_add, Nat.reduceAdd] at hf11_0)
  replace p11 := eq_true p11
  replace q11 := eq_true q11
  obtain ⟨hy34_, hz34_⟩ := Kd.R_celln 0 HO0.out (0 : Int) (by omega) (dT)
  (try simp only [Int.reduceToNat, Int.toNat_zero, Int.toNat_ofNat, Nat.reduceMul, Nat.zero_mul, Nat.zero_add] at hy34_ hz34_)
  (try rw [show ((0 : Int)).toNat = 0 from rfl] at hy34_)
  (try rw [show ((0 : Int)).toNat = 0 from rfl] at hz34_)
  have HP34 := Kd.R_putg HO0.out (0 : Int) (wrap64 ((ji9) + t105))
  go_wp2_with (first | ((with_reducible refine gate_store (t := 3) (p := 44) rfl ?_); refine store_event (t := 3) (p := 44) (v := ?vo_w35) (w1 := (w29.setCell ⟨go11, (0 : Int).toNat, none⟩ (.int .i64 (wrap64 ((ji9) + t105))))) ?hg ?ho ?hn ?hr ?_; (case ho => rfl); (case hg => rfl); (case hn => rfl); (case hr => first | (go_simp; done) | (go_simp; rfl)); intro w35 hw; have hg : w29.grownBy w35 (some go11) := (by rw [hw]; exact HP34.2); have hp_ : Kd.R (Kd.int .i64) 3 w35 w0.heap.size (fun k_ => (P0_ k_ ∨ w.heap.size ≤ k_)) (.slice (some ⟨go11, 0, none⟩) l0.length co20) y106 := (by rw [hw, Ny106.out]; exact HP34.1); clear HP34; replace BK3 := Aside0.mk (blk_grown (g := B3) (o := .cells #[.slice (some ad101) l3_0.length c3_0, .slice A3_1 l3_1.length c3_1] 99 (0, 0)) (pB BK3.out) hg (Kd.R_ne HO0.out BK3.out (by decide))); replace BK4 := Aside0.mk (blk_grown (g := B4) (o := .cells #[.func (.func g) #[] #[]] 135 (0, 0)) (pB BK4.out) hg (Kd.R_ne HO0.out BK4.out (by decide))); replace BK102 := Aside0.mk (blk_grown (g := gb102) (o := .cells #[.int .i64 ((rd_T67 l3_0 a1).f0), .int .i64 ((rd_T67 l3_0 a1).f1), .int .i64 ((rd_T67 l3_0 a1).f2.f0), .int .i64 ((rd_T67 l3_0 a1).f2.f1)] 67 (0, 0)) (pB BK102.out) hg (Kd.R_ne HO0.out BK102.out (by decide))); replace BK104 := Aside0.mk (blk_grown (g := gb104) (o := .cells #[.int .i64 a1, .int .i64 ji9, .int .i64 (wrap64 ((ji9) + t105))] 107 (0, 0)) (pB BK104.out) hg (Kd.R_ne HO0.out BK104.out (by decide))); replace HB := Aside0.mk ((by rw [hw]; exact below_set (HB.out) GB11.out : Below w0.heap.size w0 w35)); replace HK := Aside0.mk (Kept.of_grown (S := (fun k_ => P0_ k_)) hg (by repeat (first | (with_reducible first | exact HK.out | apply Kept.alloc | apply Kept.drewN | apply Kept.drew | refine Kept.setCell ?_ (.inr GW3.out) _ | refine Kept.setCell ?_ (.inr GW4.out) _ | refine Kept.setCell ?_ (.inr GW102.out) _ | refine Kept.setCell ?_ (.inr GW104.out) _) | exact HK.out)) (fun k_ e_ => (HO0.out.1 k_ e_))); replace HO0 := Aside0.mk (hp_); clear hg hw hp_; have hcz36_0 := cz0 BK104; have hcz36_1 := cz1 BK104; have hcz36_2 : w35.cell? ⟨gb104, 2, none⟩ = some (.int .i64 (wrap64 ((ji9) + t105))) := (blk_cell BK104.out 2).trans rfl; have hfz36_0 := blk_frozen BK104.out 0; have hfz36_1 := blk_frozen BK104.out 1; have hfz36_2 := blk_frozen BK104.out 2) | (with_reducible refine regW_lit_ ?_) | gi_step)
  refine HQ.out gb104 _ _ _ _ _ _ _ _ _ _ _ _ _ _ _ _ _ _ _ _ _ _ _ _ _ _ _ _ ⟨?t, ?ge, ?row, ?bel, ?kept⟩
  case t => rw [hji9]; exact BK104.out
  case ge => first | exact GW104.out | (rcases GW104.out with h_ | h_; exact h_) | exact Nat.le_trans HW0.out GE104.out
  case row => rw [hji9]; have h_ := HO0.out; rw [Ny106.out] at h_; exact h_
  case bel => exact HB.out
  case kept => exact HK.out
end Go.Proofs.YtlmglnobdcgbeaaGreat.P
namespace Go.Proofs.YtlmglnobdcgbeaaGreat.P
open Go.RowKit Go.Shelf Go.Proofs.YtlmglnobdcgbeaaGreatW.PrintWords Go.Proofs.YtlmglnobdcgbeaaGreatW.PrintLast Go.Proofs.YtlmglnobdcgbeaaGreatW.PrintMore Go.Proofs.YtlmglnobdcgbeaaGreat.R
def takenT (cl : List S67) (fr : List Int) (x : Int) : Int := mx ((rd_T67 cl x).f1) (rd fr 0)
def doneT (of : Int → Int → Int) (cl : List S67) (fr : List Int) (x : Int) : Int := wrap64 (takenT cl fr x + of ((rd_T67 cl x).f2.f0) ((rd_T67 cl x).f2.f1))
def freeT (of : Int → Int → Int) (cl : List S67) : List Int → List Int → List Int
  | fr, [] => fr
  | fr, x :: xs => freeT of cl (srt (fr.set 0 (doneT of cl fr x))) xs
def runT (of : Int → Int → Int) (cl : List S67) : List Int → List Int → List (Int × Int × Int)
  | _, [] => []
  | fr, x :: xs => (x, takenT cl fr x, doneT of cl fr x) :: runT of cl (srt (fr.set 0 (doneT of cl fr x))) xs
theorem freeT_len (of : Int → Int → Int) (cl : List S67) : ∀ (xs fr : List Int), (freeT of cl fr xs).length = fr.length
  | [], _ => rfl
  | x :: xs, fr => by rw [freeT, freeT_len of cl xs]; simp [srt_length]
theorem runT_len (of : Int → Int → Int) (cl : List S67) : ∀ (xs fr : List Int), (runT of cl fr xs).length = xs.length
  | [], _ => rfl
  | x :: xs, fr => by rw [runT, List.length_cons, runT_len of cl xs]; rfl
theorem runT_at (of : Int → Int → Int) (cl : List S67) : ∀ (xs fr : List Int) (k : Nat) (h : k < xs.length), (runT of cl fr xs)[k]? = some (xs[k], takenT cl (freeT of cl fr (xs.take k)) xs[k], doneT of cl (freeT of cl fr (xs.take k)) xs[k])
  | [], _, _, h => by simp at h
  | x :: xs, fr, 0, h => rfl
  | x :: xs, fr, k + 1, h => by
    have := runT_at of cl xs (srt (fr.set 0 (doneT of cl fr x))) k (by simpa using h)
    simpa [runT, freeT] using this
theorem freeT_snoc (of : Int → Int → Int) (cl : List S67) : ∀ (xs fr : List Int) (x : Int), freeT of cl fr (xs ++ [x]) = srt ((freeT of cl fr xs).set 0 (doneT of cl (freeT of cl fr xs) x))
  | [], _, _ => rfl
  | y :: xs, fr, x => freeT_snoc of cl xs _ x
theorem freeT_next (of : Int → Int → Int) (cl : List S67) (xs fr : List Int) (k : Nat) (h : k < xs.length) : freeT of cl fr (xs.take (k + 1)) = srt ((freeT of cl fr (xs.take k)).set 0 (doneT of cl (freeT of cl fr (xs.take k)) xs[k])) := by
  rw [List.take_succ_eq_append_getElem h, freeT_snoc]
def RvT (x : Int × Int × Int) (vs : Array Value) (W : World) : Prop := vs = #[.agg #[.int .i64 x.1, .int .i64 x.2.1, .int .i64 x.2.2]]
structure CapT (B1 B2 B3 B4 : Nat) (m : Nat) (A2 : Option Addr) (c2 : Nat) (ord : List Int) (A3 : Option Addr) (c3 : Nat) (cl : List S67) (A4 : Option Addr) (c4 : Nat) (rk : List Int) (g : FuncId) (W : World) : Prop where
  b1 : W.heap[B1]? = some (.cells #[.int .i64 (m : Int)] 3 (0, 0))
  b2 : W.heap[B2]? = some (.cells #[.slice A2 ord.length c2] 23 (0, 0))
  b3 : W.heap[B3]? = some (.cells #[.slice A3 cl.length c3, .slice A4 rk.length c4] 99 (0, 0))
  b4 : W.heap[B4]? = some (.cells #[.func (.func g) #[] #[]] 135 (0, 0))
  r2 : Kd.C (Kd.int .i64) W A2 ord.length ord
  r3 : Kd.C k67 W A3 cl.length cl
theorem trunc (W : World) (b : Nat) (h : b ≤ W.heap.size) : ∃ w0 : World, w0.heap.size = b ∧ Below w0.heap.size w0 W := by
  refine ⟨{ W with heap := W.heap.extract 0 b }, by simp; omega, rfl, rfl, rfl, by simp; omega, fun k hk => ?_⟩
  have hk' : k < b := by simp at hk; omega
  show W.heap[k]? = (W.heap.extract 0 b)[k]?
  rw [Array.getElem?_extract]
  simp [hk']; omega
theorem R_keepb {W W' : World} {b g n c : Nat} {ok ok' : Nat → Prop} {xs : List Int} (h : Kd.R (Kd.int .i64) 3 W b ok (.slice (some ⟨g, 0, none⟩) n c) xs) (hs : W'.heap[g]? = W.heap[g]?) (ho : ok' g) : Kd.R (Kd.int .i64) 3 W' b ok' (.slice (some ⟨g, 0, none⟩) n c) xs := by
  refine Kd.R_mono (Kd.R_move (Kd.R_tight rfl h) fun k hk => ?_) (fun k hk => ?_)
  · have e : k = g := by simpa [Value.ownBlock] using hk
    subst e; exact hs
  · have e : k = g := by simpa [Value.ownBlock] using hk
    subst e; exact ho
structure Stopped (p : Prop) : Prop where
  out : p
theorem stop_ (k : Nat) {F : Fence} {n : Nat} {P : Program} {Q : Exit → Act → World → Prop} {a : Act} {w : World} {ops : Array Oper} {d : Bool} {c : Code} (h : Stopped ((Code.seq (Code.region k ops d) c).wpIn F n P Q a w)) : (Code.seq (Code.region k ops d) c).wpIn F n P Q a w := h.out
theorem made_form {w1 : World} {b b0 m : Nat} {v : Value} (ho : Kd.R (Kd.int .i64) 3 w1 b (fun k_ => k_ = b0) v (List.replicate m 0)) (hm : 1 ≤ m) : ∃ cp, v = .slice (some ⟨b0, 0, none⟩) m cp ∧ b0 + 1 ≤ w1.heap.size := by
  rcases R_block ho with ⟨_, h2⟩ | ⟨g, cap, cur, h1, h2, h3, _⟩
  · have := congrArg List.length h2; simp at this; omega
  · have e : g = b0 := ho.1 g (by rw [h1]; rfl)
    subst e
    rw [List.length_replicate] at h1
    exact ⟨cap, h1, (Array.getElem?_eq_some_iff.1 h3).1⟩
set_option maxHeartbeats 16000000 in
set_option maxRecDepth 100000 in
theorem turns_iter (of : Int → Int → Int) (B1 B2 B3 B4 m : Nat) (A2 : Option Addr) (c2 : Nat) (ord : List Int) (A3 : Option Addr) (c3 : Nat) (cl : List S67) (A4 : Option Addr) (c4 : Nat) (rk : List Int) (g : FuncId) (fng : Func) (n : Nat) (w : World) (Ex E : Nat → Prop)
    (hg1 : Tryz.prog.funcs[g]? = some fng) (hg2 : (fng.name == "runtime.NumGoroutine") = false) (hg3 : fng.body.isSome = true)
    (hof : ∀ x y W_, Calls Tryz.prog g #[.agg #[.int .i64 x, .int .i64 y]] W_ fun e w' => e = .returned (.int .i64 (of x y)) ∧ Below W_.heap.size W_ w')
    (hm : 1 ≤ m) (hm2 : m ≤ 1000) (hin : ∀ x ∈ ord, 0 ≤ x ∧ x < (cl.length : Int)) (n34 : B3 ≠ B4) (hE : E 0)
    (hC : ∀ W', w.heap.size ≤ W'.heap.size → (∀ k, k < w.heap.size → ¬ Ex k → W'.heap[k]? = w.heap[k]?) → CapT B1 B2 B3 B4 m A2 c2 ord A3 c3 cl A4 c4 rk g W') :
    IterC Fence.wide n Tryz.prog 99 #[.pointer (some ⟨B1, 0, none⟩), .pointer (some ⟨B2, 0, none⟩), .pointer (some ⟨B3, 0, none⟩), .pointer (some ⟨B4, 0, none⟩)] (runT of cl (List.replicate m 0) ord) RvT Ex 1 E w := by
  intro l J Jx W hW hJ hJx hY h0
  have hcap := hC W hW.size (fun k hk _ => hW.block k hk)
  have hbig : ord.length ≤ 9223372036854775807 := hcap.r2.2.1
  have hc1 : W.cell? ⟨B1, 0, none⟩ = some (.int .i64 (m : Int)) := (blk_cell hcap.b1 0).trans rfl
  have hc2 : W.cell? ⟨B2, 0, none⟩ = some (.slice A2 ord.length c2) := (blk_cell hcap.b2 0).trans rfl
  have hB1l := (Array.getElem?_eq_some_iff.1 hcap.b1).1
  have hB2l := (Array.getElem?_eq_some_iff.1 hcap.b2).1
  have hB3l := (Array.getElem?_eq_some_iff.1 hcap.b3).1
  have hB4l := (Array.getElem?_eq_some_iff.1 hcap.b4).1
  have HC := Aside0.mk hC
  have HJ := Aside0.mk hJ
  have HJx := Aside0.mk hJx
  have HY := Aside0.mk hY
  have HW := Aside0.mk hW
  have HOF := Aside0.mk hof
  have HIN := Aside0.mk hin
  have HCAP := Aside0.mk hcap
  clear hC hJ hJx hY hcap hW hof hin
  obtain ⟨b0, hb0⟩ : ∃ b0, W.heap.size = b0 := ⟨_, rfl⟩
  have hmi : (0 : Int) ≤ (m : Int) := by omega
  have HM := Aside0.mk (show (m : Int).toNat = m from Int.toNat_natCast m)
  refine callsIn_of_wp Tryz.func99 rfl trivial ?_ rfl
  simp only [Tryz.ntmps99, List.size_toArray, List.length_cons, List.length_nil, Nat.reduceAdd, Nat.reduceSub, Array.replicate_succ, Array.replicate_zero, List.push_toArray, List.append_toArray, List.nil_append, List.cons_append]
  go_wp2_with (first
    | ((with_reducible refine gate_dst (N := 12) rfl ?_); refine Kd.R_make (Kd.int .i64) _ 3 rfl (N := 12) rfl 23 _ _ rfl (m : Int) rfl rfl Tryz.underlying23 (.int .i64 0) 8 info3 rfl (by decide) (by omega) 0 (w0 := W) (ok := fun k_ => k_ = b0) (okp := fun _ => False) rfl (fun _ hk => hk.elim) hb0 hmi (by rw [HM.out]; omega) (Below.refl _ _) (Nat.le_refl _) ?_; intro vfr w1 ho1 hb1 hg_ hnew_; clear hg_ hnew_
       rw [HM.out] at ho1
       obtain ⟨cp, rfl, hs1⟩ := made_form ho1 hm
       have hc2' : w1.cell? ⟨B2, 0, none⟩ = some (.slice A2 ord.length c2) := (blk_cell ((hb1.block B2 hB2l).trans HCAP.out.b2) 0).trans rfl
       have hJ1 : J 0 w1 := HJ.out 0 W w1 h0 (IStep.of_below hb1)
       have HB1 := Aside0.mk hb1
       have HO1 := Aside0.mk ho1
       clear hb1 ho1 h0)
    | (with_reducible refine regW_lit_ ?_) | gi_step)
  gi_loopw [15] (fun i wr => ∃ k : Nat, k ≤ ord.length ∧ i = .int .i64 k ∧ J k wr ∧ Aside0 (b0 + 1 ≤ wr.heap.size) ∧ Aside0 (∀ j, j < w.heap.size → ¬ Ex j → wr.heap[j]? = w.heap[j]?) ∧ Aside0 (Kd.R (Kd.int .i64) 3 wr b0 (fun k_ => k_ = b0) (.slice (some ⟨b0, 0, none⟩) m cp) (freeT of cl (List.replicate m 0) (ord.take k))))
    (fun i _ => ord.length - (intOf i).toNat)
  case atStart =>
    refine ⟨0, Nat.zero_le _, rfl, hJ1, ⟨hs1⟩, ⟨fun j hj hx => ?_⟩, ⟨?_⟩⟩
    · have hjW : j < W.heap.size := Nat.lt_of_lt_of_le hj HW.out.size
      exact (HB1.out.block j hjW).trans (HW.out.block j hj)
    · have h_ := HO1.out
      rw [hb0] at h_
      exact h_
  case round =>
    obtain ⟨k, hk, rfl, hJs, HS, HK, HF⟩ := hrel
    clear HO1 HB1 hJ1 hs1 hc1 hc2'
    by_cases hlt : k < ord.length
    · have hcapr := HC.out wr (Nat.le_trans HW.out.size (by rw [hb0]; have := HS.out; omega)) HK.out
      obtain ⟨ad, rfl, hcell⟩ := Kd.at_int hcapr.r2 (k : Int) (by omega) (by omega)
      rw [Int.toNat_natCast] at hcell
      have hrd : rd ord (k : Int) = ord[k] := by simp [rd, List.getD_eq_getElem?_getD, List.getElem?_eq_getElem hlt]
      rw [hrd] at hcell
      have hxi := HIN.out ord[k] (List.getElem_mem hlt)
      have hrun := runT_at of cl ord (List.replicate m 0) k hlt
      have hnext := freeT_next of cl ord (List.replicate m 0) k hlt
      have hfl : (freeT of cl (List.replicate m 0) (ord.take k)).length = m := by rw [freeT_len]; simp
      obtain ⟨w0, hw0, hbw0⟩ := trunc wr b0 (by have := HS.out; omega)
      have hF' : Kd.R (Kd.int .i64) 3 wr w0.heap.size (fun k_ => k_ = b0) (.slice (some ⟨b0, 0, none⟩) m cp) (freeT of cl (List.replicate m 0) (ord.take k)) := by rw [hw0]; exact HF.out
      generalize freeT of cl (List.replicate m 0) (ord.take k) = fr at hrun hnext hfl hF' HF
      generalize ord[k] = x at hcell hrun hnext hxi
      have HCR := Aside0.mk hcapr
      have HRUN := Aside0.mk hrun
      have HNEXT := Aside0.mk hnext
      have HFL := Aside0.mk hfl
      have HW0 := Aside0.mk hw0
      have HBW0 := Aside0.mk hbw0
      have HF2 := Aside0.mk hF'
      have HX := Aside0.mk hxi
      clear hcapr hrun hnext hfl hw0 hbw0 hF' hxi hrd
      go_wp2_with (first
        | (with_reducible refine stop_ 4 ?_)
        | (with_reducible refine regW_lit_ ?_) | gi_step)
      refine ⟨turn_round (fun k_ => k_ = b0) (.slice (some ⟨b0, 0, none⟩) m cp) fr x B3 A3 c3 cl A4 c4 rk B4 g fng w0 wr HBW0.out HF2.out HCR.out.b3 HCR.out.r3 HCR.out.b4 n34 hg1 hg2 hg3 (of ((rd_T67 cl x).f2.f0) ((rd_T67 cl x).f2.f1)) (fun W_ => HOF.out _ _ W_) HX.out.1 HX.out.2 ?c8 _ _ _ _ _ _ _ _ _ _ _ _ _ _ _ _ _ _ _ _ _ _ _ _ _ _ _ _ _ _ _ _ _ _ _ _ _ _ _ _ _ _ _ _ _ _ _ _ [] _ _ _ _ _ ?hc ?hqp ?hq⟩
      case c8 => have := HFL.out; omega
      case hc => kernel_rfl
      case hqp =>
        intro c_ a1_ a2_ w_ e_ h_
        cases a1_
        cases a2_
        cases e_
        exact h_
      case hq =>
        intro g10 w2 z9 z19 z20 z21 z22 z23 z24 z25 z26 z27 z28 z29 z30 z31 z32 z33 z34 z35 z36 z37 z38 z39 z40 z41 z42 z43 z44 hd
        have hdn : wrap64 (mx (rd_T67 cl x).f1 (rd fr 0) + of (rd_T67 cl x).f2.f0 (rd_T67 cl x).f2.f1) = doneT of cl fr x := rfl
        have htk : mx (rd_T67 cl x).f1 (rd fr 0) = takenT cl fr x := rfl
        rw [hdn, htk] at hd
        generalize doneT of cl fr x = dn at hd HRUN HNEXT
        generalize takenT cl fr x = tk at hd HRUN
        obtain ⟨t1, t2, t3, t4, t5⟩ := hd
        have ht3 : Kd.R (Kd.int .i64) 3 w2 b0 (fun _ => True) (.slice (some ⟨b0, 0, none⟩) m cp) (fr.set 0 dn) := by rw [HW0.out] at t3; exact Kd.R_mono t3 (fun _ _ => trivial)
        have hsrt := sort_calls ht3 (by rw [List.length_set, HFL.out]; omega)
        rw [HNEXT.out.symm] at hsrt
        have HSRT := Aside0.mk hsrt
        have T1 := Aside0.mk t1
        have T2 := Aside0.mk t2
        have T4 := Aside0.mk t4
        have T5 := Aside0.mk t5
        clear hsrt t1 t2 t3 t4 t5 ht3 htk hdn
        have hu107 := Tryz.underlying107
        go_wp2_with (first
          | (go_at_call 100; refine HSRT.out.mono ?_; rintro e w3 ⟨rfl, hr3, hg3⟩)
          | (with_reducible refine stop_ 9 ?_)
          | (with_reducible refine regW_lit_ ?_) | gi_step)
        have hgb : w3.heap[g10]? = some (.cells #[.int .i64 x, .int .i64 tk, .int .i64 dn] 107 (0, 0)) := (hg3.block g10 (Array.getElem?_eq_some_iff.1 T1.out).1 (fun e_ => by have h1_ := T2.out; have h2_ := HS.out; have e2 : g10 = b0 := (by simpa [Value.ownBlock] using e_); omega)).trans T1.out
        have hz0 : w3.cell? ⟨g10, 0, none⟩ = some (.int .i64 x) := (blk_cell hgb 0).trans rfl
        have hz1 : w3.cell? ⟨g10, 1, none⟩ = some (.int .i64 tk) := (blk_cell hgb 1).trans rfl
        have hz2 : w3.cell? ⟨g10, 2, none⟩ = some (.int .i64 dn) := (blk_cell hgb 2).trans rfl
        have hsz2 : wr.heap.size ≤ w2.heap.size := T5.out.1
        have hsame : ∀ j, j < wr.heap.size → j ≠ b0 → w3.heap[j]? = wr.heap[j]? := fun j hj hne => (hg3.block j (by omega) (fun e_ => hne (by simpa [Value.ownBlock] using e_))).trans (T5.out.2 j hj hne)
        have hst : IStep W.heap.size W.heap.size 1 wr w3 := ⟨hg3.os.trans (T4.out.os.trans HBW0.out.os.symm), hg3.tape.trans (T4.out.tape.trans HBW0.out.tape.symm), hg3.output.trans (T4.out.output.trans HBW0.out.output.symm), Nat.le_trans hsz2 hg3.size, fun j o ho h1 _ => (hsame j (Array.getElem?_eq_some_iff.1 ho).1 (by omega)).trans ho⟩
        have hsz3 := hg3.size
        obtain ⟨fn, tmps, assign, body, hy, hR⟩ := HY.out k (x, tk, dn) #[.agg #[.int .i64 x, .int .i64 tk, .int .i64 dn]] w3 HRUN.out (HJ.out k wr w3 hJs hst) rfl (by have := HS.out; omega)
        have HR := Aside0.mk hR
        have HR3 := Aside0.mk hr3
        have HSM := Aside0.mk hsame
        have HZ3 := Aside0.mk (Nat.le_trans hsz2 hsz3)
        clear hR hr3 hsame hst hg3 hgb hsz2 hsz3
        refine ⟨?_⟩
        gi_wp2
        refine ⟨fun h0_ => (by cases h0_), HR.out.mono ?_⟩
        rintro e W3 (⟨rfl, hJ3, hk3⟩ | ⟨rfl, hJx3, hk3⟩)
        · have H3 := Aside0.mk hk3
          clear hk3
          gi_wp2
          go_roundw
          case rel =>
            refine ⟨k + 1, by omega, by simp, hJ3, ⟨?_⟩, ⟨fun j hj hx => ?_⟩, ⟨?_⟩⟩
            · have h1_ := H3.out.size; have h2_ := HZ3.out; have h3_ := HS.out; omega
            · have hjr : j < wr.heap.size := by have h1_ := HW.out.size; have h2_ := HS.out; omega
              exact (H3.out.same j (by have h1_ := HZ3.out; omega) (.inl ⟨hj, hx⟩)).trans ((HSM.out j hjr (by have h1_ := HW.out.size; omega)).trans (HK.out j hj hx))
            · exact R_keepb HR3.out (H3.out.same b0 (by have h1_ := HZ3.out; have h2_ := HS.out; omega) (.inr ⟨by omega, by rw [hb0, Nat.sub_self]; exact hE⟩)) rfl
          case measure => simp [intOf]; omega
        · clear hk3
          gi_wp2
          refine bodyPost_ret (results_none rfl _ _ _) rfl ?_
          refine ⟨⟨_, rfl⟩, .inr ⟨_, ?_, hJx3⟩⟩
          rw [runT_len]; omega
    · obtain rfl : k = ord.length := by omega
      gi_wp2
      go_end0
      refine ⟨⟨_, rfl⟩, .inl ?_⟩
      rw [runT_len]
      exact hJs
set_option maxHeartbeats 1000000 in
theorem turns_calls (A3 : Option Addr) (n3 c3 : Nat) (A4 : Option Addr) (n4 c4 : Nat) (A2 : Option Addr) (n2 c2 : Nat) (m : Int) (g : FuncId) (w : World) :
    Calls Tryz.prog 65 #[.agg #[.slice A3 n3 c3, .slice A4 n4 c4], .slice A2 n2 c2, .int .i64 m, .func (.func g) #[] #[]] w fun e w' =>
      e = .returned (.func (.func 99) #[] #[.pointer (some ⟨w.heap.size + 2, 0, none⟩), .pointer (some ⟨w.heap.size + 1, 0, none⟩), .pointer (some ⟨w.heap.size, 0, none⟩), .pointer (some ⟨w.heap.size + 3, 0, none⟩)]) ∧
      w' = (((w.alloc (.cells #[.slice A3 n3 c3, .slice A4 n4 c4] 99)).alloc (.cells #[.slice A2 n2 c2] 23)).alloc (.cells #[.int .i64 m] 3)).alloc (.cells #[.func (.func g) #[] #[]] 135) := by
  have hu1 := Tryz.underlying99
  have hu2 := Tryz.underlying25
  have hu3 := Tryz.underlying135
  go_enter Tryz.func65, Tryz.ntmps65
  go_wp2
  go_ret
  exact ⟨rfl, rfl⟩
theorem four_alloc (w : World) (o1 o2 o3 o4 : Obj) : let w' := (((w.alloc o1).alloc o2).alloc o3).alloc o4; Below w.heap.size w w' ∧ w'.heap.size = w.heap.size + 4 ∧ w'.heap[w.heap.size]? = some o1 ∧ w'.heap[w.heap.size + 1]? = some o2 ∧ w'.heap[w.heap.size + 2]? = some o3 ∧ w'.heap[w.heap.size + 3]? = some o4 := by
  intro w'
  have s1 : (w.alloc o1).heap.size = w.heap.size + 1 := World.size_alloc _ _
  have s2 : ((w.alloc o1).alloc o2).heap.size = w.heap.size + 2 := by rw [World.size_alloc, s1]
  have s3 : (((w.alloc o1).alloc o2).alloc o3).heap.size = w.heap.size + 3 := by rw [World.size_alloc, s2]
  have e1 := World.alloc_heap_new w o1
  have e2 := World.alloc_heap_new (w.alloc o1) o2
  have e3 := World.alloc_heap_new ((w.alloc o1).alloc o2) o3
  have e4 := World.alloc_heap_new (((w.alloc o1).alloc o2).alloc o3) o4
  rw [s1] at e2
  rw [s2] at e3
  rw [s3] at e4
  refine ⟨(((Below.refl _ w).alloc (Nat.le_refl _) _).alloc (by omega) _).alloc (by omega) _ |>.alloc (by omega) _, by show (World.alloc _ o4).heap.size = _; rw [World.size_alloc, s3], ?_, ?_, ?_, e4⟩
  · exact (Below.heap_alloc _ _ _ (by omega)).trans ((Below.heap_alloc _ _ _ (by omega)).trans ((Below.heap_alloc _ _ _ (by omega)).trans e1))
  · exact (Below.heap_alloc _ _ _ (by omega)).trans ((Below.heap_alloc _ _ _ (by omega)).trans e2)
  · exact (Below.heap_alloc _ _ _ (by omega)).trans e3
end Go.Proofs.YtlmglnobdcgbeaaGreat.P
namespace Go.Proofs.YtlmglnobdcgbeaaGreat.R
open Go.RowKit Go.Shelf YtlmglnobdcgbeaaGreatW.PrintWords YtlmglnobdcgbeaaGreatW.PrintLast YtlmglnobdcgbeaaGreatW.PrintMore
def last2Ok (ops : Array Oper) (y : Nat) : Bool :=
  ops.size == y + 2 &&
  ((List.range y).all fun i => Region.reachB .any ops i ops.size y && (match ops[i]? with | some o => ((match o.guard with | some (j, _) => j != y && j != y + 1 | none => true) && Op.noDefer o.op) && o.after.all (fun e => decide (e.on < i)) | none => true)) &&
  (match ops[y]?, ops[y + 1]? with | some oy, some oz => oy.guard.isNone && oz.guard.isNone && oy.after.all (fun e => decide (e.on < y)) && oz.after.all (fun e => decide (e.on < y + 1)) && oz.after.any (fun e => Region.binds .any e && e.on == y) | _, _ => false)
theorem anyIn_last2 {F : Fence} {n : Nat} {P : Program} {ops : Array Oper} {y : Nat} {oy oz : Oper} {Q : Exit → Act → World → Prop} (hF : Lifts F) (hFf : ∀ f, F.fn f) (hy : ops[y]? = some oy) (hz : ops[y + 1]? = some oz) (hok : last2Ok ops y = true)
    (ops' : Array Oper) (hs : ops'.size = ops.size) (hops : ∀ i, i < y → ops'[i]? = ops[i]?) (hyb : ops'[y]? = some (blank oy)) (hzb : ops'[y + 1]? = some (blank oz))
    (Q' : Exit → Act → World → Prop) (hQ' : ∀ a w, Q' .normal a w → oy.wpIn F n P a w (fun a w => oz.wpIn F n P a w (Q .normal) Q) Q) (hQp : ∀ c a w, Q' (.panic c) a w → Q (.panic c) a w) (hQ'o : ¬ LetsOut Q') :
    ∀ (fuel : Nat) (listed : Array Bool) (a : Act) (w : World), listed.size = ops.size → ListedClosed .any ops listed → listed.getD y true = false →
      wpAny P .any ops' Q' fuel listed a w → wpAnyIn F n P .any ops Q fuel listed a w := by
  unfold last2Ok at hok
  rw [hy, hz] at hok
  simp only [Bool.and_eq_true, beq_iff_eq] at hok
  obtain ⟨⟨hsize, hpre⟩, ⟨⟨⟨hgy, hgz⟩, hony⟩, honz⟩, hbind⟩ := hok
  have hgy' : oy.guard = none := by simpa using hgy
  have hgz' : oz.guard = none := by simpa using hgz
  have hylt : y < ops.size := by omega
  have hzlt : y + 1 < ops.size := by omega
  have hr : ∀ listed, Region.ready .any ops' listed = Region.ready .any ops listed := by
    intro listed
    unfold Region.ready
    rw [hs]
    refine List.filter_congr fun i hi => ?_
    have hi' := List.mem_range.1 hi
    rcases Nat.lt_trichotomy i y with e | e | e
    · rw [hops i e]
    · subst e; rw [hyb, hy]; rfl
    · obtain rfl : i = y + 1 := by omega
      rw [hzb, hz]; rfl
  have hpre' : ∀ i, i < y → ∀ o, ops[i]? = some o → Region.reachB .any ops i ops.size y = true ∧ (∀ j b, o.guard = some (j, b) → j ≠ y ∧ j ≠ y + 1) ∧ Op.noDefer o.op = true ∧ ∀ e ∈ o.after, e.on < i := fun i hi o ho => by
    have := List.all_eq_true.1 hpre i (List.mem_range.2 hi)
    simp only [Bool.and_eq_true, ho] at this
    refine ⟨this.1, fun j b hgo => ?_, this.2.1.2, fun e he => of_decide_eq_true (Array.all_eq_true_iff_forall_mem.1 this.2.2 e he)⟩
    have h1 := this.2.1.1
    rw [hgo] at h1
    simpa using h1
  have hon : ∀ (i : Nat) (o : Oper), ops[i]? = some o → ∀ e ∈ o.after, e.on < i := fun i o ho e he => by
    rcases Nat.lt_trichotomy i y with h | h | h
    · exact (hpre' i h o ho).2.2.2 e he
    · subst h; rw [hy] at ho; cases ho; exact of_decide_eq_true (Array.all_eq_true_iff_forall_mem.1 hony e he)
    · have := (Array.getElem?_eq_some_iff.1 ho).1
      obtain rfl : i = y + 1 := by omega
      rw [hz] at ho; cases ho; exact of_decide_eq_true (Array.all_eq_true_iff_forall_mem.1 honz e he)
  have hyield : ∀ (t : Array Value) j, j < y → yielded ops' t j = yielded ops t j := fun t j hj => by unfold yielded; rw [hops j hj]
  have hwant : ∀ (i : Nat) (o : Oper) (t : Array Value), i < y → ops[i]? = some o → Region.wanted o (yielded ops' t) = Region.wanted o (yielded ops t) := fun i o t hi ho => by
    unfold Region.wanted
    cases hgo : o.guard with
    | none => rfl
    | some p =>
      obtain ⟨j, b⟩ := p
      obtain ⟨g1, g2⟩ := (hpre' i hi o ho).2.1 j b hgo
      simp only []
      by_cases hj : j < y
      · rw [hyield t j hj]
      · have hj2 : ops[j]? = none := Array.getElem?_eq_none (by omega)
        have hj3 : ops'[j]? = none := Array.getElem?_eq_none (by omega)
        unfold yielded
        rw [hj2, hj3]
  obtain ⟨ez, hez, hez2⟩ := Array.any_eq_true'.1 hbind
  simp only [Bool.and_eq_true, beq_iff_eq] at hez2
  have hz_not : ∀ listed : Array Bool, listed.size = ops.size → listed.getD y true = false → y + 1 ∉ Region.ready .any ops listed := fun listed hsz hyl hm => by
    obtain ⟨_, o, ho, hall⟩ := mem_ready.1 hm
    rw [hz] at ho
    cases ho
    have := hall ez hez hez2.1
    rw [hez2.2] at this
    have hb : y < listed.size := by omega
    simp only [Array.getD, hb, dif_pos] at this hyl
    rw [this] at hyl; cases hyl
  have hdone : ∀ fuel (listed : Array Bool) a w, Region.ready .any ops listed = [] → Q .normal a w → wpAnyIn F n P .any ops Q fuel listed a w := by
    intro fuel listed a w h0 hq
    cases fuel with
    | zero => exact ⟨h0, hq⟩
    | succ k => exact ⟨fun _ => hq, by rw [h0]; simp⟩
  have hafter : ∀ listed : Array Bool, listed.size = ops.size → ListedClosed .any ops listed → listed.getD y true = false → y ∈ Region.ready .any ops listed →
      y + 1 ∈ Region.ready .any ops (listed.setIfInBounds y true) ∧ (∀ i ∈ Region.ready .any ops (listed.setIfInBounds y true), i = y + 1) ∧ Region.ready .any ops ((listed.setIfInBounds y true).setIfInBounds (y + 1) true) = [] := by
    intro listed hsz hc hyl hm
    have hc' := ListedClosed.set hc hm
    have hyl2 : (listed.setIfInBounds y true).getD y false = true := by simp [Array.getD, hsz, hylt]
    have hil : ∀ i, i ≤ y → (listed.setIfInBounds y true).getD i false = true := fun i hi => by
      by_cases e : i = y
      · subst e; exact hyl2
      · exact Region.reach_listed hc' ops.size y (hpre' i (by omega) ops[i] (Array.getElem?_eq_getElem (by omega))).1 hyl2
    have hgd : ∀ (L : Array Bool) i, L.size = ops.size → i < ops.size → L.getD i false = true → L.getD i true = true := fun L i hL hi h => by
      have hb : i < L.size := by omega
      simp only [Array.getD, hb, dif_pos] at h ⊢
      exact h
    have hznl : (listed.setIfInBounds y true).getD (y + 1) true = false := by
      rw [getD_set_ne true (by omega)]
      have hb : y + 1 < listed.size := by omega
      refine Bool.eq_false_iff.2 fun h => ?_
      have h' : listed.getD (y + 1) false = true := by simp only [Array.getD, hb, dif_pos] at h ⊢; exact h
      have hcl := hc (y + 1) oz hz h' ez hez hez2.1
      rw [hez2.2] at hcl
      have hb2 : y < listed.size := by omega
      simp only [Array.getD, hb2, dif_pos] at hcl hyl
      rw [hcl] at hyl; cases hyl
    have hmem : y + 1 ∈ Region.ready .any ops (listed.setIfInBounds y true) := mem_ready.2 ⟨hznl, oz, hz, fun e he _ => by
      have h1 : e.on < y + 1 := of_decide_eq_true (Array.all_eq_true_iff_forall_mem.1 honz e he)
      exact hil e.on (by omega)⟩
    refine ⟨hmem, fun i hi => ?_, ?_⟩
    · obtain ⟨h1, o, ho, _⟩ := mem_ready.1 hi
      have hlt := (Array.getElem?_eq_some_iff.1 ho).1
      by_cases e : i ≤ y
      · rw [hgd _ i (by simp [hsz]) hlt (hil i e)] at h1; cases h1
      · omega
    · refine List.eq_nil_iff_forall_not_mem.2 fun i hi => ?_
      obtain ⟨h1, o, ho, _⟩ := mem_ready.1 hi
      have hlt := (Array.getElem?_eq_some_iff.1 ho).1
      by_cases e : i = y + 1
      · subst e
        have : ((listed.setIfInBounds y true).setIfInBounds (y + 1) true).getD (y + 1) true = true := by simp [Array.getD]
        rw [this] at h1; cases h1
      · rw [getD_set_ne true (by omega)] at h1
        rw [hgd _ i (by simp [hsz]) hlt (hil i (by omega))] at h1; cases h1
  intro fuel
  induction fuel with
  | zero =>
    intro listed a w hsz hc hyl h
    exact (anyIn_last_absurd hon hylt hsz hyl ((hr listed).symm.trans h.1)).elim
  | succ fuel ih =>
    intro listed a w hsz hc hyl h
    refine ⟨fun h0 => (anyIn_last_absurd hon hylt hsz hyl h0).elim, fun i hi => ?_⟩
    have h1 := h.2 i (by rw [hr]; exact hi)
    have hilt : i < ops.size := by obtain ⟨_, o, ho, _⟩ := mem_ready.1 hi; exact (Array.getElem?_eq_some_iff.1 ho).1
    have hnz : i ≠ y + 1 := fun e => by subst e; exact hz_not listed hsz hyl hi
    by_cases e : i = y
    · subst e
      obtain ⟨g1, g2, g3⟩ := hafter listed hsz hc hyl hi
      unfold wpOp at h1
      unfold wpOpIn
      rw [hyb] at h1
      rw [hy]
      simp only [] at h1 ⊢
      have hw : Region.wanted oy (yielded ops a.tmps) = true := by unfold Region.wanted; rw [hgy']
      have hw' : Region.wanted (blank oy) (yielded ops' a.tmps) = true := rfl
      rw [if_pos hw]
      rw [if_pos hw'] at h1
      rcases h1 with h1 | h1
      · have h2 : wpAny P .any ops' Q' fuel (listed.setIfInBounds i true) a w := h1
        cases fuel with
        | zero =>
          have := h2.1
          rw [hr] at this
          rw [this] at g1; cases g1
        | succ k =>
          have h3 := h2.2 (i + 1) (by rw [hr]; exact g1)
          unfold wpOp at h3
          rw [hzb] at h3
          simp only [] at h3
          have hw2 : Region.wanted (blank oz) (yielded ops' a.tmps) = true := rfl
          rw [if_pos hw2] at h3
          rcases h3 with h3 | h3
          · have h4 : wpAny P .any ops' Q' k ((listed.setIfInBounds i true).setIfInBounds (i + 1) true) a w := h3
            have hq : Q' .normal a w := by
              cases k with
              | zero => exact h4.2
              | succ k => exact h4.1 (by rw [hr]; exact g3)
            refine Oper.wpIn_mono (fun a w hq => ?_) (hQ' a w hq)
            refine ⟨fun h0 => (by rw [h0] at g1; cases g1), fun j hj => ?_⟩
            obtain rfl := g2 j hj
            unfold wpOpIn
            rw [hz]
            simp only []
            have hw3 : Region.wanted oz (yielded ops a.tmps) = true := by unfold Region.wanted; rw [hgz']
            rw [if_pos hw3]
            exact Oper.wpIn_mono (fun a w hq => hdone _ _ a w g3 hq) hq
          · exact absurd h3.2 hQ'o
      · exact absurd h1.2 hQ'o
    · have hiy : i < y := by omega
      unfold wpOp at h1
      unfold wpOpIn
      rw [hops i hiy] at h1
      cases ho : ops[i]? with
      | none =>
        obtain ⟨oi, hoi, _⟩ := (mem_ready.1 hi).2
        rw [ho] at hoi; cases hoi
      | some o =>
        rw [ho] at h1
        simp only [] at h1 ⊢
        have hnext : ∀ a w, wpAny P .any ops' Q' fuel (listed.setIfInBounds i true) a w → wpAnyIn F n P .any ops Q fuel (listed.setIfInBounds i true) a w := fun a w h => by
          refine ih _ a w (by simp [hsz]) (ListedClosed.set hc hi) ?_ h
          rw [getD_set_ne true e]; exact hyl
        by_cases hw : Region.wanted o (yielded ops a.tmps) = true
        · rw [if_pos hw]
          rw [hwant i o a.tmps hiy ho, if_pos hw] at h1
          rcases h1 with h1 | h1
          · have h2 : o.wpIn F n P a w (wpAnyIn F n P .any ops Q fuel (listed.setIfInBounds i true)) Q' := hF n P o a w _ _ Q' (hpre' i hiy o ho).2.2.1 hnext h1
            exact oper_panic_mono hQp hQ'o h2
          · exact absurd h1.2 hQ'o
        · rw [if_neg hw]
          rw [hwant i o a.tmps hiy ho, if_neg hw] at h1
          exact ⟨fun f _ => hFf f, hnext _ _ h1⟩
theorem quiet_blank {P : Program} {ops : Array Oper} {C : World → Prop} {Q : Act → Prop} {rest : List Oper} {a : Act} {o : Oper} (h : wpQuiet P ops C Q rest a) : wpQuiet P ops C Q (blank o :: rest) a := by
  unfold wpQuiet
  have hw : Region.wanted (blank o) (yielded ops a.tmps) = true := rfl
  rw [if_pos hw]
  refine ⟨.bool true, fun w hw => ?_, h⟩
  unfold Oper.quietAt
  exact ⟨rfl, rfl⟩
theorem oper_not {P : Program} {o : Oper} {a : Act} {w : World} {K : Act → World → Prop} {Q : Exit → Act → World → Prop} {x : Operand} {t : TypeId} {b : Bool} (ho : o.op = .unOp .not t x) (hx : a.eval x = .bool b) (h : K (a.put o.dst (.bool (!b))) w) : o.wp P a w K Q := by
  unfold Oper.wp
  have e : (execOp a.eval o).run P w = .ok (.value (.bool (!b))) w := by
    unfold execOp
    rw [ho]
    simp only []
    rw [hx]
    first | rfl | simp [go_sem]
  rw [e]
  exact h
theorem quiet_last2_ {F : Fence} {n0 id y : Nat} {P : Program} {l : List Oper} {oy oz : Oper} {Q : Exit → Act → World → Prop} {a : Act} {w : World} (Qn : Act → World → Prop)
    (hF : Lifts F) (hFf : ∀ f, F.fn f) (hm : P.follows .mixedOrders = true) (hy : l.toArray[y]? = some oy) (hz : l.toArray[y + 1]? = some oz) (hok : last2Ok l.toArray y = true)
    (hB : Region.lexB .any (l.take y ++ [blank oy, blank oz]).toArray = true)
    (hQn : ∀ a w, Qn a w → oy.wpIn F n0 P a w (fun a w => oz.wpIn F n0 P a w (Q .normal) Q) Q)
    (h : wpQuiet P (l.take y ++ [blank oy, blank oz]).toArray (fun w' => ∃ n, w' = w.drewN n) (fun a' => ∀ w', (∃ n, w' = w.drewN n) → Qn a' w') (l.take y ++ [blank oy, blank oz]) a) : (Code.region id l.toArray true).wpIn F n0 P Q a w := by
  obtain ⟨ops', hops'⟩ : ∃ x, x = (l.take y ++ [blank oy, blank oz]).toArray := ⟨_, rfl⟩
  have hzl := (Array.getElem?_eq_some_iff.1 hz).1
  have hsize : l.toArray.size = y + 2 := by
    unfold last2Ok at hok
    simp only [Bool.and_eq_true, beq_iff_eq] at hok
    exact hok.1.1
  simp only [List.size_toArray] at hsize hzl
  have hsz : ops'.size = l.toArray.size := by subst hops'; simp; omega
  have hB' := hB
  simp only [Region.lexB, Bool.and_eq_true] at hB'
  have hq : wpAny P .any ops' (Exit.then Qn (fun _ _ _ => False)) ops'.size (Array.replicate ops'.size false) a w.drew := by
    refine wpAny_of_quiet (C := fun w' => ∃ n, w' = w.drewN n) (Q := fun a' => ∀ w', (∃ n, w' = w.drewN n) → Qn a' w') (fun _ w' hw' h => h w' hw') _ _ _ _ ⟨1, rfl⟩ ?_
    subst hops'
    have := wpAnyQ_lex (C := fun w' => ∃ n, w' = w.drewN n) (md := .any) hB'.1 _ 0 (Array.replicate (l.take y ++ [blank oy, blank oz]).toArray.size false) a (by simp) (by simpa using hB'.2) h
    simpa using this
  refine wpIn_region_any hm (anyIn_last2 (y := y) (oy := oy) (oz := oz) hF hFf hy hz hok ops' hsz (fun i hi => ?_) ?_ ?_ (Exit.then Qn (fun _ _ _ => False)) (fun a w h => hQn a w h) (fun c a w h => h.elim) (fun ⟨_, _, h⟩ => h.elim) _ _ _ _ (by simp) ?_ (by simp [Array.getD]; omega) (by rw [hsz] at hq; exact hq))
  · subst hops'
    simp only [List.getElem?_toArray]
    rw [List.getElem?_append_left (by simp; omega), List.getElem?_take_of_lt hi]
  · subst hops'
    simp only [List.getElem?_toArray]
    rw [List.getElem?_append_right (by simp; omega)]
    have : (List.take y l).length = y := by simp; omega
    rw [this]; simp
  · subst hops'
    simp only [List.getElem?_toArray]
    rw [List.getElem?_append_right (by simp; omega)]
    have : (List.take y l).length = y := by simp; omega
    rw [this]; simp
  · intro j oj hj hl
    have h0 : (Array.replicate l.toArray.size false).getD j false = false := by
      unfold Array.getD
      split
      · exact Array.getElem_replicate ..
      · rfl
    rw [h0] at hl; cases hl
theorem IStep.widen {B lo c lo' c' : Nat} {X Y : World} (h : IStep B lo c X Y) (h1 : lo' ≤ lo) (h2 : lo + c ≤ lo' + c') : IStep B lo' c' X Y :=
  ⟨h.os, h.tape, h.output, h.size, fun k o ho h3 h4 => h.same k o ho (fun h5 => h3 (by omega)) h4⟩
theorem RKeep.istep_ {n₀ : Nat} {Ex : Nat → Prop} {B : Nat} {E : Nat → Prop} {X Y Z : World} {b lo c : Nat} (h : RKeep n₀ Ex B E X Y) (k : IStep b lo c Y Z) (hb : X.heap.size ≤ b) (hlo : X.heap.size ≤ lo) : RKeep n₀ Ex B E X Z := by
  have key : ∀ j, j < X.heap.size → ∀ o, Y.heap[j]? = some o → Z.heap[j]? = some o := fun j hj o ho => k.same j o ho (fun h3 => by omega) (fun h3 => by omega)
  have ex : ∀ j, j < X.heap.size → Y.heap[j]? = Z.heap[j]? := fun j hj => by
    have hy : j < Y.heap.size := Nat.lt_of_lt_of_le hj h.size
    rw [key j hj _ (Array.getElem?_eq_getElem hy), Array.getElem?_eq_getElem hy]
  exact ⟨Nat.le_trans h.size k.size, fun j hj h1 => (ex j hj).symm.trans (h.same j hj h1), fun j o hB ho hc => key j (Array.getElem?_eq_some_iff.1 ho).1 o (h.book j o hB ho hc)⟩
end Go.Proofs.YtlmglnobdcgbeaaGreat.R
namespace Go.Proofs.YtlmglnobdcgbeaaGreat.P
open Go.RowKit Go.Proofs.YtlmglnobdcgbeaaGreatW.PrintWords Go.Proofs.YtlmglnobdcgbeaaGreatW.PrintLast Go.Proofs.YtlmglnobdcgbeaaGreatW.PrintMore
attribute [local go_sem] max2_int min2_int max_two min_two max_three min_three max_four min_four
def turn_high.f (a0_0 : Int) (a0_1 : Int) : Option (Int) := some a0_1
set_option maxHeartbeats 8000000 in
set_option maxRecDepth 100000 in
theorem turn_high.calls (a0_0 : Int) (a0_1 : Int) (r : Int) (w : World) (h : turn_high.f a0_0 a0_1 = some r) :
  Calls Tryz.prog 67 #[.agg #[.int .i64 a0_0, .int .i64 a0_1]] w fun e w' => e = .returned (.int .i64 r) ∧ Below w.heap.size w w' := by
 have hu42 := Tryz.underlying42
 have HB := Aside0.mk (Below.refl w.heap.size w)
 have H : (some a0_1) = some r := h
 clear h
 obtain rfl := Option.some.inj H
 go_enter Tryz.func67, Tryz.ntmps67
 go_wp2_with (first | ((with_reducible refine gate_dst (N := 1) rfl ?_); refine bx 1 #[.int .i64 a0_0, .int .i64 a0_1] 42 ?_; intro gb101 hg w2 hbox hb; have BK101 := hbox; have GW101 := gs HB hg; have GE101 := gs HB hg; replace HB := bs HB hb; clear hb hbox hg; obtain ⟨_, _, _, _⟩ := cf2 BK101))
 go_ret
 exact ⟨eT, pE HB⟩
def turn_low.f (a0_0 : Int) (a0_1 : Int) : Option (Int) := some a0_0
set_option maxHeartbeats 8000000 in
set_option maxRecDepth 100000 in
theorem turn_low.calls (a0_0 : Int) (a0_1 : Int) (r : Int) (w : World) (h : turn_low.f a0_0 a0_1 = some r) :
  Calls Tryz.prog 66 #[.agg #[.int .i64 a0_0, .int .i64 a0_1]] w fun e w' => e = .returned (.int .i64 r) ∧ Below w.heap.size w w' := by
 have hu42 := Tryz.underlying42
 have HB := Aside0.mk (Below.refl w.heap.size w)
 have H : (some a0_0) = some r := h
 clear h
 obtain rfl := Option.some.inj H
 go_enter Tryz.func66, Tryz.ntmps66
 go_wp2_with (first | ((with_reducible refine gate_dst (N := 1) rfl ?_); refine bx 1 #[.int .i64 a0_0, .int .i64 a0_1] 42 ?_; intro gb101 hg w2 hbox hb; have BK101 := hbox; have GW101 := gs HB hg; have GE101 := gs HB hg; replace HB := bs HB hb; clear hb hbox hg; obtain ⟨_, _, _, _⟩ := cf2 BK101))
 go_ret
 exact ⟨eT, pE HB⟩
end Go.Proofs.YtlmglnobdcgbeaaGreat.P
namespace Go.Proofs.YtlmglnobdcgbeaaGreat.P
open Go.RowKit Go.Shelf Go.Proofs.YtlmglnobdcgbeaaGreatW.PrintWords Go.Proofs.YtlmglnobdcgbeaaGreatW.PrintLast Go.Proofs.YtlmglnobdcgbeaaGreatW.PrintMore Go.Proofs.YtlmglnobdcgbeaaGreat.R
def highF (x y : Int) : Int := y
theorem high_calls (x y : Int) (W : World) : Calls Tryz.prog 67 #[.agg #[.int .i64 x, .int .i64 y]] W fun e w' => e = .returned (.int .i64 (highF x y)) ∧ Below W.heap.size W w' := turn_high.calls x y y W rfl
def waitT (cl : List S67) (t : Int × Int × Int) : Int × Int := (t.1, wrap64 (t.2.1 - (rd_T67 cl t.1).f1))
def RvW (x : Int × Int) (vs : Array Value) (W : World) : Prop := vs = #[.int .i64 x.1, .int .i64 x.2]
structure CapW (B1 B2 B3 : Nat) (m : Nat) (A2 : Option Addr) (c2 : Nat) (ord : List Int) (A3 : Option Addr) (c3 : Nat) (cl : List S67) (A4 : Option Addr) (c4 : Nat) (rk : List Int) (W : World) : Prop where
  b1 : W.heap[B1]? = some (.cells #[.slice A3 cl.length c3, .slice A4 rk.length c4] 99 (0, 0))
  b2 : W.heap[B2]? = some (.cells #[.slice A2 ord.length c2] 23 (0, 0))
  b3 : W.heap[B3]? = some (.cells #[.int .i64 (m : Int)] 3 (0, 0))
  r2 : Kd.C (Kd.int .i64) W A2 ord.length ord
  r3 : Kd.C k67 W A3 cl.length cl
theorem box_event_sz {P : Program} {ops : Array Oper} {rest : List Oper} {o : Oper} {a : Act} {Q : Exit → Act → World → Prop} {W : World} (hgd : o.guard = none) {N : Tmp} (_hd : o.dst = some N) {cs : Array Value} {t : TypeId}
    (hrun : (execOp a.eval o).run P W = .ok (.value (.pointer (some ⟨W.heap.size, 0, none⟩))) (W.alloc (.cells cs t (0, 0))))
    (h : ∀ w1, w1.heap.size = W.heap.size + 1 → w1.heap[W.heap.size]? = some (.cells cs t (0, 0)) → Below W.heap.size W w1 → wpList P ops Q rest (a.put o.dst (.pointer (some ⟨W.heap.size, 0, none⟩))) w1) : wpList P ops Q (o :: rest) a W :=
  Kd.event_run hgd hrun (h _ (World.size_alloc _ _) (blk_new W _) (below_alloc (Below.refl _ _) _))
set_option maxHeartbeats 16000000 in
set_option maxRecDepth 100000 in
theorem waits_iter (B1 B2 B3 m : Nat) (A2 : Option Addr) (c2 : Nat) (ord : List Int) (A3 : Option Addr) (c3 : Nat) (cl : List S67) (A4 : Option Addr) (c4 : Nat) (rk : List Int) (n : Nat) (w : World) (Ex : Nat → Prop)
    (hm : 1 ≤ m) (hm2 : m ≤ 1000) (hin : ∀ x ∈ ord, 0 ≤ x ∧ x < (cl.length : Int))
    (hC : ∀ W', w.heap.size ≤ W'.heap.size → (∀ k, k < w.heap.size → ¬ Ex k → W'.heap[k]? = w.heap[k]?) → CapW B1 B2 B3 m A2 c2 ord A3 c3 cl A4 c4 rk W') :
    IterC Fence.wide n Tryz.prog 101 #[.pointer (some ⟨B1, 0, none⟩), .pointer (some ⟨B2, 0, none⟩), .pointer (some ⟨B3, 0, none⟩)] ((runT highF cl (List.replicate m 0) ord).map (waitT cl)) RvW Ex 8 (fun _ => True) w := by
  intro l J Jx W hW hJ hJx hY h0
  have hcap := hC W hW.size (fun k hk _ => hW.block k hk)
  have hB1l := (Array.getElem?_eq_some_iff.1 hcap.b1).1
  have hB2l := (Array.getElem?_eq_some_iff.1 hcap.b2).1
  have hB3l := (Array.getElem?_eq_some_iff.1 hcap.b3).1
  have HCAP := Aside0.mk hcap
  have HC := Aside0.mk hC
  have HJ := Aside0.mk hJ
  have HJx := Aside0.mk hJx
  have HY := Aside0.mk hY
  have HW := Aside0.mk hW
  have HIN := Aside0.mk hin
  have H0 := Aside0.mk h0
  have hsw := hW.size
  clear hC hJ hJx hY hcap hW hin h0
  have hu1 := Tryz.underlying99
  have hu2 := Tryz.underlying25
  refine callsIn_of_wp_marks Tryz.func101 rfl trivial ?_ rfl
  simp only [Tryz.ntmps101, List.size_toArray, List.length_cons, List.length_nil, Nat.reduceAdd, Nat.reduceSub, Array.replicate_succ, Array.replicate_zero, List.push_toArray, List.append_toArray, List.nil_append, List.cons_append]
  go_wp2_with (first
    | ((with_reducible refine gate_dst (N := 4) rfl ?_); refine box_event_sz ?hg (N := 4) ?hd (cs := #[.func (.yield l) #[] #[]]) (t := 138) ?hr ?_; (case hd => rfl); (case hg => rfl); (case hr => first | (go_simp; done) | (go_simp; rfl)); intro w1 hs1 hbox hb1
       have hz1 : w1.cell? ⟨B1, 0, none⟩ = some (.slice A3 cl.length c3) := (blk_cell ((hb1.block B1 hB1l).trans HCAP.out.b1) 0).trans rfl
       have hz2 : w1.cell? ⟨B1, 1, none⟩ = some (.slice A4 rk.length c4) := (blk_cell ((hb1.block B1 hB1l).trans HCAP.out.b1) 1).trans rfl
       have hz3 : w1.cell? ⟨B2, 0, none⟩ = some (.slice A2 ord.length c2) := (blk_cell ((hb1.block B2 hB2l).trans HCAP.out.b2) 0).trans rfl
       have hz4 : w1.cell? ⟨B3, 0, none⟩ = some (.int .i64 (m : Int)) := (blk_cell ((hb1.block B3 hB3l).trans HCAP.out.b3) 0).trans rfl)
    | ((with_reducible refine gate_callee (f := 65) rfl ?_); refine goesL_ (some 9) rfl rfl Tryz.func65 (by kernel_rfl) rfl #[.agg #[.slice A3 cl.length c3, .slice A4 rk.length c4], .slice A2 ord.length c2, .int .i64 (m : Int), .func (.func 67) #[] #[]] rfl (by (try simp only [List.map_toArray, List.map_cons, List.map_nil]); first | done | rfl) ?_
       refine (turns_calls A3 cl.length c3 A4 rk.length c4 A2 ord.length c2 (m : Int) 67 w1).mono ?_; rintro e w5 ⟨rfl, hw5⟩; refine ⟨_, rfl, ?_⟩)
    | (with_reducible refine regW_lit_ ?_) | gi_step)
  simp only [Act.put, List.setIfInBounds_toArray, List.set_cons_zero, List.set_cons_succ]
  obtain ⟨q1, q2, q3, q4, q5, q6⟩ := four_alloc w1 (.cells #[.slice A3 cl.length c3, .slice A4 rk.length c4] 99) (.cells #[.slice A2 ord.length c2] 23) (.cells #[.int .i64 (m : Int)] 3) (.cells #[.func (.func 67) #[] #[]] 135)
  rw [← hw5] at q1 q2 q3 q4 q5 q6
  clear hw5 hz1 hz2 hz3 hz4
  obtain ⟨b0, hb0⟩ : ∃ b0, W.heap.size = b0 := ⟨_, rfl⟩
  rw [hb0] at hs1
  have e1 : w1.heap.size = b0 + 1 := hs1
  rw [e1] at q2 q3 q4 q5 q6
  have hbox5 : w5.heap[b0]? = some (.cells #[.func (.yield l) #[] #[]] 138 (0, 0)) := by rw [hb0] at hbox; exact (q1.block b0 (by omega)).trans hbox
  have hb5 : Below b0 W w5 := by rw [hb0] at hb1; exact hb1.trans (q1.mono (by omega))
  clear hbox hb1 q1
  obtain ⟨Ex5, hEx5⟩ : ∃ Ex5 : Nat → Prop, Ex5 = fun k => ¬ (k < w.heap.size ∧ ¬ Ex k ∨ b0 ≤ k) := ⟨_, rfl⟩
  have hcapw : ∀ W', RKeep w.heap.size Ex b0 (fun _ => True) w5 W' → CapW B1 B2 B3 m A2 c2 ord A3 c3 cl A4 c4 rk W' := fun W' hk =>
    HC.out W' (by have := hk.size; omega) (fun k hk0 hx => (hk.same k (by omega) (.inl ⟨hk0, hx⟩)).trans ((hb5.block k (by omega)).trans (HW.out.block k hk0)))
  have hcap5 : ∀ W', w5.heap.size ≤ W'.heap.size → (∀ k, k < w5.heap.size → ¬ Ex5 k → W'.heap[k]? = w5.heap[k]?) → CapT (b0 + 1 + 2) (b0 + 1 + 1) (b0 + 1) (b0 + 1 + 3) m A2 c2 ord A3 c3 cl A4 c4 rk 67 W' := by
    intro W' hsz hsame
    have hold : ∀ k, k < w5.heap.size → b0 ≤ k → W'.heap[k]? = w5.heap[k]? := fun k hk hbk => hsame k hk (by rw [hEx5]; exact fun hn => hn (.inr hbk))
    have hcw := HC.out W' (by omega) (fun k hk0 hx => (hsame k (by omega) (by rw [hEx5]; exact fun hn => hn (.inl ⟨hk0, hx⟩))).trans ((hb5.block k (by omega)).trans (HW.out.block k hk0)))
    exact ⟨(hold _ (by omega) (by omega)).trans q5, (hold _ (by omega) (by omega)).trans q4, (hold _ (by omega) (by omega)).trans q3, (hold _ (by omega) (by omega)).trans q6, hcw.r2, hcw.r3⟩
  have hseq := turns_iter highF (b0 + 1 + 2) (b0 + 1 + 1) (b0 + 1) (b0 + 1 + 3) m A2 c2 ord A3 c3 cl A4 c4 rk 67 Tryz.f67 (n - 1) w5 Ex5 (fun _ => True) Tryz.func67 (by kernel_rfl) rfl high_calls hm hm2 HIN.out (by omega) trivial hcap5
  rw [e1]
  have HS := Aside0.mk hcapw
  have HB5 := Aside0.mk hb5
  have HBX := Aside0.mk hbox5
  clear hcapw hcap5 hb5 hbox5 q3 q4 q5 q6 hs1
  refine range_outer (xs := runT highF cl (List.replicate m 0) ord) (Rv := RvT) (Ex := Ex5) (c := 1) (E := fun _ => True) (w0 := w5) rfl (fun h0 => by cases h0) (gf := 99) rfl trivial (fun args w => enters_ Tryz.func99 (by kernel_rfl) rfl args w) hseq (Below.refl _ _) (fun x vs W h => by unfold RvT at h; subst h; rfl)
    (fun i W' => J i W' ∧ RKeep w.heap.size Ex b0 (fun _ => True) w5 W')
    (fun cd i W' => cd = .ret ∧ Jx i W')
    ?hI ?hIx ?h0
    (fun i x a' W' => ∃ g5, a' = { tmps := #[.func (.yield l) #[] #[], .pointer (some ⟨B1, 0, none⟩), .pointer (some ⟨B2, 0, none⟩), .pointer (some ⟨B3, 0, none⟩), .pointer (some ⟨b0, 0, none⟩), .pointer (some ⟨g5, 0, none⟩), .agg #[.slice A3 cl.length c3, .slice A4 rk.length c4], .slice A2 ord.length c2, .int .i64 (m : Int), .func (.func 99) #[] #[.pointer (some ⟨b0 + 1 + 2, 0, none⟩), .pointer (some ⟨b0 + 1 + 1, 0, none⟩), .pointer (some ⟨b0 + 1, 0, none⟩), .pointer (some ⟨b0 + 1 + 3, 0, none⟩)], .agg #[.int .i64 x.1, .int .i64 x.2.1, .int .i64 x.2.2], undef, undef, undef, undef, undef, undef, undef, undef, undef, undef, undef, undef, undef, undef, undef, undef], defers := [] } ∧
      W'.heap[g5]? = some (.cells #[.int .i64 x.1, .int .i64 x.2.1, .int .i64 x.2.2] 107 (0, 0)) ∧ w5.heap.size + 3 ≤ g5 ∧ J i W' ∧ RKeep w.heap.size Ex b0 (fun _ => True) w5 W')
    ?hAx ?assign ?body ?done ?stop
  case hI => exact fun i X Y h hs => ⟨HJ.out i X Y h.1 (by rw [hb0]; exact (hs.lower (by omega)).widen (by omega) (by omega)), h.2.istep_ hs (Nat.le_refl _) (by omega)⟩
  case hIx => exact fun cd i X Y h hs => ⟨h.1, HJx.out i X Y h.2 (by rw [hb0]; exact (hs.lower (by omega)).widen (by omega) (by omega))⟩
  case h0 => exact ⟨HJ.out 0 W w5 H0.out (IStep.of_below (by rw [hb0]; exact HB5.out)), RKeep.refl _ _ _ _ _⟩
  case hAx =>
    rintro i x a' _ X Y ⟨g5, ha, h1, h2, h3, h4⟩ hs
    exact ⟨g5, ha, hs.same g5 _ h1 (by omega) (fun _ => rfl), h2, HJ.out i X Y h3 (by rw [hb0]; exact (hs.lower (by omega)).widen (by omega) (by omega)), h4.istep_ hs (Nat.le_refl _) (by omega)⟩
  case assign =>
    rintro l' i x vs W' K hx ⟨hi1, hi2⟩ hv hsz hK
    unfold RvT at hv
    subst hv
    simp only [List.zip_toArray, List.zip_cons_cons, List.zip_nil_right, List.zip_nil_left, List.size_toArray, List.foldl_toArray', List.foldl_cons, List.foldl_nil, List.setIfInBounds_toArray, List.set_cons_zero, List.set_cons_succ, List.length_cons, List.length_nil]
    have H1 := Aside0.mk hi1
    have H2 := Aside0.mk hi2
    have HK := Aside0.mk hK
    have HSZ := Aside0.mk hsz
    clear hseq hi1 hi2 hK hsz
    have hu107 := Tryz.underlying107
    go_wp2_with (first
      | ((with_reducible refine gate_dst (N := 5) rfl ?_); refine box_event_sz ?hg (N := 5) ?hd (cs := #[.int .i64 0, .int .i64 0, .int .i64 0]) (t := 107) ?hr ?_; (case hd => rfl); (case hg => rfl); (case hr => first | (go_simp; done) | (go_simp; rfl)); intro w6 hs6 hx6 hb6
         have hc60 : w6.cell? ⟨W'.heap.size, 0, none⟩ = some (.int .i64 0) := (blk_cell hx6 0).trans rfl
         have hc61 : w6.cell? ⟨W'.heap.size, 1, none⟩ = some (.int .i64 0) := (blk_cell hx6 1).trans rfl
         have hc62 : w6.cell? ⟨W'.heap.size, 2, none⟩ = some (.int .i64 0) := (blk_cell hx6 2).trans rfl
         have hf60 := blk_frozen hx6 0
         have hf61 := blk_frozen hx6 1
         have hf62 := blk_frozen hx6 2
         have HX6 := Aside0.mk hx6
         have HB6 := Aside0.mk hb6
         clear hx6 hb6)
      | ((with_reducible refine regIn_lit_ ?hnd ?hlo ?_); (case hnd => kernel_rfl); (case hlo => rintro ⟨_, _, h⟩; exact h)) | gi_step)
    have hbel : Below W'.heap.size W' (((w6.setCell ⟨W'.heap.size, 0, none⟩ (.int .i64 x.1)).setCell ⟨W'.heap.size, 1, none⟩ (.int .i64 x.2.1)).setCell ⟨W'.heap.size, 2, none⟩ (.int .i64 x.2.2)) :=
      ((HB6.out.setCell (p := ⟨W'.heap.size, 0, none⟩) (Nat.le_refl _) _).setCell (p := ⟨W'.heap.size, 1, none⟩) (Nat.le_refl _) _).setCell (p := ⟨W'.heap.size, 2, none⟩) (Nat.le_refl _) _
    exact HK.out _ _ hbel ⟨W'.heap.size, rfl, blk_put (blk_put (blk_put HX6.out 0 _ rfl) 1 _ rfl) 2 _ rfl, by have := HSZ.out; omega, HJ.out i W' _ H1.out (IStep.of_below hbel), H2.out.istep_ (b := w5.heap.size) (lo := w5.heap.size) (c := 0) (IStep.of_below hbel) (Nat.le_refl _) (Nat.le_refl _)⟩
  case body =>
    rintro l' i x a' W' hl' hloop hx ⟨g5, rfl, h1, h2, h3, h4⟩ hsz
    have hlt : i < ord.length := by have := (List.getElem?_eq_some_iff.1 hx).1; rwa [runT_len] at this
    have hxe := runT_at highF cl ord (List.replicate m 0) i hlt
    have hx1 : x.1 = ord[i] := by rw [hx] at hxe; rw [Option.some.inj hxe]
    obtain ⟨p1, p2⟩ := HIN.out x.1 (by rw [hx1]; exact List.getElem_mem hlt)
    have hyx : ((runT highF cl (List.replicate m 0) ord).map (waitT cl))[i]? = some (waitT cl x) := by rw [List.getElem?_map, hx]; rfl
    clear hxe hx1 hx
    obtain ⟨x0, x1, x2⟩ := x
    simp only [] at h1 p1 p2
    have hcx := HS.out W' h4
    have hk4 : W'.cell? ⟨b0, 0, none⟩ = some (.func (.yield l) #[] #[]) := (blk_cell ((h4.same b0 (by omega) (.inr ⟨Nat.le_refl _, trivial⟩)).trans HBX.out) 0).trans rfl
    have hz0 : W'.cell? ⟨g5, 0, none⟩ = some (.int .i64 x0) := (blk_cell h1 0).trans rfl
    have hz1 : W'.cell? ⟨g5, 1, none⟩ = some (.int .i64 x1) := (blk_cell h1 1).trans rfl
    have hd0 : W'.cell? ⟨B1, 0, none⟩ = some (.slice A3 cl.length c3) := (blk_cell hcx.b1 0).trans rfl
    obtain ⟨ad, hA3, hr0, hr1, hr2, hr3⟩ := at_T67 hcx.r3 x0 p1 p2
    rw [hA3] at hd0
    replace p1 := eq_true p1
    replace p2 := eq_true p2
    have H1 := Aside0.mk h1
    have H2 := Aside0.mk h2
    have H3 := Aside0.mk h3
    have H4 := Aside0.mk h4
    have HYX := Aside0.mk hyx
    have HSZ := Aside0.mk hsz
    have HA3 := Aside0.mk hA3
    clear hseq h1 h2 h3 h4 hyx hsz hcx hlt hA3 hloop hl' hr0 hr2 hr3
    simp only [] 
    go_wp2_with (first | (with_reducible refine stop_ 3 ?_) | gi_step)
    refine ⟨wpIn_seq ?_⟩
    refine quiet_last2_ (y := 14) (fun a2 w2 => ∃ u11 u12 u13 u14 u15 u16 u17 u18 u19 u20 u21 u22 u23 u24 : Value, a2 = { tmps := #[.func (.yield l) #[] #[], .pointer (some ⟨B1, 0, none⟩), .pointer (some ⟨B2, 0, none⟩), .pointer (some ⟨B3, 0, none⟩), .pointer (some ⟨b0, 0, none⟩), .pointer (some ⟨g5, 0, none⟩), .agg #[.slice A3 cl.length c3, .slice A4 rk.length c4], .slice A2 ord.length c2, .int .i64 (m : Int), .func (.func 99) #[] #[.pointer (some ⟨b0 + 1 + 2, 0, none⟩), .pointer (some ⟨b0 + 1 + 1, 0, none⟩), .pointer (some ⟨b0 + 1, 0, none⟩), .pointer (some ⟨b0 + 1 + 3, 0, none⟩)], .agg #[.int .i64 x0, .int .i64 x1, .int .i64 x2], u11, u12, u13, u14, u15, u16, u17, u18, u19, u20, u21, u22, u23, u24, undef, undef], defers := [] } ∧ u11 = .func (.yield l) #[] #[] ∧ u13 = .int .i64 x0 ∧ u24 = .int .i64 (wrap64 (x1 - (rd_T67 cl x0).f1)) ∧ ∃ nq, w2 = W'.drewN nq) (lifts_in l') (fun _ => trivial) (by kernel_rfl) rfl rfl (by kernel_rfl) (by kernel_rfl) ?hQn ?hq
    case hq =>
      simp only [List.take_succ_cons, List.take_zero, List.cons_append, List.nil_append]
      repeat (first | refine quiet_blank ?_ | quiet_step (fail))
      refine wpQuiet_nil ?_
      rintro w2 ⟨nq, rfl⟩
      exact ⟨_, _, _, _, _, _, _, _, _, _, _, _, _, _, rfl, rfl, rfl, (by rw [i64_w]), nq, rfl⟩
    case hQn =>
      rintro a2 w2 ⟨u11, u12, u13, u14, u15, u16, u17, u18, u19, u20, u21, u22, u23, u24, rfl, rfl, rfl, rfl, nq, rfl⟩
      refine oper_yield (l := l) (vs := #[.int .i64 x0, .int .i64 (wrap64 (x1 - (rd_T67 cl x0).f1))]) rfl (fun _ => trivial) rfl rfl (by simp only [List.map_toArray, List.map_cons, List.map_nil]; rfl) ?_
      have hbq : Below W'.heap.size W' (W'.drewN nq) := ⟨rfl, rfl, rfl, Nat.le_refl _, fun _ _ => rfl⟩
      refine YieldAt.mono (yield_in l' (yield_any rfl (HY.out i (waitT cl (x0, x1, x2)) _ (W'.drewN nq) HYX.out (HJ.out i W' _ H3.out (IStep.of_below hbq)) rfl (by have := HSZ.out; show W.heap.size + 8 ≤ W'.heap.size; omega)))) ?_
      rintro e W2 (⟨rfl, hJ2, hk2⟩ | ⟨rfl, hJ2, hk2⟩)
      all_goals
        refine ⟨_, rfl, ?_⟩
        refine lifts_in l' _ _ _ _ _ _ _ _ rfl (fun _ _ h => h) ?_
        refine oper_not (t := 4) rfl rfl ?_
        simp only [Act.put, List.setIfInBounds_toArray, List.set_cons_zero, List.set_cons_succ, Bool.not_true, Bool.not_false, Exit.then]
        have hbk : BKeep w5.heap.size Ex5 w5.heap.size (w5.heap.size + 2) (fun _ => True) W' W2 := by
          refine ⟨fun k o hB ho hc => hk2.book k o (by omega) ho hc, hk2.size, fun k hk hh => hk2.same k hk ?_, fun k o hB ho hc => hk2.book k o (by omega) ho hc⟩
          rcases hh with ⟨hk7, hex⟩ | ⟨hk7, _⟩
          · rw [hEx5] at hex
            rcases Classical.not_not.1 hex with h | h
            · exact .inl h
            · exact .inr ⟨by omega, trivial⟩
          · exact .inr ⟨by omega, trivial⟩
        have HBK := Aside0.mk hbk
        have hk2' : RKeep w.heap.size Ex b0 (fun _ => True) w5 W2 := H4.out.trans (by rw [← hb0]; exact ⟨hk2.size, fun k hk hh => hk2.same k hk hh, fun k o hB ho hc => hk2.book k o hB ho hc⟩)
        have HK2 := Aside0.mk hk2'
        have HEX := Aside0.mk hEx5
        have HQ2 := Aside0.mk q2
        clear hbk hk2 hk2' hEx5 q2
        go_wp2_with (first | gi_step)
      · exact ⟨HBK.out, hJ2, HK2.out⟩
      · exact ⟨HBK.out, rfl, hJ2⟩
  case done =>
    rintro D W' hD ⟨h1, h2⟩ hmk
    simp only [Exit.inBlock, Exit.then]
    go_wp2_with (first | (with_reducible refine regW_lit_ ?_) | gi_step)
    refine Marks.leaves (lo := b0) (Ds := [D]) (.cons hmk (by omega) (fun E hE => by cases hE) (.nil _)) fun W2 hs => ⟨_, results_none rfl _ _ _, ⟨_, rfl⟩, .inl ?_⟩
    rw [List.length_map]
    exact HJ.out _ _ _ h1 (by rw [hb0]; exact hs.widen (Nat.le_refl _) (by omega))
  case stop =>
    rintro D cd i W' hD hi ⟨rfl, h1⟩ hmk
    go_wp2_with (first | (with_reducible refine regW_lit_ ?_) | gi_step)
    refine Marks.leaves (lo := b0) (Ds := [D]) (.cons hmk (by omega) (fun E hE => by cases hE) (.nil _)) fun W2 hs => ⟨_, results_none rfl _ _ _, ⟨_, rfl⟩, .inr ⟨i, ?_, ?_⟩⟩
    · rw [List.length_map]; exact hi
    · exact HJx.out _ _ _ h1 (by rw [hb0]; exact hs.widen (Nat.le_refl _) (by omega))
theorem Below_istep_ {n : Nat} {w W W' : World} {b lo c : Nat} (h : Below n w W) (hw : n ≤ w.heap.size) (k : IStep b lo c W W') (hb : n ≤ b) (hlo : n ≤ lo) : Below n w W' := by
  refine h.trans ⟨k.os, k.tape, k.output, k.size, fun j hj => ?_⟩
  have hjW : j < W.heap.size := Nat.lt_of_lt_of_le (Nat.lt_of_lt_of_le hj hw) h.size
  rw [k.same j _ (Array.getElem?_eq_getElem hjW) (fun h3 => by omega) (fun h3 => by omega), Array.getElem?_eq_getElem hjW]
def okT (cl : List S67) (ord : List Int) (m : Int) : Bool := decide (1 ≤ m) && decide (m ≤ 1000) && ord.all fun x => decide (0 ≤ x) && decide (x < (cl.length : Int))
theorem okT_spec {cl : List S67} {ord : List Int} {m : Int} (h : okT cl ord m = true) : 1 ≤ m ∧ m ≤ 1000 ∧ ∀ x ∈ ord, 0 ≤ x ∧ x < (cl.length : Int) := by
  simp only [okT, Bool.and_eq_true, decide_eq_true_eq, List.all_eq_true] at h
  exact ⟨h.1.1, h.1.2, h.2⟩
def waitsL (cl : List S67) (ord : List Int) (m : Int) : List (Int × Int) := (runT highF cl (List.replicate m.toNat 0) ord).map (waitT cl)
def turn_day_isLate.f (l0_0 : List S67) (l0_1 : List Int) (l1 : List Int) (a2 : Int) (a3 : Int) : Option Bool :=
  if okT l0_0 l1 a2 = true then some ((waitsL l0_0 l1 a2).any fun t => decide (t.2 > a3)) else none
set_option maxHeartbeats 1000000 in
theorem waits_calls (A3 : Option Addr) (n3 c3 : Nat) (A4 : Option Addr) (n4 c4 : Nat) (A2 : Option Addr) (n2 c2 : Nat) (m : Int) (w : World) :
    Calls Tryz.prog 68 #[.agg #[.slice A3 n3 c3, .slice A4 n4 c4], .slice A2 n2 c2, .int .i64 m] w fun e w' =>
      e = .returned (.func (.func 101) #[] #[.pointer (some ⟨w.heap.size, 0, none⟩), .pointer (some ⟨w.heap.size + 1, 0, none⟩), .pointer (some ⟨w.heap.size + 2, 0, none⟩)]) ∧
      w' = ((w.alloc (.cells #[.slice A3 n3 c3, .slice A4 n4 c4] 99)).alloc (.cells #[.slice A2 n2 c2] 23)).alloc (.cells #[.int .i64 m] 3) := by
  have hu1 := Tryz.underlying99
  have hu2 := Tryz.underlying25
  go_enter Tryz.func68, Tryz.ntmps68
  go_wp2
  go_ret
  exact ⟨rfl, rfl⟩
theorem three_alloc (w : World) (o1 o2 o3 : Obj) : let w' := ((w.alloc o1).alloc o2).alloc o3; Below w.heap.size w w' ∧ w'.heap.size = w.heap.size + 3 ∧ w'.heap[w.heap.size]? = some o1 ∧ w'.heap[w.heap.size + 1]? = some o2 ∧ w'.heap[w.heap.size + 2]? = some o3 := by
  intro w'
  have s1 : (w.alloc o1).heap.size = w.heap.size + 1 := World.size_alloc _ _
  have s2 : ((w.alloc o1).alloc o2).heap.size = w.heap.size + 2 := by rw [World.size_alloc, s1]
  have e1 := World.alloc_heap_new w o1
  have e2 := World.alloc_heap_new (w.alloc o1) o2
  have e3 := World.alloc_heap_new ((w.alloc o1).alloc o2) o3
  rw [s1] at e2
  rw [s2] at e3
  refine ⟨((Below.refl _ w).alloc (Nat.le_refl _) _).alloc (by omega) _ |>.alloc (by omega) _, by show (World.alloc _ o3).heap.size = _; rw [World.size_alloc, s2], ?_, ?_, e3⟩
  · exact (Below.heap_alloc _ _ _ (by omega)).trans ((Below.heap_alloc _ _ _ (by omega)).trans e1)
  · exact (Below.heap_alloc _ _ _ (by omega)).trans e2
theorem waits_made (m : Nat) (A2 : Option Addr) (c2 : Nat) (ord : List Int) (A3 : Option Addr) (c3 : Nat) (cl : List S67) (A4 : Option Addr) (c4 : Nat) (rk : List Int) (n : Nat) (w1 w5 : World) (Ex : Nat → Prop) (hEx : ∀ k, Ex k → k < w1.heap.size)
    (hm : 1 ≤ m) (hm2 : m ≤ 1000) (hin : ∀ x ∈ ord, 0 ≤ x ∧ x < (cl.length : Int))
    (hw5 : w5 = ((w1.alloc (.cells #[.slice A3 cl.length c3, .slice A4 rk.length c4] 99)).alloc (.cells #[.slice A2 ord.length c2] 23)).alloc (.cells #[.int .i64 (m : Int)] 3))
    (hr : ∀ W', w1.heap.size ≤ W'.heap.size → (∀ k, k < w1.heap.size → ¬ Ex k → W'.heap[k]? = w1.heap[k]?) → Kd.C (Kd.int .i64) W' A2 ord.length ord ∧ Kd.C k67 W' A3 cl.length cl) :
    Below w1.heap.size w1 w5 ∧ w5.heap.size = w1.heap.size + 3 ∧ IterC Fence.wide n Tryz.prog 101 #[.pointer (some ⟨w1.heap.size, 0, none⟩), .pointer (some ⟨w1.heap.size + 1, 0, none⟩), .pointer (some ⟨w1.heap.size + 2, 0, none⟩)] (waitsL cl ord m) RvW Ex 8 (fun _ => True) w5 := by
  obtain ⟨q1, q2, q3, q4, q5⟩ := three_alloc w1 (.cells #[.slice A3 cl.length c3, .slice A4 rk.length c4] 99) (.cells #[.slice A2 ord.length c2] 23) (.cells #[.int .i64 (m : Int)] 3)
  rw [← hw5] at q1 q2 q3 q4 q5
  refine ⟨q1, q2, ?_⟩
  unfold waitsL
  rw [Int.toNat_natCast]
  refine waits_iter _ _ _ m A2 c2 ord A3 c3 cl A4 c4 rk n w5 Ex hm hm2 hin fun W' hsz hsame => ?_
  have hold : ∀ k, w1.heap.size ≤ k → k < w5.heap.size → W'.heap[k]? = w5.heap[k]? := fun k h1 h2 => hsame k h2 (fun hx => by have := hEx k hx; omega)
  obtain ⟨r1, r2⟩ := hr W' (by omega) (fun k hk hx => (hsame k (by omega) hx).trans (q1.block k hk))
  exact ⟨(hold _ (by omega) (by omega)).trans q3, (hold _ (by omega) (by omega)).trans q4, (hold _ (by omega) (by omega)).trans q5, r1, r2⟩
def NoLate (a3 : Int) (xs : List (Int × Int)) : Prop := ∀ t ∈ xs, ¬ t.2 > a3
def SomeLate (a3 : Int) (xs : List (Int × Int)) : Prop := ∃ t ∈ xs, t.2 > a3
set_option maxHeartbeats 16000000 in
set_option maxRecDepth 100000 in
theorem turn_day_isLate.calls (A0_0 : Option Addr) (c0_0 : Nat) (l0_0 : List S67) (A0_1 : Option Addr) (c0_1 : Nat) (l0_1 : List Int) (A1 : Option Addr) (c1 : Nat) (l1 : List Int) (a2 : Int) (a3 : Int) (r : Bool) (w : World)
    (hr0_0 : Kd.C k67 w A0_0 l0_0.length l0_0) (hc0_0 : l0_0.length ≤ c0_0) (hr0_1 : Kd.C (Kd.int .i64) w A0_1 l0_1.length l0_1) (hc0_1 : l0_1.length ≤ c0_1) (hr1 : Kd.C (Kd.int .i64) w A1 l1.length l1) (hc1 : l1.length ≤ c1) (h : turn_day_isLate.f l0_0 l0_1 l1 a2 a3 = some r) :
    Calls Tryz.prog 71 #[.agg #[.slice A0_0 l0_0.length c0_0, .slice A0_1 l0_1.length c0_1], .slice A1 l1.length c1, .int .i64 a2, .int .i64 a3] w fun e w' => e = .returned (.bool r) ∧ Below w.heap.size w w' := by
  unfold turn_day_isLate.f at h
  split at h
  case isFalse => cases h
  rename_i hok
  obtain ⟨hm1, hm2, hin⟩ := okT_spec hok
  obtain ⟨m, rfl⟩ : ∃ m : Nat, a2 = (m : Int) := ⟨a2.toNat, by omega⟩
  have hr := Option.some.inj h
  clear h hok
  obtain ⟨xs, hxs⟩ : ∃ xs, waitsL l0_0 l1 m = xs := ⟨_, rfl⟩
  rw [hxs] at hr
  have AR := Aside0.mk hr
  have AX := Aside0.mk hxs
  have R0 := Aside0.mk hr0_0
  have R1 := Aside0.mk hr1
  have IN := Aside0.mk hin
  clear hr hxs hr0_0 hr0_1 hr1 hin hc0_0 hc0_1 hc1
  refine (callsIn_wide (n := 5)).1 (callsIn_of_wp_marks Tryz.func71 rfl trivial ?_ rfl)
  simp only [Tryz.ntmps71, List.size_toArray, List.length_cons, List.length_nil, Nat.reduceAdd, Nat.reduceSub, Array.replicate_succ, Array.replicate_zero, List.push_toArray, List.append_toArray, List.nil_append, List.cons_append]
  have hu1 := Tryz.underlying99
  have hu2 := Tryz.underlying25
  go_wp2_with (first
    | ((with_reducible refine gate_dst (N := 4) rfl ?_); refine box_event_sz ?hg (N := 4) ?hd (cs := #[.slice A0_0 l0_0.length c0_0, .slice A0_1 l0_1.length c0_1]) (t := 99) ?hr ?_; (case hd => rfl); (case hg => rfl); (case hr => first | (go_simp; done) | (go_simp; rfl)); intro w1 hs1 hx1 hb1)
    | ((with_reducible refine gate_dst (N := 7) rfl ?_); refine box_event_sz ?hg (N := 7) ?hd (cs := #[.int .i64 a3]) (t := 3) ?hr ?_; (case hd => rfl); (case hg => rfl); (case hr => first | (go_simp; done) | (go_simp; rfl)); intro w2 hs2 hx2 hb2)
    | ((with_reducible refine gate_dst (N := 8) rfl ?_); refine box_event_sz ?hg (N := 8) ?hd (cs := #[.bool false]) (t := 4) ?hr ?_; (case hd => rfl); (case hg => rfl); (case hr => first | (go_simp; done) | (go_simp; rfl)); intro w3 hs3 hx3 hb3
       have hx1' := (hb3.block _ (by omega)).trans ((hb2.block _ (by omega)).trans hx1)
       have hz1 : w3.cell? ⟨w.heap.size, 0, none⟩ = some (.slice A0_0 l0_0.length c0_0) := (blk_cell hx1' 0).trans rfl
       have hz2 : w3.cell? ⟨w.heap.size, 1, none⟩ = some (.slice A0_1 l0_1.length c0_1) := (blk_cell hx1' 1).trans rfl)
    | ((with_reducible refine gate_callee (f := 68) rfl ?_); refine goesL_ (some 14) rfl rfl Tryz.func68 (by kernel_rfl) rfl #[.agg #[.slice A0_0 l0_0.length c0_0, .slice A0_1 l0_1.length c0_1], .slice A1 l1.length c1, .int .i64 (m : Int)] rfl (by (try simp only [List.map_toArray, List.map_cons, List.map_nil]); first | done | rfl) ?_
       refine (waits_calls A0_0 l0_0.length c0_0 A0_1 l0_1.length c0_1 A1 l1.length c1 (m : Int) w3).mono ?_; rintro e w5 ⟨rfl, hw5⟩; refine ⟨_, rfl, ?_⟩)
    | (with_reducible refine regW_lit_ ?_) | gi_step)
  simp only [Act.put, List.setIfInBounds_toArray, List.set_cons_zero, List.set_cons_succ]
  have hb3w : Below w.heap.size w w3 := hb1.trans ((hb2.mono (by omega)).trans (hb3.mono (by omega)))
  obtain ⟨q1, q2, hseq⟩ := waits_made m A1 c1 l1 A0_0 c0_0 l0_0 A0_1 c0_1 l0_1 4 w3 w5 (fun k => k = w.heap.size + 1 + 1) (fun k hk => by omega) (by omega) (by omega) IN.out hw5 (fun W' hsz hsame => ⟨Kd.C_F (Kd.heap_int _) R1.out W' (fun k hk _ => (hsame k (by omega) (by omega)).trans (hb3w.block k hk)), Kd.C_F k67_heap R0.out W' (fun k hk _ => (hsame k (by omega) (by omega)).trans (hb3w.block k hk))⟩)
  rw [AX.out] at hseq
  have hx7 : w5.heap[w.heap.size + 1]? = some (.cells #[.int .i64 a3] 3 (0, 0)) := (q1.block _ (by omega)).trans ((hb3.block _ (by omega)).trans (by rw [hs1] at hx2; exact hx2))
  have hx8 : w5.heap[w.heap.size + 1 + 1]? = some (.cells #[.bool false] 4 (0, 0)) := (q1.block _ (by omega)).trans (by rw [hs2, hs1] at hx3; exact hx3)
  have hb5 : Below w.heap.size w w5 := hb3w.trans (q1.mono (by omega))
  clear hw5 hx1 hx2 hx3 hb1 hb2 hb3 hb3w q1 hx1' hz1 hz2
  have e3 : w3.heap.size = w.heap.size + 3 := by omega
  rw [e3] at q2 hseq ⊢
  clear hs1 hs2 hs3 e3
  refine range_outer (xs := xs) (Rv := RvW) (Ex := fun k => k = w.heap.size + 1 + 1) (c := 8) (E := fun _ => True) (w0 := w5) rfl (fun h0 => by cases h0) (gf := 101) rfl trivial (fun args w => enters_ Tryz.func101 (by kernel_rfl) rfl args w) hseq (Below.refl _ _) (fun x vs W h => by unfold RvW at h; subst h; rfl)
    (fun i W' => NoLate a3 (xs.take i) ∧ W'.heap[w.heap.size + 1]? = some (.cells #[.int .i64 a3] 3 (0, 0)) ∧ W'.heap[w.heap.size + 1 + 1]? = some (.cells #[.bool false] 4 (0, 0)) ∧ Below w.heap.size w W')
    (fun cd i W' => cd = .ret ∧ SomeLate a3 xs ∧ W'.heap[w.heap.size + 1 + 1]? = some (.cells #[.bool true] 4 (0, 0)) ∧ Below w.heap.size w W')
    ?hI ?hIx ⟨fun t ht => (by cases ht), hx7, hx8, hb5⟩
    (fun i x a' W' => a' = { tmps := #[.agg #[.slice A0_0 l0_0.length c0_0, .slice A0_1 l0_1.length c0_1], .slice A1 l1.length c1, .int .i64 (m : Int), .int .i64 a3, .pointer (some ⟨w.heap.size, 0, none⟩), undef, undef, .pointer (some ⟨w.heap.size + 1, 0, none⟩), .pointer (some ⟨w.heap.size + 1 + 1, 0, none⟩), undef, .int .i64 x.2, .agg #[.slice A0_0 l0_0.length c0_0, .slice A0_1 l0_1.length c0_1], .slice A1 l1.length c1, .int .i64 (m : Int), .func (.func 101) #[] #[.pointer (some ⟨w.heap.size + 3, 0, none⟩), .pointer (some ⟨w.heap.size + 3 + 1, 0, none⟩), .pointer (some ⟨w.heap.size + 3 + 2, 0, none⟩)], .int .i64 x.1, .int .i64 x.2, undef, undef, undef], defers := [] } ∧
      NoLate a3 (xs.take i) ∧ W'.heap[w.heap.size + 1]? = some (.cells #[.int .i64 a3] 3 (0, 0)) ∧ W'.heap[w.heap.size + 1 + 1]? = some (.cells #[.bool false] 4 (0, 0)) ∧ Below w.heap.size w W')
    ?hAx ?assign ?body ?done ?stop
  case hI => exact fun i X Y ⟨h1, h2, h3, h4⟩ hs => ⟨h1, hs.same _ _ h2 (by omega) (fun _ => rfl), hs.same _ _ h3 (by omega) (fun _ => rfl), Below_istep_ h4 (Nat.le_refl _) hs (by omega) (by omega)⟩
  case hIx => exact fun cd i X Y ⟨h1, h2, h3, h4⟩ hs => ⟨h1, h2, hs.same _ _ h3 (by omega) (fun _ => rfl), Below_istep_ h4 (Nat.le_refl _) hs (by omega) (by omega)⟩
  case hAx => exact fun i x a' _ X Y ⟨h0, h1, h2, h3, h4⟩ hs => ⟨h0, h1, hs.same _ _ h2 (by omega) (fun _ => rfl), hs.same _ _ h3 (by omega) (fun _ => rfl), Below_istep_ h4 (Nat.le_refl _) hs (by omega) (by omega)⟩
  case assign =>
    rintro l' i x vs W' K hx hi hv hsz hK
    unfold RvW at hv
    subst hv
    simp only [List.zip_toArray, List.zip_cons_cons, List.zip_nil_right, List.zip_nil_left, List.size_toArray, List.foldl_toArray', List.foldl_cons, List.foldl_nil, List.setIfInBounds_toArray, List.set_cons_zero, List.set_cons_succ, List.length_cons, List.length_nil]
    have Hi := Aside0.mk hi
    have HK := Aside0.mk hK
    clear hseq hi hK hx7 hx8 hb5
    go_wp2_with (first | ((with_reducible refine regIn_lit_ ?hnd ?hlo ?_); (case hnd => kernel_rfl); (case hlo => rintro ⟨_, _, h⟩; exact h)) | gi_step)
    exact HK.out _ _ (Below.refl _ _) ⟨rfl, Hi.out⟩
  case body =>
    rintro l' i x a' W' hl' hloop hx ⟨rfl, h1, h2, h3, h4⟩ hsz
    have hc7 : W'.cell? ⟨w.heap.size + 1, 0, none⟩ = some (.int .i64 a3) := (blk_cell h2 0).trans rfl
    have hc8 : W'.cell? ⟨w.heap.size + 1 + 1, 0, none⟩ = some (.bool false) := (blk_cell h3 0).trans rfl
    have hf8 := blk_frozen h3 0
    obtain ⟨hlt, hxe⟩ := List.getElem?_eq_some_iff.1 hx
    have hmem : x ∈ xs := List.mem_of_getElem? hx
    have htk : xs.take (i + 1) = xs.take i ++ [x] := by rw [List.take_succ_eq_append_getElem hlt, hxe]
    have H1 := Aside0.mk h1
    have H2 := Aside0.mk h2
    have H3 := Aside0.mk h3
    have H4 := Aside0.mk h4
    have HM := Aside0.mk hmem
    have HT := Aside0.mk htk
    have Q2 := Aside0.mk q2
    have HSZ := Aside0.mk hsz
    clear hseq h1 h2 h3 h4 hx7 hx8 hb5 hx hxe hlt hmem htk hloop hl' q2 hsz
    by_cases hc : x.2 > a3
    · have hcb : decide (x.2 > a3) = true := decide_eq_true hc
      have HC := Aside0.mk hc
      clear hc
      go_wp2_with (first | ((with_reducible refine regIn_lit_ ?hnd ?hlo ?_); (case hnd => kernel_rfl); (case hlo => rintro ⟨_, _, h⟩; exact h)) | gi_step)
      refine ⟨BKeep.of_block (w.heap.size + 1 + 1) (by simp [World.setCell]) (fun k _ hne => Below.heap_setCell _ _ _ k hne) ⟨_, H3.out, rfl⟩ (fun _ => rfl) (fun hh => by have := Q2.out; have := hh.1; omega), rfl, ⟨x, HM.out, HC.out⟩, blk_put (cs := #[.bool false]) H3.out 0 _ rfl, ?_⟩
      exact H4.out.setCell (p := ⟨w.heap.size + 1 + 1, 0, none⟩) (by show w.heap.size ≤ w.heap.size + 1 + 1; omega) _
    · have hcb : decide (x.2 > a3) = false := decide_eq_false hc
      have HC := Aside0.mk hc
      clear hc
      go_wp2_with (first | ((with_reducible refine regIn_lit_ ?hnd ?hlo ?_); (case hnd => kernel_rfl); (case hlo => rintro ⟨_, _, h⟩; exact h)) | gi_step)
      refine ⟨BKeep.refl _ _ _ _ _ _, ?_, H2.out, H3.out, H4.out⟩
      rw [HT.out]
      exact fun t ht => (List.mem_append.1 ht).elim (H1.out t) (fun h_ => by rw [List.mem_singleton.1 h_]; have h2_ := HC.out; omega)
  case done =>
    rintro D W' hD ⟨h1, h2, h3, h4⟩ hmk
    rw [List.take_length] at h1
    have hc8 : W'.cell? ⟨w.heap.size + 1 + 1, 0, none⟩ = some (.bool false) := (blk_cell h3 0).trans rfl
    have hf8 := blk_frozen h3 0
    have H1 := Aside0.mk h1
    have H3 := Aside0.mk h3
    have H4 := Aside0.mk h4
    have Q2 := Aside0.mk q2
    have HD := Aside0.mk hD
    have HMK := Aside0.mk hmk
    clear hseq h1 h2 h3 h4 hx7 hx8 hb5 q2 hD hmk
    simp only [Exit.inBlock, Exit.then]
    go_wp2_with (first | (with_reducible refine regW_lit_ ?_) | gi_step)
    have hk' : (W'.setCell ⟨w.heap.size + 1 + 1, 0, none⟩ (.bool false)).heap[D]? = some (.deferred (some [])) := (Below.heap_setCell _ _ _ D (by have := HD.out; have := Q2.out; show D ≠ w.heap.size + 1 + 1; omega)).trans HMK.out
    refine Marks.leaves (lo := w5.heap.size) (Ds := [D]) (.cons hk' HD.out (fun E hE => by cases hE) (.nil _)) fun W2 hs => ⟨.bool r, ?res, rfl, Below_istep_ (H4.out.setCell (p := ⟨w.heap.size + 1 + 1, 0, none⟩) (by show w.heap.size ≤ w.heap.size + 1 + 1; omega) _) (Nat.le_refl _) hs (by have := Q2.out; omega) (by have := Q2.out; omega)⟩
    have hx := hs.same (w.heap.size + 1 + 1) _ (blk_put (cs := #[.bool false]) H3.out 0 (.bool false) rfl) (by omega) (fun _ => rfl)
    have hcx : W2.cell? ⟨w.heap.size + 1 + 1, 0, none⟩ = some (.bool false) := (blk_cell hx 0).trans rfl
    have hrf : r = false := by rw [← AR.out]; exact List.any_eq_false.2 (fun t ht => by simpa using H1.out t ht)
    subst hrf
    have hr : Tryz.f71.results = #[.cell 8 4] := rfl
    unfold results
    rw [hr]
    simp [go_sem, hcx]
  case stop =>
    rintro D cd i W' hD hi ⟨rfl, h1, h3, h4⟩ hmk
    have H1 := Aside0.mk h1
    have H3 := Aside0.mk h3
    have H4 := Aside0.mk h4
    have Q2 := Aside0.mk q2
    have HD := Aside0.mk hD
    have HMK := Aside0.mk hmk
    clear hseq h1 h3 h4 hx7 hx8 hb5 q2 hD hmk
    go_wp2_with (first | (with_reducible refine regW_lit_ ?_) | gi_step)
    refine Marks.leaves (lo := w5.heap.size) (Ds := [D]) (.cons (show W'.heap[D]? = _ from HMK.out) HD.out (fun E hE => by cases hE) (.nil _)) fun W2 hs => ⟨.bool r, ?res3, rfl, Below_istep_ H4.out (Nat.le_refl _) hs (by have := Q2.out; omega) (by have := Q2.out; omega)⟩
    have hx := hs.same (w.heap.size + 1 + 1) _ H3.out (by have := Q2.out; omega) (fun _ => rfl)
    have hcx : W2.cell? ⟨w.heap.size + 1 + 1, 0, none⟩ = some (.bool true) := (blk_cell hx 0).trans rfl
    have hrt : r = true := by
      rw [← AR.out]
      obtain ⟨t, ht, hc⟩ := H1.out
      exact List.any_eq_true.2 ⟨t, ht, decide_eq_true hc⟩
    subst hrt
    have hr : Tryz.f71.results = #[.cell 8 4] := rfl
    unfold results
    rw [hr]
    simp [go_sem, hcx]
end Go.Proofs.YtlmglnobdcgbeaaGreat.P
namespace Go.Proofs.YtlmglnobdcgbeaaGreat.P
open Go.RowKit Go.Proofs.YtlmglnobdcgbeaaGreatW.PrintWords Go.Proofs.YtlmglnobdcgbeaaGreatW.PrintLast Go.Proofs.YtlmglnobdcgbeaaGreatW.PrintMore
attribute [local go_sem] max2_int min2_int max_two min_two max_three min_three max_four min_four
def turn_within_1.f (a0 : Int) (a1_0 : Int) (a2_0 : Int) : Option (Bool) := if a0 < a1_0 then (some true) else (some (decide (a0 > a2_0)))
set_option maxHeartbeats 8000000 in
set_option maxRecDepth 100000 in
theorem turn_within_1.calls (a0 : Int) (B1 : Nat) (a1_0 : Int) (B2 : Nat) (a2_0 : Int) (r : Bool) (w : World) (hb1 : w.heap[B1]? = some (.cells #[.int .i64 a1_0] 3 (0, 0))) (hb2 : w.heap[B2]? = some (.cells #[.int .i64 a2_0] 3 (0, 0))) (nb1_2 : B1 ≠ B2) (h : turn_within_1.f a0 a1_0 a2_0 = some r) :
  Calls Tryz.prog 93 #[.int .i64 a0, .pointer (some ⟨B1, 0, none⟩), .pointer (some ⟨B2, 0, none⟩)] w fun e w' => e = .returned (.bool r) ∧ Drawn0 w w' := by
 have BK1 := Aside0.mk hb1
 clear hb1
 have BK2 := Aside0.mk hb2
 clear hb2
 have NB1_2 := Aside0.mk nb1_2
 have NB2_1 := Aside0.mk nb1_2.symm
 clear nb1_2
 have H : (if a0 < a1_0 then (some true) else (some (decide (a0 > a2_0)))) = some r := h
 clear h
 by_cases c4 : a0 < a1_0
 ·rw [if_pos c4] at H
  have c4b0 : decide (a0 < a1_0) = true := decide_eq_true c4
  clear c4
  obtain rfl := Option.some.inj H
  have hnb5 := NB1_2.out
  have hnc5 := NB2_1.out
  obtain ⟨_, _⟩ := cf1 BK1
  go_enter Tryz.func93, Tryz.ntmps93
  go_wp2
  go_ret
  exact ⟨by first | rfl | (simp; done) | (simp [*]; done), by repeat (first | exact Drawn0.refl _ | apply Drawn0.step)⟩
 ·rw [if_neg c4] at H
  have c4b0 : decide (a0 < a1_0) = false := decide_eq_false c4
  clear c4
  obtain rfl := Option.some.inj H
  have hnb7 := NB1_2.out
  have hnc7 := NB2_1.out
  obtain ⟨_, _⟩ := cf1 BK1
  obtain ⟨_, _⟩ := cf1 BK2
  go_enter Tryz.func93, Tryz.ntmps93
  go_wp2
  go_ret
  exact ⟨by first | rfl | (simp; done) | (simp [*]; done), by repeat (first | exact Drawn0.refl _ | apply Drawn0.step)⟩
set_option maxHeartbeats 4000000 in
set_option maxRecDepth 100000 in
theorem hof116.callsO (q : Int → Option Bool) (g : Nat) (lb : Array Value) (eg : ∀ args w, (callFunc g args).run Tryz.prog w = .ok (.enter g args) w) (Ad : Option Addr) (c : Nat) (l : List Int) (r : Int) (w : World) (hr : Kd.C (Kd.int .i64) w Ad l.length l)
    (hp : ∀ x ∈ l, ∀ b, q x = some b → ∀ (W : World), Below w.heap.size w W → Calls Tryz.prog g (#[.int .i64 x] ++ lb) W fun e w' => e = .returned (.bool b) ∧ Below W.heap.size W w') (h : idxO q l 0 = some r) :
    Calls Tryz.prog 116 #[.slice Ad l.length c, .func (.func g) #[] lb] w fun e w' => e = .returned (.int .i64 r) ∧ Below w.heap.size w w' := by
  have hbig : l.length ≤ 9223372036854775807 := hr.2.1
  have e0 := Lib.hid (idxO_drop q l)
  have hr' := Lib.hid hr
  have hp' := Lib.hid hp
  have H0 : Hid (idxO q (l.drop 0) 0 = some r) := Lib.hid (by rw [List.drop_zero]; exact h)
  clear hr hp h
  go_enter Tryz.func116, Tryz.ntmps116
  go_wp2
  go_loopg [5, 8] l.length (fun gg _ s8 wr => ∃ kk : Nat, kk ≤ l.length ∧ l.length - kk ≤ gg ∧ s8 = .int .i64 kk ∧ Aside (Below w.heap.size w wr) ∧ Aside (idxO q (l.drop kk) kk = some r))
  case atStart => exact ⟨0, Nat.zero_le _, by omega, rfl, Below.refl _ w, H0.out⟩
  case round =>
    obtain ⟨kk, hkk, hg, rfl, BW, HE⟩ := hrel
    by_cases hlt : kk < l.length
    · have hltz : (kk : Int) < (l.length : Int) := by omega
      obtain ⟨ad, rfl, h0_⟩ := Kd.at_int (Kd.C_below hr'.out BW.out) (kk : Int) (by omega) (by omega)
      simp only [Int.toNat_natCast] at h0_
      have hrd : rd l (kk : Int) = l[kk] := by simp [rd, rdOf, List.getD_eq_getElem?_getD, List.getElem?_eq_getElem hlt]
      rw [hrd] at h0_
      clear hrd
      have H1 := HE.out
      rw [e0.out kk hlt] at H1
      obtain ⟨b, hb, H2⟩ := Option.bind_eq_some_iff.mp H1
      have hcall := hp'.out l[kk] (List.getElem_mem hlt) b hb wr BW.out
      generalize hy : l[kk] = y at h0_ hcall
      have H2' := Lib.hid H2
      clear hy H2 H1 hb
      cases b with
      | true =>
        go_wp2_with (go_at_fn g; refine hcall.mono ?_; rintro e w' ⟨rfl, hb'⟩)
        go_ret
        refine ⟨?_, Below.trans BW.out (hb'.mono BW.out.size)⟩
        have H3 := H2'.out
        simp only [if_true] at H3
        rw [← Option.some.inj H3]
        rfl
      | false =>
        go_wp2_with (go_at_fn g; refine hcall.mono ?_; rintro e w' ⟨rfl, hb'⟩)
        go_roundg (l.length - (kk + 1))
        case measure => omega
        case rel =>
          refine ⟨kk + 1, by omega, by omega, by go_num, Below.trans BW.out (hb'.mono BW.out.size), (show Aside _ from ?_)⟩
          have H3 := H2'.out
          have H4 : idxO q (l.drop (kk + 1)) (kk + 1) = some r := by simpa using H3
          exact H4
    · have hltz : ¬ (kk : Int) < (l.length : Int) := by omega
      have HK := Lib.hid (show l.length ≤ kk by omega)
      go_wp2
      go_ret
      refine ⟨?_, BW.out⟩
      have H3 := HE.out
      rw [List.drop_eq_nil_of_le HK.out] at H3
      have H4 : some (-1 : Int) = some r := H3
      rw [← Option.some.inj H4]
      rfl
set_option maxHeartbeats 4000000 in
theorem hof92.callsO (q : Int → Option Bool) (g : Nat) (lb : Array Value) (eg : ∀ args w, (callFunc g args).run Tryz.prog w = .ok (.enter g args) w) (Ad : Option Addr) (c : Nat) (l : List Int) (r : Bool) (w : World) (hr : Kd.C (Kd.int .i64) w Ad l.length l)
    (hp : ∀ x ∈ l, ∀ b, q x = some b → ∀ (W : World), Below w.heap.size w W → Calls Tryz.prog g (#[.int .i64 x] ++ lb) W fun e w' => e = .returned (.bool b) ∧ Below W.heap.size W w') (h : anyO q l = some r) :
    Calls Tryz.prog 92 #[.slice Ad l.length c, .func (.func g) #[] lb] w fun e w' => e = .returned (.bool r) ∧ Below w.heap.size w w' := by
  obtain ⟨j, h1, rfl⟩ := idxO_any q l 0 r h
  have hcon := Lib.hid (hof116.callsO q g lb eg Ad c l j w hr hp h1)
  clear hr hp h1 h
  go_enter Tryz.func92, Tryz.ntmps92
  go_wp2_with (go_at_call 116; refine hcon.out.mono ?_; rintro e w' ⟨rfl, hb'⟩)
  go_ret
  exact ⟨rfl, hb'⟩
def any_at_turn_within_1.f (l : List Int) (v0_ : Int) (v1_ : Int) : Option Bool := anyO (fun x => turn_within_1.f x v0_ v1_) l
theorem any_at_turn_within_1.calls (Ad : Option Addr) (c : Nat) (l : List Int) (B0 : Nat) (v0_ : Int) (B1 : Nat) (v1_ : Int) (r : Bool) (w : World) (hr : Kd.C (Kd.int .i64) w Ad l.length l) (hc : l.length ≤ c) (hb0 : w.heap[B0]? = some (.cells #[.int .i64 v0_] 3 (0, 0))) (hb1 : w.heap[B1]? = some (.cells #[.int .i64 v1_] 3 (0, 0))) (nb0_1 : B0 ≠ B1) (h : any_at_turn_within_1.f l v0_ v1_ = some r) :
    Calls Tryz.prog 92 #[.slice Ad l.length c, .func (.func 93) #[] #[.pointer (some ⟨B0, 0, none⟩), .pointer (some ⟨B1, 0, none⟩)]] w fun e w' => e = .returned (.bool r) ∧ Below w.heap.size w w' :=
  hof92.callsO (fun x => turn_within_1.f x v0_ v1_) 93 _ (enters_of Tryz.func93 (by kernel_rfl) rfl) Ad c l r w hr (fun x hx b hq W hbW => by
    have hcl := turn_within_1.calls x B0 v0_ B1 v1_ b W (blk_below hb0 hbW) (blk_below hb1 hbW) nb0_1 hq
    exact hcl.mono fun e w' h' => ⟨h'.1, h'.2.below⟩) h
def turn_within.f (a0 : Int) (a1 : Int) (l2 : List Int) : Option (Bool) := (any_at_turn_within_1.f l2 a0 a1).bind fun t103 => (some (!t103))
set_option maxHeartbeats 8000000 in
set_option maxRecDepth 100000 in
theorem turn_within.calls (a0 : Int) (a1 : Int) (A2 : Option Addr) (c2 : Nat) (l2 : List Int) (r : Bool) (w : World) (hr2 : Kd.C (Kd.int .i64) w A2 l2.length l2) (hc2 : l2.length ≤ c2) (h : turn_within.f a0 a1 l2 = some r) :
  Calls Tryz.prog 59 #[.int .i64 a0, .int .i64 a1, .slice A2 l2.length c2] w fun e w' => e = .returned (.bool r) ∧ Below w.heap.size w w' := by
 have HR2 := Aside0.mk hr2
 have HC2 := Aside0.mk hc2
 clear hr2 hc2
 have HB := Aside0.mk (Below.refl w.heap.size w)
 have H : ((any_at_turn_within_1.f l2 a0 a1).bind fun t103 => (some (!t103))) = some r := h
 clear h
 obtain ⟨t103, A4, H⟩ := bi H
 obtain rfl := Option.some.inj H
 go_enter Tryz.func59, Tryz.ntmps59
 go_wp2_with (first | ((with_reducible refine gate_dst (N := 3) rfl ?_); refine bx 3 #[.int .i64 a0] 3 ?_; intro gb101 hg w5 hbox hb; have BK101 := hbox; have GW101 := gs HB hg; have GE101 := gs HB hg; replace HB := bs HB hb; clear hb hbox hg) | ((with_reducible refine gate_dst (N := 4) rfl ?_); refine bx 4 #[.int .i64 a1] 3 ?_; intro gb102 hg w6 hbox hb; have BK102 := hbox; have GW102 := gs HB hg; have GE102 := gs HB hg; replace HB := bs HB hb; have NB101_102 := nl BK101 hg; have NB102_101 := nr BK101 hg; replace BK101 := bb BK101 hb; clear hb hbox hg) | ((with_reducible refine gc 92 rfl ?_); refine gL 9 Tryz.func92 #[.slice A2 l2.length c2, .func (.func 93) #[] #[.pointer (some ⟨gb101, 0, none⟩), .pointer (some ⟨gb102, 0, none⟩)]] ?_; (with_reducible refine (any_at_turn_within_1.calls _ _ l2 gb101 a0 gb102 a1 t103 _ ?side1 ?side2 ?side3 ?side4 ?side5 A4.out).mono ?_); (case side1 => exact pC (Kd.C_below HR2.out HB.out)); (case side2 => exact HC2.out); (case side3 => exact pB BK101.out); (case side4 => exact pB BK102.out); (case side5 => exact NB101_102.out); rintro e w7 ⟨rfl, hb⟩; refine ⟨_, rfl, ?_⟩; replace BK101 := bb BK101 hb; replace BK102 := bb BK102 hb; replace HB := bs HB hb; clear hb))
 go_ret
 exact ⟨eT, pE HB⟩
def turn_Check_1.f (a0_0 : Int) (a0_1 : Int) (a0_2 : Int) (a0_3 : Int) (l1_0 : List (S67)) (l1_1 : List Int) : Option (Bool) := (turn_within.f 0 (wrap64 ((l1_1.length : Int) - 1)) (([a0_0] : List Int))).bind fun t105 => (if t105 = true then ((turn_within.f 0 200 (([a0_1] : List Int))).bind fun t109 => (if t109 = true then ((turn_within.f 1 20 (([a0_2, a0_3] : List Int))).bind fun t113 => (if t113 = true then (some (decide (a0_2 > a0_3))) else (some true))) else (some true))) else (some true))
set_option maxHeartbeats 8000000 in
set_option maxRecDepth 100000 in
theorem turn_Check_1.calls (a0_0 : Int) (a0_1 : Int) (a0_2 : Int) (a0_3 : Int) (B1 : Nat) (A1_0 : Option Addr) (c1_0 : Nat) (l1_0 : List (S67)) (A1_1 : Option Addr) (c1_1 : Nat) (l1_1 : List Int) (r : Bool) (w : World) (hb1 : w.heap[B1]? = some (.cells #[.slice A1_0 l1_0.length c1_0, .slice A1_1 l1_1.length c1_1] 25 (0, 0))) (hr1_0 : Kd.C k67 w A1_0 l1_0.length l1_0) (hc1_0 : l1_0.length ≤ c1_0) (hr1_1 : Kd.C (Kd.int .i64) w A1_1 l1_1.length l1_1) (hc1_1 : l1_1.length ≤ c1_1) (h : turn_Check_1.f a0_0 a0_1 a0_2 a0_3 l1_0 l1_1 = some r) :
  Calls Tryz.prog 58 #[.agg #[.int .i64 a0_0, .int .i64 a0_1, .int .i64 a0_2, .int .i64 a0_3], .pointer (some ⟨B1, 0, none⟩)] w fun e w' => e = .returned (.bool r) ∧ Below w.heap.size w w' := by
 have hu67 := Tryz.underlying67
 have HR1_0 := Aside0.mk hr1_0
 have HC1_0 := Aside0.mk hc1_0
 clear hr1_0 hc1_0
 have HR1_1 := Aside0.mk hr1_1
 have HC1_1 := Aside0.mk hc1_1
 clear hr1_1 hc1_1
 have BK1 := Aside0.mk hb1
 clear hb1
 have HB := Aside0.mk (Below.refl w.heap.size w)
 have H : ((turn_within.f 0 (wrap64 ((l1_1.length : Int) - 1)) (([a0_0] : List Int))).bind fun t105 => (if t105 = true then ((turn_within.f 0 200 (([a0_1] : List Int))).bind fun t109 => (if t109 = true then ((turn_within.f 1 20 (([a0_2, a0_3] : List Int))).bind fun t113 => (if t113 = true then (some (decide (a0_2 > a0_3))) else (some true))) else (some true))) else (some true))) = some r := h
 clear h
 obtain ⟨y102, hy102⟩ : ∃ y_ : List Int, y_ = (([a0_0] : List Int)) := ⟨_, rfl⟩
 replace H : Option.bind (turn_within.f 0 (wrap64 ((l1_1.length : Int) - 1)) y102) _ = some r := yy hy102 H
 have Ny102 := Aside0.mk hy102
 clear hy102
 obtain ⟨t105, A3, H⟩ := bi H
 by_cases c4 : t105 = true
 ·subst c4
  rw [if_pos rfl] at H
  obtain ⟨y106, hy106⟩ : ∃ y_ : List Int, y_ = (([a0_1] : List Int)) := ⟨_, rfl⟩
  replace H : Option.bind (turn_within.f 0 200 y106) _ = some r := yy hy106 H
  have Ny106 := Aside0.mk hy106
  clear hy106
  obtain ⟨t109, A5, H⟩ := bi H
  by_cases c6 : t109 = true
  ·subst c6
   rw [if_pos rfl] at H
   obtain ⟨y110, hy110⟩ : ∃ y_ : List Int, y_ = (([a0_2, a0_3] : List Int)) := ⟨_, rfl⟩
   replace H : Option.bind (turn_within.f 1 20 y110) _ = some r := yy hy110 H
   have Ny110 := Aside0.mk hy110
   clear hy110
   obtain ⟨t113, A7, H⟩ := bi H
   by_cases c8 : t113 = true
   ·subst c8
    rw [if_pos rfl] at H
    obtain rfl := Option.some.inj H
    go_enter Tryz.func58, Tryz.ntmps58
    go_wp2_with (first | ((with_reducible refine gate_dst (N := 2) rfl ?_); (try (refine gate_guard (by rfl) ?_; dsimp only)); refine bx 2 #[.int .i64 a0_0, .int .i64 a0_1, .int .i64 a0_2, .int .i64 a0_3] 67 ?_; intro gb101 hg w9 hbox hb; have BK101 := hbox; have GW101 := gs HB hg; have GE101 := gs HB hg; replace HB := bs HB hb; have NB1_101 := nl BK1 hg; have NB101_1 := nr BK1 hg; replace BK1 := bb BK1 hb; clear hb hbox hg; have hnb10 := NB1_101.out; have hnc10 := NB101_1.out; obtain ⟨_, _, _, _⟩ := cf2 BK1; obtain ⟨_, _, _, _, _, _, _, _⟩ := cf4 BK101) | ((with_reducible refine gate_dst (N := 10) rfl ?_); (try (refine gate_guard (by rfl) ?_; dsimp only)); refine Kd.R_lit (Kd.int .i64) _ 3 ?hg (N := 10) ?hd (xs := ([a0_0] : List Int)) (inner := [.int .i64 a0_0]) (ok := fun _ => True) (okp := fun _ => True) ?hr ?hp (fun _ hk => hk) trivial (Below.refl _ _) (Nat.le_refl _) (by simp) ?_; (case hd => rfl); (case hg => rfl); (case hr => first | (go_simp; done) | (go_simp; rfl)); (case hp => exact (Reps.one (show Kd.M (Kd.int .i64) _ _ _ a0_0 [.int .i64 a0_0] from rfl) (Reps.none _ _))); intro v103 w13 ho14 hb hg_ hnew_; clear hg_ hnew_; (first | rw [← Ny102.out] at ho14 | (simp only [Int.reduceToNat] at ho14; rw [← Ny102.out] at ho14)); have HO104 := rl ho14 HB; replace BK1 := bb BK1 hb; replace BK101 := bb BK101 hb; replace HB := bs HB hb; clear hb ho14; obtain ⟨Ao15, co15, eo15⟩ := Kd.R_slice HO104.out; subst eo15) | ((with_reducible refine gc 59 rfl ?_); refine gL 11 Tryz.func59 #[.int .i64 0, .int .i64 (wrap64 ((l1_1.length : Int) - 1)), .slice Ao15 y102.length co15] ?_; (with_reducible refine (turn_within.calls 0 (wrap64 ((l1_1.length : Int) - 1)) _ _ y102 true _ ?side1 ?side2 A3.out).mono ?_); (case side1 => exact pC (Kd.R_reads' HO104.out).2.2); (case side2 => exact (Kd.R_reads' HO104.out).2.1); rintro e w16 ⟨rfl, hb⟩; refine ⟨_, rfl, ?_⟩; replace HO104 := rb HO104 hb; replace BK1 := bb BK1 hb; replace BK101 := bb BK101 hb; replace HB := bs HB hb; clear hb; obtain ⟨_, _, _, _, _, _, _, _⟩ := cf4 BK101) | ((with_reducible refine gate_dst (N := 16) rfl ?_); (try (refine gate_guard (by rfl) ?_; dsimp only)); refine Kd.R_lit (Kd.int .i64) _ 3 ?hg (N := 16) ?hd (xs := ([a0_1] : List Int)) (inner := [.int .i64 a0_1]) (ok := fun _ => True) (okp := fun _ => True) ?hr ?hp (fun _ hk => hk) trivial (Below.refl _ _) (Nat.le_refl _) (by simp) ?_; (case hd => rfl); (case hg => rfl); (case hr => first | (go_simp; done) | (go_simp; rfl)); (case hp => exact (Reps.one (show Kd.M (Kd.int .i64) _ _ _ a0_1 [.int .i64 a0_1] from rfl) (Reps.none _ _))); intro v107 w18 ho19 hb hg_ hnew_; clear hg_ hnew_; (first | rw [← Ny106.out] at ho19 | (simp only [Int.reduceToNat] at ho19; rw [← Ny106.out] at ho19)); have HO108 := Aside0.mk (Kd.R_lower (Kd.R_new' ho19 (Kd.R_lt (pR HO104.out))) (below_size (pE HB))); replace HO104 := re HO104 ho19 hb; replace BK1 := bb BK1 hb; replace BK101 := bb BK101 hb; replace HB := bs HB hb; clear hb ho19; obtain ⟨Ao20, co20, eo20⟩ := Kd.R_slice HO108.out; subst eo20) | (go_at_call 59; (with_reducible refine (turn_within.calls 0 200 _ _ y106 true _ ?side1 ?side2 A5.out).mono ?_); (case side1 => exact pC (Kd.R_reads' HO108.out).2.2); (case side2 => exact (Kd.R_reads' HO108.out).2.1); rintro e w21 ⟨rfl, hb⟩; replace HO104 := rb HO104 hb; replace HO108 := rb HO108 hb; replace BK1 := bb BK1 hb; replace BK101 := bb BK101 hb; replace HB := bs HB hb; (try clear hb); (try clear hb2); (try clear hk); (try clear hi); obtain ⟨_, _, _, _, _, _, _, _⟩ := cf4 BK101) | ((with_reducible refine gate_dst (N := 27) rfl ?_); (try (refine gate_guard (by rfl) ?_; dsimp only)); refine Kd.R_lit (Kd.int .i64) _ 3 ?hg (N := 27) ?hd (xs := ([a0_2, a0_3] : List Int)) (inner := [.int .i64 a0_2, .int .i64 a0_3]) (ok := fun _ => True) (okp := fun _ => True) ?hr ?hp (fun _ hk => hk) trivial (Below.refl _ _) (Nat.le_refl _) (by simp) ?_; (case hd => rfl); (case hg => rfl); (case hr => first | (go_simp; done) | (go_simp; rfl)); (case hp => exact (Reps.one (show Kd.M (Kd.int .i64) _ _ _ a0_2 [.int .i64 a0_2] from rfl) (Reps.one (show Kd.M (Kd.int .i64) _ _ _ a0_3 [.int .i64 a0_3] from rfl) (Reps.none _ _)))); intro v111 w23 ho24 hb hg_ hnew_; clear hg_ hnew_; (first | rw [← Ny110.out] at ho24 | (simp only [Int.reduceToNat] at ho24; rw [← Ny110.out] at ho24)); have HO112 := Aside0.mk (Kd.R_lower (Kd.R_new' (Kd.R_new' ho24 (Kd.R_lt (pR HO104.out))) (Kd.R_lt (pR HO108.out))) (below_size (pE HB))); replace HO104 := re HO104 ho24 hb; replace HO108 := re HO108 ho24 hb; replace BK1 := bb BK1 hb; replace BK101 := bb BK101 hb; replace HB := bs HB hb; clear hb ho24; obtain ⟨Ao25, co25, eo25⟩ := Kd.R_slice HO112.out; subst eo25) | (go_at_call 59; (with_reducible refine (turn_within.calls 1 20 _ _ y110 true _ ?side1 ?side2 A7.out).mono ?_); (case side1 => exact pC (Kd.R_reads' HO112.out).2.2); (case side2 => exact (Kd.R_reads' HO112.out).2.1); rintro e w26 ⟨rfl, hb⟩; replace HO104 := rb HO104 hb; replace HO108 := rb HO108 hb; replace HO112 := rb HO112 hb; replace BK1 := bb BK1 hb; replace BK101 := bb BK101 hb; replace HB := bs HB hb; (try clear hb); (try clear hb2); (try clear hk); (try clear hi); obtain ⟨_, _, _, _, _, _, _, _⟩ := cf4 BK101))
    go_ret
    exact ⟨eT, pE HB⟩
   ·replace c8 := Bool.eq_false_iff.mpr c8
    subst c8
    rw [if_neg (show ¬ (false = true) by decide)] at H
    obtain rfl := Option.some.inj H
    go_enter Tryz.func58, Tryz.ntmps58
    go_wp2_with (first | ((with_reducible refine gate_dst (N := 2) rfl ?_); (try (refine gate_guard (by rfl) ?_; dsimp only)); refine bx 2 #[.int .i64 a0_0, .int .i64 a0_1, .int .i64 a0_2, .int .i64 a0_3] 67 ?_; intro gb101 hg w28 hbox hb; have BK101 := hbox; have GW101 := gs HB hg; have GE101 := gs HB hg; replace HB := bs HB hb; have NB1_101 := nl BK1 hg; have NB101_1 := nr BK1 hg; replace BK1 := bb BK1 hb; clear hb hbox hg; have hnb29 := NB1_101.out; have hnc29 := NB101_1.out; obtain ⟨_, _, _, _⟩ := cf2 BK1; obtain ⟨_, _, _, _, _, _, _, _⟩ := cf4 BK101) | ((with_reducible refine gate_dst (N := 10) rfl ?_); (try (refine gate_guard (by rfl) ?_; dsimp only)); refine Kd.R_lit (Kd.int .i64) _ 3 ?hg (N := 10) ?hd (xs := ([a0_0] : List Int)) (inner := [.int .i64 a0_0]) (ok := fun _ => True) (okp := fun _ => True) ?hr ?hp (fun _ hk => hk) trivial (Below.refl _ _) (Nat.le_refl _) (by simp) ?_; (case hd => rfl); (case hg => rfl); (case hr => first | (go_simp; done) | (go_simp; rfl)); (case hp => exact (Reps.one (show Kd.M (Kd.int .i64) _ _ _ a0_0 [.int .i64 a0_0] from rfl) (Reps.none _ _))); intro v103 w32 ho33 hb hg_ hnew_; clear hg_ hnew_; (first | rw [← Ny102.out] at ho33 | (simp only [Int.reduceToNat] at ho33; rw [← Ny102.out] at ho33)); have HO104 := rl ho33 HB; replace BK1 := bb BK1 hb; replace BK101 := bb BK101 hb; replace HB := bs HB hb; clear hb ho33; obtain ⟨Ao34, co34, eo34⟩ := Kd.R_slice HO104.out; subst eo34) | ((with_reducible refine gc 59 rfl ?_); refine gL 11 Tryz.func59 #[.int .i64 0, .int .i64 (wrap64 ((l1_1.length : Int) - 1)), .slice Ao34 y102.length co34] ?_; (with_reducible refine (turn_within.calls 0 (wrap64 ((l1_1.length : Int) - 1)) _ _ y102 true _ ?side1 ?side2 A3.out).mono ?_); (case side1 => exact pC (Kd.R_reads' HO104.out).2.2); (case side2 => exact (Kd.R_reads' HO104.out).2.1); rintro e w35 ⟨rfl, hb⟩; refine ⟨_, rfl, ?_⟩; replace HO104 := rb HO104 hb; replace BK1 := bb BK1 hb; replace BK101 := bb BK101 hb; replace HB := bs HB hb; clear hb; obtain ⟨_, _, _, _, _, _, _, _⟩ := cf4 BK101) | ((with_reducible refine gate_dst (N := 16) rfl ?_); (try (refine gate_guard (by rfl) ?_; dsimp only)); refine Kd.R_lit (Kd.int .i64) _ 3 ?hg (N := 16) ?hd (xs := ([a0_1] : List Int)) (inner := [.int .i64 a0_1]) (ok := fun _ => True) (okp := fun _ => True) ?hr ?hp (fun _ hk => hk) trivial (Below.refl _ _) (Nat.le_refl _) (by simp) ?_; (case hd => rfl); (case hg => rfl); (case hr => first | (go_simp; done) | (go_simp; rfl)); (case hp => exact (Reps.one (show Kd.M (Kd.int .i64) _ _ _ a0_1 [.int .i64 a0_1] from rfl) (Reps.none _ _))); intro v107 w37 ho38 hb hg_ hnew_; clear hg_ hnew_; (first | rw [← Ny106.out] at ho38 | (simp only [Int.reduceToNat] at ho38; rw [← Ny106.out] at ho38)); have HO108 := Aside0.mk (Kd.R_lower (Kd.R_new' ho38 (Kd.R_lt (pR HO104.out))) (below_size (pE HB))); replace HO104 := re HO104 ho38 hb; replace BK1 := bb BK1 hb; replace BK101 := bb BK101 hb; replace HB := bs HB hb; clear hb ho38; obtain ⟨Ao39, co39, eo39⟩ := Kd.R_slice HO108.out; subst eo39) | (go_at_call 59; (with_reducible refine (turn_within.calls 0 200 _ _ y106 true _ ?side1 ?side2 A5.out).mono ?_); (case side1 => exact pC (Kd.R_reads' HO108.out).2.2); (case side2 => exact (Kd.R_reads' HO108.out).2.1); rintro e w40 ⟨rfl, hb⟩; replace HO104 := rb HO104 hb; replace HO108 := rb HO108 hb; replace BK1 := bb BK1 hb; replace BK101 := bb BK101 hb; replace HB := bs HB hb; (try clear hb); (try clear hb2); (try clear hk); (try clear hi); obtain ⟨_, _, _, _, _, _, _, _⟩ := cf4 BK101) | ((with_reducible refine gate_dst (N := 27) rfl ?_); (try (refine gate_guard (by rfl) ?_; dsimp only)); refine Kd.R_lit (Kd.int .i64) _ 3 ?hg (N := 27) ?hd (xs := ([a0_2, a0_3] : List Int)) (inner := [.int .i64 a0_2, .int .i64 a0_3]) (ok := fun _ => True) (okp := fun _ => True) ?hr ?hp (fun _ hk => hk) trivial (Below.refl _ _) (Nat.le_refl _) (by simp) ?_; (case hd => rfl); (case hg => rfl); (case hr => first | (go_simp; done) | (go_simp; rfl)); (case hp => exact (Reps.one (show Kd.M (Kd.int .i64) _ _ _ a0_2 [.int .i64 a0_2] from rfl) (Reps.one (show Kd.M (Kd.int .i64) _ _ _ a0_3 [.int .i64 a0_3] from rfl) (Reps.none _ _)))); intro v111 w42 ho43 hb hg_ hnew_; clear hg_ hnew_; (first | rw [← Ny110.out] at ho43 | (simp only [Int.reduceToNat] at ho43; rw [← Ny110.out] at ho43)); have HO112 := Aside0.mk (Kd.R_lower (Kd.R_new' (Kd.R_new' ho43 (Kd.R_lt (pR HO104.out))) (Kd.R_lt (pR HO108.out))) (below_size (pE HB))); replace HO104 := re HO104 ho43 hb; replace HO108 := re HO108 ho43 hb; replace BK1 := bb BK1 hb; replace BK101 := bb BK101 hb; replace HB := bs HB hb; clear hb ho43; obtain ⟨Ao44, co44, eo44⟩ := Kd.R_slice HO112.out; subst eo44) | (go_at_call 59; (with_reducible refine (turn_within.calls 1 20 _ _ y110 false _ ?side1 ?side2 A7.out).mono ?_); (case side1 => exact pC (Kd.R_reads' HO112.out).2.2); (case side2 => exact (Kd.R_reads' HO112.out).2.1); rintro e w45 ⟨rfl, hb⟩; replace HO104 := rb HO104 hb; replace HO108 := rb HO108 hb; replace HO112 := rb HO112 hb; replace BK1 := bb BK1 hb; replace BK101 := bb BK101 hb; replace HB := bs HB hb; (try clear hb); (try clear hb2); (try clear hk); (try clear hi)))
    go_ret
    exact ⟨eT, pE HB⟩
  ·replace c6 := Bool.eq_false_iff.mpr c6
   subst c6
   rw [if_neg (show ¬ (false = true) by decide)] at H
   obtain rfl := Option.some.inj H
   go_enter Tryz.func58, Tryz.ntmps58
   go_wp2_with (first | ((with_reducible refine gate_dst (N := 2) rfl ?_); (try (refine gate_guard (by rfl) ?_; dsimp only)); refine bx 2 #[.int .i64 a0_0, .int .i64 a0_1, .int .i64 a0_2, .int .i64 a0_3] 67 ?_; intro gb101 hg w46 hbox hb; have BK101 := hbox; have GW101 := gs HB hg; have GE101 := gs HB hg; replace HB := bs HB hb; have NB1_101 := nl BK1 hg; have NB101_1 := nr BK1 hg; replace BK1 := bb BK1 hb; clear hb hbox hg; have hnb47 := NB1_101.out; have hnc47 := NB101_1.out; obtain ⟨_, _, _, _⟩ := cf2 BK1; obtain ⟨_, _, _, _, _, _, _, _⟩ := cf4 BK101) | ((with_reducible refine gate_dst (N := 10) rfl ?_); (try (refine gate_guard (by rfl) ?_; dsimp only)); refine Kd.R_lit (Kd.int .i64) _ 3 ?hg (N := 10) ?hd (xs := ([a0_0] : List Int)) (inner := [.int .i64 a0_0]) (ok := fun _ => True) (okp := fun _ => True) ?hr ?hp (fun _ hk => hk) trivial (Below.refl _ _) (Nat.le_refl _) (by simp) ?_; (case hd => rfl); (case hg => rfl); (case hr => first | (go_simp; done) | (go_simp; rfl)); (case hp => exact (Reps.one (show Kd.M (Kd.int .i64) _ _ _ a0_0 [.int .i64 a0_0] from rfl) (Reps.none _ _))); intro v103 w50 ho51 hb hg_ hnew_; clear hg_ hnew_; (first | rw [← Ny102.out] at ho51 | (simp only [Int.reduceToNat] at ho51; rw [← Ny102.out] at ho51)); have HO104 := rl ho51 HB; replace BK1 := bb BK1 hb; replace BK101 := bb BK101 hb; replace HB := bs HB hb; clear hb ho51; obtain ⟨Ao52, co52, eo52⟩ := Kd.R_slice HO104.out; subst eo52) | ((with_reducible refine gc 59 rfl ?_); refine gL 11 Tryz.func59 #[.int .i64 0, .int .i64 (wrap64 ((l1_1.length : Int) - 1)), .slice Ao52 y102.length co52] ?_; (with_reducible refine (turn_within.calls 0 (wrap64 ((l1_1.length : Int) - 1)) _ _ y102 true _ ?side1 ?side2 A3.out).mono ?_); (case side1 => exact pC (Kd.R_reads' HO104.out).2.2); (case side2 => exact (Kd.R_reads' HO104.out).2.1); rintro e w53 ⟨rfl, hb⟩; refine ⟨_, rfl, ?_⟩; replace HO104 := rb HO104 hb; replace BK1 := bb BK1 hb; replace BK101 := bb BK101 hb; replace HB := bs HB hb; clear hb; obtain ⟨_, _, _, _, _, _, _, _⟩ := cf4 BK101) | ((with_reducible refine gate_dst (N := 16) rfl ?_); (try (refine gate_guard (by rfl) ?_; dsimp only)); refine Kd.R_lit (Kd.int .i64) _ 3 ?hg (N := 16) ?hd (xs := ([a0_1] : List Int)) (inner := [.int .i64 a0_1]) (ok := fun _ => True) (okp := fun _ => True) ?hr ?hp (fun _ hk => hk) trivial (Below.refl _ _) (Nat.le_refl _) (by simp) ?_; (case hd => rfl); (case hg => rfl); (case hr => first | (go_simp; done) | (go_simp; rfl)); (case hp => exact (Reps.one (show Kd.M (Kd.int .i64) _ _ _ a0_1 [.int .i64 a0_1] from rfl) (Reps.none _ _))); intro v107 w55 ho56 hb hg_ hnew_; clear hg_ hnew_; (first | rw [← Ny106.out] at ho56 | (simp only [Int.reduceToNat] at ho56; rw [← Ny106.out] at ho56)); have HO108 := Aside0.mk (Kd.R_lower (Kd.R_new' ho56 (Kd.R_lt (pR HO104.out))) (below_size (pE HB))); replace HO104 := re HO104 ho56 hb; replace BK1 := bb BK1 hb; replace BK101 := bb BK101 hb; replace HB := bs HB hb; clear hb ho56; obtain ⟨Ao57, co57, eo57⟩ := Kd.R_slice HO108.out; subst eo57) | (go_at_call 59; (with_reducible refine (turn_within.calls 0 200 _ _ y106 false _ ?side1 ?side2 A5.out).mono ?_); (case side1 => exact pC (Kd.R_reads' HO108.out).2.2); (case side2 => exact (Kd.R_reads' HO108.out).2.1); rintro e w58 ⟨rfl, hb⟩; replace HO104 := rb HO104 hb; replace HO108 := rb HO108 hb; replace BK1 := bb BK1 hb; replace BK101 := bb BK101 hb; replace HB := bs HB hb; (try clear hb); (try clear hb2); (try clear hk); (try clear hi)))
   go_ret
   exact ⟨eT, pE HB⟩
 ·replace c4 := Bool.eq_false_iff.mpr c4
  subst c4
  rw [if_neg (show ¬ (false = true) by decide)] at H
  obtain rfl := Option.some.inj H
  go_enter Tryz.func58, Tryz.ntmps58
  go_wp2_with (first | ((with_reducible refine gate_dst (N := 2) rfl ?_); (try (refine gate_guard (by rfl) ?_; dsimp only)); refine bx 2 #[.int .i64 a0_0, .int .i64 a0_1, .int .i64 a0_2, .int .i64 a0_3] 67 ?_; intro gb101 hg w59 hbox hb; have BK101 := hbox; have GW101 := gs HB hg; have GE101 := gs HB hg; replace HB := bs HB hb; have NB1_101 := nl BK1 hg; have NB101_1 := nr BK1 hg; replace BK1 := bb BK1 hb; clear hb hbox hg; have hnb60 := NB1_101.out; have hnc60 := NB101_1.out; obtain ⟨_, _, _, _⟩ := cf2 BK1; obtain ⟨_, _, _, _, _, _, _, _⟩ := cf4 BK101) | ((with_reducible refine gate_dst (N := 10) rfl ?_); (try (refine gate_guard (by rfl) ?_; dsimp only)); refine Kd.R_lit (Kd.int .i64) _ 3 ?hg (N := 10) ?hd (xs := ([a0_0] : List Int)) (inner := [.int .i64 a0_0]) (ok := fun _ => True) (okp := fun _ => True) ?hr ?hp (fun _ hk => hk) trivial (Below.refl _ _) (Nat.le_refl _) (by simp) ?_; (case hd => rfl); (case hg => rfl); (case hr => first | (go_simp; done) | (go_simp; rfl)); (case hp => exact (Reps.one (show Kd.M (Kd.int .i64) _ _ _ a0_0 [.int .i64 a0_0] from rfl) (Reps.none _ _))); intro v103 w63 ho64 hb hg_ hnew_; clear hg_ hnew_; (first | rw [← Ny102.out] at ho64 | (simp only [Int.reduceToNat] at ho64; rw [← Ny102.out] at ho64)); have HO104 := rl ho64 HB; replace BK1 := bb BK1 hb; replace BK101 := bb BK101 hb; replace HB := bs HB hb; clear hb ho64; obtain ⟨Ao65, co65, eo65⟩ := Kd.R_slice HO104.out; subst eo65) | ((with_reducible refine gc 59 rfl ?_); refine gL 11 Tryz.func59 #[.int .i64 0, .int .i64 (wrap64 ((l1_1.length : Int) - 1)), .slice Ao65 y102.length co65] ?_; (with_reducible refine (turn_within.calls 0 (wrap64 ((l1_1.length : Int) - 1)) _ _ y102 false _ ?side1 ?side2 A3.out).mono ?_); (case side1 => exact pC (Kd.R_reads' HO104.out).2.2); (case side2 => exact (Kd.R_reads' HO104.out).2.1); rintro e w66 ⟨rfl, hb⟩; refine ⟨_, rfl, ?_⟩; replace HO104 := rb HO104 hb; replace BK1 := bb BK1 hb; replace BK101 := bb BK101 hb; replace HB := bs HB hb; clear hb))
  go_ret
  exact ⟨eT, pE HB⟩
set_option maxHeartbeats 4000000 in
set_option maxRecDepth 100000 in
theorem hof96.callsO (q : S67 → Option Bool) (g : Nat) (lb : Array Value) (eg : ∀ args w, (callFunc g args).run Tryz.prog w = .ok (.enter g args) w) (Ad : Option Addr) (c : Nat) (l : List S67) (r : Int) (w : World) (hr : Kd.C k67 w Ad l.length l)
    (hp : ∀ x ∈ l, ∀ b, q x = some b → ∀ (W : World), Below w.heap.size w W → Calls Tryz.prog g (#[.agg #[.int .i64 x.f0, .int .i64 x.f1, .int .i64 x.f2.f0, .int .i64 x.f2.f1]] ++ lb) W fun e w' => e = .returned (.bool b) ∧ Below W.heap.size W w') (h : idxO q l 0 = some r) :
    Calls Tryz.prog 96 #[.slice Ad l.length c, .func (.func g) #[] lb] w fun e w' => e = .returned (.int .i64 r) ∧ Below w.heap.size w w' := by
  have hbig : l.length ≤ 9223372036854775807 := hr.2.1
  have e0 := Lib.hid (idxO_drop q l)
  have hr' := Lib.hid hr
  have hp' := Lib.hid hp
  have H0 : Hid (idxO q (l.drop 0) 0 = some r) := Lib.hid (by rw [List.drop_zero]; exact h)
  clear hr hp h
  go_enter Tryz.func96, Tryz.ntmps96
  go_wp2
  go_loopg [5, 8] l.length (fun gg _ s8 wr => ∃ kk : Nat, kk ≤ l.length ∧ l.length - kk ≤ gg ∧ s8 = .int .i64 kk ∧ Aside (Below w.heap.size w wr) ∧ Aside (idxO q (l.drop kk) kk = some r))
  case atStart => exact ⟨0, Nat.zero_le _, by omega, rfl, Below.refl _ w, H0.out⟩
  case round =>
    obtain ⟨kk, hkk, hg, rfl, BW, HE⟩ := hrel
    by_cases hlt : kk < l.length
    · have hltz : (kk : Int) < (l.length : Int) := by omega
      obtain ⟨ad, rfl, h0_, h1_, h2_, h3_⟩ := at_T67 (Kd.C_below hr'.out BW.out) (kk : Int) (by omega) (by omega)
      simp only [Int.toNat_natCast] at h0_ h1_ h2_ h3_
      have hrd : rd_T67 l (kk : Int) = l[kk] := by simp [rd_T67, List.getD_eq_getElem?_getD, List.getElem?_eq_getElem hlt]
      rw [hrd] at h0_ h1_ h2_ h3_
      clear hrd
      have H1 := HE.out
      rw [e0.out kk hlt] at H1
      obtain ⟨b, hb, H2⟩ := Option.bind_eq_some_iff.mp H1
      have hcall := hp'.out l[kk] (List.getElem_mem hlt) b hb wr BW.out
      generalize hy : l[kk] = y at h0_ h1_ h2_ h3_ hcall
      have H2' := Lib.hid H2
      clear hy H2 H1 hb
      cases b with
      | true =>
        go_wp2_with (go_at_fn g; refine hcall.mono ?_; rintro e w' ⟨rfl, hb'⟩)
        go_ret
        refine ⟨?_, Below.trans BW.out (hb'.mono BW.out.size)⟩
        have H3 := H2'.out
        simp only [if_true] at H3
        rw [← Option.some.inj H3]
        rfl
      | false =>
        go_wp2_with (go_at_fn g; refine hcall.mono ?_; rintro e w' ⟨rfl, hb'⟩)
        go_roundg (l.length - (kk + 1))
        case measure => omega
        case rel =>
          refine ⟨kk + 1, by omega, by omega, by go_num, Below.trans BW.out (hb'.mono BW.out.size), (show Aside _ from ?_)⟩
          have H3 := H2'.out
          have H4 : idxO q (l.drop (kk + 1)) (kk + 1) = some r := by simpa using H3
          exact H4
    · have hltz : ¬ (kk : Int) < (l.length : Int) := by omega
      have HK := Lib.hid (show l.length ≤ kk by omega)
      go_wp2
      go_ret
      refine ⟨?_, BW.out⟩
      have H3 := HE.out
      rw [List.drop_eq_nil_of_le HK.out] at H3
      have H4 : some (-1 : Int) = some r := H3
      rw [← Option.some.inj H4]
      rfl
set_option maxHeartbeats 4000000 in
theorem hof61.callsO (q : S67 → Option Bool) (g : Nat) (lb : Array Value) (eg : ∀ args w, (callFunc g args).run Tryz.prog w = .ok (.enter g args) w) (Ad : Option Addr) (c : Nat) (l : List S67) (r : Bool) (w : World) (hr : Kd.C k67 w Ad l.length l)
    (hp : ∀ x ∈ l, ∀ b, q x = some b → ∀ (W : World), Below w.heap.size w W → Calls Tryz.prog g (#[.agg #[.int .i64 x.f0, .int .i64 x.f1, .int .i64 x.f2.f0, .int .i64 x.f2.f1]] ++ lb) W fun e w' => e = .returned (.bool b) ∧ Below W.heap.size W w') (h : anyO q l = some r) :
    Calls Tryz.prog 61 #[.slice Ad l.length c, .func (.func g) #[] lb] w fun e w' => e = .returned (.bool r) ∧ Below w.heap.size w w' := by
  obtain ⟨j, h1, rfl⟩ := idxO_any q l 0 r h
  have hcon := Lib.hid (hof96.callsO q g lb eg Ad c l j w hr hp h1)
  clear hr hp h1 h
  go_enter Tryz.func61, Tryz.ntmps61
  go_wp2_with (go_at_call 96; refine hcon.out.mono ?_; rintro e w' ⟨rfl, hb'⟩)
  go_ret
  exact ⟨rfl, hb'⟩
def any_at_turn_Check_1.f (l : List S67) (v0_ : List (S67)) (v1_ : List Int) : Option Bool := anyO (fun x => turn_Check_1.f x.f0 x.f1 x.f2.f0 x.f2.f1 v0_ v1_) l
theorem any_at_turn_Check_1.calls (Ad : Option Addr) (c : Nat) (l : List S67) (B0 : Nat) (Xv0_ : Option Addr) (yv0_ : Nat) (v0_ : List (S67)) (Xv1_ : Option Addr) (yv1_ : Nat) (v1_ : List Int) (r : Bool) (w : World) (hr : Kd.C k67 w Ad l.length l) (hc : l.length ≤ c) (hb0 : w.heap[B0]? = some (.cells #[.slice Xv0_ v0_.length yv0_, .slice Xv1_ v1_.length yv1_] 25 (0, 0))) (hrv0_ : Kd.C k67 w Xv0_ v0_.length v0_) (hcv0_ : v0_.length ≤ yv0_) (hrv1_ : Kd.C (Kd.int .i64) w Xv1_ v1_.length v1_) (hcv1_ : v1_.length ≤ yv1_) (h : any_at_turn_Check_1.f l v0_ v1_ = some r) :
    Calls Tryz.prog 61 #[.slice Ad l.length c, .func (.func 58) #[] #[.pointer (some ⟨B0, 0, none⟩)]] w fun e w' => e = .returned (.bool r) ∧ Below w.heap.size w w' :=
  hof61.callsO (fun x => turn_Check_1.f x.f0 x.f1 x.f2.f0 x.f2.f1 v0_ v1_) 58 _ (enters_of Tryz.func58 (by kernel_rfl) rfl) Ad c l r w hr (fun x hx b hq W hbW => by
    have hcl := turn_Check_1.calls x.f0 x.f1 x.f2.f0 x.f2.f1 B0 _ _ v0_ _ _ v1_ b W (blk_below hb0 hbW) (Kd.C_below hrv0_ hbW) hcv0_ (Kd.C_below hrv1_ hbW) hcv1_ hq
    exact hcl) h
end Go.Proofs.YtlmglnobdcgbeaaGreat.P
namespace Go.Proofs.YtlmglnobdcgbeaaGreat.P
open Go.RowKit Go.Shelf Go.Sort Go.Proofs.YtlmglnobdcgbeaaGreatW.PrintWords Go.Proofs.YtlmglnobdcgbeaaGreatW.PrintLast Go.Proofs.YtlmglnobdcgbeaaGreatW.PrintMore Go.Proofs.YtlmglnobdcgbeaaGreat.R
attribute [local go_sem] max2_int min2_int max_two min_two max_three min_three max_four min_four
def turn_isOrder.l0 : Nat → List Int → Int → List Int → Int → Int → Option (Bool)
  | 0, _, _, _, _, _ => none
  | k + 1, x0, x1, x11, x12, x13 => if x13 < x12 then (if 0 ≤ x13 then (if x13 < (x11.length : Int) then (if x13 = (rd x11 x13) then (turn_isOrder.l0 k x0 x1 x11 x12 (wrap64 (x13 + 1))) else (some false)) else (none)) else (none)) else (some ((x0.length : Int) == x1))
def turn_isOrder.f (l0 : List Int) (a1 : Int) : Option (Bool) := if l0.length ≤ 1000000 then turn_isOrder.l0 (l0.length + 2) l0 a1 (srt l0) ((srt l0).length : Int) 0 else none
set_option maxHeartbeats 8000000 in
set_option maxRecDepth 100000 in
theorem turn_isOrder.calls (A0 : Option Addr) (c0 : Nat) (l0 : List Int) (a1 : Int) (r : Bool) (w : World) (hr0 : Kd.C (Kd.int .i64) w A0 l0.length l0) (hc0 : l0.length ≤ c0) (h : turn_isOrder.f l0 a1 = some r) :
    Calls Tryz.prog 60 #[.slice A0 l0.length c0, .int .i64 a1] w fun e w' => e = .returned (.bool r) ∧ Below w.heap.size w w' := by
  unfold turn_isOrder.f at h
  by_cases hlen : l0.length ≤ 1000000
  case neg => rw [if_neg hlen] at h; cases h
  rw [if_pos hlen] at h
  generalize l0.length + 2 = k at h
  obtain ⟨w1, hw1⟩ : ∃ w1, w.alloc (.cells #[.slice A0 l0.length c0] 23) = w1 := ⟨_, rfl⟩
  have hb1 : Below w.heap.size w w1 := by rw [← hw1]; exact (Below.refl _ w).alloc (Nat.le_refl _) _
  have hs := sorted_calls l0 A0 c0 w.heap.size w1 (by rw [← hw1]; exact World.alloc_heap_new w _) (Kd.C_below hr0 hb1) hlen
  have hv := values_calls A0 l0.length c0 w
  rw [hw1] at hv
  have HS := Aside0.mk hs
  have HV := Aside0.mk hv
  have HB1 := Aside0.mk hb1
  have HC0 := Aside0.mk hc0
  clear hr0 hc0 hs hv hb1 hw1
  have H' := Aside0.mk h
  clear h
  go_enter Tryz.func60, Tryz.ntmps60
  go_wp2_with (first
    | (go_at_call 95; refine HV.out.mono ?_; rintro e w_ ⟨rfl, rfl⟩)
    | (go_at_call 94; refine HS.out.mono ?_; rintro e w2 ⟨v, rfl, h1, h2⟩; obtain ⟨A2, c2, rfl⟩ := Kd.R_slice h1
       have HR2 := Aside0.mk (own_C (Kd.own_of_R h1)); have HB2 := Aside0.mk (HB1.out.trans (h2.mono HB1.out.size)); clear h1 h2; generalize srt l0 = ls at H' HR2 ⊢))
  go_loopg [13] k (fun kq v13 w' => ∃ (x13_1 : Int), v13 = .int .i64 x13_1 ∧ Aside0 (turn_isOrder.l0 kq l0 a1 ls (ls.length : Int) x13_1 = some r) ∧ Aside0 (kq ≤ k) ∧ Drawn0 w2 w')
  case atStart => exact ⟨(0), (by first | rfl | (simp; done) | (simp [*]; done)), H', ⟨Nat.le_refl _⟩, by repeat (first | exact Drawn0.refl _ | apply Drawn0.step)⟩
  case round =>
    clear H'
    try clear p2
    obtain ⟨x13_1, rfl, HA, HK1, ⟨m1, rfl⟩⟩ := hrel
    cases gk with
    | zero => exact absurd HA.out (by simp [turn_isOrder.l0])
    | succ k1 =>
      have H := HA.out
      clear HA
      simp only [turn_isOrder.l0] at H
      by_cases c3 : x13_1 < (ls.length : Int)
      · rw [if_pos c3] at H
        have c3b0 : decide (x13_1 < (ls.length : Int)) = true := decide_eq_true c3
        clear c3
        by_cases c4 : 0 ≤ x13_1
        · rw [if_pos c4] at H
          have c4b0 : decide (0 ≤ x13_1) = true := decide_eq_true c4
          clear c4
          by_cases c5 : x13_1 < (ls.length : Int)
          · rw [if_pos c5] at H
            have c5b0 : decide (x13_1 < (ls.length : Int)) = true := decide_eq_true c5
            clear c5
            by_cases c6 : x13_1 = (rd ls x13_1)
            · rw [if_pos c6] at H
              have c6b0 : (x13_1 == (rd ls x13_1)) = true := beq_iff_eq.mpr c6
              have c6b1 : (x13_1 != (rd ls x13_1)) = false := bne_eq_false_iff_eq.mpr c6
              clear c6
              have H' := Aside0.mk H
              clear H
              have p101 : 0 ≤ (x13_1 : Int) := of_decide_eq_true (by first | (with_reducible assumption) | assumption)
              have q101 : x13_1 < (ls.length : Int) := of_decide_eq_true (by first | (with_reducible assumption) | assumption)
              obtain ⟨ad101, e101, hx101_0⟩ := Kd.at_int HR2.out x13_1 p101 q101
              cases e101
              replace p101 := eq_true p101
              replace q101 := eq_true q101
              go_wp2
              go_roundg k1
              case measure => have := HK1.out; omega
              case rel => exact ⟨(wrap64 (x13_1 + 1)), (by first | rfl | (simp; done) | (simp [*]; done)), H', ⟨by have := HK1.out; omega⟩, by repeat (first | exact Drawn0.refl _ | apply Drawn0.step)⟩
            · rw [if_neg c6] at H
              have c6b0 : (x13_1 == (rd ls x13_1)) = false := beq_eq_false_iff_ne.mpr c6
              have c6b1 : (x13_1 != (rd ls x13_1)) = true := bne_iff_ne.mpr c6
              obtain rfl := Option.some.inj H
              have p101 : 0 ≤ (x13_1 : Int) := of_decide_eq_true (by first | (with_reducible assumption) | assumption)
              have q101 : x13_1 < (ls.length : Int) := of_decide_eq_true (by first | (with_reducible assumption) | assumption)
              obtain ⟨ad101, e101, hx101_0⟩ := Kd.at_int HR2.out x13_1 p101 q101
              cases e101
              replace p101 := eq_true p101
              replace q101 := eq_true q101
              go_wp2
              go_ret
              exact ⟨by first | rfl | (simp; done) | (simp [*]; done), HB2.out.trans ⟨rfl, rfl, rfl, Nat.le_refl _, fun _ _ => rfl⟩⟩
          · rw [if_neg c5] at H
            exact absurd H (by simp)
        · rw [if_neg c4] at H
          exact absurd H (by simp)
      · rw [if_neg c3] at H
        have c3b0 : decide (x13_1 < (ls.length : Int)) = false := decide_eq_false c3
        clear c3
        obtain rfl := Option.some.inj H
        go_wp2
        go_ret
        exact ⟨by first | rfl | (simp; done) | (simp [*]; done), HB2.out.trans ⟨rfl, rfl, rfl, Nat.le_refl _, fun _ _ => rfl⟩⟩
end Go.Proofs.YtlmglnobdcgbeaaGreat.P
namespace Go.Proofs.YtlmglnobdcgbeaaGreat.P
open Go.RowKit Go.Proofs.YtlmglnobdcgbeaaGreatW.PrintWords Go.Proofs.YtlmglnobdcgbeaaGreatW.PrintLast Go.Proofs.YtlmglnobdcgbeaaGreatW.PrintMore
attribute [local go_sem] max2_int min2_int max_two min_two max_three min_three max_four min_four
def turn_Check.j0 : Nat → Bool → List (S67) → List Int → Option (Int)
 | 0, _, _, _ => none
 | k + 1, x5, x102000, x102001 => if x5 = true then (some 4) else (if (x102000.length : Int) > 10 then (some 5) else ((any_at_turn_Check_1.f x102000 x102000 x102001).bind fun t107 => (if t107 = true then (some 2) else (some 0))))
def turn_Check.f (k : Nat) (l0_0 : List (S67)) (l0_1 : List Int) : Option (Int) := (turn_within.f 1 6 (([(l0_1.length : Int)] : List Int))).bind fun t105 => (if t105 = true then ((turn_isOrder.f l0_1 (l0_1.length : Int)).bind fun t106 => (turn_Check.j0 k (!t106) l0_0 l0_1)) else (turn_Check.j0 k (!t105) l0_0 l0_1))
theorem turn_Check.mono_l : ∀ k, (∀ y0 y1 y2, LeO (turn_Check.j0 k y0 y1 y2) (turn_Check.j0 (k + 1) y0 y1 y2))
 | 0 => fun _ _ _ r h => by simp [turn_Check.j0] at h
 | k + 1 => by
  have ih0 := turn_Check.mono_l k
  ·intro y0 y1 y2
   unfold turn_Check.j0
   repeat' first
   | (with_reducible exact ih0 _ _ _)
   | (with_reducible exact LeO.refl _)
   | (with_reducible exact LeO.none _)
   | (with_reducible refine LeO.ite ?_ ?_)
   | (with_reducible refine LeO.bind ?_ (fun _ => ?_))
   | exact ih0 _ _ _
   | exact LeO.none _
   | refine LeO.ite ?_ ?_
   | refine LeO.bind ?_ (fun _ => ?_)
theorem turn_Check.mono : ∀ a0 a1 k, LeO (turn_Check.f k a0 a1) (turn_Check.f (k + 1) a0 a1) := by
 intro a0 a1 k
 have ih0 := turn_Check.mono_l k
 unfold turn_Check.f
 repeat' first
   | (with_reducible exact ih0 _ _ _)
   | (with_reducible exact LeO.refl _)
   | (with_reducible exact LeO.none _)
   | (with_reducible refine LeO.ite ?_ ?_)
   | (with_reducible refine LeO.bind ?_ (fun _ => ?_))
   | exact ih0 _ _ _
   | exact LeO.none _
   | refine LeO.ite ?_ ?_
   | refine LeO.bind ?_ (fun _ => ?_)
set_option maxHeartbeats 8000000 in
set_option maxRecDepth 100000 in
theorem turn_Check.calls (k : Nat) (A0_0 : Option Addr) (c0_0 : Nat) (l0_0 : List (S67)) (A0_1 : Option Addr) (c0_1 : Nat) (l0_1 : List Int) (r : Int) (w : World) (hr0_0 : Kd.C k67 w A0_0 l0_0.length l0_0) (hc0_0 : l0_0.length ≤ c0_0) (hr0_1 : Kd.C (Kd.int .i64) w A0_1 l0_1.length l0_1) (hc0_1 : l0_1.length ≤ c0_1) (h : turn_Check.f k l0_0 l0_1 = some r) :
  Calls Tryz.prog 19 #[.agg #[.slice A0_0 l0_0.length c0_0, .slice A0_1 l0_1.length c0_1]] w fun e w' => e = .returned (.int .i64 r) ∧ Below w.heap.size w w' := by
 have hu25 := Tryz.underlying25
 have HR0_0 := Aside0.mk hr0_0
 have HC0_0 := Aside0.mk hc0_0
 clear hr0_0 hc0_0
 have HR0_1 := Aside0.mk hr0_1
 have HC0_1 := Aside0.mk hc0_1
 clear hr0_1 hc0_1
 have HB := Aside0.mk (Below.refl w.heap.size w)
 have H : ((turn_within.f 1 6 (([(l0_1.length : Int)] : List Int))).bind fun t105 => (if t105 = true then ((turn_isOrder.f l0_1 (l0_1.length : Int)).bind fun t106 => (turn_Check.j0 k (!t106) l0_0 l0_1)) else (turn_Check.j0 k (!t105) l0_0 l0_1))) = some r := h
 clear h
 obtain ⟨y102, hy102⟩ : ∃ y_ : List Int, y_ = (([(l0_1.length : Int)] : List Int)) := ⟨_, rfl⟩
 replace H : Option.bind (turn_within.f 1 6 y102) _ = some r := yy hy102 H
 have Ny102 := Aside0.mk hy102
 clear hy102
 obtain ⟨t105, A2, H⟩ := bi H
 have HC3 := Aside0.mk H
 clear H
 go_enter Tryz.func19, Tryz.ntmps19
 go_upto_if 5 with (first | ((with_reducible refine gate_dst (N := 1) rfl ?_); refine bx 1 #[.slice A0_0 l0_0.length c0_0, .slice A0_1 l0_1.length c0_1] 25 ?_; intro gb101 hg w4 hbox hb; have BK101 := hbox; have GW101 := gs HB hg; have GE101 := gs HB hg; replace HB := bs HB hb; clear hb hbox hg; obtain ⟨hcz5_0, hcz5_1, hfz5_0, hfz5_1⟩ := cf2 BK101) | ((with_reducible refine gate_dst (N := 9) rfl ?_); refine Kd.R_lit (Kd.int .i64) _ 3 ?hg (N := 9) ?hd (xs := ([(l0_1.length : Int)] : List Int)) (inner := [.int .i64 (l0_1.length : Int)]) (ok := fun _ => True) (okp := fun _ => True) ?hr ?hp (fun _ hk => hk) trivial (Below.refl _ _) (Nat.le_refl _) (by simp) ?_; (case hd => rfl); (case hg => rfl); (case hr => first | (go_simp; done) | (go_simp; rfl)); (case hp => exact (Reps.one (show Kd.M (Kd.int .i64) _ _ _ (l0_1.length : Int) [.int .i64 (l0_1.length : Int)] from rfl) (Reps.none _ _))); intro v103 w6 ho7 hb hg_ hnew_; clear hg_ hnew_; (first | rw [← Ny102.out] at ho7 | (simp only [Int.reduceToNat] at ho7; rw [← Ny102.out] at ho7)); have HO104 := rl ho7 HB; replace BK101 := bb BK101 hb; replace HB := bs HB hb; clear hb ho7; obtain ⟨Ao8, co8, eo8⟩ := Kd.R_slice HO104.out; subst eo8) | ((with_reducible refine gc 59 rfl ?_); refine gL 10 Tryz.func59 #[.int .i64 1, .int .i64 6, .slice Ao8 y102.length co8] ?_; (with_reducible refine (turn_within.calls 1 6 _ _ y102 t105 _ ?side1 ?side2 A2.out).mono ?_); (case side1 => exact pC (Kd.R_reads' HO104.out).2.2); (case side2 => exact (Kd.R_reads' HO104.out).2.1); rintro e w9 ⟨rfl, hb⟩; refine ⟨_, rfl, ?_⟩; replace HO104 := rb HO104 hb; replace BK101 := bb BK101 hb; replace HB := bs HB hb; clear hb))
 (try simp only [Act.put, List.setIfInBounds_toArray, List.set_cons_zero, List.set_cons_succ])
 go_cut [5] (fun v5 wc => ∃ (kq : Nat) (x5_2 : Bool), v5 = .bool x5_2 ∧ Aside0 (turn_Check.j0 kq x5_2 l0_0 l0_1 = some r) ∧ Aside0 (kq ≤ k) ∧ Aside0 (wc.heap[gb101]? = some (.cells #[(.slice A0_0 l0_0.length c0_0), (.slice A0_1 l0_1.length c0_1)] 25 (0, 0))) ∧ Aside0 (Below w.heap.size w wc))
 case first =>
  have H := HC3.out
  clear HC3
  by_cases c10 : t105 = true
  ·subst c10
   rw [if_pos rfl] at H
   obtain ⟨t106, A11, H⟩ := bi H
   have H' := Aside0.mk H
   clear H
   obtain ⟨hcz12_0, hcz12_1, hfz12_0, hfz12_1⟩ := cf2 BK101
   go_wp2_with (first | ((with_reducible refine gc 60 rfl ?_); refine gL 17 Tryz.func60 #[.slice A0_1 l0_1.length c0_1, .int .i64 (l0_1.length : Int)] ?_; (with_reducible refine (turn_isOrder.calls _ _ l0_1 (l0_1.length : Int) t106 _ ?side1 ?side2 A11.out).mono ?_); (case side1 => exact pC (Kd.C_below HR0_1.out HB.out)); (case side2 => exact HC0_1.out); rintro e w13 ⟨rfl, hb⟩; refine ⟨_, rfl, ?_⟩; replace HO104 := rb HO104 hb; replace BK101 := bb BK101 hb; replace HB := bs HB hb; clear hb))
   go_meet
   case rel => exact ⟨_, (!t106), (by first | rfl | (simp; done) | (simp [*]; done)), H', ⟨by first | omega | exact Nat.le_refl _⟩, ⟨pB BK101.out⟩, ⟨pE HB⟩⟩
  ·replace c10 := Bool.eq_false_iff.mpr c10
   subst c10
   rw [if_neg (show ¬ (false = true) by decide)] at H
   have H' := Aside0.mk H
   clear H
   go_wp2
   go_meet
   case rel => exact ⟨_, (!false), (by first | rfl | (simp; done) | (simp [*]; done)), H', ⟨by first | omega | exact Nat.le_refl _⟩, ⟨pB BK101.out⟩, ⟨pE HB⟩⟩
 case rest =>
  clear HC3
  try clear c1
  try clear p2
  try clear c5
  try clear c6
  try clear c10
  try clear hcz12_0
  try clear hcz12_1
  try clear hcz5_0
  try clear hcz5_1
  try clear hfz12_0
  try clear hfz12_1
  try clear hfz5_0
  try clear hfz5_1
  obtain ⟨kq, x5_2, rfl, HA, HJ2, BK101, HB⟩ := hcut
  cases kq with
  | zero => exact absurd HA.out (by simp [turn_Check.j0])
  | succ kj2 =>
   have H := HA.out
   clear HA
   simp only [turn_Check.j0] at H
   by_cases c14 : x5_2 = true
   ·subst c14
    rw [if_pos rfl] at H
    obtain rfl := Option.some.inj H
    go_wp2
    go_ret
    exact ⟨eT, pE HB⟩
   ·replace c14 := Bool.eq_false_iff.mpr c14
    subst c14
    rw [if_neg (show ¬ (false = true) by decide)] at H
    by_cases c15 : (l0_0.length : Int) > 10
    ·rw [if_pos c15] at H
     have c15b0 : decide (10 < (l0_0.length : Int)) = true := decide_eq_true c15
     have c15b1 : decide (10 < l0_0.length) = true := decide_eq_true (by omega)
     clear c15
     obtain rfl := Option.some.inj H
     obtain ⟨_, _, _, _⟩ := cf2 BK101
     go_wp2
     go_ret
     exact ⟨eT, pE HB⟩
    ·rw [if_neg c15] at H
     have c15b0 : decide (10 < (l0_0.length : Int)) = false := decide_eq_false c15
     have c15b1 : decide (10 < l0_0.length) = false := decide_eq_false (by omega)
     clear c15
     obtain ⟨t107, A17, H⟩ := bi H
     by_cases c18 : t107 = true
     ·subst c18
      rw [if_pos rfl] at H
      obtain rfl := Option.some.inj H
      obtain ⟨_, _, _, _⟩ := cf2 BK101
      go_wp2_with (first | ((with_reducible refine gc 61 rfl ?_); refine gL 28 Tryz.func61 #[.slice A0_0 l0_0.length c0_0, .func (.func 58) #[] #[.pointer (some ⟨gb101, 0, none⟩)]] ?_; (with_reducible refine (any_at_turn_Check_1.calls _ _ l0_0 gb101 A0_0 c0_0 l0_0 A0_1 c0_1 l0_1 true _ ?side1 ?side2 ?side3 ?side4 ?side5 ?side6 ?side7 A17.out).mono ?_); (case side1 => exact pC (Kd.C_below HR0_0.out HB.out)); (case side2 => exact HC0_0.out); (case side3 => exact pB BK101.out); (case side4 => exact pC (Kd.C_below HR0_0.out HB.out)); (case side5 => exact HC0_0.out); (case side6 => exact pC (Kd.C_below HR0_1.out HB.out)); (case side7 => exact HC0_1.out); rintro e w20 ⟨rfl, hb⟩; refine ⟨_, rfl, ?_⟩; replace BK101 := bb BK101 hb; replace HB := bs HB hb; clear hb))
      go_ret
      exact ⟨eT, pE HB⟩
     ·replace c18 := Bool.eq_false_iff.mpr c18
      subst c18
      rw [if_neg (show ¬ (false = true) by decide)] at H
      obtain rfl := Option.some.inj H
      obtain ⟨_, _, _, _⟩ := cf2 BK101
      go_wp2_with (first | ((with_reducible refine gc 61 rfl ?_); refine gL 28 Tryz.func61 #[.slice A0_0 l0_0.length c0_0, .func (.func 58) #[] #[.pointer (some ⟨gb101, 0, none⟩)]] ?_; (with_reducible refine (any_at_turn_Check_1.calls _ _ l0_0 gb101 A0_0 c0_0 l0_0 A0_1 c0_1 l0_1 false _ ?side1 ?side2 ?side3 ?side4 ?side5 ?side6 ?side7 A17.out).mono ?_); (case side1 => exact pC (Kd.C_below HR0_0.out HB.out)); (case side2 => exact HC0_0.out); (case side3 => exact pB BK101.out); (case side4 => exact pC (Kd.C_below HR0_0.out HB.out)); (case side5 => exact HC0_0.out); (case side6 => exact pC (Kd.C_below HR0_1.out HB.out)); (case side7 => exact HC0_1.out); rintro e w22 ⟨rfl, hb⟩; refine ⟨_, rfl, ?_⟩; replace BK101 := bb BK101 hb; replace HB := bs HB hb; clear hb))
      go_ret
      exact ⟨eT, pE HB⟩
def turn_open.j0 : Nat → Int → Bool → List (S67) → List Int → Option ((List (S67)) × List Int × Int)
 | 0, _, _, _, _ => none
 | k + 1, x8, x24, x102000, x102001 => if x24 = true then (some (x102000, x102001, 3)) else (some (x102000, x102001, x8))
def turn_open.f (k : Nat) (l0_0 : List (S67)) (l0_1 : List Int) (a1 : Int) (a2 : Int) : Option ((List (S67)) × List Int × Int) := (turn_Check.f k l0_0 l0_1).bind fun t103 => (if t103 = 0 then ((turn_within.f 1 5 (([a1] : List Int))).bind fun t107 => (if t107 = true then ((turn_within.f 0 500 (([a2] : List Int))).bind fun t111 => (turn_open.j0 k t103 (!t111) l0_0 l0_1)) else (turn_open.j0 k t103 true l0_0 l0_1))) else (turn_open.j0 k t103 false l0_0 l0_1))
theorem turn_open.mono_l : ∀ k, (∀ y0 y1 y2 y3, LeO (turn_open.j0 k y0 y1 y2 y3) (turn_open.j0 (k + 1) y0 y1 y2 y3))
 | 0 => fun _ _ _ _ r h => by simp [turn_open.j0] at h
 | k + 1 => by
  have ih0 := turn_open.mono_l k
  ·intro y0 y1 y2 y3
   unfold turn_open.j0
   repeat' first
   | (with_reducible exact ih0 _ _ _ _)
   | (with_reducible exact turn_Check.mono _ _ _)
   | (with_reducible exact LeO.refl _)
   | (with_reducible exact LeO.none _)
   | (with_reducible refine LeO.ite ?_ ?_)
   | (with_reducible refine LeO.bind ?_ (fun _ => ?_))
   | exact ih0 _ _ _ _
   | exact turn_Check.mono _ _ _
   | exact LeO.none _
   | refine LeO.ite ?_ ?_
   | refine LeO.bind ?_ (fun _ => ?_)
theorem turn_open.mono : ∀ a0 a1 a2 a3 k, LeO (turn_open.f k a0 a1 a2 a3) (turn_open.f (k + 1) a0 a1 a2 a3) := by
 intro a0 a1 a2 a3 k
 have ih0 := turn_open.mono_l k
 unfold turn_open.f
 repeat' first
   | (with_reducible exact ih0 _ _ _ _)
   | (with_reducible exact turn_Check.mono _ _ _)
   | (with_reducible exact LeO.refl _)
   | (with_reducible exact LeO.none _)
   | (with_reducible refine LeO.ite ?_ ?_)
   | (with_reducible refine LeO.bind ?_ (fun _ => ?_))
   | exact ih0 _ _ _ _
   | exact turn_Check.mono _ _ _
   | exact LeO.none _
   | refine LeO.ite ?_ ?_
   | refine LeO.bind ?_ (fun _ => ?_)
set_option maxHeartbeats 8000000 in
set_option maxRecDepth 100000 in
theorem turn_open.calls (k : Nat) (P0_0_ : Nat → Prop) (A0_0 : Option Addr) (c0_0 : Nat) (l0_0 : List (S67)) (P0_1_ : Nat → Prop) (A0_1 : Option Addr) (c0_1 : Nat) (l0_1 : List Int) (a1 : Int) (a2 : Int) (r1 : List (S67)) (r2 : List Int) (r3 : Int) (w : World) (hs0_0 : Kd.V k67 67 w w.heap.size (fun k_ => P0_0_ k_) (.slice A0_0 l0_0.length c0_0) l0_0) (hs0_1 : Kd.V (Kd.int .i64) 3 w w.heap.size (fun k_ => P0_1_ k_) (.slice A0_1 l0_1.length c0_1) l0_1) (h : turn_open.f k l0_0 l0_1 a1 a2 = some (r1, r2, r3)) :
  Calls Tryz.prog 62 #[.agg #[.slice A0_0 l0_0.length c0_0, .slice A0_1 l0_1.length c0_1], .int .i64 a1, .int .i64 a2] w fun e w' => ∃ v0_ v1_ : Value, e = .returned (.tuple #[.agg #[v0_, v1_], .int .i64 r3]) ∧ Kd.V k67 67 w' w.heap.size (fun k_ => ((P0_0_ k_ ∨ P0_1_ k_) ∨ w.heap.size ≤ k_)) v0_ r1 ∧ Kd.V (Kd.int .i64) 3 w' w.heap.size (fun k_ => ((P0_0_ k_ ∨ P0_1_ k_) ∨ w.heap.size ≤ k_)) v1_ r2 ∧ Below w.heap.size w w' := by
 have hu25 := Tryz.underlying25
 have hu99 := Tryz.underlying99
 have HO0_0 := Aside0.mk (show Kd.V k67 67 w w.heap.size (fun k_ => ((P0_0_ k_ ∨ P0_1_ k_) ∨ w.heap.size ≤ k_)) (.slice A0_0 l0_0.length c0_0) l0_0 from Kd.V_mono hs0_0 (fun k_ hk => .inl (.inl hk)))
 have HO0_1 := Aside0.mk (show Kd.V (Kd.int .i64) 3 w w.heap.size (fun k_ => ((P0_0_ k_ ∨ P0_1_ k_) ∨ w.heap.size ≤ k_)) (.slice A0_1 l0_1.length c0_1) l0_1 from Kd.V_mono hs0_1 (fun k_ hk => .inl (.inr hk)))
 have HB := Aside0.mk (Below.refl w.heap.size w)
 have H : ((turn_Check.f k l0_0 l0_1).bind fun t103 => (if t103 = 0 then ((turn_within.f 1 5 (([a1] : List Int))).bind fun t107 => (if t107 = true then ((turn_within.f 0 500 (([a2] : List Int))).bind fun t111 => (turn_open.j0 k t103 (!t111) l0_0 l0_1)) else (turn_open.j0 k t103 true l0_0 l0_1))) else (turn_open.j0 k t103 false l0_0 l0_1))) = some (r1, r2, r3) := h
 clear h
 obtain ⟨t103, A4, H⟩ := bi H
 have HC5 := Aside0.mk H
 clear H
 go_enter Tryz.func62, Tryz.ntmps62
 go_upto_region 2 with (first | ((with_reducible refine gate_dst (N := 3) rfl ?_); (try (refine gate_guard (by rfl) ?_; dsimp only)); refine bx 3 #[.slice A0_0 l0_0.length c0_0, .slice A0_1 l0_1.length c0_1] 25 ?_; intro gb101 hg w6 hbox hb; replace HO0_0 := ve HO0_0 hg hb; replace HO0_1 := ve HO0_1 hg hb; have BK101 := hbox; have GW101 := gs HB hg; have GE101 := gs HB hg; replace HB := bs HB hb; clear hb hbox hg) | ((with_reducible refine gate_dst (N := 6) rfl ?_); (try (refine gate_guard (by rfl) ?_; dsimp only)); refine bx 6 #[.slice none 0 0, .slice none 0 0] 99 ?_; intro gb102 hg w7 hbox hb; replace HO0_0 := ve HO0_0 hg hb; replace HO0_1 := ve HO0_1 hg hb; have BK102 := hbox; have GW102 := gs HB hg; have GE102 := gs HB hg; replace HB := bs HB hb; have NB101_102 := nl BK101 hg; have NB102_101 := nr BK101 hg; replace BK101 := bb BK101 hb; clear hb hbox hg; have hnb8 := NB101_102.out; have hnc8 := NB102_101.out; obtain ⟨hcz9_0, hcz9_1, hfz9_0, hfz9_1⟩ := cf2 BK101) | ((with_reducible refine gc 19 rfl ?_); refine gL 10 Tryz.func19 #[.agg #[.slice A0_0 l0_0.length c0_0, .slice A0_1 l0_1.length c0_1]] ?_; (with_reducible refine (turn_Check.calls k _ _ l0_0 _ _ l0_1 t103 _ ?side1 ?side2 ?side3 ?side4 A4.out).mono ?_); (case side1 => exact pC (Kd.V_reads' HO0_0.out).2.2); (case side2 => exact (Kd.V_reads' HO0_0.out).2.1); (case side3 => exact pC (Kd.V_reads' HO0_1.out).2.2); (case side4 => exact (Kd.V_reads' HO0_1.out).2.1); rintro e w10 ⟨rfl, hb⟩; refine ⟨_, rfl, ?_⟩; replace HO0_0 := vb HO0_0 hb; replace HO0_1 := vb HO0_1 hb; replace BK101 := bb BK101 hb; replace BK102 := bb BK102 hb; replace HB := bs HB hb; clear hb))
 (try simp only [Act.put, List.setIfInBounds_toArray, List.set_cons_zero, List.set_cons_succ])
 go_cut [24] (fun v24 wc => ∃ (kq : Nat) (x24_4 : Bool), v24 = .bool x24_4 ∧ Aside0 (turn_open.j0 kq t103 x24_4 l0_0 l0_1 = some (r1, r2, r3)) ∧ Aside0 (kq ≤ k) ∧ Aside0 (Kd.V k67 67 wc w.heap.size (fun k_ => ((P0_0_ k_ ∨ P0_1_ k_) ∨ w.heap.size ≤ k_) ∧ k_ ≠ gb101 ∧ k_ ≠ gb102) (.slice A0_0 l0_0.length c0_0) l0_0) ∧ Aside0 (Kd.V (Kd.int .i64) 3 wc w.heap.size (fun k_ => ((P0_0_ k_ ∨ P0_1_ k_) ∨ w.heap.size ≤ k_) ∧ k_ ≠ gb101 ∧ k_ ≠ gb102) (.slice A0_1 l0_1.length c0_1) l0_1) ∧ Aside0 (wc.heap[gb101]? = some (.cells #[(.slice A0_0 l0_0.length c0_0), (.slice A0_1 l0_1.length c0_1)] 25 (0, 0))) ∧ Aside0 (wc.heap[gb102]? = some (.cells #[(.slice none 0 0), (.slice none 0 0)] 99 (0, 0))) ∧ Aside0 (Below w.heap.size w wc))
 case first =>
  have H := HC5.out
  clear HC5
  by_cases c11 : t103 = 0
  ·rw [if_pos c11] at H
   have c11b0 : (t103 == 0) = true := beq_iff_eq.mpr c11
   have c11b1 : (t103 != 0) = false := bne_eq_false_iff_eq.mpr c11
   clear c11
   (first | rw [c11b0] | (simp only [i64_w, i32_w]; rw [c11b0]) | skip)
   obtain ⟨y104, hy104⟩ : ∃ y_ : List Int, y_ = (([a1] : List Int)) := ⟨_, rfl⟩
   replace H : Option.bind (turn_within.f 1 5 y104) _ = some (r1, r2, r3) := yy hy104 H
   have Ny104 := Aside0.mk hy104
   clear hy104
   obtain ⟨t107, A12, H⟩ := bi H
   by_cases c13 : t107 = true
   ·subst c13
    rw [if_pos rfl] at H
    obtain ⟨y108, hy108⟩ : ∃ y_ : List Int, y_ = (([a2] : List Int)) := ⟨_, rfl⟩
    replace H : Option.bind (turn_within.f 0 500 y108) _ = some (r1, r2, r3) := yy hy108 H
    have Ny108 := Aside0.mk hy108
    clear hy108
    obtain ⟨t111, A14, H⟩ := bi H
    have H' := Aside0.mk H
    clear H
    go_wp2_with (first | ((with_reducible refine gate_dst (N := 15) rfl ?_); (try (refine gate_guard (by rfl) ?_; dsimp only)); refine Kd.R_lit (Kd.int .i64) _ 3 ?hg (N := 15) ?hd (xs := ([a1] : List Int)) (inner := [.int .i64 a1]) (ok := fun _ => True) (okp := fun _ => True) ?hr ?hp (fun _ hk => hk) trivial (Below.refl _ _) (Nat.le_refl _) (by simp) ?_; (case hd => rfl); (case hg => rfl); (case hr => first | (go_simp; done) | (go_simp; rfl)); (case hp => exact (Reps.one (show Kd.M (Kd.int .i64) _ _ _ a1 [.int .i64 a1] from rfl) (Reps.none _ _))); intro v105 w15 ho16 hb hg_ hnew_; clear hg_ hnew_; (first | rw [← Ny104.out] at ho16 | (simp only [Int.reduceToNat] at ho16; rw [← Ny104.out] at ho16)); replace HO0_0 := Aside0.mk (Kd.V_elder' (pV HO0_0.out) (Kd.R_base ho16) hb); replace HO0_1 := Aside0.mk (Kd.V_elder' (pV HO0_1.out) (Kd.R_base ho16) hb); have HO106 := Aside0.mk (Kd.R_lower (Kd.R_newM (M := fun k_ => (w.heap.size ≤ k_)) ho16 (below_size (pE HB)) (fun k_ h_ => h_)) (below_size (pE HB))); replace BK101 := bb BK101 hb; replace BK102 := bb BK102 hb; replace HB := bs HB hb; clear hb ho16; obtain ⟨Ao17, co17, eo17⟩ := Kd.R_slice HO106.out; subst eo17) | (go_at_call 59; (with_reducible refine (turn_within.calls 1 5 _ _ y104 true _ ?side1 ?side2 A12.out).mono ?_); (case side1 => exact pC (Kd.R_reads' HO106.out).2.2); (case side2 => exact (Kd.R_reads' HO106.out).2.1); rintro e w18 ⟨rfl, hb⟩; replace HO0_0 := vb HO0_0 hb; replace HO0_1 := vb HO0_1 hb; replace HO106 := rb HO106 hb; replace BK101 := bb BK101 hb; replace BK102 := bb BK102 hb; replace HB := bs HB hb; (try clear hb); (try clear hb2); (try clear hk); (try clear hi)) | ((with_reducible refine gate_dst (N := 20) rfl ?_); (try (refine gate_guard (by rfl) ?_; dsimp only)); refine Kd.R_lit (Kd.int .i64) _ 3 ?hg (N := 20) ?hd (xs := ([a2] : List Int)) (inner := [.int .i64 a2]) (ok := fun _ => True) (okp := fun _ => True) ?hr ?hp (fun _ hk => hk) trivial (Below.refl _ _) (Nat.le_refl _) (by simp) ?_; (case hd => rfl); (case hg => rfl); (case hr => first | (go_simp; done) | (go_simp; rfl)); (case hp => exact (Reps.one (show Kd.M (Kd.int .i64) _ _ _ a2 [.int .i64 a2] from rfl) (Reps.none _ _))); intro v109 w19 ho20 hb hg_ hnew_; clear hg_ hnew_; (first | rw [← Ny108.out] at ho20 | (simp only [Int.reduceToNat] at ho20; rw [← Ny108.out] at ho20)); replace HO0_0 := Aside0.mk (Kd.V_elder' (pV HO0_0.out) (Kd.R_base ho20) hb); replace HO0_1 := Aside0.mk (Kd.V_elder' (pV HO0_1.out) (Kd.R_base ho20) hb); have HO110 := Aside0.mk (Kd.R_lower (Kd.R_new' (Kd.R_newM (M := fun k_ => (w.heap.size ≤ k_)) ho20 (below_size (pE HB)) (fun k_ h_ => h_)) (Kd.R_lt (pR HO106.out))) (below_size (pE HB))); replace HO106 := re HO106 ho20 hb; replace BK101 := bb BK101 hb; replace BK102 := bb BK102 hb; replace HB := bs HB hb; clear hb ho20; obtain ⟨Ao21, co21, eo21⟩ := Kd.R_slice HO110.out; subst eo21) | (go_at_call 59; (with_reducible refine (turn_within.calls 0 500 _ _ y108 t111 _ ?side1 ?side2 A14.out).mono ?_); (case side1 => exact pC (Kd.R_reads' HO110.out).2.2); (case side2 => exact (Kd.R_reads' HO110.out).2.1); rintro e w22 ⟨rfl, hb⟩; replace HO0_0 := vb HO0_0 hb; replace HO0_1 := vb HO0_1 hb; replace HO106 := rb HO106 hb; replace HO110 := rb HO110 hb; replace BK101 := bb BK101 hb; replace BK102 := bb BK102 hb; replace HB := bs HB hb; (try clear hb); (try clear hb2); (try clear hk); (try clear hi)))
    go_meet
    case rel => exact ⟨_, (!t111), (by first | rfl | (simp; done) | (simp [*]; done)), H', ⟨by first | omega | exact Nat.le_refl _⟩, ⟨by (with_reducible repeat (first | apply Kd.V_alloc | apply Kd.V_drewN | apply Kd.V_drew)); exact Kd.V_mono HO0_0.out (fun _ hk => ⟨hk.1.1.1.1, ⟨hk.1.1.1.2, hk.1.1.2⟩⟩)⟩, ⟨by (with_reducible repeat (first | apply Kd.V_alloc | apply Kd.V_drewN | apply Kd.V_drew)); exact Kd.V_mono HO0_1.out (fun _ hk => ⟨hk.1.1.1.1, ⟨hk.1.1.1.2, hk.1.1.2⟩⟩)⟩, ⟨pB BK101.out⟩, ⟨pB BK102.out⟩, ⟨pE HB⟩⟩
   ·replace c13 := Bool.eq_false_iff.mpr c13
    subst c13
    rw [if_neg (show ¬ (false = true) by decide)] at H
    have H' := Aside0.mk H
    clear H
    go_wp2_with (first | ((with_reducible refine gate_dst (N := 15) rfl ?_); (try (refine gate_guard (by rfl) ?_; dsimp only)); refine Kd.R_lit (Kd.int .i64) _ 3 ?hg (N := 15) ?hd (xs := ([a1] : List Int)) (inner := [.int .i64 a1]) (ok := fun _ => True) (okp := fun _ => True) ?hr ?hp (fun _ hk => hk) trivial (Below.refl _ _) (Nat.le_refl _) (by simp) ?_; (case hd => rfl); (case hg => rfl); (case hr => first | (go_simp; done) | (go_simp; rfl)); (case hp => exact (Reps.one (show Kd.M (Kd.int .i64) _ _ _ a1 [.int .i64 a1] from rfl) (Reps.none _ _))); intro v105 w23 ho24 hb hg_ hnew_; clear hg_ hnew_; (first | rw [← Ny104.out] at ho24 | (simp only [Int.reduceToNat] at ho24; rw [← Ny104.out] at ho24)); replace HO0_0 := Aside0.mk (Kd.V_elder' (pV HO0_0.out) (Kd.R_base ho24) hb); replace HO0_1 := Aside0.mk (Kd.V_elder' (pV HO0_1.out) (Kd.R_base ho24) hb); have HO106 := Aside0.mk (Kd.R_lower (Kd.R_newM (M := fun k_ => (w.heap.size ≤ k_)) ho24 (below_size (pE HB)) (fun k_ h_ => h_)) (below_size (pE HB))); replace BK101 := bb BK101 hb; replace BK102 := bb BK102 hb; replace HB := bs HB hb; clear hb ho24; obtain ⟨Ao25, co25, eo25⟩ := Kd.R_slice HO106.out; subst eo25) | (go_at_call 59; (with_reducible refine (turn_within.calls 1 5 _ _ y104 false _ ?side1 ?side2 A12.out).mono ?_); (case side1 => exact pC (Kd.R_reads' HO106.out).2.2); (case side2 => exact (Kd.R_reads' HO106.out).2.1); rintro e w26 ⟨rfl, hb⟩; replace HO0_0 := vb HO0_0 hb; replace HO0_1 := vb HO0_1 hb; replace HO106 := rb HO106 hb; replace BK101 := bb BK101 hb; replace BK102 := bb BK102 hb; replace HB := bs HB hb; (try clear hb); (try clear hb2); (try clear hk); (try clear hi)))
    go_meet
    case rel => exact ⟨_, (true), (by first | rfl | (simp; done) | (simp [*]; done)), H', ⟨by first | omega | exact Nat.le_refl _⟩, ⟨by (with_reducible repeat (first | apply Kd.V_alloc | apply Kd.V_drewN | apply Kd.V_drew)); exact Kd.V_mono HO0_0.out (fun _ hk => ⟨hk.1.1.1, ⟨hk.1.1.2, hk.1.2⟩⟩)⟩, ⟨by (with_reducible repeat (first | apply Kd.V_alloc | apply Kd.V_drewN | apply Kd.V_drew)); exact Kd.V_mono HO0_1.out (fun _ hk => ⟨hk.1.1.1, ⟨hk.1.1.2, hk.1.2⟩⟩)⟩, ⟨pB BK101.out⟩, ⟨pB BK102.out⟩, ⟨pE HB⟩⟩
  ·rw [if_neg c11] at H
   have c11b0 : (t103 == 0) = false := beq_eq_false_iff_ne.mpr c11
   have c11b1 : (t103 != 0) = true := bne_iff_ne.mpr c11
   (first | rw [c11b0] | (simp only [i64_w, i32_w]; rw [c11b0]) | skip)
   have H' := Aside0.mk H
   clear H
   go_wp2
   go_meet
   case rel => exact ⟨_, (false), (by first | rfl | (simp; done) | (simp [*]; done)), H', ⟨by first | omega | exact Nat.le_refl _⟩, ⟨by (with_reducible repeat (first | apply Kd.V_alloc | apply Kd.V_drewN | apply Kd.V_drew)); exact Kd.V_mono HO0_0.out (fun _ hk => ⟨hk.1.1, ⟨hk.1.2, hk.2⟩⟩)⟩, ⟨by (with_reducible repeat (first | apply Kd.V_alloc | apply Kd.V_drewN | apply Kd.V_drew)); exact Kd.V_mono HO0_1.out (fun _ hk => ⟨hk.1.1, ⟨hk.1.2, hk.2⟩⟩)⟩, ⟨pB BK101.out⟩, ⟨pB BK102.out⟩, ⟨pE HB⟩⟩
 case rest =>
  clear HC5
  try clear c1
  try clear p2
  try clear c6
  try clear c8
  try clear c11
  try clear c11b0
  try clear c11b1
  try clear c13
  try clear c19
  try clear hcz9_0
  try clear hcz9_1
  try clear hfz9_0
  try clear hfz9_1
  obtain ⟨kq, x24_4, rfl, HA, HJ4, HO_102000, HO_102001, BK101, BK102, HB⟩ := hcut
  cases kq with
  | zero => exact absurd HA.out (by simp [turn_open.j0])
  | succ kj4 =>
   have H := HA.out
   clear HA
   simp only [turn_open.j0] at H
   by_cases c27 : x24_4 = true
   ·subst c27
    rw [if_pos rfl] at H
    simp only [Option.some.injEq, Prod.mk.injEq] at H
    obtain ⟨rfl, rfl, rfl⟩ := H
    have hnb28 := NB101_102.out
    have hnc28 := NB102_101.out
    obtain ⟨_, _, _, _⟩ := cf2 BK101
    obtain ⟨_, _, _, _⟩ := cf2 BK102
    go_wp2
    refine bodyPost_ret (results_ct rfl _ _ gb102 99 #[.slice A0_0 l0_0.length c0_0, .slice A0_1 l0_1.length c0_1] (0, 0) _ rfl (by refine pB ?_; refine blk_put (cs := #[.slice A0_0 l0_0.length c0_0, .slice none 0 0]) ?_ 1 _ rfl; refine pB ?_; refine blk_put (cs := #[.slice none 0 0, .slice none 0 0]) ?_ 0 _ rfl; exact pB BK102.out) Tryz.underlying99 rfl (by kernel_rfl)) rfl ?_
    exact ⟨_, _, eT, by (with_reducible repeat (first | apply Kd.V_alloc | apply Kd.V_drewN | apply Kd.V_drew)); exact Kd.V_mono (Kd.V_far (p := ⟨gb102, 1, none⟩) (Kd.V_far (p := ⟨gb102, 0, none⟩) (Kd.V_mono HO_102000.out (fun k_ hk => (⟨hk, hk.2.2⟩ : _ ∧ k_ ≠ gb102))) (fun _ hk => hk.2) (.slice A0_0 l0_0.length c0_0)) (fun _ hk => hk.2) (.slice A0_1 l0_1.length c0_1)) (fun _ hk => hk.1.1), by (with_reducible repeat (first | apply Kd.V_alloc | apply Kd.V_drewN | apply Kd.V_drew)); exact Kd.V_mono (Kd.V_far (p := ⟨gb102, 1, none⟩) (Kd.V_far (p := ⟨gb102, 0, none⟩) (Kd.V_mono HO_102001.out (fun k_ hk => (⟨hk, hk.2.2⟩ : _ ∧ k_ ≠ gb102))) (fun _ hk => hk.2) (.slice A0_0 l0_0.length c0_0)) (fun _ hk => hk.2) (.slice A0_1 l0_1.length c0_1)) (fun _ hk => hk.1.1), pE HB⟩
   ·replace c27 := Bool.eq_false_iff.mpr c27
    subst c27
    rw [if_neg (show ¬ (false = true) by decide)] at H
    simp only [Option.some.injEq, Prod.mk.injEq] at H
    obtain ⟨rfl, rfl, rfl⟩ := H
    have hnb31 := NB101_102.out
    have hnc31 := NB102_101.out
    obtain ⟨_, _, _, _⟩ := cf2 BK101
    obtain ⟨_, _, _, _⟩ := cf2 BK102
    go_wp2
    refine bodyPost_ret (results_ct rfl _ _ gb102 99 #[.slice A0_0 l0_0.length c0_0, .slice A0_1 l0_1.length c0_1] (0, 0) _ rfl (by refine pB ?_; refine blk_put (cs := #[.slice A0_0 l0_0.length c0_0, .slice none 0 0]) ?_ 1 _ rfl; refine pB ?_; refine blk_put (cs := #[.slice none 0 0, .slice none 0 0]) ?_ 0 _ rfl; exact pB BK102.out) Tryz.underlying99 rfl (by kernel_rfl)) rfl ?_
    exact ⟨_, _, eT, by (with_reducible repeat (first | apply Kd.V_alloc | apply Kd.V_drewN | apply Kd.V_drew)); exact Kd.V_mono (Kd.V_far (p := ⟨gb102, 1, none⟩) (Kd.V_far (p := ⟨gb102, 0, none⟩) (Kd.V_mono HO_102000.out (fun k_ hk => (⟨hk, hk.2.2⟩ : _ ∧ k_ ≠ gb102))) (fun _ hk => hk.2) (.slice A0_0 l0_0.length c0_0)) (fun _ hk => hk.2) (.slice A0_1 l0_1.length c0_1)) (fun _ hk => hk.1.1), by (with_reducible repeat (first | apply Kd.V_alloc | apply Kd.V_drewN | apply Kd.V_drew)); exact Kd.V_mono (Kd.V_far (p := ⟨gb102, 1, none⟩) (Kd.V_far (p := ⟨gb102, 0, none⟩) (Kd.V_mono HO_102001.out (fun k_ hk => (⟨hk, hk.2.2⟩ : _ ∧ k_ ≠ gb102))) (fun _ hk => hk.2) (.slice A0_0 l0_0.length c0_0)) (fun _ hk => hk.2) (.slice A0_1 l0_1.length c0_1)) (fun _ hk => hk.1.1), pE HB⟩
def cmp_Or_int.l0 : Nat → Int → List Int → Int → Int → Option (Int)
 | 0, _, _, _, _ => none
 | k + 1, x3, x6, x7, x8 => if x8 < x7 then (if 0 ≤ x8 then (if x8 < (x6.length : Int) then (if (rd x6 x8) = x3 then (cmp_Or_int.l0 k x3 x6 x7 (wrap64 (x8 + 1))) else (some (rd x6 x8))) else (none)) else (none)) else (some x3)
def cmp_Or_int.f (k : Nat) (l0 : List Int) : Option (Int) := cmp_Or_int.l0 k 0 l0 (l0.length : Int) 0
theorem cmp_Or_int.mono_l : ∀ k, (∀ y0 y1 y2 y3, LeO (cmp_Or_int.l0 k y0 y1 y2 y3) (cmp_Or_int.l0 (k + 1) y0 y1 y2 y3))
 | 0 => fun _ _ _ _ r h => by simp [cmp_Or_int.l0] at h
 | k + 1 => by
  have ih0 := cmp_Or_int.mono_l k
  ·intro y0 y1 y2 y3
   unfold cmp_Or_int.l0
   repeat' first
   | (with_reducible exact ih0 _ _ _ _)
   | (with_reducible exact LeO.refl _)
   | (with_reducible exact LeO.none _)
   | (with_reducible refine LeO.ite ?_ ?_)
   | (with_reducible refine LeO.bind ?_ (fun _ => ?_))
   | exact ih0 _ _ _ _
   | exact LeO.none _
   | refine LeO.ite ?_ ?_
   | refine LeO.bind ?_ (fun _ => ?_)
theorem cmp_Or_int.mono : ∀ a0 k, LeO (cmp_Or_int.f k a0) (cmp_Or_int.f (k + 1) a0) := by
 intro a0 k
 have ih0 := cmp_Or_int.mono_l k
 unfold cmp_Or_int.f
 repeat' first
   | (with_reducible exact ih0 _ _ _ _)
   | (with_reducible exact LeO.refl _)
   | (with_reducible exact LeO.none _)
   | (with_reducible refine LeO.ite ?_ ?_)
   | (with_reducible refine LeO.bind ?_ (fun _ => ?_))
   | exact ih0 _ _ _ _
   | exact LeO.none _
   | refine LeO.ite ?_ ?_
   | refine LeO.bind ?_ (fun _ => ?_)
set_option maxHeartbeats 8000000 in
set_option maxRecDepth 100000 in
theorem cmp_Or_int.calls (k : Nat) (A0 : Option Addr) (c0 : Nat) (l0 : List Int) (r : Int) (w : World) (hr0 : Kd.C (Kd.int .i64) w A0 l0.length l0) (hc0 : l0.length ≤ c0) (h : cmp_Or_int.f k l0 = some r) :
  Calls Tryz.prog 109 #[.slice A0 l0.length c0] w fun e w' => e = .returned (.int .i64 r) ∧ Drawn0 w w' := by
 have HR0 := Aside0.mk hr0
 have HC0 := Aside0.mk hc0
 clear hr0 hc0
 have H : (cmp_Or_int.l0 k 0 l0 (l0.length : Int) 0) = some r := h
 clear h
 have H' := Aside0.mk H
 clear H
 go_enter Tryz.func109, Tryz.ntmps109
 go_wp2
 go_loopg [8] k (fun kq v8 w' => ∃ (x8_1 : Int), v8 = .int .i64 x8_1 ∧ Aside0 (cmp_Or_int.l0 kq 0 l0 (l0.length : Int) x8_1 = some r) ∧ Aside0 (kq ≤ k) ∧ Drawn0 w w')
 case atStart => exact ⟨(0), (by first | rfl | (simp; done) | (simp [*]; done)), H', ⟨Nat.le_refl _⟩, by repeat (first | exact Drawn0.refl _ | apply Drawn0.step)⟩
 case round =>
  clear H'
  try clear c1
  obtain ⟨x8_1, rfl, HA, HK1, ⟨m1, rfl⟩⟩ := hrel
  cases gk with
  | zero => exact absurd HA.out (by simp [cmp_Or_int.l0])
  | succ k1 =>
   have H := HA.out
   clear HA
   simp only [cmp_Or_int.l0] at H
   by_cases c2 : x8_1 < (l0.length : Int)
   ·rw [if_pos c2] at H
    have c2b0 : decide (x8_1 < (l0.length : Int)) = true := decide_eq_true c2
    clear c2
    by_cases c3 : 0 ≤ x8_1
    ·rw [if_pos c3] at H
     have c3b0 : decide (0 ≤ x8_1) = true := decide_eq_true c3
     clear c3
     by_cases c4 : x8_1 < (l0.length : Int)
     ·rw [if_pos c4] at H
      have c4b0 : decide (x8_1 < (l0.length : Int)) = true := decide_eq_true c4
      clear c4
      by_cases c5 : (rd l0 x8_1) = 0
      ·rw [if_pos c5] at H
       have c5b0 : ((rd l0 x8_1) == 0) = true := beq_iff_eq.mpr c5
       have c5b1 : ((rd l0 x8_1) != 0) = false := bne_eq_false_iff_eq.mpr c5
       clear c5
       have H' := Aside0.mk H
       clear H
       have p101 : 0 ≤ (x8_1 : Int) := dT
       have q101 : x8_1 < (l0.length : Int) := dT
       obtain ⟨ad101, e101, hx101_0⟩ := Kd.at_int HR0.out x8_1 p101 q101
       cases e101
       replace p101 := eq_true p101
       replace q101 := eq_true q101
       go_wp2
       go_roundg k1
       case measure => have := HK1.out; omega
       case rel => exact ⟨(wrap64 (x8_1 + 1)), (by first | rfl | (simp; done) | (simp [*]; done)), H', ⟨by have := HK1.out; omega⟩, by repeat (first | exact Drawn0.refl _ | apply Drawn0.step)⟩
      ·rw [if_neg c5] at H
       have c5b0 : ((rd l0 x8_1) == 0) = false := beq_eq_false_iff_ne.mpr c5
       have c5b1 : ((rd l0 x8_1) != 0) = true := bne_iff_ne.mpr c5
       obtain rfl := Option.some.inj H
       have p101 : 0 ≤ (x8_1 : Int) := dT
       have q101 : x8_1 < (l0.length : Int) := dT
       obtain ⟨ad101, e101, hx101_0⟩ := Kd.at_int HR0.out x8_1 p101 q101
       cases e101
       replace p101 := eq_true p101
       replace q101 := eq_true q101
       go_wp2
       go_ret
       exact ⟨by first | rfl | (simp; done) | (simp [*]; done), by repeat (first | exact Drawn0.refl _ | apply Drawn0.step)⟩
     ·rw [if_neg c4] at H
      exact absurd H (by simp)
    ·rw [if_neg c3] at H
     exact absurd H (by simp)
   ·rw [if_neg c2] at H
    have c2b0 : decide (x8_1 < (l0.length : Int)) = false := decide_eq_false c2
    clear c2
    obtain rfl := Option.some.inj H
    go_wp2
    go_ret
    exact ⟨by first | rfl | (simp; done) | (simp [*]; done), by repeat (first | exact Drawn0.refl _ | apply Drawn0.step)⟩
mutual
def turn_day_nth.l0 : Nat → Int → List (S67) → Int → Int → Int → Int → Int → Int → Option (Int)
 | 0, _, _, _, _, _, _, _, _ => none
 | k + 1, x4, x18, x19, x20, x104000, x104001, x104002, x104003 => if x20 < x19 then (if 0 ≤ x20 then (if x20 < (x18.length : Int) then (if ((rd_T67 x18 x20).f0) = x104000 then (turn_day_nth.j1 k x4 x18 x19 x20 (((rd_T67 x18 x20).f1) == x104001) x104000 x104001 x104002 x104003) else (turn_day_nth.j1 k x4 x18 x19 x20 false x104000 x104001 x104002 x104003)) else (none)) else (none)) else (some x4)
def turn_day_nth.j1 : Nat → Int → List (S67) → Int → Int → Bool → Int → Int → Int → Int → Option (Int)
 | 0, _, _, _, _, _, _, _, _, _ => none
 | k + 1, x4, x18, x19, x20, x35, x104000, x104001, x104002, x104003 => if x35 = true then (turn_day_nth.l0 k (wrap64 (x4 + 1)) x18 x19 (wrap64 (x20 + 1)) x104000 x104001 x104002 x104003) else (turn_day_nth.l0 k x4 x18 x19 (wrap64 (x20 + 1)) x104000 x104001 x104002 x104003)
end
def turn_day_nth.f (k : Nat) (l0_0 : List (S67)) (l0_1 : List Int) (a1 : Int) : Option (Int) := if 0 ≤ a1 then (if a1 < (l0_0.length : Int) then (if a1 ≤ (l0_0.length : Int) then ((some (l0_0.take (a1 : Int).toNat : List (S67))).bind fun y104 => (turn_day_nth.l0 k 0 y104 (y104.length : Int) 0 ((rd_T67 l0_0 a1).f0) ((rd_T67 l0_0 a1).f1) ((rd_T67 l0_0 a1).f2.f0) ((rd_T67 l0_0 a1).f2.f1))) else (none)) else (none)) else (none)
theorem turn_day_nth.mono_l : ∀ k, (∀ y0 y1 y2 y3 y4 y5 y6 y7, LeO (turn_day_nth.l0 k y0 y1 y2 y3 y4 y5 y6 y7) (turn_day_nth.l0 (k + 1) y0 y1 y2 y3 y4 y5 y6 y7)) ∧ (∀ y0 y1 y2 y3 y4 y5 y6 y7 y8, LeO (turn_day_nth.j1 k y0 y1 y2 y3 y4 y5 y6 y7 y8) (turn_day_nth.j1 (k + 1) y0 y1 y2 y3 y4 y5 y6 y7 y8))
 | 0 => ⟨fun _ _ _ _ _ _ _ _ r h => by simp [turn_day_nth.l0] at h, fun _ _ _ _ _ _ _ _ _ r h => by simp [turn_day_nth.j1] at h⟩
 | k + 1 => by
  obtain ⟨ih0, ih1⟩ := turn_day_nth.mono_l k
  refine ⟨?_, ?_⟩
  ·intro y0 y1 y2 y3 y4 y5 y6 y7
   unfold turn_day_nth.l0
   repeat' first
   | (with_reducible exact ih0 _ _ _ _ _ _ _ _)
   | (with_reducible exact ih1 _ _ _ _ _ _ _ _ _)
   | (with_reducible exact LeO.refl _)
   | (with_reducible exact LeO.none _)
   | (with_reducible refine LeO.ite ?_ ?_)
   | (with_reducible refine LeO.bind ?_ (fun _ => ?_))
   | exact ih0 _ _ _ _ _ _ _ _
   | exact ih1 _ _ _ _ _ _ _ _ _
   | exact LeO.none _
   | refine LeO.ite ?_ ?_
   | refine LeO.bind ?_ (fun _ => ?_)
  ·intro y0 y1 y2 y3 y4 y5 y6 y7 y8
   unfold turn_day_nth.j1
   repeat' first
   | (with_reducible exact ih0 _ _ _ _ _ _ _ _)
   | (with_reducible exact ih1 _ _ _ _ _ _ _ _ _)
   | (with_reducible exact LeO.refl _)
   | (with_reducible exact LeO.none _)
   | (with_reducible refine LeO.ite ?_ ?_)
   | (with_reducible refine LeO.bind ?_ (fun _ => ?_))
   | exact ih0 _ _ _ _ _ _ _ _
   | exact ih1 _ _ _ _ _ _ _ _ _
   | exact LeO.none _
   | refine LeO.ite ?_ ?_
   | refine LeO.bind ?_ (fun _ => ?_)
theorem turn_day_nth.mono : ∀ a0 a1 a2 k, LeO (turn_day_nth.f k a0 a1 a2) (turn_day_nth.f (k + 1) a0 a1 a2) := by
 intro a0 a1 a2 k
 obtain ⟨ih0, ih1⟩ := turn_day_nth.mono_l k
 unfold turn_day_nth.f
 repeat' first
   | (with_reducible exact ih0 _ _ _ _ _ _ _ _)
   | (with_reducible exact ih1 _ _ _ _ _ _ _ _ _)
   | (with_reducible exact LeO.refl _)
   | (with_reducible exact LeO.none _)
   | (with_reducible refine LeO.ite ?_ ?_)
   | (with_reducible refine LeO.bind ?_ (fun _ => ?_))
   | exact ih0 _ _ _ _ _ _ _ _
   | exact ih1 _ _ _ _ _ _ _ _ _
   | exact LeO.none _
   | refine LeO.ite ?_ ?_
   | refine LeO.bind ?_ (fun _ => ?_)
set_option maxHeartbeats 8000000 in
set_option maxRecDepth 100000 in
theorem turn_day_nth.calls (k : Nat) (A0_0 : Option Addr) (c0_0 : Nat) (l0_0 : List (S67)) (A0_1 : Option Addr) (c0_1 : Nat) (l0_1 : List Int) (a1 : Int) (r : Int) (w : World) (hr0_0 : Kd.C k67 w A0_0 l0_0.length l0_0) (hc0_0 : l0_0.length ≤ c0_0) (hr0_1 : Kd.C (Kd.int .i64) w A0_1 l0_1.length l0_1) (hc0_1 : l0_1.length ≤ c0_1) (h : turn_day_nth.f k l0_0 l0_1 a1 = some r) :
  Calls Tryz.prog 110 #[.agg #[.slice A0_0 l0_0.length c0_0, .slice A0_1 l0_1.length c0_1], .int .i64 a1] w fun e w' => e = .returned (.int .i64 r) ∧ Below w.heap.size w w' := by
 have hu99 := Tryz.underlying99
 have hu67 := Tryz.underlying67
 have HR0_0 := Aside0.mk hr0_0
 have HC0_0 := Aside0.mk hc0_0
 clear hr0_0 hc0_0
 have HR0_1 := Aside0.mk hr0_1
 have HC0_1 := Aside0.mk hc0_1
 clear hr0_1 hc0_1
 have HB := Aside0.mk (Below.refl w.heap.size w)
 have H : (if 0 ≤ a1 then (if a1 < (l0_0.length : Int) then (if a1 ≤ (l0_0.length : Int) then ((some (l0_0.take (a1 : Int).toNat : List (S67))).bind fun y104 => (turn_day_nth.l0 k 0 y104 (y104.length : Int) 0 ((rd_T67 l0_0 a1).f0) ((rd_T67 l0_0 a1).f1) ((rd_T67 l0_0 a1).f2.f0) ((rd_T67 l0_0 a1).f2.f1))) else (none)) else (none)) else (none)) = some r := h
 clear h
 by_cases c3 : 0 ≤ a1
 ·rw [if_pos c3] at H
  have c3b0 : decide (0 ≤ a1) = true := decide_eq_true c3
  clear c3
  by_cases c4 : a1 < (l0_0.length : Int)
  ·rw [if_pos c4] at H
   have c4b0 : decide (a1 < (l0_0.length : Int)) = true := decide_eq_true c4
   clear c4
   have c5b0 := eq_true (dT : 0 ≤ a1)
   by_cases c6 : a1 ≤ (l0_0.length : Int)
   ·rw [if_pos c6] at H
    have c6b0 := eq_true c6
    have c6b1 : decide (a1 ≤ (l0_0.length : Int)) = true := decide_eq_true c6
    clear c6
    obtain ⟨y104, hy104⟩ : ∃ y_ : List (S67), y_ = (l0_0.take (a1 : Int).toNat) := ⟨_, rfl⟩
    replace H : (turn_day_nth.l0 k 0 y104 (y104.length : Int) 0 ((rd_T67 l0_0 a1).f0) ((rd_T67 l0_0 a1).f1) ((rd_T67 l0_0 a1).f2.f0) ((rd_T67 l0_0 a1).f2.f1)) = some r := yy hy104 H
    have Ny104 := Aside0.mk hy104
    clear hy104
    have H' := Aside0.mk H
    clear H
    go_enter Tryz.func110, Tryz.ntmps110
    go_wp2_with (first | ((with_reducible refine gate_dst (N := 2) rfl ?_); refine bx 2 #[.slice A0_0 l0_0.length c0_0, .slice A0_1 l0_1.length c0_1] 99 ?_; intro gb101 hg w7 hbox hb; have BK101 := hbox; have GW101 := gs HB hg; have GE101 := gs HB hg; replace HB := bs HB hb; clear hb hbox hg; obtain ⟨hcz8_0, hcz8_1, hfz8_0, hfz8_1⟩ := cf2 BK101; have p102 : 0 ≤ (a1 : Int) := dT; have q102 : a1 < (l0_0.length : Int) := dT; obtain ⟨ad102, e102, hx102_0, hx102_1, hx102_2, hx102_3⟩ := at_T67 HR0_0.out a1 p102 q102; cases e102; replace hx102_0 := cut_ HB hx102_0; replace hx102_1 := cut_ HB hx102_1; replace hx102_2 := cut_ HB hx102_2; replace hx102_3 := cut_ HB hx102_3; replace p102 := eq_true p102; replace q102 := eq_true q102) | ((with_reducible refine gate_dst (N := 5) rfl ?_); refine bx 5 #[.int .i64 0, .int .i64 0, .int .i64 0, .int .i64 0] 67 ?_; intro gb103 hg w9 hbox hb; have BK103 := hbox; have GW103 := gs HB hg; have GE103 := gs HB hg; replace HB := bs HB hb; have NB101_103 := nl BK101 hg; have NB103_101 := nr BK101 hg; replace BK101 := bb BK101 hb; clear hb hbox hg; have hnb10 := NB103_101.out; have hnc10 := NB101_103.out; obtain ⟨hcz11_0, hcz11_1, hcz11_2, hcz11_3, hfz11_0, hfz11_1, hfz11_2, hfz11_3⟩ := cf4 BK103) | ((with_reducible refine gate_store (t := 67) (p := 5) rfl ?_); refine store_event (t := 67) (p := 5) (v := ?vo_w12) (w1 := ((((w9.setCell ⟨gb103, 0, none⟩ (.int .i64 ((rd_T67 l0_0 a1).f0))).setCell ⟨gb103, 1, none⟩ (.int .i64 ((rd_T67 l0_0 a1).f1))).setCell ⟨gb103, 2, none⟩ (.int .i64 ((rd_T67 l0_0 a1).f2.f0))).setCell ⟨gb103, 3, none⟩ (.int .i64 ((rd_T67 l0_0 a1).f2.f1)))) ?hg ?ho ?hn ?hr ?_; (case ho => rfl); (case hg => rfl); (case hn => rfl); (case hr => first | (go_simp; done) | (go_simp; rfl)); intro w12 hw; have n0_ : Aside0 (w12.heap[gb101]? = some (.cells #[.slice (some ad102) l0_0.length c0_0, .slice A0_1 l0_1.length c0_1] 99 (0, 0))) := ⟨(by rw [hw]; exact (pF BK101))⟩; have n1_ : Aside0 (w12.heap[gb103]? = some (.cells #[.int .i64 ((rd_T67 l0_0 a1).f0), .int .i64 ((rd_T67 l0_0 a1).f1), .int .i64 ((rd_T67 l0_0 a1).f2.f0), .int .i64 ((rd_T67 l0_0 a1).f2.f1)] 67 (0, 0))) := ⟨(by rw [hw]; exact (by refine pB ?_; refine blk_put (cs := #[.int .i64 ((rd_T67 l0_0 a1).f0), .int .i64 ((rd_T67 l0_0 a1).f1), .int .i64 ((rd_T67 l0_0 a1).f2.f0), .int .i64 0]) ?_ 3 _ rfl; refine pB ?_; refine blk_put (cs := #[.int .i64 ((rd_T67 l0_0 a1).f0), .int .i64 ((rd_T67 l0_0 a1).f1), .int .i64 0, .int .i64 0]) ?_ 2 _ rfl; refine pB ?_; refine blk_put (cs := #[.int .i64 ((rd_T67 l0_0 a1).f0), .int .i64 0, .int .i64 0, .int .i64 0]) ?_ 1 _ rfl; refine pB ?_; refine blk_put (cs := #[.int .i64 0, .int .i64 0, .int .i64 0, .int .i64 0]) ?_ 0 _ rfl; exact pB BK103.out))⟩; have n2_ : Aside0 (Below w.heap.size w w12) := ⟨(by rw [hw]; exact (pE HB))⟩; clear hw; clear BK101; clear BK103; clear HB; have BK101 := n0_; have BK103 := n1_; have HB := n2_; clear n0_ n1_ n2_; obtain ⟨hcz13_0, hcz13_1, hfz13_0, hfz13_1⟩ := cf2 BK101; have q14 : (a1 : Int) ≤ ((l0_0.length : Int) : Int) := dT; obtain ⟨i014, hi014, _, hsz14, _⟩ := info_parts info67; have hroom14 : l0_0.length ≤ c0_0 := HC0_0.out; have hC14 : Kd.C k67 _ (some ad102) l0_0.length l0_0 := HR0_0.out; have hcut14 := cut_to (P := Tryz.prog) 22 67 .i64 Tryz.underlying22 hi014 (some ad102) l0_0.length c0_0 a1 (dT) q14 hroom14; have hr14 := Kd.C_take (m := (a1 : Int).toNat) hC14 (by omega); have hy14 : y104.length = (a1 : Int).toNat := (by rw [Ny104.out, List.length_take]; omega); rw [← Ny104.out] at hr14; rw [← hy14] at hcut14; have HR107 := Aside0.mk hr14; have HC107 := Aside0.mk (show y104.length ≤ c0_0 from by omega); clear hr14 hC14 hroom14 hi014 hsz14; have KY14 := Aside0.mk hy14; clear hy14; replace q14 := eq_true q14))
    go_loopg [4, 20] k (fun kq v4 v20 w' => ∃ (x4_1 : Int) (x20_1 : Int), v4 = .int .i64 x4_1 ∧ v20 = .int .i64 x20_1 ∧ Aside0 (turn_day_nth.l0 kq x4_1 y104 (y104.length : Int) x20_1 ((rd_T67 l0_0 a1).f0) ((rd_T67 l0_0 a1).f1) ((rd_T67 l0_0 a1).f2.f0) ((rd_T67 l0_0 a1).f2.f1) = some r) ∧ Aside0 (kq ≤ k) ∧ Aside0 (w'.heap[gb101]? = some (.cells #[(.slice (some ad102) l0_0.length c0_0), (.slice A0_1 l0_1.length c0_1)] 99 (0, 0))) ∧ Aside0 (w'.heap[gb103]? = some (.cells #[.int .i64 ((rd_T67 l0_0 a1).f0), .int .i64 ((rd_T67 l0_0 a1).f1), .int .i64 ((rd_T67 l0_0 a1).f2.f0), .int .i64 ((rd_T67 l0_0 a1).f2.f1)] 67 (0, 0))) ∧ Aside0 (Below w.heap.size w w'))
    case atStart => exact ⟨(0), (0), (by first | rfl | (simp; done) | (simp [*]; done)), (by first | rfl | (simp; done) | (simp [*]; done)), H', ⟨Nat.le_refl _⟩, ⟨pB BK101.out⟩, ⟨pB BK103.out⟩, ⟨pE HB⟩⟩
    case round =>
     clear H'
     try clear c1
     try clear p1
     try clear q1
     try clear hx1
     try clear p2
     try clear c3
     try clear c3b0
     try clear c4
     try clear c4b0
     try clear c5
     try clear c5b0
     try clear c6
     try clear c6b0
     try clear c6b1
     try clear c10
     try clear p10
     try clear q10
     try clear hx10
     try clear c11
     try clear q14
     try clear hcz11_0
     try clear hcz11_1
     try clear hcz11_2
     try clear hcz11_3
     try clear hcz13_0
     try clear hcz13_1
     try clear hcz8_0
     try clear hcz8_1
     try clear hfz11_0
     try clear hfz11_1
     try clear hfz11_2
     try clear hfz11_3
     try clear hfz13_0
     try clear hfz13_1
     try clear hfz8_0
     try clear hfz8_1
     try clear hx102_0
     try clear hx102_1
     try clear hx102_2
     try clear hx102_3
     try clear p102
     try clear q102
     try clear q14
     obtain ⟨x4_1, x20_1, rfl, rfl, HA, HK1, BK101, BK103, HB⟩ := hrel
     cases gk with
     | zero => exact absurd HA.out (by simp [turn_day_nth.l0])
     | succ k1 =>
      have H := HA.out
      clear HA
      simp only [turn_day_nth.l0] at H
      by_cases c15 : x20_1 < (y104.length : Int)
      ·rw [if_pos c15] at H
       have c15b0 : decide (x20_1 < (y104.length : Int)) = true := decide_eq_true c15
       clear c15
       by_cases c16 : 0 ≤ x20_1
       ·rw [if_pos c16] at H
        have c16b0 : decide (0 ≤ x20_1) = true := decide_eq_true c16
        clear c16
        by_cases c17 : x20_1 < (y104.length : Int)
        ·rw [if_pos c17] at H
         have c17b0 : decide (x20_1 < (y104.length : Int)) = true := decide_eq_true c17
         clear c17
         have HC18 := Aside0.mk H
         clear H
         have p108 : 0 ≤ (x20_1 : Int) := dT
         have q108 : x20_1 < (y104.length : Int) := dT
         obtain ⟨ad108, e108, hx108_0, hx108_1, hx108_2, hx108_3⟩ := at_T67 HR107.out x20_1 p108 q108
         obtain rfl : ad102 = ad108 := (by injection e108)
         replace hx108_0 := cut_ HB hx108_0
         replace hx108_1 := cut_ HB hx108_1
         replace hx108_2 := cut_ HB hx108_2
         replace hx108_3 := cut_ HB hx108_3
         replace p108 := eq_true p108
         replace q108 := eq_true q108
         go_upto_region 5 with (first | ((with_reducible refine gate_dst (N := 7) rfl ?_); refine bx 7 #[.int .i64 0, .int .i64 0, .int .i64 0, .int .i64 0] 67 ?_; intro gb109 hg w19 hbox hb; have BK109 := hbox; have GW109 := gs HB hg; have GE109 := gs HB hg; replace HB := bs HB hb; have NB101_109 := nl BK101 hg; have NB109_101 := nr BK101 hg; replace BK101 := bb BK101 hb; have NB103_109 := nl BK103 hg; have NB109_103 := nr BK103 hg; replace BK103 := bb BK103 hb; clear hb hbox hg; have hnb20 := NB109_101.out; have hnc20 := NB101_109.out; have hnb21 := NB109_103.out; have hnc21 := NB103_109.out; obtain ⟨hcz22_0, hcz22_1, hcz22_2, hcz22_3, hfz22_0, hfz22_1, hfz22_2, hfz22_3⟩ := cf4 BK109))
         (try simp only [Act.put, List.setIfInBounds_toArray, List.set_cons_zero, List.set_cons_succ])
         go_cut [35] (fun v35 wc => ∃ (kq : Nat) (x35_17 : Bool), v35 = .bool x35_17 ∧ Aside0 (turn_day_nth.j1 kq x4_1 y104 (y104.length : Int) x20_1 x35_17 ((rd_T67 l0_0 a1).f0) ((rd_T67 l0_0 a1).f1) ((rd_T67 l0_0 a1).f2.f0) ((rd_T67 l0_0 a1).f2.f1) = some r) ∧ Aside0 (kq ≤ k1) ∧ Aside0 (wc.heap[gb101]? = some (.cells #[(.slice (some ad102) l0_0.length c0_0), (.slice A0_1 l0_1.length c0_1)] 99 (0, 0))) ∧ Aside0 (wc.heap[gb103]? = some (.cells #[.int .i64 ((rd_T67 l0_0 a1).f0), .int .i64 ((rd_T67 l0_0 a1).f1), .int .i64 ((rd_T67 l0_0 a1).f2.f0), .int .i64 ((rd_T67 l0_0 a1).f2.f1)] 67 (0, 0))) ∧ Aside0 (wc.heap[gb109]? = some (.cells #[.int .i64 ((rd_T67 y104 x20_1).f0), .int .i64 ((rd_T67 y104 x20_1).f1), .int .i64 ((rd_T67 y104 x20_1).f2.f0), .int .i64 ((rd_T67 y104 x20_1).f2.f1)] 67 (0, 0))) ∧ Aside0 (Below w.heap.size w wc))
         case first =>
          have H := HC18.out
          clear HC18
          by_cases c23 : ((rd_T67 y104 x20_1).f0) = ((rd_T67 l0_0 a1).f0)
          ·rw [if_pos c23] at H
           have c23b0 : (((rd_T67 y104 x20_1).f0) == ((rd_T67 l0_0 a1).f0)) = true := beq_iff_eq.mpr c23
           have c23b1 : (((rd_T67 y104 x20_1).f0) != ((rd_T67 l0_0 a1).f0)) = false := bne_eq_false_iff_eq.mpr c23
           clear c23
           (first | rw [c23b0] | (simp only [i64_w, i32_w]; rw [c23b0]) | skip)
           have H' := Aside0.mk H
           clear H
           have hnb24 := NB109_101.out
           have hnc24 := NB101_109.out
           have hnb25 := NB109_103.out
           have hnc25 := NB103_109.out
           obtain ⟨hcz26_0, hcz26_1, hcz26_2, hcz26_3, hfz26_0, hfz26_1, hfz26_2, hfz26_3⟩ := cf4 BK109
           have hnb27 := NB103_101.out
           have hnc27 := NB101_103.out
           obtain ⟨hcz28_0, hcz28_1, hcz28_2, hcz28_3, hfz28_0, hfz28_1, hfz28_2, hfz28_3⟩ := cf4 BK103
           go_wp2
           go_meet
           case rel => exact ⟨_, ((((rd_T67 y104 x20_1).f1) == ((rd_T67 l0_0 a1).f1))), (by first | rfl | (simp; done) | (simp [*]; done)), H', ⟨by have := HK1.out; first | omega | exact Nat.le_refl _⟩, ⟨pF BK101⟩, ⟨pF BK103⟩, ⟨by refine pB ?_; refine blk_put (cs := #[.int .i64 ((rd_T67 y104 x20_1).f0), .int .i64 ((rd_T67 y104 x20_1).f1), .int .i64 ((rd_T67 y104 x20_1).f2.f0), .int .i64 0]) ?_ 3 _ rfl; refine pB ?_; refine blk_put (cs := #[.int .i64 ((rd_T67 y104 x20_1).f0), .int .i64 ((rd_T67 y104 x20_1).f1), .int .i64 0, .int .i64 0]) ?_ 2 _ rfl; refine pB ?_; refine blk_put (cs := #[.int .i64 ((rd_T67 y104 x20_1).f0), .int .i64 0, .int .i64 0, .int .i64 0]) ?_ 1 _ rfl; refine pB ?_; refine blk_put (cs := #[.int .i64 0, .int .i64 0, .int .i64 0, .int .i64 0]) ?_ 0 _ rfl; exact pB BK109.out⟩, ⟨pE HB⟩⟩
          ·rw [if_neg c23] at H
           have c23b0 : (((rd_T67 y104 x20_1).f0) == ((rd_T67 l0_0 a1).f0)) = false := beq_eq_false_iff_ne.mpr c23
           have c23b1 : (((rd_T67 y104 x20_1).f0) != ((rd_T67 l0_0 a1).f0)) = true := bne_iff_ne.mpr c23
           (first | rw [c23b0] | (simp only [i64_w, i32_w]; rw [c23b0]) | skip)
           have H' := Aside0.mk H
           clear H
           have hnb29 := NB109_101.out
           have hnc29 := NB101_109.out
           have hnb30 := NB109_103.out
           have hnc30 := NB103_109.out
           obtain ⟨hcz31_0, hcz31_1, hcz31_2, hcz31_3, hfz31_0, hfz31_1, hfz31_2, hfz31_3⟩ := cf4 BK109
           have hnb32 := NB103_101.out
           have hnc32 := NB101_103.out
           obtain ⟨hcz33_0, hcz33_1, hcz33_2, hcz33_3, hfz33_0, hfz33_1, hfz33_2, hfz33_3⟩ := cf4 BK103
           go_wp2
           go_meet
           case rel => exact ⟨_, (false), (by first | rfl | (simp; done) | (simp [*]; done)), H', ⟨by have := HK1.out; first | omega | exact Nat.le_refl _⟩, ⟨pF BK101⟩, ⟨pF BK103⟩, ⟨by refine pB ?_; refine blk_put (cs := #[.int .i64 ((rd_T67 y104 x20_1).f0), .int .i64 ((rd_T67 y104 x20_1).f1), .int .i64 ((rd_T67 y104 x20_1).f2.f0), .int .i64 0]) ?_ 3 _ rfl; refine pB ?_; refine blk_put (cs := #[.int .i64 ((rd_T67 y104 x20_1).f0), .int .i64 ((rd_T67 y104 x20_1).f1), .int .i64 0, .int .i64 0]) ?_ 2 _ rfl; refine pB ?_; refine blk_put (cs := #[.int .i64 ((rd_T67 y104 x20_1).f0), .int .i64 0, .int .i64 0, .int .i64 0]) ?_ 1 _ rfl; refine pB ?_; refine blk_put (cs := #[.int .i64 0, .int .i64 0, .int .i64 0, .int .i64 0]) ?_ 0 _ rfl; exact pB BK109.out⟩, ⟨pE HB⟩⟩
         case rest =>
          clear HC18
          try clear c1
          try clear p1
          try clear q1
          try clear hx1
          try clear c2
          try clear p2
          try clear c3
          try clear c3b0
          try clear c4
          try clear c4b0
          try clear c5
          try clear c5b0
          try clear c6
          try clear c6b0
          try clear c6b1
          try clear c10
          try clear p10
          try clear q10
          try clear hx10
          try clear c11
          try clear q14
          try clear c15
          try clear c15b0
          try clear c16
          try clear c16b0
          try clear c17
          try clear c17b0
          try clear c20
          try clear c21
          try clear c23
          try clear c23b0
          try clear c23b1
          try clear c24
          try clear c25
          try clear c27
          try clear c29
          try clear c30
          try clear c32
          try clear hcz11_0
          try clear hcz11_1
          try clear hcz11_2
          try clear hcz11_3
          try clear hcz13_0
          try clear hcz13_1
          try clear hcz22_0
          try clear hcz22_1
          try clear hcz22_2
          try clear hcz22_3
          try clear hcz26_0
          try clear hcz26_1
          try clear hcz26_2
          try clear hcz26_3
          try clear hcz28_0
          try clear hcz28_1
          try clear hcz28_2
          try clear hcz28_3
          try clear hcz31_0
          try clear hcz31_1
          try clear hcz31_2
          try clear hcz31_3
          try clear hcz33_0
          try clear hcz33_1
          try clear hcz33_2
          try clear hcz33_3
          try clear hcz8_0
          try clear hcz8_1
          try clear hfz11_0
          try clear hfz11_1
          try clear hfz11_2
          try clear hfz11_3
          try clear hfz13_0
          try clear hfz13_1
          try clear hfz22_0
          try clear hfz22_1
          try clear hfz22_2
          try clear hfz22_3
          try clear hfz26_0
          try clear hfz26_1
          try clear hfz26_2
          try clear hfz26_3
          try clear hfz28_0
          try clear hfz28_1
          try clear hfz28_2
          try clear hfz28_3
          try clear hfz31_0
          try clear hfz31_1
          try clear hfz31_2
          try clear hfz31_3
          try clear hfz33_0
          try clear hfz33_1
          try clear hfz33_2
          try clear hfz33_3
          try clear hfz8_0
          try clear hfz8_1
          try clear hx102_0
          try clear hx102_1
          try clear hx102_2
          try clear hx102_3
          try clear hx108_0
          try clear hx108_1
          try clear hx108_2
          try clear hx108_3
          try clear p1
          try clear p10
          try clear p102
          try clear p108
          try clear p2
          try clear q1
          try clear q10
          try clear q102
          try clear q108
          try clear q14
          obtain ⟨kq, x35_17, rfl, HA, HJ17, BK101, BK103, BK109, HB⟩ := hcut
          cases kq with
          | zero => exact absurd HA.out (by simp [turn_day_nth.j1])
          | succ kj17 =>
           have H := HA.out
           clear HA
           simp only [turn_day_nth.j1] at H
           by_cases c34 : x35_17 = true
           ·subst c34
            rw [if_pos rfl] at H
            have H' := Aside0.mk H
            clear H
            go_wp2
            go_roundg kj17
            case measure => have := HK1.out; have := HJ17.out; omega
            case rel => exact ⟨(wrap64 (x4_1 + 1)), (wrap64 (x20_1 + 1)), (by first | rfl | (simp; done) | (simp [*]; done)), (by first | rfl | (simp; done) | (simp [*]; done)), H', ⟨by have := HK1.out; have := HJ17.out; omega⟩, ⟨pB BK101.out⟩, ⟨pB BK103.out⟩, ⟨pE HB⟩⟩
           ·replace c34 := Bool.eq_false_iff.mpr c34
            subst c34
            rw [if_neg (show ¬ (false = true) by decide)] at H
            have H' := Aside0.mk H
            clear H
            go_wp2
            go_roundg kj17
            case measure => have := HK1.out; have := HJ17.out; omega
            case rel => exact ⟨(x4_1), (wrap64 (x20_1 + 1)), (by first | rfl | (simp; done) | (simp [*]; done)), (by first | rfl | (simp; done) | (simp [*]; done)), H', ⟨by have := HK1.out; have := HJ17.out; omega⟩, ⟨pB BK101.out⟩, ⟨pB BK103.out⟩, ⟨pE HB⟩⟩
        ·rw [if_neg c17] at H
         exact absurd H (by simp)
       ·rw [if_neg c16] at H
        exact absurd H (by simp)
      ·rw [if_neg c15] at H
       have c15b0 : decide (x20_1 < (y104.length : Int)) = false := decide_eq_false c15
       clear c15
       obtain rfl := Option.some.inj H
       go_wp2
       go_ret
       exact ⟨eT, pE HB⟩
   ·rw [if_neg c6] at H
    exact absurd H (by simp)
  ·rw [if_neg c4] at H
   exact absurd H (by simp)
 ·rw [if_neg c3] at H
  exact absurd H (by simp)
end Go.Proofs.YtlmglnobdcgbeaaGreat.P
