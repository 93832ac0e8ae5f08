/- Part 5 of what the law's proof needs: words, walks of functions and plain facts. -/
import Derived.Shelf.SlicesQ.Load
import Derived.Shelf.Abstract
import Derived.Lib.Hide
import Derived.Lib.BufferMore
import Derived.Lib.LazyBuf
import Derived.CallsIn
import Derived.RangeFuncCalls
import Derived.KernelRfl
import Derived.Deep.MidRow
import Derived.Deep.AppendSrc
import Derived.Below
import Derived.Test.YtlmglnobdcgbeaaGreatC01
import Derived.Test.YtlmglnobdcgbeaaGreatC02
import Derived.Test.YtlmglnobdcgbeaaGreatC03
import Derived.Test.YtlmglnobdcgbeaaGreatC04
set_option linter.unusedVariables false
set_option linter.unusedSimpArgs false
namespace Go.Proofs.YtlmglnobdcgbeaaGreat.P
open Go.RowKit Go.Proofs.YtlmglnobdcgbeaaGreatW.PrintWords Go.Proofs.YtlmglnobdcgbeaaGreatW.PrintLast Go.Proofs.YtlmglnobdcgbeaaGreatW.PrintMore
theorem mx_comm (a b : Int) : mx a b = mx b a := by unfold mx; split <;> split <;> omega
def hoursOf (cl : List S67) (most : Bool) : List Int := cl.map fun c => if most = true then c.f2.f1 else c.f2.f0
def ofM (most : Bool) (x y : Int) : Int := if most = true then y else x
theorem hours_l (cl : List S67) (rk : List Int) (b : Bool) (hl : cl.length ≤ 1000) : ∀ (d i k : Nat) (out : List Int), i + d = cl.length → d < k → out.length = i → walkmillref04_Hours.l0 k b out i cl rk = some (out ++ (hoursOf cl b).drop i)
  | 0, i, k, out, hd, hk, ho => by
    obtain ⟨k, rfl⟩ : ∃ m, k = m + 1 := ⟨k - 1, by omega⟩
    rw [walkmillref04_Hours.l0, if_neg (by omega), List.drop_of_length_le (by simp [hoursOf]; omega), List.append_nil]
  | d + 1, i, k, out, hd, hk, ho => by
    obtain ⟨k, rfl⟩ : ∃ m, k = m + 1 := ⟨k - 1, by omega⟩
    have hlt : i < cl.length := by omega
    have hlt2 : i < (hoursOf cl b).length := by simp [hoursOf]; omega
    rw [walkmillref04_Hours.l0, if_pos (by omega), if_pos (by omega), rd67_at cl i hlt, nx i (by omega), List.drop_eq_getElem_cons hlt2]
    have e : (hoursOf cl b)[i] = if b = true then cl[i].f2.f1 else cl[i].f2.f0 := by simp [hoursOf]
    rw [e]
    cases b
    · rw [if_neg (by simp), if_pos (by omega), hours_l cl rk false hl d (i + 1) k _ (by omega) (by omega) (by simp [ho])]; simp
    · rw [if_pos rfl, if_pos (by omega), hours_l cl rk true hl d (i + 1) k _ (by omega) (by omega) (by simp [ho])]; simp
theorem hours_eq (cl : List S67) (rk : List Int) (b : Bool) (hl : cl.length ≤ 1000) (k : Nat) (hk : cl.length < k) : walkmillref04_Hours.f k cl rk b = some (hoursOf cl b) := by
  unfold walkmillref04_Hours.f
  have := hours_l cl rk b hl cl.length 0 k [] (by omega) hk rfl
  simpa using this
theorem rd_hours (cl : List S67) (b : Bool) (x : Int) (h0 : 0 ≤ x) (h1 : x < cl.length) : rd (hoursOf cl b) x = ofM b (rd_T67 cl x).f2.f0 (rd_T67 cl x).f2.f1 := by
  have e1 := rd_at (hoursOf cl b) x.toNat (by simp [hoursOf]; omega)
  have e2 := rd67_at cl x.toNat (by omega)
  rw [show ((x.toNat : Nat) : Int) = x by omega] at e1 e2
  rw [e1, e2]; simp [hoursOf, ofM]
theorem first_l (m : Nat) (x1 x3 x9 fr : List Int) (x11 : Int) (cl : List S67) (rk : List Int) (hfr : fr.length = m) (hm : m ≤ 1000) (K : Nat) (R : Option (List Int))
    (hn : ∀ k c, K < k → c < m → (∀ q, (h : q < m) → rd fr c ≤ fr[q]) → walkmillref04_Taken.l1 k x1 m x3 x9 fr x11 c m cl rk = R) :
    ∀ (d j k c : Nat), j + d = m → d + K < k → c < m → (∀ q, (h : q < m) → q < j → rd fr c ≤ fr[q]) → walkmillref04_Taken.l1 k x1 m x3 x9 fr x11 c j cl rk = R
  | 0, j, k, c, hd, hk, hc, hq => by
    obtain rfl : j = m := by omega
    exact hn k c (by omega) hc (fun q h => hq q h h)
  | d + 1, j, k, c, hd, hk, hc, hq => by
    obtain ⟨k, rfl⟩ : ∃ m, k = m + 1 := ⟨k - 1, by omega⟩
    rw [walkmillref04_Taken.l1, if_pos (by omega), if_pos (by omega), if_pos (by omega), if_pos (by omega), if_pos (by omega), nx j (by omega), rd_at fr j (by omega), rd_at fr c (by omega)]
    have ec := rd_at fr c (by omega)
    by_cases h : fr[j] < fr[c]
    · rw [if_pos h]
      refine first_l m x1 x3 x9 fr x11 cl rk hfr hm K R hn d (j + 1) k j (by omega) (by omega) (by omega) fun q hq1 hq2 => ?_
      rw [rd_at fr j (by omega)]
      rcases Nat.lt_or_ge q j with h1 | h1
      · have := hq q hq1 h1; omega
      · obtain rfl : q = j := by omega
        omega
    · rw [if_neg h]
      refine first_l m x1 x3 x9 fr x11 cl rk hfr hm K R hn d (j + 1) k c (by omega) (by omega) hc fun q hq1 hq2 => ?_
      rcases Nat.lt_or_ge q j with h1 | h1
      · exact hq q hq1 h1
      · obtain rfl : q = j := by omega
        omega
theorem free_step (fp fr : List Int) (p : Nat) (hp : p < fr.length) (hperm : fp.Perm fr) (hs : fp.Pairwise (fun a b => a ≤ b)) (hmin : ∀ q, (h : q < fr.length) → fr[p] ≤ fr[q]) (v : Int) :
    rd fp 0 = fr[p] ∧ (srt (fp.set 0 v)).Perm (fr.set p v) ∧ (srt (fp.set 0 v)).Pairwise (fun a b => a ≤ b) := by
  cases fp with
  | nil => have := hperm.length_eq; simp at this; omega
  | cons a t =>
    obtain ⟨s1, s2⟩ := List.pairwise_cons.1 hs
    have ha : a = fr[p] := by
      have h1 : a ∈ fr := hperm.mem_iff.1 (by simp)
      obtain ⟨q, hq, rfl⟩ := List.getElem_of_mem h1
      have h2 := hmin q hq
      have h3 : fr[p] ∈ fr[q] :: t := hperm.mem_iff.2 (List.getElem_mem hp)
      rcases List.mem_cons.1 h3 with h | h
      · exact h.symm
      · have := s1 _ h; omega
    refine ⟨ha, ?_, srt_sorted _⟩
    refine (srt_perm _).trans ?_
    have e1 : fr = fr.take p ++ fr[p] :: fr.drop (p + 1) := by rw [← List.drop_eq_getElem_cons hp, List.take_append_drop]
    have e2 : fr.set p v = fr.take p ++ v :: fr.drop (p + 1) := by rw [List.set_eq_take_append_cons_drop, if_pos hp]
    rw [e2]
    show (v :: t).Perm _
    have h4 : (a :: t).Perm (fr[p] :: (fr.take p ++ fr.drop (p + 1))) := hperm.trans (by conv => lhs; rw [e1]
                                                                                         exact List.perm_middle)
    rw [ha] at h4
    exact (List.Perm.cons v (List.Perm.cons_inv h4)).trans List.perm_middle.symm
theorem taken_l (cl : List S67) (rk : List Int) (b : Bool) (hc : cl.length ≤ 1000) (ord : List Int) (ho : ord.length ≤ 1000) (hin : ∀ x ∈ ord, 0 ≤ x ∧ x < (cl.length : Int)) (m : Nat) (hm : 1 ≤ m) (hm2 : m ≤ 1000) :
    ∀ (d i k : Nat) (out fr fp : List Int), i + d = ord.length → (m + 2) * d < k → out.length = i → fr.length = m → fp.Perm fr → fp.Pairwise (fun a b => a ≤ b) →
      walkmillref04_Taken.l0 k ord m (hoursOf cl b) out fr i cl rk = some (out ++ (runT (ofM b) cl fp (ord.drop i)).map (fun t => t.2.1))
  | 0, i, k, out, fr, fp, hd, hk, hol, hfr, hp, hs => by
    obtain ⟨k, rfl⟩ : ∃ m, k = m + 1 := ⟨k - 1, by omega⟩
    rw [walkmillref04_Taken.l0, if_neg (by omega), List.drop_of_length_le (by omega)]; simp [runT]
  | d + 1, i, k, out, fr, fp, hd, hk, hol, hfr, hp, hs => by
    obtain ⟨k, rfl⟩ : ∃ m, k = m + 1 := ⟨k - 1, by omega⟩
    have hlt : i < ord.length := by omega
    rw [walkmillref04_Taken.l0, if_pos (by omega)]
    have hx := hin ord[i] (List.getElem_mem hlt)
    have hmul : (m + 2) * (d + 1) = (m + 2) * d + (m + 2) := by rw [Nat.mul_add, Nat.mul_one]
    refine first_l m ord (hoursOf cl b) out fr i cl rk hfr hm2 ((m + 2) * d + 1) _ (fun k c hk2 hcm hmin => ?_) m 0 k 0 (by omega) (by omega) (by omega) (fun q _ h => by omega)
    obtain ⟨k, rfl⟩ : ∃ m, k = m + 1 := ⟨k - 1, by omega⟩
    have ec := rd_at fr c (by omega)
    have erd := rd_at ord i hlt
    obtain ⟨f1, f2, f3⟩ := free_step fp fr c (by omega) hp hs (fun q hq => by rw [← ec]; exact hmin q (by omega)) (doneT (ofM b) cl fp ord[i])
    have etk : mx (rd fr c) (rd_T67 cl ord[i]).f1 = takenT cl fp ord[i] := by unfold takenT; rw [f1, ec, mx_comm]
    have edn : wrap64 (takenT cl fp ord[i] + rd (hoursOf cl b) ord[i]) = doneT (ofM b) cl fp ord[i] := by unfold doneT; rw [rd_hours cl b _ hx.1 hx.2]
    rw [walkmillref04_Taken.l1, if_neg (by omega), if_pos (by omega), if_pos (by omega), if_pos (by omega), if_pos (by omega), erd, if_pos hx.1, if_pos hx.2, if_pos (by omega), if_pos (by simp [hoursOf]; omega), etk, edn, Int.toNat_natCast, nx i (by omega)]
    rw [taken_l cl rk b hc ord ho hin m hm hm2 d (i + 1) k _ _ (srt (fp.set 0 (doneT (ofM b) cl fp ord[i]))) (by omega) (by omega) (by simp [hol]) (by rw [List.length_set]; exact hfr) f2 f3, List.drop_eq_getElem_cons hlt, runT]
    simp
theorem taken_eq (cl : List S67) (rk : List Int) (b : Bool) (hc : cl.length ≤ 1000) (ord : List Int) (ho : ord.length ≤ 1000) (hin : ∀ x ∈ ord, 0 ≤ x ∧ x < (cl.length : Int)) (m : Nat) (hm : 1 ≤ m) (hm2 : m ≤ 1000) (k : Nat) (hk : (m + 2) * ord.length < k) :
    walkmillref04_Taken.f k cl rk ord m (hoursOf cl b) = some ((runT (ofM b) cl (List.replicate m 0) ord).map (fun t => t.2.1)) := by
  unfold walkmillref04_Taken.f
  rw [if_pos (by omega), if_pos (by omega), Int.toNat_natCast]
  have := taken_l cl rk b hc ord ho hin m hm hm2 ord.length 0 k [] (List.replicate m 0) (List.replicate m 0) (by omega) hk rfl (by simp) (List.Perm.refl _) (List.pairwise_replicate.2 (.inr (Int.le_refl _)))
  simpa using this
def worstF (a : Int × Int) (t : Int × Int) : Int × Int := if t.2 > a.2 then t else a
theorem runT_fst (of : Int → Int → Int) (cl : List S67) : ∀ (xs fr : List Int), (runT of cl fr xs).map (fun t => t.1) = xs
  | [], _ => rfl
  | x :: xs, fr => by rw [runT, List.map_cons, runT_fst of cl xs]
theorem ofM_true : ofM true = highF := by funext x y; rfl
theorem worst_l (cl : List S67) (rk : List Int) (hc : cl.length ≤ 1000) (ts : List (Int × Int × Int)) (ho : ts.length ≤ 1000) (hin : ∀ t ∈ ts, 0 ≤ t.1 ∧ t.1 < (cl.length : Int)) :
    ∀ (d i k : Nat) (a : Int × Int), i + d = ts.length → d < k → walkmillref04_Worst.l0 k (ts.map (fun t => t.1)) a.1 a.2 (ts.map (fun t => t.2.1)) i cl rk = some (((ts.drop i).map (waitT cl)).foldl worstF a)
  | 0, i, k, a, hd, hk => by
    obtain ⟨k, rfl⟩ : ∃ m, k = m + 1 := ⟨k - 1, by omega⟩
    rw [walkmillref04_Worst.l0, if_neg (by simp; omega), List.drop_of_length_le (by omega)]; rfl
  | d + 1, i, k, a, hd, hk => by
    obtain ⟨k, rfl⟩ : ∃ m, k = m + 1 := ⟨k - 1, by omega⟩
    have hlt : i < ts.length := by omega
    have hx := hin ts[i] (List.getElem_mem hlt)
    have e1 : rd (ts.map (fun t => t.1)) i = ts[i].1 := by rw [rd_at _ i (by simpa using hlt)]; simp
    have e2 : rd (ts.map (fun t => t.2.1)) i = ts[i].2.1 := by rw [rd_at _ i (by simpa using hlt)]; simp
    rw [walkmillref04_Worst.l0, if_pos (by simp; omega), if_pos (by omega), if_pos (by simp; omega), e1, e2, if_pos hx.1, if_pos hx.2, nx i (by omega), List.drop_eq_getElem_cons hlt, List.map_cons, List.foldl_cons]
    have ih := fun a => worst_l cl rk hc ts ho hin d (i + 1) k a (by omega) (by omega)
    by_cases h : wrap64 (ts[i].2.1 - (rd_T67 cl ts[i].1).f1) > a.2
    · rw [if_pos h]
      have : worstF a (waitT cl ts[i]) = (ts[i].1, wrap64 (ts[i].2.1 - (rd_T67 cl ts[i].1).f1)) := by unfold worstF waitT; rw [if_pos h]
      rw [this]; exact ih (ts[i].1, wrap64 (ts[i].2.1 - (rd_T67 cl ts[i].1).f1))
    · rw [if_neg h]
      have : worstF a (waitT cl ts[i]) = a := by unfold worstF waitT; rw [if_neg h]
      rw [this]; exact ih a
theorem worst_eq (cl : List S67) (rk : List Int) (hc : cl.length ≤ 1000) (ord : List Int) (ho : ord.length ≤ 1000) (hin : ∀ x ∈ ord, 0 ≤ x ∧ x < (cl.length : Int)) (m : Nat) (hm : 1 ≤ m) (hm2 : m ≤ 1000) (k : Nat) (hk : (m + 2) * ord.length + cl.length < k) :
    walkmillref04_Worst.f k cl rk ord m = some ((waitsL cl ord m).foldl worstF (-1, -1)) := by
  unfold walkmillref04_Worst.f waitsL
  rw [hours_eq cl rk true hc k (by omega), Option.bind_some, taken_eq cl rk true hc ord ho hin m hm hm2 k (by omega), Option.bind_some, ofM_true, Int.toNat_natCast]
  have hmul : ord.length ≤ (m + 2) * ord.length := Nat.le_mul_of_pos_left _ (by omega)
  have := worst_l cl rk hc (runT highF cl (List.replicate m 0) ord) (by rw [runT_len]; exact ho) (fun t ht => hin t.1 (by rw [← runT_fst highF cl ord (List.replicate m 0)]; exact List.mem_map_of_mem ht)) ord.length 0 k (-1, -1) (by rw [runT_len]; omega) (by omega)
  rw [runT_fst] at this
  simpa using this
theorem foldl_worst (L : Int) : ∀ (ws : List (Int × Int)) (a : Int × Int), decide ((ws.foldl worstF a).2 > L) = (decide (a.2 > L) || ws.any fun t => decide (t.2 > L))
  | [], a => by simp
  | t :: ws, a => by
    rw [List.foldl_cons, foldl_worst L ws, List.any_cons, ← Bool.or_assoc]
    congr 1
    unfold worstF
    by_cases h : t.2 > a.2
    · rw [if_pos h]
      by_cases h2 : a.2 > L <;> by_cases h3 : t.2 > L <;> simp [h2, h3] <;> omega
    · rw [if_neg h]
      by_cases h2 : a.2 > L <;> by_cases h3 : t.2 > L <;> simp [h2, h3] <;> omega
def lateB (cl : List S67) (ord : List Int) (m L : Int) : Bool := (waitsL cl ord m).any fun t => decide (t.2 > L)
theorem late_eq (cl : List S67) (rk : List Int) (hc : cl.length ≤ 1000) (ord : List Int) (ho : ord.length ≤ 1000) (hin : ∀ x ∈ ord, 0 ≤ x ∧ x < (cl.length : Int)) (m : Nat) (hm : 1 ≤ m) (hm2 : m ≤ 1000) (L : Int) (hL : 0 ≤ L) (k : Nat) (hk : (m + 2) * ord.length + cl.length < k) :
    walkmillref04_Late.f k cl rk ord m L = some (lateB cl ord m L) := by
  unfold walkmillref04_Late.f lateB
  rw [worst_eq cl rk hc ord ho hin m hm hm2 k hk, Option.bind_some, foldl_worst]
  rw [decide_eq_false (by omega), Bool.false_or]
theorem isLate_eq (cl : List S67) (rk : List Int) (ord : List Int) (hin : ∀ x ∈ ord, 0 ≤ x ∧ x < (cl.length : Int)) (m : Nat) (hm : 1 ≤ m) (hm2 : m ≤ 1000) (L : Int) : turn_day_isLate.f cl rk ord m L = some (lateB cl ord m L) := by
  unfold turn_day_isLate.f lateB
  have : okT cl ord m = true := by
    unfold okT
    simp only [Bool.and_eq_true, decide_eq_true_eq, List.all_eq_true]
    exact ⟨⟨by omega, by omega⟩, hin⟩
  rw [if_pos this]
end Go.Proofs.YtlmglnobdcgbeaaGreat.P
namespace Go.Proofs.YtlmglnobdcgbeaaGreat.P
open Go.RowKit Go.Proofs.YtlmglnobdcgbeaaGreatW.PrintWords Go.Proofs.YtlmglnobdcgbeaaGreatW.PrintLast Go.Proofs.YtlmglnobdcgbeaaGreatW.PrintMore
attribute [local go_sem] max2_int min2_int max_two min_two max_three min_three max_four min_four
def walkmillref04_Open.j0 : Nat → Bool → Option (Int)
 | 0, _ => none
 | k + 1, x20 => if x20 = true then (some 3) else (some 0)
def walkmillref04_Open.f (k : Nat) (l0_0 : List (S67)) (l0_1 : List Int) (a1 : Int) (a2 : Int) : Option (Int) := (walkmillref04_Check.f k l0_0 l0_1).bind fun t102 => (if t102 = 0 then ((walkmillref04_In.f a1 1 5).bind fun t103 => (if t103 = true then ((walkmillref04_In.f a2 0 500).bind fun t104 => (walkmillref04_Open.j0 k (!t104))) else (walkmillref04_Open.j0 k true))) else (some t102))
theorem walkmillref04_Open.mono_l : ∀ k, (∀ y0, LeO (walkmillref04_Open.j0 k y0) (walkmillref04_Open.j0 (k + 1) y0))
 | 0 => fun _ r h => by simp [walkmillref04_Open.j0] at h
 | k + 1 => by
  have ih0 := walkmillref04_Open.mono_l k
  ·intro y0
   unfold walkmillref04_Open.j0
   repeat' first
   | (with_reducible exact ih0 _)
   | (with_reducible exact walkmillref04_Check.mono _ _ _)
   | (with_reducible exact LeO.refl _)
   | (with_reducible exact LeO.none _)
   | (with_reducible refine LeO.ite ?_ ?_)
   | (with_reducible refine LeO.bind ?_ (fun _ => ?_))
   | exact ih0 _
   | exact walkmillref04_Check.mono _ _ _
   | exact LeO.none _
   | refine LeO.ite ?_ ?_
   | refine LeO.bind ?_ (fun _ => ?_)
theorem walkmillref04_Open.mono : ∀ a0 a1 a2 a3 k, LeO (walkmillref04_Open.f k a0 a1 a2 a3) (walkmillref04_Open.f (k + 1) a0 a1 a2 a3) := by
 intro a0 a1 a2 a3 k
 have ih0 := walkmillref04_Open.mono_l k
 unfold walkmillref04_Open.f
 repeat' first
   | (with_reducible exact ih0 _)
   | (with_reducible exact walkmillref04_Check.mono _ _ _)
   | (with_reducible exact LeO.refl _)
   | (with_reducible exact LeO.none _)
   | (with_reducible refine LeO.ite ?_ ?_)
   | (with_reducible refine LeO.bind ?_ (fun _ => ?_))
   | exact ih0 _
   | exact walkmillref04_Check.mono _ _ _
   | exact LeO.none _
   | refine LeO.ite ?_ ?_
   | refine LeO.bind ?_ (fun _ => ?_)
set_option maxHeartbeats 8000000 in
set_option maxRecDepth 100000 in
theorem walkmillref04_Open.calls (k : Nat) (A0_0 : Option Addr) (c0_0 : Nat) (l0_0 : List (S67)) (A0_1 : Option Addr) (c0_1 : Nat) (l0_1 : List Int) (a1 : Int) (a2 : Int) (r : Int) (w : World) (hr0_0 : Kd.C k67 w A0_0 l0_0.length l0_0) (hc0_0 : l0_0.length ≤ c0_0) (hr0_1 : Kd.C (Kd.int .i64) w A0_1 l0_1.length l0_1) (hc0_1 : l0_1.length ≤ c0_1) (h : walkmillref04_Open.f k l0_0 l0_1 a1 a2 = some r) :
  Calls Tryz.prog 28 #[.agg #[.slice A0_0 l0_0.length c0_0, .slice A0_1 l0_1.length c0_1], .int .i64 a1, .int .i64 a2] w fun e w' => e = .returned (.int .i64 r) ∧ Below w.heap.size w w' := by
 have hu25 := Tryz.underlying25
 have HR0_0 := Aside0.mk hr0_0
 have HC0_0 := Aside0.mk hc0_0
 clear hr0_0 hc0_0
 have HR0_1 := Aside0.mk hr0_1
 have HC0_1 := Aside0.mk hc0_1
 clear hr0_1 hc0_1
 have HB := Aside0.mk (Below.refl w.heap.size w)
 have H : ((walkmillref04_Check.f k l0_0 l0_1).bind fun t102 => (if t102 = 0 then ((walkmillref04_In.f a1 1 5).bind fun t103 => (if t103 = true then ((walkmillref04_In.f a2 0 500).bind fun t104 => (walkmillref04_Open.j0 k (!t104))) else (walkmillref04_Open.j0 k true))) else (some t102))) = some r := h
 clear h
 obtain ⟨t102, A4, H⟩ := bi H
 by_cases c5 : t102 = 0
 ·rw [if_pos c5] at H
  have c5b0 : (t102 == 0) = true := beq_iff_eq.mpr c5
  have c5b1 : (t102 != 0) = false := bne_eq_false_iff_eq.mpr c5
  clear c5
  have HC6 := Aside0.mk H
  clear H
  go_enter Tryz.func28, Tryz.ntmps28
  go_upto_region 4 with (first | ((with_reducible refine gate_dst (N := 3) rfl ?_); refine bx 3 #[.slice A0_0 l0_0.length c0_0, .slice A0_1 l0_1.length c0_1] 25 ?_; intro gb101 hg w7 hbox hb; have BK101 := hbox; have GW101 := gs HB hg; have GE101 := gs HB hg; replace HB := bs HB hb; clear hb hbox hg; obtain ⟨hcz8_0, hcz8_1, hfz8_0, hfz8_1⟩ := cf2 BK101) | ((with_reducible refine gc 21 rfl ?_); refine gL 9 Tryz.func21 #[.agg #[.slice A0_0 l0_0.length c0_0, .slice A0_1 l0_1.length c0_1]] ?_; (with_reducible refine (walkmillref04_Check.calls k _ _ l0_0 _ _ l0_1 t102 _ ?side1 ?side2 ?side3 ?side4 A4.out).mono ?_); (case side1 => exact pC (Kd.C_below HR0_0.out HB.out)); (case side2 => exact HC0_0.out); (case side3 => exact pC (Kd.C_below HR0_1.out HB.out)); (case side4 => exact HC0_1.out); rintro e w9 ⟨rfl, hb⟩; refine ⟨_, rfl, ?_⟩; replace BK101 := bb BK101 hb; replace HB := bs HB hb; clear hb))
  (try simp only [Act.put, List.setIfInBounds_toArray, List.set_cons_zero, List.set_cons_succ])
  go_cut [20] (fun v20 wc => ∃ (kq : Nat) (x20_5 : Bool), v20 = .bool x20_5 ∧ Aside0 (walkmillref04_Open.j0 kq x20_5 = some r) ∧ Aside0 (kq ≤ k) ∧ Aside0 (wc.heap[gb101]? = some (.cells #[(.slice A0_0 l0_0.length c0_0), (.slice A0_1 l0_1.length c0_1)] 25 (0, 0))) ∧ Aside0 (Below w.heap.size w wc))
  case first =>
   have H := HC6.out
   clear HC6
   obtain ⟨t103, A10, H⟩ := bi H
   by_cases c11 : t103 = true
   ·subst c11
    rw [if_pos rfl] at H
    obtain ⟨t104, A12, H⟩ := bi H
    have H' := Aside0.mk H
    clear H
    go_wp2_with (first | ((with_reducible refine gc 41 rfl ?_); refine gL 14 Tryz.func41 #[.int .i64 a1, .int .i64 1, .int .i64 5] ?_; (with_reducible refine (walkmillref04_In.calls a1 1 5 true _ A10.out).mono ?_); rintro e w' ⟨rfl, ⟨nd, rfl⟩⟩; refine ⟨_, rfl, ?_⟩) | (go_at_call 41; (with_reducible refine (walkmillref04_In.calls a2 0 500 t104 _ A12.out).mono ?_); rintro e w' ⟨rfl, ⟨nd, rfl⟩⟩))
    go_meet
    case rel => exact ⟨_, (!t104), (by first | rfl | (simp; done) | (simp [*]; done)), H', ⟨by first | omega | exact Nat.le_refl _⟩, ⟨by (with_reducible repeat (first | refine blk_drewN ?_ _ | refine blk_drew ?_ | refine blk_alloc ?_ _)); exact BK101.out⟩, ⟨pE HB⟩⟩
   ·replace c11 := Bool.eq_false_iff.mpr c11
    subst c11
    rw [if_neg (show ¬ (false = true) by decide)] at H
    have H' := Aside0.mk H
    clear H
    go_wp2_with (first | ((with_reducible refine gc 41 rfl ?_); refine gL 14 Tryz.func41 #[.int .i64 a1, .int .i64 1, .int .i64 5] ?_; (with_reducible refine (walkmillref04_In.calls a1 1 5 false _ A10.out).mono ?_); rintro e w' ⟨rfl, ⟨nd, rfl⟩⟩; refine ⟨_, rfl, ?_⟩))
    go_meet
    case rel => exact ⟨_, (true), (by first | rfl | (simp; done) | (simp [*]; done)), H', ⟨by first | omega | exact Nat.le_refl _⟩, ⟨by (with_reducible repeat (first | refine blk_drewN ?_ _ | refine blk_drew ?_ | refine blk_alloc ?_ _)); exact BK101.out⟩, ⟨pE HB⟩⟩
  case rest =>
   clear HC6
   try clear c1
   try clear c2
   try clear p2
   try clear c4
   try clear c5
   try clear c5b0
   try clear c5b1
   try clear c11
   try clear hcz8_0
   try clear hcz8_1
   try clear hfz8_0
   try clear hfz8_1
   obtain ⟨kq, x20_5, rfl, HA, HJ5, BK101, HB⟩ := hcut
   cases kq with
   | zero => exact absurd HA.out (by simp [walkmillref04_Open.j0])
   | succ kj5 =>
    have H := HA.out
    clear HA
    simp only [walkmillref04_Open.j0] at H
    by_cases c13 : x20_5 = true
    ·subst c13
     rw [if_pos rfl] at H
     obtain rfl := Option.some.inj H
     go_wp2
     go_ret
     exact ⟨eT, pE HB⟩
    ·replace c13 := Bool.eq_false_iff.mpr c13
     subst c13
     rw [if_neg (show ¬ (false = true) by decide)] at H
     obtain rfl := Option.some.inj H
     go_wp2
     go_ret
     exact ⟨eT, pE HB⟩
 ·rw [if_neg c5] at H
  have c5b0 : (t102 == 0) = false := beq_eq_false_iff_ne.mpr c5
  have c5b1 : (t102 != 0) = true := bne_iff_ne.mpr c5
  obtain rfl := Option.some.inj H
  go_enter Tryz.func28, Tryz.ntmps28
  go_wp2_with (first | ((with_reducible refine gate_dst (N := 3) rfl ?_); refine bx 3 #[.slice A0_0 l0_0.length c0_0, .slice A0_1 l0_1.length c0_1] 25 ?_; intro gb101 hg w14 hbox hb; have BK101 := hbox; have GW101 := gs HB hg; have GE101 := gs HB hg; replace HB := bs HB hb; clear hb hbox hg; obtain ⟨_, _, _, _⟩ := cf2 BK101) | ((with_reducible refine gc 21 rfl ?_); refine gL 9 Tryz.func21 #[.agg #[.slice A0_0 l0_0.length c0_0, .slice A0_1 l0_1.length c0_1]] ?_; (with_reducible refine (walkmillref04_Check.calls k _ _ l0_0 _ _ l0_1 t102 _ ?side1 ?side2 ?side3 ?side4 A4.out).mono ?_); (case side1 => exact pC (Kd.C_below HR0_0.out HB.out)); (case side2 => exact HC0_0.out); (case side3 => exact pC (Kd.C_below HR0_1.out HB.out)); (case side4 => exact HC0_1.out); rintro e w16 ⟨rfl, hb⟩; refine ⟨_, rfl, ?_⟩; replace BK101 := bb BK101 hb; replace HB := bs HB hb; clear hb))
  go_ret
  exact ⟨eT, pE HB⟩
end Go.Proofs.YtlmglnobdcgbeaaGreat.P
namespace Go.Proofs.YtlmglnobdcgbeaaGreat.P
open Go.RowKit Go.Proofs.YtlmglnobdcgbeaaGreatW.PrintWords Go.Proofs.YtlmglnobdcgbeaaGreatW.PrintLast Go.Proofs.YtlmglnobdcgbeaaGreatW.PrintMore
theorem ordA_in {cl : List S67} {rk : List Int} : ∀ x ∈ ordA cl rk, 0 ≤ x ∧ x < (cl.length : Int) := fun x hx => mem_rng.1 ((ordA_perm cl rk).mem_iff.1 hx)
theorem ordA_len (cl : List S67) (rk : List Int) : (ordA cl rk).length = cl.length := by rw [(ordA_perm cl rk).length_eq, rng_length]
theorem rOpen_eq (cl : List S67) (rk : List Int) (hc : cl.length ≤ 1000) (hr : rk.length ≤ 1000) (s l : Int) (k : Nat) (hk : 2 * cl.length + 2 * rk.length + 5 < k) : walkmillref04_Open.f k cl rk s l = some (if chk cl rk = 0 then (if (isIn 1 5 s && isIn 0 500 l) = true then 0 else 3) else chk cl rk) := by
  unfold walkmillref04_Open.f
  rw [rCheck_eq cl rk hc hr k hk, rIn_eq, rIn_eq]
  obtain ⟨k, rfl⟩ : ∃ m, k = m + 1 := ⟨k - 1, by omega⟩
  simp only [Option.bind_some]
  have hj : ∀ b : Bool, walkmillref04_Open.j0 (k + 1) b = some (if b = true then 3 else 0) := fun b => by rw [walkmillref04_Open.j0]; cases b <;> rfl
  rw [hj, hj]
  by_cases h : chk cl rk = 0
  · simp only [h, if_true]; cases isIn 1 5 s <;> cases isIn 0 500 l <;> simp
  · simp only [h, if_false]
end Go.Proofs.YtlmglnobdcgbeaaGreat.P
namespace Go.Proofs.YtlmglnobdcgbeaaGreat.P
open Go.RowKit Go.Proofs.YtlmglnobdcgbeaaGreatW.PrintWords Go.Proofs.YtlmglnobdcgbeaaGreatW.PrintLast Go.Proofs.YtlmglnobdcgbeaaGreatW.PrintMore
attribute [local go_sem] max2_int min2_int max_two min_two max_three min_three max_four min_four
def api_TurnCloth_111.f (l0 : List (S67)) : Option ((List (S67))) := (some (([] : List (S67)) : List (S67))).bind fun y101 => (if y101.length + l0.length < 4398046511104 then (some (y101 ++ l0)) else (none))
set_option maxHeartbeats 8000000 in
set_option maxRecDepth 100000 in
theorem api_TurnCloth_111.calls (A0 : Option Addr) (c0 : Nat) (l0 : List (S67)) (r : List (S67)) (w : World) (hr0 : Kd.C k67 w A0 l0.length l0) (hc0 : l0.length ≤ c0) (h : api_TurnCloth_111.f l0 = some r) :
  Calls Tryz.prog 111 #[.slice A0 l0.length c0] w fun e w' => ∃ v0_ : Value, e = .returned (v0_) ∧ Kd.R k67 67 w' w.heap.size (fun _ => True) v0_ r ∧ Below w.heap.size w w' := by
 cases A0 with
 | none =>
  have hl : l0 = [] := by
   cases l0 with
   | nil => rfl
   | cons x t => obtain ⟨ad, e, _⟩ := hr0.2.2 (by simp); cases e
  subst hl
  obtain rfl : [] = r := by simpa [api_TurnCloth_111.f] using h
  have hnl := fun (w_ : World) => Lib.run_eql_slice_nil_nil (P := Tryz.prog) w_ (t := 22) 0 c0 Tryz.underlying22
  clear h hr0 hc0
  go_enter Tryz.func111, Tryz.ntmps111
  go_wp2
  go_ret
  exact ⟨_, rfl, Kd.R_nil _ _ _ _ _, Below.refl _ _⟩
 | some ad0 =>
  have hnl := fun (w_ : World) (n_ c_ : Nat) => Lib.run_eql_slice_nil (P := Tryz.prog) w_ 22 67 (some ad0) n_ c_ 0 0 Tryz.underlying22
  have HR0 := Aside0.mk hr0
  have HC0 := Aside0.mk hc0
  clear hr0 hc0
  have HB := Aside0.mk (Below.refl w.heap.size w)
  have H : ((some (([] : List (S67)) : List (S67))).bind fun y101 => (if y101.length + l0.length < 4398046511104 then (some (y101 ++ l0)) else (none))) = some r := h
  clear h
  obtain ⟨y101, hy101⟩ : ∃ y_ : List (S67), y_ = (([] : List (S67))) := ⟨_, rfl⟩
  replace H : (if y101.length + l0.length < 4398046511104 then (some (y101 ++ l0)) else (none)) = some r := yy hy101 H
  have Ny101 := Aside0.mk hy101
  clear hy101
  by_cases c2 : y101.length + l0.length < 4398046511104
  ·rw [if_pos c2] at H
   have LMc2 := Aside0.mk c2
   clear c2
   obtain ⟨y104, hy104⟩ : ∃ y_ : List (S67), y_ = (y101 ++ l0) := ⟨_, rfl⟩
   replace H : (some y104) = some r := yy hy104 H
   have Ny104 := Aside0.mk hy104
   clear hy104
   obtain rfl := Option.some.inj H
   go_enter Tryz.func111, Tryz.ntmps111
   go_wp2_with (first | ((with_reducible refine gate_dst (N := 5) rfl ?_); refine Kd.R_lit k67 _ 67 ?hg (N := 5) ?hd (xs := ([] : List (S67))) (inner := []) (ok := fun _ => True) (okp := fun _ => True) ?hr ?hp (fun _ hk => hk) trivial (Below.refl _ _) (Nat.le_refl _) (by simp) ?_; (case hd => rfl); (case hg => rfl); (case hr => first | (go_simp; done) | (go_simp; rfl)); (case hp => exact (Reps.none _ _)); intro v102 w3 ho4 hb hg_ hnew_; clear hg_ hnew_; (first | rw [← Ny101.out] at ho4 | (simp only [Int.reduceToNat] at ho4; rw [← Ny101.out] at ho4)); have HO103 := rl ho4 HB; replace HB := bs HB hb; clear hb ho4) | ((with_reducible refine gate_builtin (b := .append) (xs := #[.tmp 5, .tmp 6]) rfl ?_); at_builtin; refine Kd.R_append_rows k67 (w0 := w) w.heap.size rfl (.tmp 5) (.tmp 6) 22 67 (.agg #[(.int .i64 0), (.int .i64 0), (.int .i64 0), (.int .i64 0)]) 32 rfl Tryz.underlying22 info67 rfl (by decide) (by omega) v102 y101 l0 _ _ _ (fun _ => True) (fun _ => False) rfl rfl ?aO ?aR (fun _ _ h => h) (fun _ h => h.elim) ?aF ?aB ?aS ?aL ?_; (case aR => exact pC (Kd.C_below HR0.out HB.out)); (case aB => exact (pE HB)); (case aF => exact (fun _ _ => trivial)); (case aO => exact (pR HO103.out)); (case aS => exact (below_size (pE HB))); (case aL => have := LMc2.out; omega); intro v105 w5 ho hb hg hat; rw [← Ny104.out] at ho; replace HB := Aside0.mk (hb); have HO106 := Aside0.mk (ho); clear HO103; clear ho hb hg hat))
   go_ret
   exact ⟨_, eT, by (with_reducible repeat (first | apply Kd.R_alloc | apply Kd.R_drewN | apply Kd.R_drew)); exact HO106.out, pE HB⟩
  ·rw [if_neg c2] at H
   exact absurd H (by simp)
def turn_day_longer.f (l0_0 : List (S67)) (l0_1 : List Int) (a1 : Int) (a2 : Int) : Option ((List (S67)) × List Int) := (api_TurnCloth_111.f l0_0).bind fun t103 => (if 0 ≤ a1 then (if a1 < (t103.length : Int) then (some ((t103.set (a1 : Int).toNat (⟨(rd_T67 t103 a1).f0, (rd_T67 t103 a1).f1, (⟨(rd_T67 t103 a1).f2.f0, wrap64 (((rd_T67 t103 a1).f2.f1) + a2)⟩ : S42)⟩ : S67)), l0_1)) else (none)) else (none))
set_option maxHeartbeats 8000000 in
set_option maxRecDepth 100000 in
theorem turn_day_longer.calls (A0_0 : Option Addr) (c0_0 : Nat) (l0_0 : List (S67)) (P0_1_ : Nat → Prop) (A0_1 : Option Addr) (c0_1 : Nat) (l0_1 : List Int) (a1 : Int) (a2 : Int) (r1 : List (S67)) (r2 : List Int) (w : World) (hr0_0 : Kd.C k67 w A0_0 l0_0.length l0_0) (hc0_0 : l0_0.length ≤ c0_0) (hs0_1 : Kd.V (Kd.int .i64) 3 w w.heap.size (fun k_ => P0_1_ k_) (.slice A0_1 l0_1.length c0_1) l0_1) (h : turn_day_longer.f l0_0 l0_1 a1 a2 = some (r1, r2)) :
  Calls Tryz.prog 88 #[.agg #[.slice A0_0 l0_0.length c0_0, .slice A0_1 l0_1.length c0_1], .int .i64 a1, .int .i64 a2] w fun e w' => ∃ v0_ v1_ : Value, e = .returned (.agg #[v0_, v1_]) ∧ Kd.R k67 67 w' w.heap.size (fun k_ => (w.heap.size ≤ k_)) v0_ r1 ∧ Kd.V (Kd.int .i64) 3 w' w.heap.size (fun k_ => (P0_1_ k_ ∨ w.heap.size ≤ k_) ∧ some k_ ≠ (v0_ : Value).ownBlock) v1_ r2 ∧ Below w.heap.size w w' := by
 have hu99 := Tryz.underlying99
 have HR0_0 := Aside0.mk hr0_0
 have HC0_0 := Aside0.mk hc0_0
 clear hr0_0 hc0_0
 have HO0_1 := Aside0.mk (show Kd.V (Kd.int .i64) 3 w w.heap.size (fun k_ => (P0_1_ k_ ∨ w.heap.size ≤ k_)) (.slice A0_1 l0_1.length c0_1) l0_1 from Kd.V_mono hs0_1 (fun k_ hk => .inl hk))
 have HB := Aside0.mk (Below.refl w.heap.size w)
 have H : ((api_TurnCloth_111.f l0_0).bind fun t103 => (if 0 ≤ a1 then (if a1 < (t103.length : Int) then (some ((t103.set (a1 : Int).toNat (⟨(rd_T67 t103 a1).f0, (rd_T67 t103 a1).f1, (⟨(rd_T67 t103 a1).f2.f0, wrap64 (((rd_T67 t103 a1).f2.f1) + a2)⟩ : S42)⟩ : S67)), l0_1)) else (none)) else (none))) = some (r1, r2) := h
 clear h
 obtain ⟨t103, A4, H⟩ := bi H
 by_cases c5 : 0 ≤ a1
 ·rw [if_pos c5] at H
  have c5b0 : decide (0 ≤ a1) = true := decide_eq_true c5
  clear c5
  by_cases c6 : a1 < (t103.length : Int)
  ·rw [if_pos c6] at H
   have c6b0 : decide (a1 < (t103.length : Int)) = true := decide_eq_true c6
   clear c6
   obtain ⟨y107, hy107⟩ : ∃ y_ : List (S67), y_ = (t103.set (a1 : Int).toNat (⟨(rd_T67 t103 a1).f0, (rd_T67 t103 a1).f1, (⟨(rd_T67 t103 a1).f2.f0, wrap64 (((rd_T67 t103 a1).f2.f1) + a2)⟩ : S42)⟩ : S67)) := ⟨_, rfl⟩
   replace H : (some (y107, l0_1)) = some (r1, r2) := yy hy107 H
   have Ny107 := Aside0.mk hy107
   clear hy107
   simp only [Option.some.injEq, Prod.mk.injEq] at H
   obtain ⟨rfl, rfl⟩ := H
   go_enter Tryz.func88, Tryz.ntmps88
   go_wp2_with (first | ((with_reducible refine gate_dst (N := 3) rfl ?_); refine bx 3 #[.slice A0_0 l0_0.length c0_0, .slice A0_1 l0_1.length c0_1] 99 ?_; intro gb101 hg w8 hbox hb; replace HO0_1 := ve HO0_1 hg hb; have BK101 := hbox; have GW101 := gs HB hg; have GE101 := gs HB hg; replace HB := bs HB hb; clear hb hbox hg) | ((with_reducible refine gate_dst (N := 6) rfl ?_); refine bx 6 #[.slice none 0 0, .slice none 0 0] 99 ?_; intro gb102 hg w9 hbox hb; replace HO0_1 := ve HO0_1 hg hb; have BK102 := hbox; have GW102 := gs HB hg; have GE102 := gs HB hg; replace HB := bs HB hb; have NB101_102 := nl BK101 hg; have NB102_101 := nr BK101 hg; replace BK101 := bb BK101 hb; clear hb hbox hg; have hnb10 := NB101_102.out; have hnc10 := NB102_101.out; obtain ⟨_, _, _, _⟩ := cf2 BK101) | ((with_reducible refine gc 111 rfl ?_); refine gL 10 Tryz.func111 #[.slice A0_0 l0_0.length c0_0] ?_; (with_reducible refine (api_TurnCloth_111.calls _ _ l0_0 t103 _ ?side1 ?side2 A4.out).mono ?_); (case side1 => exact pC (Kd.C_below HR0_0.out HB.out)); (case side2 => exact HC0_0.out); rintro e w12 ⟨v104, rfl, ho0, hb⟩; refine ⟨_, rfl, ?_⟩; replace HO0_1 := Aside0.mk (Kd.V_elder' (pV HO0_1.out) (Kd.R_base ho0) hb); have HO105 := Aside0.mk (Kd.R_lower (Kd.R_newM (M := fun k_ => (w.heap.size ≤ k_)) ho0 (below_size (pE HB)) (fun k_ h_ => h_)) (below_size (pE HB))); replace BK101 := bb BK101 hb; replace BK102 := bb BK102 hb; replace HB := bs HB hb; clear hb ho0; obtain ⟨Ao13, co13, eo13⟩ := Kd.R_slice HO105.out; subst eo13; obtain ⟨_, _, _, _⟩ := cf2 BK101) | ((with_reducible refine gate_store (t := 22) (p := 12) rfl ?_); refine store_event (t := 22) (p := 12) (v := ?vo_w15) (w1 := (w12.setCell ⟨gb101, 0, none⟩ (.slice Ao13 t103.length co13))) ?hg ?ho ?hn ?hr ?_; (case ho => rfl); (case hg => rfl); (case hn => rfl); (case hr => first | (go_simp; done) | (go_simp; rfl)); intro w15 hw; have n0_ : Aside0 (Kd.V (Kd.int .i64) 3 w15 w.heap.size (fun k_ => (P0_1_ k_ ∨ w.heap.size ≤ k_) ∧ some k_ ≠ (.slice Ao13 t103.length co13 : Value).ownBlock ∧ k_ ≠ gb101 ∧ k_ ≠ gb102) (.slice A0_1 l0_1.length c0_1) l0_1) := ⟨(by rw [hw]; exact (by refine pV ?_; exact Kd.V_mono (Kd.V_far (p := ⟨gb101, 0, none⟩) (Kd.V_mono HO0_1.out (fun k_ hk => (⟨hk, hk.1.1.2⟩ : _ ∧ k_ ≠ gb101))) (fun _ hk => hk.2) (.slice Ao13 t103.length co13)) (fun _ hk => ⟨hk.1.1.1.1, ⟨hk.1.2, ⟨hk.1.1.1.2, hk.1.1.2⟩⟩⟩)))⟩; have n1_ : Aside0 (Kd.R k67 67 w15 w.heap.size (fun k_ => (w.heap.size ≤ k_)) (.slice Ao13 t103.length co13) t103) := ⟨(by rw [hw]; exact (by refine pR ?_; exact Kd.R_mono (Kd.R_far (p := ⟨gb101, 0, none⟩) (Kd.R_types HO105.out BK101.out (by decide)) (fun _ hk => hk.2) (.slice Ao13 t103.length co13)) (fun _ hk => hk.1.1)))⟩; have n2_ : Aside0 (w15.heap[gb101]? = some (.cells #[.slice Ao13 t103.length co13, .slice A0_1 l0_1.length c0_1] 99 (0, 0))) := ⟨(by rw [hw]; exact (by refine pB ?_; refine blk_put (cs := #[.slice A0_0 l0_0.length c0_0, .slice A0_1 l0_1.length c0_1]) ?_ 0 _ rfl; (with_reducible repeat (first | refine blk_drewN ?_ _ | refine blk_drew ?_ | refine blk_alloc ?_ _)); exact BK101.out))⟩; have n3_ : Aside0 (w15.heap[gb102]? = some (.cells #[.slice none 0 0, .slice none 0 0] 99 (0, 0))) := ⟨(by rw [hw]; exact (pF BK102))⟩; have n4_ : Aside0 (Below w.heap.size w w15) := ⟨(by rw [hw]; exact (pE HB))⟩; clear hw; clear HO0_1; clear HO105; clear BK101; clear BK102; clear HB; have HO0_1 := n0_; have HO105 := n1_; have BK101 := n2_; have BK102 := n3_; have HB := n4_; clear n0_ n1_ n2_ n3_ n4_; obtain ⟨_, _, _, _⟩ := cf2 BK101; have p106 : 0 ≤ (a1 : Int) := dT; have q106 : a1 < (t103.length : Int) := dT; obtain ⟨ad106, e106, hx106_0, hx106_1, hx106_2, hx106_3⟩ := at_T67 (Kd.R_reads' HO105.out).2.2 a1 p106 q106; cases e106; replace p106 := eq_true p106; replace q106 := eq_true q106; have p7 : 0 ≤ (a1 : Int) := dT; have q7 : (a1 : Int) < ((t103.length : Int) : Int) := dT; obtain ⟨go7, co7, eo7, gb7, gl7, cl7, HG7⟩ := Kd.R_form HO105.out (by omega); (first | cases eo7 | (injection eo7 with ea_ en_ ec_; (first | subst ea_ | (injection ea_ with ea_; subst ea_)); subst ec_; clear en_)); have GB7 := Aside0.mk gb7; have GG7 := Aside0.mk HG7; clear gb7 gl7 HG7; (first | simp only [add_plain] at hx106_0 | skip); (first | simp only [add_plain] at hx106_1 | skip); (first | simp only [add_plain] at hx106_2 | skip); (first | simp only [add_plain] at hx106_3 | skip); obtain ⟨ce7, hcl7, hM7, hcc7, hfr7⟩ := Kd.R_elem HO105.out z67 (a1 : Int) p7 q7; obtain rfl := k67_openM hM7; have hx7_0 : w15.cell? ⟨go7, (a1 : Int).toNat * 4, none⟩ = some (.int .i64 ((rd_T67 t103 a1).f0)) := hcc7 0 _ rfl; have hx7_1 : w15.cell? ⟨go7, (a1 : Int).toNat * 4 + 1, none⟩ = some (.int .i64 ((rd_T67 t103 a1).f1)) := hcc7 1 _ rfl; have hx7_2 : w15.cell? ⟨go7, (a1 : Int).toNat * 4 + 2, none⟩ = some (.int .i64 ((rd_T67 t103 a1).f2.f0)) := hcc7 2 _ rfl; have hx7_3 : w15.cell? ⟨go7, (a1 : Int).toNat * 4 + 3, none⟩ = some (.int .i64 ((rd_T67 t103 a1).f2.f1)) := hcc7 3 _ rfl; have hf7_0 : w15.frozen? ⟨go7, (a1 : Int).toNat * 4, none⟩ = false := hfr7 0; have hf7_1 : w15.frozen? ⟨go7, (a1 : Int).toNat * 4 + 1, none⟩ = false := hfr7 1; have hf7_2 : w15.frozen? ⟨go7, (a1 : Int).toNat * 4 + 2, none⟩ = false := hfr7 2; have hf7_3 : w15.frozen? ⟨go7, (a1 : Int).toNat * 4 + 3, none⟩ = false := hfr7 3; clear hcl7 hcc7 hfr7 hM7; replace p7 := eq_true p7; replace q7 := eq_true q7; have HX17 := Aside0.mk (show Kd.R k67 67 w15 w.heap.size (fun k_ => (w.heap.size ≤ k_)) (.slice (some ⟨go7, 0, none⟩) t103.length co13) t103 from (pR HO105.out)); obtain ⟨ce17, hcl17, hM17, hcc17, hfr17⟩ := Kd.R_elem HX17.out z67 (a1 : Int) (dT) (by have h_ : (a1 : Int) < ((t103.length : Int) : Int) := dT; first | exact h_ | (have e_ := (Kd.R_reads' HO105.out).1; omega) | simpa using h_); obtain rfl := k67_openM hM17; have HP17 := Kd.R_seg HX17.out (a1 : Int) (dT) (by have h_ : (a1 : Int) < ((t103.length : Int) : Int) := dT; first | exact h_ | (have e_ := (Kd.R_reads' HO105.out).1; omega) | simpa using h_) (seg := [.int .i64 (wrap64 (((rd_T67 t103 a1).f2.f1) + a2))]) (j := 3) hcl17 hcc17 (show 4 ≤ 4 from by decide) (x' := (⟨(rd_T67 t103 a1).f0, (rd_T67 t103 a1).f1, (⟨(rd_T67 t103 a1).f2.f0, wrap64 (((rd_T67 t103 a1).f2.f1) + a2)⟩ : S42)⟩ : S67)) (k67_mkM _ _ _ (⟨(rd_T67 t103 a1).f0, (rd_T67 t103 a1).f1, (⟨(rd_T67 t103 a1).f2.f0, wrap64 (((rd_T67 t103 a1).f2.f1) + a2)⟩ : S42)⟩ : S67) ) (fun _ hk => hk); have hx17_3 := hcc17 3 _ rfl; (try simp only [show (k67).sz = 4 from rfl, Nat.mul_one, Nat.add_zero] at hx17_3); have hf17_3 := hfr17 3; (try simp only [show (k67).sz = 4 from rfl, Nat.mul_one, Nat.add_zero] at hf17_3); clear hcl17 hcc17 hfr17 hM17) | ((with_reducible refine gate_store (t := 3) (p := 25) rfl ?_); refine store_event (t := 3) (p := 25) (v := ?vo_w18) (w1 := (w15.setCell ⟨go7, (a1 : Int).toNat * 4 + 3, none⟩ (.int .i64 (wrap64 (((rd_T67 t103 a1).f2.f1) + a2))))) ?hg ?ho ?hn ?hr ?_; (case ho => rfl); (case hg => rfl); (case hn => rfl); (case hr => first | (go_simp; done) | (go_simp; rfl)); intro w18 hw; have hg : w15.grownBy w18 (some go7) := (by rw [hw]; exact HP17.2); have hp_ : Kd.R k67 67 w18 w.heap.size (fun k_ => (w.heap.size ≤ k_)) (.slice (some ⟨go7, 0, none⟩) t103.length co13) y107 := (by rw [hw, Ny107.out]; exact HP17.1); clear HP17; replace HO0_1 := Aside0.mk (Kd.V_afterv (v := (.slice (some ⟨go7, 0, none⟩) t103.length co13)) (v1 := (.slice (some ⟨go7, 0, none⟩) t103.length co13)) (ok := (fun k_ => (P0_1_ k_ ∨ w.heap.size ≤ k_) ∧ k_ ≠ gb101 ∧ k_ ≠ gb102)) (by refine pV ?_; exact Kd.V_mono HO0_1.out (fun _ hk => ⟨⟨hk.1, ⟨hk.2.2.1, hk.2.2.2⟩⟩, hk.2.1⟩)) hg (.inl rfl)); replace BK101 := Aside0.mk (blk_grown (g := gb101) (o := .cells #[.slice (some ⟨go7, 0, none⟩) t103.length co13, .slice A0_1 l0_1.length c0_1] 99 (0, 0)) (pB BK101.out) hg (Kd.R_ne HO105.out BK101.out (by decide))); replace BK102 := Aside0.mk (blk_grown (g := gb102) (o := .cells #[.slice none 0 0, .slice none 0 0] 99 (0, 0)) (pB BK102.out) hg (Kd.R_ne HO105.out BK102.out (by decide))); replace HO105 := Aside0.mk (hp_); replace HB := Aside0.mk ((by rw [hw]; exact below_set (HB.out) GB7.out : Below w.heap.size w w18)); clear hg hw hp_; obtain ⟨_, _, _, _⟩ := cf2 BK101; obtain ⟨_, _, _, _⟩ := cf2 BK102))
   refine bodyPost_ret (results_cell_row rfl _ _ gb102 99 #[.slice (some ⟨go7, 0, none⟩) t103.length co13, .slice A0_1 l0_1.length c0_1] (0, 0) _ rfl (by refine pB ?_; refine blk_put (cs := #[.slice (some ⟨go7, 0, none⟩) t103.length co13, .slice none 0 0]) ?_ 1 _ rfl; refine pB ?_; refine blk_put (cs := #[.slice none 0 0, .slice none 0 0]) ?_ 0 _ rfl; (with_reducible repeat (first | refine blk_drewN ?_ _ | refine blk_drew ?_ | refine blk_alloc ?_ _)); exact BK102.out) Tryz.underlying99 rfl (by kernel_rfl)) rfl ?_
   exact ⟨_, _, eT, by (with_reducible repeat (first | apply Kd.R_alloc | apply Kd.R_drewN | apply Kd.R_drew)); exact Kd.R_mono (Kd.R_far (p := ⟨gb102, 1, none⟩) (Kd.R_far (p := ⟨gb102, 0, none⟩) (Kd.R_types HO105.out BK102.out (by decide)) (fun _ hk => hk.2) (.slice (some ⟨go7, 0, none⟩) t103.length co13)) (fun _ hk => hk.2) (.slice A0_1 l0_1.length c0_1)) (fun _ hk => hk.1), by (with_reducible repeat (first | apply Kd.V_alloc | apply Kd.V_drewN | apply Kd.V_drew)); exact Kd.V_mono (Kd.V_far (p := ⟨gb102, 1, none⟩) (Kd.V_far (p := ⟨gb102, 0, none⟩) (Kd.V_mono HO0_1.out (fun k_ hk => (⟨hk, hk.1.2.2⟩ : _ ∧ k_ ≠ gb102))) (fun _ hk => hk.2) (.slice (some ⟨go7, 0, none⟩) t103.length co13)) (fun _ hk => hk.2) (.slice A0_1 l0_1.length c0_1)) (fun _ hk => ⟨hk.1.1.1, hk.1.2⟩), pE HB⟩
  ·rw [if_neg c6] at H
   exact absurd H (by simp)
 ·rw [if_neg c5] at H
  exact absurd H (by simp)
def turn_Slack_1.f (k : Nat) (a0 : Int) (l1_0 : List (S67)) (l1_1 : List Int) (a2_0 : Int) (a3_0 : Int) (a4_0 : Int) : Option (Bool) := (turn_day_longer.f l1_0 l1_1 a2_0 (wrap64 (a0 + 1))).bind fun bt101 => ((turn_day_order.f k l1_0 l1_1).bind fun t107 => ((turn_day_isLate.f bt101.1 bt101.2 t107 a3_0 a4_0).bind fun t110 => (some t110)))
theorem turn_Slack_1.mono : ∀ a0 a1 a2 a3 a4 a5 k, LeO (turn_Slack_1.f k a0 a1 a2 a3 a4 a5) (turn_Slack_1.f (k + 1) a0 a1 a2 a3 a4 a5) := by
 intro a0 a1 a2 a3 a4 a5 k
 unfold turn_Slack_1.f
 repeat' first
   | (with_reducible exact turn_day_order.mono _ _ _)
   | (with_reducible exact LeO.refl _)
   | (with_reducible exact LeO.none _)
   | (with_reducible refine LeO.ite ?_ ?_)
   | (with_reducible refine LeO.bind ?_ (fun _ => ?_))
   | exact turn_day_order.mono _ _ _
   | exact LeO.none _
   | refine LeO.ite ?_ ?_
   | refine LeO.bind ?_ (fun _ => ?_)
def turn_Slack_1.T1 : Bool × List (List Nat × List Nat) := (true, [([], []), ([], []), ([], []), ([2], [2]), ([0, 1, 3], [0, 1, 3]), ([], []), ([5, 4], [5]), ([], []), ([], []), ([4, 6, 7, 8, 6], [4, 6, 7, 8]), ([9, 9, 0, 1, 2, 3, 4, 5, 6, 7, 8, 9], [9])])
def turn_Slack_1.B1 : List Nat := [0, 0, 0, 4, 15, 0, 63, 0, 0, 511, 1023]
theorem turn_Slack_1.tab1 : rtab .any (opsOf Tryz.f87 1) = turn_Slack_1.T1 := by kernel_rfl
theorem turn_Slack_1.bits1 : waitsOk turn_Slack_1.T1.2 turn_Slack_1.B1 = true := by kernel_rfl
set_option maxHeartbeats 8000000 in
set_option maxRecDepth 100000 in
theorem turn_Slack_1.calls (k : Nat) (a0 : Int) (B1 : Nat) (A1_0 : Option Addr) (c1_0 : Nat) (l1_0 : List (S67)) (A1_1 : Option Addr) (c1_1 : Nat) (l1_1 : List Int) (B2 : Nat) (a2_0 : Int) (B3 : Nat) (a3_0 : Int) (B4 : Nat) (a4_0 : Int) (r : Bool) (w : World) (hb1 : w.heap[B1]? = some (.cells #[.slice A1_0 l1_0.length c1_0, .slice A1_1 l1_1.length c1_1] 99 (0, 0))) (hr1_0 : Kd.C k67 w A1_0 l1_0.length l1_0) (hc1_0 : l1_0.length ≤ c1_0) (hr1_1 : Kd.C (Kd.int .i64) w A1_1 l1_1.length l1_1) (hc1_1 : l1_1.length ≤ c1_1) (hb2 : w.heap[B2]? = some (.cells #[.int .i64 a2_0] 3 (0, 0))) (nb1_2 : B1 ≠ B2) (hb3 : w.heap[B3]? = some (.cells #[.int .i64 a3_0] 3 (0, 0))) (nb1_3 : B1 ≠ B3) (nb2_3 : B2 ≠ B3) (hb4 : w.heap[B4]? = some (.cells #[.int .i64 a4_0] 3 (0, 0))) (nb1_4 : B1 ≠ B4) (nb2_4 : B2 ≠ B4) (nb3_4 : B3 ≠ B4) (h : turn_Slack_1.f k a0 l1_0 l1_1 a2_0 a3_0 a4_0 = some r) :
  Calls Tryz.prog 87 #[.int .i64 a0, .pointer (some ⟨B1, 0, none⟩), .pointer (some ⟨B2, 0, none⟩), .pointer (some ⟨B3, 0, none⟩), .pointer (some ⟨B4, 0, none⟩)] w fun e w' => e = .returned (.bool r) ∧ Below w.heap.size w w' := by
 have hu99 := Tryz.underlying99
 have HR1_0 := Aside0.mk hr1_0
 have HC1_0 := Aside0.mk hc1_0
 clear hr1_0 hc1_0
 have HR1_1 := Aside0.mk hr1_1
 have HC1_1 := Aside0.mk hc1_1
 clear hr1_1 hc1_1
 have BK1 := Aside0.mk hb1
 clear hb1
 have BK2 := Aside0.mk hb2
 clear hb2
 have NB1_2 := Aside0.mk nb1_2
 have NB2_1 := Aside0.mk nb1_2.symm
 clear nb1_2
 have BK3 := Aside0.mk hb3
 clear hb3
 have NB1_3 := Aside0.mk nb1_3
 have NB3_1 := Aside0.mk nb1_3.symm
 clear nb1_3
 have NB2_3 := Aside0.mk nb2_3
 have NB3_2 := Aside0.mk nb2_3.symm
 clear nb2_3
 have BK4 := Aside0.mk hb4
 clear hb4
 have NB1_4 := Aside0.mk nb1_4
 have NB4_1 := Aside0.mk nb1_4.symm
 clear nb1_4
 have NB2_4 := Aside0.mk nb2_4
 have NB4_2 := Aside0.mk nb2_4.symm
 clear nb2_4
 have NB3_4 := Aside0.mk nb3_4
 have NB4_3 := Aside0.mk nb3_4.symm
 clear nb3_4
 have HB := Aside0.mk (Below.refl w.heap.size w)
 have H : ((turn_day_longer.f l1_0 l1_1 a2_0 (wrap64 (a0 + 1))).bind fun bt101 => ((turn_day_order.f k l1_0 l1_1).bind fun t107 => ((turn_day_isLate.f bt101.1 bt101.2 t107 a3_0 a4_0).bind fun t110 => (some t110)))) = some r := h
 clear h
 obtain ⟨⟨t101, t104⟩, A6, H⟩ := bi H
 obtain ⟨t107, A7, H⟩ := bi H
 obtain ⟨t110, A8, H⟩ := bi H
 obtain rfl := Option.some.inj H
 go_enter Tryz.func87, Tryz.ntmps87
 try go_wp2
 replace BK1 := Aside0.mk (blk_drew BK1.out)
 replace BK2 := Aside0.mk (blk_drew BK2.out)
 replace BK3 := Aside0.mk (blk_drew BK3.out)
 replace BK4 := Aside0.mk (blk_drew BK4.out)
 replace HB := Aside0.mk (below_drew1 HB.out)
 refine start_ (n := 11) (S := fun w' => w'.cell? ⟨B1, 0, none⟩ = some (.slice A1_0 l1_0.length c1_0) ∧ w'.cell? ⟨B1, 1, none⟩ = some (.slice A1_1 l1_1.length c1_1) ∧ w'.cell? ⟨B2, 0, none⟩ = some (.int .i64 a2_0) ∧ w'.cell? ⟨B3, 0, none⟩ = some (.int .i64 a3_0) ∧ w'.cell? ⟨B4, 0, none⟩ = some (.int .i64 a4_0)) (ds := []) #[false, false, false, false, false, false, false, false, false, false, false] (by kernel_rfl) rfl rfl ⟨(blk_cell BK1.out 0).trans rfl, (blk_cell BK1.out 1).trans rfl, (blk_cell BK2.out 0).trans rfl, (blk_cell BK3.out 0).trans rfl, (blk_cell BK4.out 0).trans rfl⟩ (fun hHeld => ?_); refine with_tabW turn_Slack_1.tab1 turn_Slack_1.bits1 (fun HT_ HW_ => ?_)
 generalize w.drew = w9 at BK1 BK2 BK3 BK4 HB hHeld ⊢
 refine pu 2 9 ?_
 refine pu 3 10 ?_
 refine tk 0 7 hHeld ?_
 refine tk 1 8 hHeld ?_
 refine tk 5 12 hHeld ?_
 refine tk 7 14 hHeld ?_
 refine tk 8 15 hHeld ?_
 refine on 4 (fun K hK => ?_)
 refine gO Tryz.func88 #[.agg #[.slice A1_0 l1_0.length c1_0, .slice A1_1 l1_1.length c1_1], .int .i64 a2_0, .int .i64 (wrap64 (a0 + 1))] ?_
 with_reducible refine (turn_day_longer.calls _ _ l1_0 (fun k_ => k_ < w.heap.size) _ _ l1_1 a2_0 (wrap64 (a0 + 1)) t101 t104 _ ?side1 ?side2 ?side3 A6.out).mono ?_
 (case side1 => exact pC (Kd.C_below HR1_0.out HB.out))
 (case side2 => exact HC1_0.out)
 (case side3 => exact Kd.V_mk HC1_1.out (Kd.F_below (Kd.C_F (Kd.heap_int .i64) HR1_1.out) (pE HB)))
 rintro e w10 ⟨v102, v105, rfl, ho0, ho1, hb⟩
 refine ⟨_, rfl, ?_⟩
 have HO103 := Aside0.mk (Kd.R_lower (Kd.R_mono (ok' := fun k_ => True) ho0 (fun _ hk_ => trivial)) (below_size (pE HB)))
 have HO106 := Aside0.mk (Kd.V_lower (Kd.V_mono (ok' := fun k_ => some k_ ≠ (v102 : Value).ownBlock) ho1 (fun k_ hk_ => hk_.2)) (below_size (pE HB)))
 replace BK1 := bb BK1 hb
 replace BK2 := bb BK2 hb
 replace BK3 := bb BK3 hb
 replace BK4 := bb BK4 hb
 replace HB := bs HB hb
 (try clear hb)
 (try clear hb2)
 (try clear hk)
 (try clear hi)
 (try clear ho0)
 (try clear ho1)
 refine hK.out _ _ ⟨(blk_cell BK1.out 0).trans rfl, (blk_cell BK1.out 1).trans rfl, (blk_cell BK2.out 0).trans rfl, (blk_cell BK3.out 0).trans rfl, (blk_cell BK4.out 0).trans rfl⟩ (fun hHeld => ?_)
 clear hK K
 refine norm_ (a' := ?_) ?_ ?_
 rotate_left
 ·show Act.put _ (some 11) _ = _
  simp only [Act.put, List.setIfInBounds_toArray, List.set_cons_zero, List.set_cons_succ, i64_w, i32_w]
  rfl
 refine on 6 (fun K hK => ?_)
 refine gO Tryz.func63 #[.agg #[.slice A1_0 l1_0.length c1_0, .slice A1_1 l1_1.length c1_1]] ?_
 with_reducible refine (turn_day_order.calls k _ _ l1_0 _ _ l1_1 t107 _ ?side1 ?side2 ?side3 ?side4 A7.out).mono ?_
 (case side1 => exact pC (Kd.C_below HR1_0.out HB.out))
 (case side2 => exact HC1_0.out)
 (case side3 => exact pC (Kd.C_below HR1_1.out HB.out))
 (case side4 => exact HC1_1.out)
 rintro e w11 ⟨v108, rfl, ho0, hb⟩
 refine ⟨_, rfl, ?_⟩
 replace HO103 := rb HO103 hb
 replace HO106 := Aside0.mk (Kd.V_elder' (pV HO106.out) (Kd.R_base ho0) hb)
 have HO109 := Aside0.mk (Kd.R_lower (Kd.R_newB (Kd.R_newB (Kd.R_newB ho0 (g := B2) (o := .cells #[.int .i64 a2_0] 3 (0, 0)) (pB BK2.out)) (g := B3) (o := .cells #[.int .i64 a3_0] 3 (0, 0)) (pB BK3.out)) (g := B4) (o := .cells #[.int .i64 a4_0] 3 (0, 0)) (pB BK4.out)) (below_size (pE HB)))
 replace BK1 := bb BK1 hb
 replace BK2 := bb BK2 hb
 replace BK3 := bb BK3 hb
 replace BK4 := bb BK4 hb
 replace HB := bs HB hb
 (try clear hb)
 (try clear hb2)
 (try clear hk)
 (try clear hi)
 (try clear ho0)
 obtain ⟨Ao12, co12, eo12⟩ := Kd.R_slice HO103.out
 (first | subst eo12 | (injection eo12 with f1_ f2_ f3_; have f4_ := f1_.symm; have f5_ := f3_.symm; clear f1_ f2_ f3_; subst f4_; subst f5_))
 obtain ⟨Ao13, co13, eo13⟩ := Kd.V_slice HO106.out
 (first | subst eo13 | (injection eo13 with f1_ f2_ f3_; have f4_ := f1_.symm; have f5_ := f3_.symm; clear f1_ f2_ f3_; subst f4_; subst f5_))
 obtain ⟨Ao14, co14, eo14⟩ := Kd.R_slice HO109.out
 (first | subst eo14 | (injection eo14 with f1_ f2_ f3_; have f4_ := f1_.symm; have f5_ := f3_.symm; clear f1_ f2_ f3_; subst f4_; subst f5_))
 refine hK.out _ _ ⟨(blk_cell BK1.out 0).trans rfl, (blk_cell BK1.out 1).trans rfl, (blk_cell BK2.out 0).trans rfl, (blk_cell BK3.out 0).trans rfl, (blk_cell BK4.out 0).trans rfl⟩ (fun hHeld => ?_)
 clear hK K
 refine norm_ (a' := ?_) ?_ ?_
 rotate_left
 ·show Act.put _ (some 13) _ = _
  simp only [Act.put, List.setIfInBounds_toArray, List.set_cons_zero, List.set_cons_succ, i64_w, i32_w]
  rfl
 refine on 9 (fun K hK => ?_)
 refine gO Tryz.func71 #[.agg #[.slice Ao12 t101.length co12, .slice Ao13 t104.length co13], .slice Ao14 t107.length co14, .int .i64 a3_0, .int .i64 a4_0] ?_
 with_reducible refine (turn_day_isLate.calls _ _ t101 _ _ t104 _ _ t107 a3_0 a4_0 t110 _ ?side1 ?side2 ?side3 ?side4 ?side5 ?side6 A8.out).mono ?_
 (case side1 => exact pC (Kd.R_reads' HO103.out).2.2)
 (case side2 => exact (Kd.R_reads' HO103.out).2.1)
 (case side3 => exact pC (Kd.V_reads' HO106.out).2.2)
 (case side4 => exact (Kd.V_reads' HO106.out).2.1)
 (case side5 => exact pC (Kd.R_reads' HO109.out).2.2)
 (case side6 => exact (Kd.R_reads' HO109.out).2.1)
 rintro e w15 ⟨rfl, hb⟩
 refine ⟨_, rfl, ?_⟩
 replace HO103 := rb HO103 hb
 replace HO106 := vb HO106 hb
 replace HO109 := rb HO109 hb
 replace BK1 := bb BK1 hb
 replace BK2 := bb BK2 hb
 replace BK3 := bb BK3 hb
 replace BK4 := bb BK4 hb
 replace HB := bs HB hb
 (try clear hb)
 (try clear hb2)
 (try clear hk)
 (try clear hi)
 refine hK.out _ _ ⟨(blk_cell BK1.out 0).trans rfl, (blk_cell BK1.out 1).trans rfl, (blk_cell BK2.out 0).trans rfl, (blk_cell BK3.out 0).trans rfl, (blk_cell BK4.out 0).trans rfl⟩ (fun hHeld => ?_)
 clear hK K
 refine norm_ (a' := ?_) ?_ ?_
 rotate_left
 ·show Act.put _ (some 16) _ = _
  simp only [Act.put, List.setIfInBounds_toArray, List.set_cons_zero, List.set_cons_succ, i64_w, i32_w]
  rfl
 refine pu 10 6 ?_
 refine done_ (done_of HT_.out (by kernel_rfl)) ?_
 try go_wp2
 go_ret
 exact ⟨eT, pE HB⟩
def sort_Search_at_turn_Slack_1.l0 : Nat → Int → Int → List (S67) → List Int → Int → Int → Int → Option (Int)
 | 0, _, _, _, _, _, _, _ => none
 | k + 1, x5, x6, x57000, x57001, x58000, x59000, x60000 => if x5 < x6 then ((turn_Slack_1.f k (wrap64 ((IntKind.u64.wrap (wrap64 (x5 + x6))) / 2)) x57000 x57001 x58000 x59000 x60000).bind fun t101 => (if t101 = true then (sort_Search_at_turn_Slack_1.l0 k x5 (wrap64 ((IntKind.u64.wrap (wrap64 (x5 + x6))) / 2)) x57000 x57001 x58000 x59000 x60000) else (sort_Search_at_turn_Slack_1.l0 k (wrap64 ((wrap64 ((IntKind.u64.wrap (wrap64 (x5 + x6))) / 2)) + 1)) x6 x57000 x57001 x58000 x59000 x60000))) else (some x5)
def sort_Search_at_turn_Slack_1.f (k : Nat) (a0 : Int) (l56_0 : List (S67)) (l56_1 : List Int) (a57_0 : Int) (a58_0 : Int) (a59_0 : Int) : Option (Int) := sort_Search_at_turn_Slack_1.l0 k 0 a0 l56_0 l56_1 a57_0 a58_0 a59_0
theorem sort_Search_at_turn_Slack_1.mono_l : ∀ k, (∀ y0 y1 y2 y3 y4 y5 y6, LeO (sort_Search_at_turn_Slack_1.l0 k y0 y1 y2 y3 y4 y5 y6) (sort_Search_at_turn_Slack_1.l0 (k + 1) y0 y1 y2 y3 y4 y5 y6))
 | 0 => fun _ _ _ _ _ _ _ r h => by simp [sort_Search_at_turn_Slack_1.l0] at h
 | k + 1 => by
  have ih0 := sort_Search_at_turn_Slack_1.mono_l k
  ·intro y0 y1 y2 y3 y4 y5 y6
   unfold sort_Search_at_turn_Slack_1.l0
   repeat' first
   | (with_reducible exact ih0 _ _ _ _ _ _ _)
   | (with_reducible exact turn_Slack_1.mono _ _ _ _ _ _ _)
   | (with_reducible exact LeO.refl _)
   | (with_reducible exact LeO.none _)
   | (with_reducible refine LeO.ite ?_ ?_)
   | (with_reducible refine LeO.bind ?_ (fun _ => ?_))
   | exact ih0 _ _ _ _ _ _ _
   | exact turn_Slack_1.mono _ _ _ _ _ _ _
   | exact LeO.none _
   | refine LeO.ite ?_ ?_
   | refine LeO.bind ?_ (fun _ => ?_)
theorem sort_Search_at_turn_Slack_1.mono : ∀ a0 a1 a2 a3 a4 a5 k, LeO (sort_Search_at_turn_Slack_1.f k a0 a1 a2 a3 a4 a5) (sort_Search_at_turn_Slack_1.f (k + 1) a0 a1 a2 a3 a4 a5) := by
 intro a0 a1 a2 a3 a4 a5 k
 have ih0 := sort_Search_at_turn_Slack_1.mono_l k
 unfold sort_Search_at_turn_Slack_1.f
 repeat' first
   | (with_reducible exact ih0 _ _ _ _ _ _ _)
   | (with_reducible exact turn_Slack_1.mono _ _ _ _ _ _ _)
   | (with_reducible exact LeO.refl _)
   | (with_reducible exact LeO.none _)
   | (with_reducible refine LeO.ite ?_ ?_)
   | (with_reducible refine LeO.bind ?_ (fun _ => ?_))
   | exact ih0 _ _ _ _ _ _ _
   | exact turn_Slack_1.mono _ _ _ _ _ _ _
   | exact LeO.none _
   | refine LeO.ite ?_ ?_
   | refine LeO.bind ?_ (fun _ => ?_)
set_option maxHeartbeats 8000000 in
set_option maxRecDepth 100000 in
theorem sort_Search_at_turn_Slack_1.calls (k : Nat) (a0 : Int) (B56 : Nat) (A56_0 : Option Addr) (c56_0 : Nat) (l56_0 : List (S67)) (A56_1 : Option Addr) (c56_1 : Nat) (l56_1 : List Int) (B57 : Nat) (a57_0 : Int) (B58 : Nat) (a58_0 : Int) (B59 : Nat) (a59_0 : Int) (r : Int) (w : World) (hb56 : w.heap[B56]? = some (.cells #[.slice A56_0 l56_0.length c56_0, .slice A56_1 l56_1.length c56_1] 99 (0, 0))) (hr56_0 : Kd.C k67 w A56_0 l56_0.length l56_0) (hc56_0 : l56_0.length ≤ c56_0) (hr56_1 : Kd.C (Kd.int .i64) w A56_1 l56_1.length l56_1) (hc56_1 : l56_1.length ≤ c56_1) (hb57 : w.heap[B57]? = some (.cells #[.int .i64 a57_0] 3 (0, 0))) (nb56_57 : B56 ≠ B57) (hb58 : w.heap[B58]? = some (.cells #[.int .i64 a58_0] 3 (0, 0))) (nb56_58 : B56 ≠ B58) (nb57_58 : B57 ≠ B58) (hb59 : w.heap[B59]? = some (.cells #[.int .i64 a59_0] 3 (0, 0))) (nb56_59 : B56 ≠ B59) (nb57_59 : B57 ≠ B59) (nb58_59 : B58 ≠ B59) (h : sort_Search_at_turn_Slack_1.f k a0 l56_0 l56_1 a57_0 a58_0 a59_0 = some r) :
  Calls Tryz.prog 86 #[.int .i64 a0, .func (.func 87) #[] #[.pointer (some ⟨B56, 0, none⟩), .pointer (some ⟨B57, 0, none⟩), .pointer (some ⟨B58, 0, none⟩), .pointer (some ⟨B59, 0, none⟩)]] w fun e w' => e = .returned (.int .i64 r) ∧ Below w.heap.size w w' := by
 have HR56_0 := Aside0.mk hr56_0
 have HC56_0 := Aside0.mk hc56_0
 clear hr56_0 hc56_0
 have HR56_1 := Aside0.mk hr56_1
 have HC56_1 := Aside0.mk hc56_1
 clear hr56_1 hc56_1
 have BK56 := Aside0.mk hb56
 clear hb56
 have BK57 := Aside0.mk hb57
 clear hb57
 have NB56_57 := Aside0.mk nb56_57
 have NB57_56 := Aside0.mk nb56_57.symm
 clear nb56_57
 have BK58 := Aside0.mk hb58
 clear hb58
 have NB56_58 := Aside0.mk nb56_58
 have NB58_56 := Aside0.mk nb56_58.symm
 clear nb56_58
 have NB57_58 := Aside0.mk nb57_58
 have NB58_57 := Aside0.mk nb57_58.symm
 clear nb57_58
 have BK59 := Aside0.mk hb59
 clear hb59
 have NB56_59 := Aside0.mk nb56_59
 have NB59_56 := Aside0.mk nb56_59.symm
 clear nb56_59
 have NB57_59 := Aside0.mk nb57_59
 have NB59_57 := Aside0.mk nb57_59.symm
 clear nb57_59
 have NB58_59 := Aside0.mk nb58_59
 have NB59_58 := Aside0.mk nb58_59.symm
 clear nb58_59
 have HB := Aside0.mk (Below.refl w.heap.size w)
 have H : (sort_Search_at_turn_Slack_1.l0 k 0 a0 l56_0 l56_1 a57_0 a58_0 a59_0) = some r := h
 clear h
 have H' := Aside0.mk H
 clear H
 go_enter Tryz.func86, Tryz.ntmps86
 go_wp2
 (try simp only [Act.put, List.setIfInBounds_toArray, List.set_cons_zero, List.set_cons_succ])
 go_loopg [5, 6] k (fun kq v5 v6 w' => ∃ (x5_1 : Int) (x6_1 : Int), v5 = .int .i64 x5_1 ∧ v6 = .int .i64 x6_1 ∧ Aside0 (sort_Search_at_turn_Slack_1.l0 kq x5_1 x6_1 l56_0 l56_1 a57_0 a58_0 a59_0 = some r) ∧ Aside0 (kq ≤ k) ∧ Aside0 (w'.heap[B56]? = some (.cells #[(.slice A56_0 l56_0.length c56_0), (.slice A56_1 l56_1.length c56_1)] 99 (0, 0))) ∧ Aside0 (w'.heap[B57]? = some (.cells #[.int .i64 a57_0] 3 (0, 0))) ∧ Aside0 (w'.heap[B58]? = some (.cells #[.int .i64 a58_0] 3 (0, 0))) ∧ Aside0 (w'.heap[B59]? = some (.cells #[.int .i64 a59_0] 3 (0, 0))) ∧ Aside0 (Below w.heap.size w w'))
 case atStart => exact ⟨(0), (a0), (by first | rfl | (simp; done) | (simp [*]; done)), (by first | rfl | (simp; done) | (simp [*]; done)), H', ⟨Nat.le_refl _⟩, ⟨by (with_reducible repeat (first | refine blk_drewN ?_ _ | refine blk_drew ?_ | refine blk_alloc ?_ _)); exact BK56.out⟩, ⟨by (with_reducible repeat (first | refine blk_drewN ?_ _ | refine blk_drew ?_ | refine blk_alloc ?_ _)); exact BK57.out⟩, ⟨by (with_reducible repeat (first | refine blk_drewN ?_ _ | refine blk_drew ?_ | refine blk_alloc ?_ _)); exact BK58.out⟩, ⟨by (with_reducible repeat (first | refine blk_drewN ?_ _ | refine blk_drew ?_ | refine blk_alloc ?_ _)); exact BK59.out⟩, ⟨pE HB⟩⟩
 case round =>
  clear H'
  try clear p2
  obtain ⟨x5_1, x6_1, rfl, rfl, HA, HK1, BK56, BK57, BK58, BK59, HB⟩ := hrel
  cases gk with
  | zero => exact absurd HA.out (by simp [sort_Search_at_turn_Slack_1.l0])
  | succ k1 =>
   have H := HA.out
   clear HA
   simp only [sort_Search_at_turn_Slack_1.l0] at H
   by_cases c3 : x5_1 < x6_1
   ·rw [if_pos c3] at H
    have c3b0 : decide (x5_1 < x6_1) = true := decide_eq_true c3
    clear c3
    obtain ⟨t101, A4, H⟩ := bi H
    by_cases c5 : t101 = true
    ·subst c5
     rw [if_pos rfl] at H
     have H' := Aside0.mk H
     clear H
     go_wp2_with (first | (go_at_call 87; (with_reducible refine (turn_Slack_1.calls k1 (wrap64 ((IntKind.u64.wrap (wrap64 (x5_1 + x6_1))) / 2)) B56 A56_0 c56_0 l56_0 A56_1 c56_1 l56_1 B57 a57_0 B58 a58_0 B59 a59_0 true _ ?side1 ?side2 ?side3 ?side4 ?side5 ?side6 ?side7 ?side8 ?side9 ?side10 ?side11 ?side12 ?side13 ?side14 A4.out).mono ?_); (case side1 => exact pB BK56.out); (case side2 => exact pC (Kd.C_below HR56_0.out HB.out)); (case side3 => exact HC56_0.out); (case side4 => exact pC (Kd.C_below HR56_1.out HB.out)); (case side5 => exact HC56_1.out); (case side6 => exact pB BK57.out); (case side7 => exact NB56_57.out); (case side8 => exact pB BK58.out); (case side9 => exact NB56_58.out); (case side10 => exact NB57_58.out); (case side11 => exact pB BK59.out); (case side12 => exact NB56_59.out); (case side13 => exact NB57_59.out); (case side14 => exact NB58_59.out); rintro e w6 ⟨rfl, hb⟩; replace BK56 := bb BK56 hb; replace BK57 := bb BK57 hb; replace BK58 := bb BK58 hb; replace BK59 := bb BK59 hb; replace HB := bs HB hb; (try clear hb); (try clear hb2); (try clear hk); (try clear hi)))
     go_roundg k1
     case measure => have := HK1.out; omega
     case rel => exact ⟨(x5_1), (wrap64 ((IntKind.u64.wrap (wrap64 (x5_1 + x6_1))) / 2)), (by first | rfl | (simp; done) | (simp [*]; done)), (by first | rfl | (simp; done) | (simp [*]; done)), H', ⟨by have := HK1.out; omega⟩, ⟨by (with_reducible repeat (first | refine blk_drewN ?_ _ | refine blk_drew ?_ | refine blk_alloc ?_ _)); exact BK56.out⟩, ⟨by (with_reducible repeat (first | refine blk_drewN ?_ _ | refine blk_drew ?_ | refine blk_alloc ?_ _)); exact BK57.out⟩, ⟨by (with_reducible repeat (first | refine blk_drewN ?_ _ | refine blk_drew ?_ | refine blk_alloc ?_ _)); exact BK58.out⟩, ⟨by (with_reducible repeat (first | refine blk_drewN ?_ _ | refine blk_drew ?_ | refine blk_alloc ?_ _)); exact BK59.out⟩, ⟨pE HB⟩⟩
    ·replace c5 := Bool.eq_false_iff.mpr c5
     subst c5
     rw [if_neg (show ¬ (false = true) by decide)] at H
     have H' := Aside0.mk H
     clear H
     go_wp2_with (first | (go_at_call 87; (with_reducible refine (turn_Slack_1.calls k1 (wrap64 ((IntKind.u64.wrap (wrap64 (x5_1 + x6_1))) / 2)) B56 A56_0 c56_0 l56_0 A56_1 c56_1 l56_1 B57 a57_0 B58 a58_0 B59 a59_0 false _ ?side1 ?side2 ?side3 ?side4 ?side5 ?side6 ?side7 ?side8 ?side9 ?side10 ?side11 ?side12 ?side13 ?side14 A4.out).mono ?_); (case side1 => exact pB BK56.out); (case side2 => exact pC (Kd.C_below HR56_0.out HB.out)); (case side3 => exact HC56_0.out); (case side4 => exact pC (Kd.C_below HR56_1.out HB.out)); (case side5 => exact HC56_1.out); (case side6 => exact pB BK57.out); (case side7 => exact NB56_57.out); (case side8 => exact pB BK58.out); (case side9 => exact NB56_58.out); (case side10 => exact NB57_58.out); (case side11 => exact pB BK59.out); (case side12 => exact NB56_59.out); (case side13 => exact NB57_59.out); (case side14 => exact NB58_59.out); rintro e w7 ⟨rfl, hb⟩; replace BK56 := bb BK56 hb; replace BK57 := bb BK57 hb; replace BK58 := bb BK58 hb; replace BK59 := bb BK59 hb; replace HB := bs HB hb; (try clear hb); (try clear hb2); (try clear hk); (try clear hi)))
     go_roundg k1
     case measure => have := HK1.out; omega
     case rel => exact ⟨(wrap64 ((wrap64 ((IntKind.u64.wrap (wrap64 (x5_1 + x6_1))) / 2)) + 1)), (x6_1), (by first | rfl | (simp; done) | (simp [*]; done)), (by first | rfl | (simp; done) | (simp [*]; done)), H', ⟨by have := HK1.out; omega⟩, ⟨by (with_reducible repeat (first | refine blk_drewN ?_ _ | refine blk_drew ?_ | refine blk_alloc ?_ _)); exact BK56.out⟩, ⟨by (with_reducible repeat (first | refine blk_drewN ?_ _ | refine blk_drew ?_ | refine blk_alloc ?_ _)); exact BK57.out⟩, ⟨by (with_reducible repeat (first | refine blk_drewN ?_ _ | refine blk_drew ?_ | refine blk_alloc ?_ _)); exact BK58.out⟩, ⟨by (with_reducible repeat (first | refine blk_drewN ?_ _ | refine blk_drew ?_ | refine blk_alloc ?_ _)); exact BK59.out⟩, ⟨pE HB⟩⟩
   ·rw [if_neg c3] at H
    have c3b0 : decide (x5_1 < x6_1) = false := decide_eq_false c3
    clear c3
    obtain rfl := Option.some.inj H
    go_wp2
    go_ret
    exact ⟨eT, pE HB⟩
def turn_Slack.f (k : Nat) (l0_0 : List (S67)) (l0_1 : List Int) (a1 : Int) (a2 : Int) (a3 : Int) : Option (Int × Int) := (turn_open.f k l0_0 l0_1 a1 a2).bind fun bt105 => (if bt105.2.2 = 0 then ((turn_within.f 0 (wrap64 ((bt105.1.length : Int) - 1)) (([a3] : List Int))).bind fun t116 => (if t116 = true then ((turn_day_order.f k bt105.1 bt105.2.1).bind fun t117 => ((turn_day_isLate.f bt105.1 bt105.2.1 t117 a1 a2).bind fun t120 => (if t120 = true then (some (0, 9)) else ((sort_Search_at_turn_Slack_1.f k 500 bt105.1 bt105.2.1 a3 a1 a2).bind fun t121 => (some (t121, 0)))))) else (some (0, 7)))) else (some (0, bt105.2.2)))
theorem turn_Slack.mono : ∀ a0 a1 a2 a3 a4 k, LeO (turn_Slack.f k a0 a1 a2 a3 a4) (turn_Slack.f (k + 1) a0 a1 a2 a3 a4) := by
 intro a0 a1 a2 a3 a4 k
 unfold turn_Slack.f
 repeat' first
   | (with_reducible exact sort_Search_at_turn_Slack_1.mono _ _ _ _ _ _ _)
   | (with_reducible exact turn_day_order.mono _ _ _)
   | (with_reducible exact turn_open.mono _ _ _ _ _)
   | (with_reducible exact LeO.refl _)
   | (with_reducible exact LeO.none _)
   | (with_reducible refine LeO.ite ?_ ?_)
   | (with_reducible refine LeO.bind ?_ (fun _ => ?_))
   | exact sort_Search_at_turn_Slack_1.mono _ _ _ _ _ _ _
   | exact turn_day_order.mono _ _ _
   | exact turn_open.mono _ _ _ _ _
   | exact LeO.none _
   | refine LeO.ite ?_ ?_
   | refine LeO.bind ?_ (fun _ => ?_)
set_option maxHeartbeats 8000000 in
set_option maxRecDepth 100000 in
theorem turn_Slack.calls (k : Nat) (A0_0 : Option Addr) (c0_0 : Nat) (l0_0 : List (S67)) (A0_1 : Option Addr) (c0_1 : Nat) (l0_1 : List Int) (a1 : Int) (a2 : Int) (a3 : Int) (r1 : Int) (r2 : Int) (w : World) (hr0_0 : Kd.C k67 w A0_0 l0_0.length l0_0) (hc0_0 : l0_0.length ≤ c0_0) (hr0_1 : Kd.C (Kd.int .i64) w A0_1 l0_1.length l0_1) (hc0_1 : l0_1.length ≤ c0_1) (h : turn_Slack.f k l0_0 l0_1 a1 a2 a3 = some (r1, r2)) :
  Calls Tryz.prog 43 #[.agg #[.slice A0_0 l0_0.length c0_0, .slice A0_1 l0_1.length c0_1], .int .i64 a1, .int .i64 a2, .int .i64 a3] w fun e w' => e = .returned (.tuple #[.int .i64 r1, .int .i64 r2]) ∧ Below w.heap.size w w' := by
 have hu25 := Tryz.underlying25
 have hu99 := Tryz.underlying99
 have HR0_0 := Aside0.mk hr0_0
 have HC0_0 := Aside0.mk hc0_0
 clear hr0_0 hc0_0
 have HR0_1 := Aside0.mk hr0_1
 have HC0_1 := Aside0.mk hc0_1
 clear hr0_1 hc0_1
 have HB := Aside0.mk (Below.refl w.heap.size w)
 have H : ((turn_open.f k l0_0 l0_1 a1 a2).bind fun bt105 => (if bt105.2.2 = 0 then ((turn_within.f 0 (wrap64 ((bt105.1.length : Int) - 1)) (([a3] : List Int))).bind fun t116 => (if t116 = true then ((turn_day_order.f k bt105.1 bt105.2.1).bind fun t117 => ((turn_day_isLate.f bt105.1 bt105.2.1 t117 a1 a2).bind fun t120 => (if t120 = true then (some (0, 9)) else ((sort_Search_at_turn_Slack_1.f k 500 bt105.1 bt105.2.1 a3 a1 a2).bind fun t121 => (some (t121, 0)))))) else (some (0, 7)))) else (some (0, bt105.2.2)))) = some (r1, r2) := h
 clear h
 obtain ⟨⟨t105, t108, t111⟩, A5, H⟩ := bi H
 by_cases c6 : t111 = 0
 ·rw [if_pos c6] at H
  have c6b0 : (t111 == 0) = true := beq_iff_eq.mpr c6
  have c6b1 : (t111 != 0) = false := bne_eq_false_iff_eq.mpr c6
  clear c6
  obtain ⟨y113, hy113⟩ : ∃ y_ : List Int, y_ = (([a3] : List Int)) := ⟨_, rfl⟩
  replace H : Option.bind (turn_within.f 0 (wrap64 ((t105.length : Int) - 1)) y113) _ = some (r1, r2) := yy hy113 H
  have Ny113 := Aside0.mk hy113
  clear hy113
  obtain ⟨t116, A7, H⟩ := bi H
  by_cases c8 : t116 = true
  ·subst c8
   rw [if_pos rfl] at H
   obtain ⟨t117, A9, H⟩ := bi H
   obtain ⟨t120, A10, H⟩ := bi H
   by_cases c11 : t120 = true
   ·subst c11
    rw [if_pos rfl] at H
    simp only [Option.some.injEq, Prod.mk.injEq] at H
    obtain ⟨rfl, rfl⟩ := H
    go_enter Tryz.func43, Tryz.ntmps43
    try go_wp2_with (first | ((with_reducible refine gate_dst (N := 4) rfl ?_); refine bx 4 #[.slice A0_0 l0_0.length c0_0, .slice A0_1 l0_1.length c0_1] 25 ?_; intro gb101 hg w12 hbox hb; have BK101 := hbox; have GW101 := gs HB hg; have GE101 := gs HB hg; replace HB := bs HB hb; clear hb hbox hg) | ((with_reducible refine gate_dst (N := 5) rfl ?_); refine bx 5 #[.int .i64 a1] 3 ?_; intro gb102 hg w13 hbox hb; have BK102 := hbox; have GW102 := gs HB hg; have GE102 := gs HB hg; replace HB := bs HB hb; have NB101_102 := nl BK101 hg; have NB102_101 := nr BK101 hg; replace BK101 := bb BK101 hb; clear hb hbox hg) | ((with_reducible refine gate_dst (N := 6) rfl ?_); refine bx 6 #[.int .i64 a2] 3 ?_; intro gb103 hg w14 hbox hb; have BK103 := hbox; have GW103 := gs HB hg; have GE103 := gs HB hg; replace HB := bs HB hb; have NB101_103 := nl BK101 hg; have NB103_101 := nr BK101 hg; replace BK101 := bb BK101 hb; have NB102_103 := nl BK102 hg; have NB103_102 := nr BK102 hg; replace BK102 := bb BK102 hb; clear hb hbox hg) | ((with_reducible refine gate_dst (N := 7) rfl ?_); refine bx 7 #[.int .i64 a3] 3 ?_; intro gb104 hg w15 hbox hb; have BK104 := hbox; have GW104 := gs HB hg; have GE104 := gs HB hg; replace HB := bs HB hb; have NB101_104 := nl BK101 hg; have NB104_101 := nr BK101 hg; replace BK101 := bb BK101 hb; have NB102_104 := nl BK102 hg; have NB104_102 := nr BK102 hg; replace BK102 := bb BK102 hb; have NB103_104 := nl BK103 hg; have NB104_103 := nr BK103 hg; replace BK103 := bb BK103 hb; clear hb hbox hg; have hnb16 := NB101_102.out; have hnc16 := NB102_101.out; have hnb17 := NB101_103.out; have hnc17 := NB103_101.out; have hnb18 := NB101_104.out; have hnc18 := NB104_101.out; obtain ⟨_, _, _, _⟩ := cf2 BK101; have hnb20 := NB102_103.out; have hnc20 := NB103_102.out; have hnb21 := NB102_104.out; have hnc21 := NB104_102.out; obtain ⟨_, _⟩ := cf1 BK102; have hnb23 := NB103_104.out; have hnc23 := NB104_103.out; obtain ⟨_, _⟩ := cf1 BK103) | ((with_reducible refine gc 62 rfl ?_); refine gL 16 Tryz.func62 #[.agg #[.slice A0_0 l0_0.length c0_0, .slice A0_1 l0_1.length c0_1], .int .i64 a1, .int .i64 a2] ?_; (with_reducible refine (turn_open.calls k (fun k_ => k_ < w.heap.size) _ _ l0_0 (fun k_ => k_ < w.heap.size) _ _ l0_1 a1 a2 t105 t108 t111 _ ?side1 ?side2 A5.out).mono ?_); (case side1 => exact Kd.V_mk HC0_0.out (Kd.F_below (Kd.C_F k67_heap HR0_0.out) (pE HB))); (case side2 => exact Kd.V_mk HC0_1.out (Kd.F_below (Kd.C_F (Kd.heap_int .i64) HR0_1.out) (pE HB))); rintro e w25 ⟨v106, v109, rfl, ho0, ho1, hb⟩; refine ⟨_, rfl, ?_⟩; have HO107 := Aside0.mk (Kd.V_lower (Kd.V_mono (ok' := fun k_ => k_ ≠ gb101 ∧ k_ ≠ gb102 ∧ k_ ≠ gb103 ∧ k_ ≠ gb104) ho0 (fun k_ hk_ => ⟨Or.elim hk_ (fun hs_ => Or.elim hs_ (fun hs_ => fun e_ => Nat.not_le.2 hs_ (by rw [e_]; exact GW101.out)) (fun hs_ => fun e_ => Nat.not_le.2 hs_ (by rw [e_]; exact GW101.out))) (fun hn_ => (Kd.freshB (g := gb101) (o := .cells #[.slice A0_0 l0_0.length c0_0, .slice A0_1 l0_1.length c0_1] 25 (0, 0)) (pB BK101.out) k_ hn_)), Or.elim hk_ (fun hs_ => Or.elim hs_ (fun hs_ => fun e_ => Nat.not_le.2 hs_ (by rw [e_]; exact GW102.out)) (fun hs_ => fun e_ => Nat.not_le.2 hs_ (by rw [e_]; exact GW102.out))) (fun hn_ => (Kd.freshB (g := gb102) (o := .cells #[.int .i64 a1] 3 (0, 0)) (pB BK102.out) k_ hn_)), Or.elim hk_ (fun hs_ => Or.elim hs_ (fun hs_ => fun e_ => Nat.not_le.2 hs_ (by rw [e_]; exact GW103.out)) (fun hs_ => fun e_ => Nat.not_le.2 hs_ (by rw [e_]; exact GW103.out))) (fun hn_ => (Kd.freshB (g := gb103) (o := .cells #[.int .i64 a2] 3 (0, 0)) (pB BK103.out) k_ hn_)), Or.elim hk_ (fun hs_ => Or.elim hs_ (fun hs_ => fun e_ => Nat.not_le.2 hs_ (by rw [e_]; exact GW104.out)) (fun hs_ => fun e_ => Nat.not_le.2 hs_ (by rw [e_]; exact GW104.out))) (fun hn_ => (Kd.freshB (g := gb104) (o := .cells #[.int .i64 a3] 3 (0, 0)) (pB BK104.out) k_ hn_))⟩)) (below_size (pE HB))); have HO110 := Aside0.mk (Kd.V_lower (Kd.V_mono (ok' := fun k_ => k_ ≠ gb101 ∧ k_ ≠ gb102 ∧ k_ ≠ gb103 ∧ k_ ≠ gb104) ho1 (fun k_ hk_ => ⟨Or.elim hk_ (fun hs_ => Or.elim hs_ (fun hs_ => fun e_ => Nat.not_le.2 hs_ (by rw [e_]; exact GW101.out)) (fun hs_ => fun e_ => Nat.not_le.2 hs_ (by rw [e_]; exact GW101.out))) (fun hn_ => (Kd.freshB (g := gb101) (o := .cells #[.slice A0_0 l0_0.length c0_0, .slice A0_1 l0_1.length c0_1] 25 (0, 0)) (pB BK101.out) k_ hn_)), Or.elim hk_ (fun hs_ => Or.elim hs_ (fun hs_ => fun e_ => Nat.not_le.2 hs_ (by rw [e_]; exact GW102.out)) (fun hs_ => fun e_ => Nat.not_le.2 hs_ (by rw [e_]; exact GW102.out))) (fun hn_ => (Kd.freshB (g := gb102) (o := .cells #[.int .i64 a1] 3 (0, 0)) (pB BK102.out) k_ hn_)), Or.elim hk_ (fun hs_ => Or.elim hs_ (fun hs_ => fun e_ => Nat.not_le.2 hs_ (by rw [e_]; exact GW103.out)) (fun hs_ => fun e_ => Nat.not_le.2 hs_ (by rw [e_]; exact GW103.out))) (fun hn_ => (Kd.freshB (g := gb103) (o := .cells #[.int .i64 a2] 3 (0, 0)) (pB BK103.out) k_ hn_)), Or.elim hk_ (fun hs_ => Or.elim hs_ (fun hs_ => fun e_ => Nat.not_le.2 hs_ (by rw [e_]; exact GW104.out)) (fun hs_ => fun e_ => Nat.not_le.2 hs_ (by rw [e_]; exact GW104.out))) (fun hn_ => (Kd.freshB (g := gb104) (o := .cells #[.int .i64 a3] 3 (0, 0)) (pB BK104.out) k_ hn_))⟩)) (below_size (pE HB))); replace BK101 := bb BK101 hb; replace BK102 := bb BK102 hb; replace BK103 := bb BK103 hb; replace BK104 := bb BK104 hb; replace HB := bs HB hb; clear hb ho0 ho1) | ((with_reducible refine gate_dst (N := 10) rfl ?_); refine bx 10 #[.slice none 0 0, .slice none 0 0] 99 ?_; intro gb112 hg w26 hbox hb; replace HO107 := ve HO107 hg hb; replace HO110 := ve HO110 hg hb; have BK112 := hbox; have GW112 := gs HB hg; have GE112 := gs HB hg; replace HB := bs HB hb; have NB101_112 := nl BK101 hg; have NB112_101 := nr BK101 hg; replace BK101 := bb BK101 hb; have NB102_112 := nl BK102 hg; have NB112_102 := nr BK102 hg; replace BK102 := bb BK102 hb; have NB103_112 := nl BK103 hg; have NB112_103 := nr BK103 hg; replace BK103 := bb BK103 hb; have NB104_112 := nl BK104 hg; have NB112_104 := nr BK104 hg; replace BK104 := bb BK104 hb; clear hb hbox hg; obtain ⟨Ao27, co27, eo27⟩ := Kd.V_slice HO107.out; subst eo27; have hnb28 := NB112_101.out; have hnc28 := NB101_112.out; have hnb29 := NB112_102.out; have hnc29 := NB102_112.out; have hnb30 := NB112_103.out; have hnc30 := NB103_112.out; have hnb31 := NB112_104.out; have hnc31 := NB104_112.out; obtain ⟨_, _, _, _⟩ := cf2 BK112; obtain ⟨Ao33, co33, eo33⟩ := Kd.V_slice HO110.out; subst eo33; obtain ⟨_, _⟩ := cf1 BK104) | ((with_reducible refine gate_dst (N := 30) rfl ?_); refine Kd.R_lit (Kd.int .i64) _ 3 ?hg (N := 30) ?hd (xs := ([a3] : List Int)) (inner := [.int .i64 a3]) (ok := fun _ => True) (okp := fun _ => True) ?hr ?hp (fun _ hk => hk) trivial (Below.refl _ _) (Nat.le_refl _) (by simp) ?_; (case hd => rfl); (case hg => rfl); (case hr => first | (go_simp; done) | (go_simp; rfl)); (case hp => exact (Reps.one (show Kd.M (Kd.int .i64) _ _ _ a3 [.int .i64 a3] from rfl) (Reps.none _ _))); intro v114 w35 ho36 hb hg_ hnew_; clear hg_ hnew_; (first | rw [← Ny113.out] at ho36 | (simp only [Int.reduceToNat] at ho36; rw [← Ny113.out] at ho36)); replace HO107 := Aside0.mk (Kd.V_elder' (by refine pV ?_; exact (Kd.V_mono (Kd.V_far (p := ⟨gb112, 1, none⟩) (Kd.V_far (p := ⟨gb112, 0, none⟩) (Kd.V_mono HO107.out (fun k_ hk => (⟨hk, hk.2⟩ : _ ∧ k_ ≠ gb112))) (fun _ hk => hk.2) (.slice Ao27 t105.length co27)) (fun _ hk => hk.2) (.slice Ao33 t108.length co33)) (fun _ h_ => h_.1))) (Kd.R_base ho36) hb); replace HO110 := Aside0.mk (Kd.V_elder' (by refine pV ?_; exact (Kd.V_mono (Kd.V_far (p := ⟨gb112, 1, none⟩) (Kd.V_far (p := ⟨gb112, 0, none⟩) (Kd.V_mono HO110.out (fun k_ hk => (⟨hk, hk.2⟩ : _ ∧ k_ ≠ gb112))) (fun _ hk => hk.2) (.slice Ao27 t105.length co27)) (fun _ hk => hk.2) (.slice Ao33 t108.length co33)) (fun _ h_ => h_.1))) (Kd.R_base ho36) hb); have HO115 := Aside0.mk (Kd.R_lower (Kd.R_newB (Kd.R_newB (Kd.R_newB ho36 (g := gb102) (o := .cells #[.int .i64 a1] 3 (0, 0)) (pF BK102)) (g := gb103) (o := .cells #[.int .i64 a2] 3 (0, 0)) (pF BK103)) (g := gb104) (o := .cells #[.int .i64 a3] 3 (0, 0)) (pF BK104)) (below_size (pE HB))); replace BK101 := bf BK101 hb; replace BK102 := bf BK102 hb; replace BK103 := bf BK103 hb; replace BK104 := bf BK104 hb; replace BK112 := Aside0.mk (blk_below (g := gb112) (o := .cells #[.slice Ao27 t105.length co27, .slice Ao33 t108.length co33] 99 (0, 0)) (by refine pB ?_; refine blk_put (cs := #[.slice Ao27 t105.length co27, .slice none 0 0]) ?_ 1 _ rfl; refine pB ?_; refine blk_put (cs := #[.slice none 0 0, .slice none 0 0]) ?_ 0 _ rfl; (with_reducible repeat (first | refine blk_drewN ?_ _ | refine blk_drew ?_ | refine blk_alloc ?_ _)); exact BK112.out) hb); replace HB := bs HB hb; clear hb ho36; obtain ⟨Ao37, co37, eo37⟩ := Kd.R_slice HO115.out; subst eo37) | ((with_reducible refine gc 59 rfl ?_); refine gL 31 Tryz.func59 #[.int .i64 0, .int .i64 (wrap64 ((t105.length : Int) - 1)), .slice Ao37 y113.length co37] ?_; (with_reducible refine (turn_within.calls 0 (wrap64 ((t105.length : Int) - 1)) _ _ y113 true _ ?side1 ?side2 A7.out).mono ?_); (case side1 => exact pC (Kd.R_reads' HO115.out).2.2); (case side2 => exact (Kd.R_reads' HO115.out).2.1); rintro e w38 ⟨rfl, hb⟩; refine ⟨_, rfl, ?_⟩; replace HO107 := vb HO107 hb; replace HO110 := vb HO110 hb; replace HO115 := rb HO115 hb; replace BK101 := bb BK101 hb; replace BK102 := bb BK102 hb; replace BK103 := bb BK103 hb; replace BK104 := bb BK104 hb; replace BK112 := bb BK112 hb; replace HB := bs HB hb; clear hb))
    replace HO107 := Aside0.mk (Kd.V_drew HO107.out)
    replace HO110 := Aside0.mk (Kd.V_drew HO110.out)
    replace HO115 := Aside0.mk (Kd.R_drew HO115.out)
    replace BK101 := Aside0.mk (blk_drew BK101.out)
    replace BK102 := Aside0.mk (blk_drew BK102.out)
    replace BK103 := Aside0.mk (blk_drew BK103.out)
    replace BK104 := Aside0.mk (blk_drew BK104.out)
    replace BK112 := Aside0.mk (blk_drew BK112.out)
    replace HB := Aside0.mk (below_drew1 HB.out)
    refine start_ (n := 7) (S := fun w' => w'.cell? ⟨gb112, 0, none⟩ = some (.slice Ao27 t105.length co27) ∧ w'.cell? ⟨gb112, 1, none⟩ = some (.slice Ao33 t108.length co33) ∧ w'.cell? ⟨gb102, 0, none⟩ = some (.int .i64 a1) ∧ w'.cell? ⟨gb103, 0, none⟩ = some (.int .i64 a2)) (ds := []) #[false, false, false, false, false, false, false] (by kernel_rfl) rfl rfl ⟨(blk_cell BK112.out 0).trans rfl, (blk_cell BK112.out 1).trans rfl, (blk_cell BK102.out 0).trans rfl, (blk_cell BK103.out 0).trans rfl⟩ (fun hHeld => ?_)
    generalize w38.drew = w39 at HO107 HO110 HO115 BK101 BK102 BK103 BK104 BK112 HB hHeld ⊢
    refine tk 0 34 hHeld ?_
    refine tk 1 35 hHeld ?_
    refine tk 3 37 hHeld ?_
    refine tk 4 38 hHeld ?_
    refine on 2 (fun K hK => ?_)
    refine gO Tryz.func63 #[.agg #[.slice Ao27 t105.length co27, .slice Ao33 t108.length co33]] ?_
    with_reducible refine (turn_day_order.calls k _ _ t105 _ _ t108 t117 _ ?side1 ?side2 ?side3 ?side4 A9.out).mono ?_
    (case side1 => exact pC (Kd.V_reads' HO107.out).2.2)
    (case side2 => exact (Kd.V_reads' HO107.out).2.1)
    (case side3 => exact pC (Kd.V_reads' HO110.out).2.2)
    (case side4 => exact (Kd.V_reads' HO110.out).2.1)
    rintro e w40 ⟨v118, rfl, ho0, hb⟩
    refine ⟨_, rfl, ?_⟩
    replace HO107 := Aside0.mk (Kd.V_elder' (pV HO107.out) (Kd.R_base ho0) hb)
    replace HO110 := Aside0.mk (Kd.V_elder' (pV HO110.out) (Kd.R_base ho0) hb)
    have HO119 := Aside0.mk (Kd.R_lower (Kd.R_newB (Kd.R_newB (Kd.R_newB (Kd.R_new' ho0 (Kd.R_lt (pR HO115.out))) (g := gb102) (o := .cells #[.int .i64 a1] 3 (0, 0)) (pB BK102.out)) (g := gb103) (o := .cells #[.int .i64 a2] 3 (0, 0)) (pB BK103.out)) (g := gb104) (o := .cells #[.int .i64 a3] 3 (0, 0)) (pB BK104.out)) (below_size (pE HB)))
    replace HO115 := re HO115 ho0 hb
    replace BK101 := bb BK101 hb
    replace BK102 := bb BK102 hb
    replace BK103 := bb BK103 hb
    replace BK104 := bb BK104 hb
    replace BK112 := bb BK112 hb
    replace HB := bs HB hb
    (try clear hb)
    (try clear hb2)
    (try clear hk)
    (try clear hi)
    (try clear ho0)
    obtain ⟨Ao41, co41, eo41⟩ := Kd.R_slice HO119.out
    (first | subst eo41 | (injection eo41 with f1_ f2_ f3_; have f4_ := f1_.symm; have f5_ := f3_.symm; clear f1_ f2_ f3_; subst f4_; subst f5_))
    refine hK.out _ _ ⟨(blk_cell BK112.out 0).trans rfl, (blk_cell BK112.out 1).trans rfl, (blk_cell BK102.out 0).trans rfl, (blk_cell BK103.out 0).trans rfl⟩ (fun hHeld => ?_)
    clear hK K
    refine norm_ (a' := ?_) ?_ ?_
    rotate_left
    ·show Act.put _ (some 36) _ = _
     simp only [Act.put, List.setIfInBounds_toArray, List.set_cons_zero, List.set_cons_succ, i64_w, i32_w]
     rfl
    refine on 5 (fun K hK => ?_)
    refine gO Tryz.func71 #[.agg #[.slice Ao27 t105.length co27, .slice Ao33 t108.length co33], .slice Ao41 t117.length co41, .int .i64 a1, .int .i64 a2] ?_
    with_reducible refine (turn_day_isLate.calls _ _ t105 _ _ t108 _ _ t117 a1 a2 true _ ?side1 ?side2 ?side3 ?side4 ?side5 ?side6 A10.out).mono ?_
    (case side1 => exact pC (Kd.V_reads' HO107.out).2.2)
    (case side2 => exact (Kd.V_reads' HO107.out).2.1)
    (case side3 => exact pC (Kd.V_reads' HO110.out).2.2)
    (case side4 => exact (Kd.V_reads' HO110.out).2.1)
    (case side5 => exact pC (Kd.R_reads' HO119.out).2.2)
    (case side6 => exact (Kd.R_reads' HO119.out).2.1)
    rintro e w42 ⟨rfl, hb⟩
    refine ⟨_, rfl, ?_⟩
    replace HO107 := vb HO107 hb
    replace HO110 := vb HO110 hb
    replace HO115 := rb HO115 hb
    replace HO119 := rb HO119 hb
    replace BK101 := bb BK101 hb
    replace BK102 := bb BK102 hb
    replace BK103 := bb BK103 hb
    replace BK104 := bb BK104 hb
    replace BK112 := bb BK112 hb
    replace HB := bs HB hb
    (try clear hb)
    (try clear hb2)
    (try clear hk)
    (try clear hi)
    refine hK.out _ _ ⟨(blk_cell BK112.out 0).trans rfl, (blk_cell BK112.out 1).trans rfl, (blk_cell BK102.out 0).trans rfl, (blk_cell BK103.out 0).trans rfl⟩ (fun hHeld => ?_)
    clear hK K
    refine norm_ (a' := ?_) ?_ ?_
    rotate_left
    ·show Act.put _ (some 39) _ = _
     simp only [Act.put, List.setIfInBounds_toArray, List.set_cons_zero, List.set_cons_succ, i64_w, i32_w]
     rfl
    refine pu 6 33 ?_
    refine done_ (by kernel_rfl) ?_
    try go_wp2
    go_ret2
    exact ⟨eT, pE HB⟩
   ·replace c11 := Bool.eq_false_iff.mpr c11
    subst c11
    rw [if_neg (show ¬ (false = true) by decide)] at H
    obtain ⟨t121, A43, H⟩ := bi H
    simp only [Option.some.injEq, Prod.mk.injEq] at H
    obtain ⟨rfl, rfl⟩ := H
    go_enter Tryz.func43, Tryz.ntmps43
    try go_wp2_with (first | ((with_reducible refine gate_dst (N := 4) rfl ?_); refine bx 4 #[.slice A0_0 l0_0.length c0_0, .slice A0_1 l0_1.length c0_1] 25 ?_; intro gb101 hg w44 hbox hb; have BK101 := hbox; have GW101 := gs HB hg; have GE101 := gs HB hg; replace HB := bs HB hb; clear hb hbox hg) | ((with_reducible refine gate_dst (N := 5) rfl ?_); refine bx 5 #[.int .i64 a1] 3 ?_; intro gb102 hg w45 hbox hb; have BK102 := hbox; have GW102 := gs HB hg; have GE102 := gs HB hg; replace HB := bs HB hb; have NB101_102 := nl BK101 hg; have NB102_101 := nr BK101 hg; replace BK101 := bb BK101 hb; clear hb hbox hg) | ((with_reducible refine gate_dst (N := 6) rfl ?_); refine bx 6 #[.int .i64 a2] 3 ?_; intro gb103 hg w46 hbox hb; have BK103 := hbox; have GW103 := gs HB hg; have GE103 := gs HB hg; replace HB := bs HB hb; have NB101_103 := nl BK101 hg; have NB103_101 := nr BK101 hg; replace BK101 := bb BK101 hb; have NB102_103 := nl BK102 hg; have NB103_102 := nr BK102 hg; replace BK102 := bb BK102 hb; clear hb hbox hg) | ((with_reducible refine gate_dst (N := 7) rfl ?_); refine bx 7 #[.int .i64 a3] 3 ?_; intro gb104 hg w47 hbox hb; have BK104 := hbox; have GW104 := gs HB hg; have GE104 := gs HB hg; replace HB := bs HB hb; have NB101_104 := nl BK101 hg; have NB104_101 := nr BK101 hg; replace BK101 := bb BK101 hb; have NB102_104 := nl BK102 hg; have NB104_102 := nr BK102 hg; replace BK102 := bb BK102 hb; have NB103_104 := nl BK103 hg; have NB104_103 := nr BK103 hg; replace BK103 := bb BK103 hb; clear hb hbox hg; have hnb48 := NB101_102.out; have hnc48 := NB102_101.out; have hnb49 := NB101_103.out; have hnc49 := NB103_101.out; have hnb50 := NB101_104.out; have hnc50 := NB104_101.out; obtain ⟨_, _, _, _⟩ := cf2 BK101; have hnb52 := NB102_103.out; have hnc52 := NB103_102.out; have hnb53 := NB102_104.out; have hnc53 := NB104_102.out; obtain ⟨_, _⟩ := cf1 BK102; have hnb55 := NB103_104.out; have hnc55 := NB104_103.out; obtain ⟨_, _⟩ := cf1 BK103) | ((with_reducible refine gc 62 rfl ?_); refine gL 16 Tryz.func62 #[.agg #[.slice A0_0 l0_0.length c0_0, .slice A0_1 l0_1.length c0_1], .int .i64 a1, .int .i64 a2] ?_; (with_reducible refine (turn_open.calls k (fun k_ => k_ < w.heap.size) _ _ l0_0 (fun k_ => k_ < w.heap.size) _ _ l0_1 a1 a2 t105 t108 t111 _ ?side1 ?side2 A5.out).mono ?_); (case side1 => exact Kd.V_mk HC0_0.out (Kd.F_below (Kd.C_F k67_heap HR0_0.out) (pE HB))); (case side2 => exact Kd.V_mk HC0_1.out (Kd.F_below (Kd.C_F (Kd.heap_int .i64) HR0_1.out) (pE HB))); rintro e w57 ⟨v106, v109, rfl, ho0, ho1, hb⟩; refine ⟨_, rfl, ?_⟩; have HO107 := Aside0.mk (Kd.V_lower (Kd.V_mono (ok' := fun k_ => k_ ≠ gb101 ∧ k_ ≠ gb102 ∧ k_ ≠ gb103 ∧ k_ ≠ gb104) ho0 (fun k_ hk_ => ⟨Or.elim hk_ (fun hs_ => Or.elim hs_ (fun hs_ => fun e_ => Nat.not_le.2 hs_ (by rw [e_]; exact GW101.out)) (fun hs_ => fun e_ => Nat.not_le.2 hs_ (by rw [e_]; exact GW101.out))) (fun hn_ => (Kd.freshB (g := gb101) (o := .cells #[.slice A0_0 l0_0.length c0_0, .slice A0_1 l0_1.length c0_1] 25 (0, 0)) (pB BK101.out) k_ hn_)), Or.elim hk_ (fun hs_ => Or.elim hs_ (fun hs_ => fun e_ => Nat.not_le.2 hs_ (by rw [e_]; exact GW102.out)) (fun hs_ => fun e_ => Nat.not_le.2 hs_ (by rw [e_]; exact GW102.out))) (fun hn_ => (Kd.freshB (g := gb102) (o := .cells #[.int .i64 a1] 3 (0, 0)) (pB BK102.out) k_ hn_)), Or.elim hk_ (fun hs_ => Or.elim hs_ (fun hs_ => fun e_ => Nat.not_le.2 hs_ (by rw [e_]; exact GW103.out)) (fun hs_ => fun e_ => Nat.not_le.2 hs_ (by rw [e_]; exact GW103.out))) (fun hn_ => (Kd.freshB (g := gb103) (o := .cells #[.int .i64 a2] 3 (0, 0)) (pB BK103.out) k_ hn_)), Or.elim hk_ (fun hs_ => Or.elim hs_ (fun hs_ => fun e_ => Nat.not_le.2 hs_ (by rw [e_]; exact GW104.out)) (fun hs_ => fun e_ => Nat.not_le.2 hs_ (by rw [e_]; exact GW104.out))) (fun hn_ => (Kd.freshB (g := gb104) (o := .cells #[.int .i64 a3] 3 (0, 0)) (pB BK104.out) k_ hn_))⟩)) (below_size (pE HB))); have HO110 := Aside0.mk (Kd.V_lower (Kd.V_mono (ok' := fun k_ => k_ ≠ gb101 ∧ k_ ≠ gb102 ∧ k_ ≠ gb103 ∧ k_ ≠ gb104) ho1 (fun k_ hk_ => ⟨Or.elim hk_ (fun hs_ => Or.elim hs_ (fun hs_ => fun e_ => Nat.not_le.2 hs_ (by rw [e_]; exact GW101.out)) (fun hs_ => fun e_ => Nat.not_le.2 hs_ (by rw [e_]; exact GW101.out))) (fun hn_ => (Kd.freshB (g := gb101) (o := .cells #[.slice A0_0 l0_0.length c0_0, .slice A0_1 l0_1.length c0_1] 25 (0, 0)) (pB BK101.out) k_ hn_)), Or.elim hk_ (fun hs_ => Or.elim hs_ (fun hs_ => fun e_ => Nat.not_le.2 hs_ (by rw [e_]; exact GW102.out)) (fun hs_ => fun e_ => Nat.not_le.2 hs_ (by rw [e_]; exact GW102.out))) (fun hn_ => (Kd.freshB (g := gb102) (o := .cells #[.int .i64 a1] 3 (0, 0)) (pB BK102.out) k_ hn_)), Or.elim hk_ (fun hs_ => Or.elim hs_ (fun hs_ => fun e_ => Nat.not_le.2 hs_ (by rw [e_]; exact GW103.out)) (fun hs_ => fun e_ => Nat.not_le.2 hs_ (by rw [e_]; exact GW103.out))) (fun hn_ => (Kd.freshB (g := gb103) (o := .cells #[.int .i64 a2] 3 (0, 0)) (pB BK103.out) k_ hn_)), Or.elim hk_ (fun hs_ => Or.elim hs_ (fun hs_ => fun e_ => Nat.not_le.2 hs_ (by rw [e_]; exact GW104.out)) (fun hs_ => fun e_ => Nat.not_le.2 hs_ (by rw [e_]; exact GW104.out))) (fun hn_ => (Kd.freshB (g := gb104) (o := .cells #[.int .i64 a3] 3 (0, 0)) (pB BK104.out) k_ hn_))⟩)) (below_size (pE HB))); replace BK101 := bb BK101 hb; replace BK102 := bb BK102 hb; replace BK103 := bb BK103 hb; replace BK104 := bb BK104 hb; replace HB := bs HB hb; clear hb ho0 ho1) | ((with_reducible refine gate_dst (N := 10) rfl ?_); refine bx 10 #[.slice none 0 0, .slice none 0 0] 99 ?_; intro gb112 hg w58 hbox hb; replace HO107 := ve HO107 hg hb; replace HO110 := ve HO110 hg hb; have BK112 := hbox; have GW112 := gs HB hg; have GE112 := gs HB hg; replace HB := bs HB hb; have NB101_112 := nl BK101 hg; have NB112_101 := nr BK101 hg; replace BK101 := bb BK101 hb; have NB102_112 := nl BK102 hg; have NB112_102 := nr BK102 hg; replace BK102 := bb BK102 hb; have NB103_112 := nl BK103 hg; have NB112_103 := nr BK103 hg; replace BK103 := bb BK103 hb; have NB104_112 := nl BK104 hg; have NB112_104 := nr BK104 hg; replace BK104 := bb BK104 hb; clear hb hbox hg; obtain ⟨Ao59, co59, eo59⟩ := Kd.V_slice HO107.out; subst eo59; have hnb60 := NB112_101.out; have hnc60 := NB101_112.out; have hnb61 := NB112_102.out; have hnc61 := NB102_112.out; have hnb62 := NB112_103.out; have hnc62 := NB103_112.out; have hnb63 := NB112_104.out; have hnc63 := NB104_112.out; obtain ⟨_, _, _, _⟩ := cf2 BK112; obtain ⟨Ao65, co65, eo65⟩ := Kd.V_slice HO110.out; subst eo65; obtain ⟨_, _⟩ := cf1 BK104) | ((with_reducible refine gate_dst (N := 30) rfl ?_); refine Kd.R_lit (Kd.int .i64) _ 3 ?hg (N := 30) ?hd (xs := ([a3] : List Int)) (inner := [.int .i64 a3]) (ok := fun _ => True) (okp := fun _ => True) ?hr ?hp (fun _ hk => hk) trivial (Below.refl _ _) (Nat.le_refl _) (by simp) ?_; (case hd => rfl); (case hg => rfl); (case hr => first | (go_simp; done) | (go_simp; rfl)); (case hp => exact (Reps.one (show Kd.M (Kd.int .i64) _ _ _ a3 [.int .i64 a3] from rfl) (Reps.none _ _))); intro v114 w67 ho68 hb hg_ hnew_; clear hg_ hnew_; (first | rw [← Ny113.out] at ho68 | (simp only [Int.reduceToNat] at ho68; rw [← Ny113.out] at ho68)); replace HO107 := Aside0.mk (Kd.V_elder' (by refine pV ?_; exact (Kd.V_mono (Kd.V_far (p := ⟨gb112, 1, none⟩) (Kd.V_far (p := ⟨gb112, 0, none⟩) (Kd.V_mono HO107.out (fun k_ hk => (⟨hk, hk.2⟩ : _ ∧ k_ ≠ gb112))) (fun _ hk => hk.2) (.slice Ao59 t105.length co59)) (fun _ hk => hk.2) (.slice Ao65 t108.length co65)) (fun _ h_ => h_.1))) (Kd.R_base ho68) hb); replace HO110 := Aside0.mk (Kd.V_elder' (by refine pV ?_; exact (Kd.V_mono (Kd.V_far (p := ⟨gb112, 1, none⟩) (Kd.V_far (p := ⟨gb112, 0, none⟩) (Kd.V_mono HO110.out (fun k_ hk => (⟨hk, hk.2⟩ : _ ∧ k_ ≠ gb112))) (fun _ hk => hk.2) (.slice Ao59 t105.length co59)) (fun _ hk => hk.2) (.slice Ao65 t108.length co65)) (fun _ h_ => h_.1))) (Kd.R_base ho68) hb); have HO115 := Aside0.mk (Kd.R_lower (Kd.R_newB (Kd.R_newB (Kd.R_newB ho68 (g := gb102) (o := .cells #[.int .i64 a1] 3 (0, 0)) (pF BK102)) (g := gb103) (o := .cells #[.int .i64 a2] 3 (0, 0)) (pF BK103)) (g := gb104) (o := .cells #[.int .i64 a3] 3 (0, 0)) (pF BK104)) (below_size (pE HB))); replace BK101 := bf BK101 hb; replace BK102 := bf BK102 hb; replace BK103 := bf BK103 hb; replace BK104 := bf BK104 hb; replace BK112 := Aside0.mk (blk_below (g := gb112) (o := .cells #[.slice Ao59 t105.length co59, .slice Ao65 t108.length co65] 99 (0, 0)) (by refine pB ?_; refine blk_put (cs := #[.slice Ao59 t105.length co59, .slice none 0 0]) ?_ 1 _ rfl; refine pB ?_; refine blk_put (cs := #[.slice none 0 0, .slice none 0 0]) ?_ 0 _ rfl; (with_reducible repeat (first | refine blk_drewN ?_ _ | refine blk_drew ?_ | refine blk_alloc ?_ _)); exact BK112.out) hb); replace HB := bs HB hb; clear hb ho68; obtain ⟨Ao69, co69, eo69⟩ := Kd.R_slice HO115.out; subst eo69) | ((with_reducible refine gc 59 rfl ?_); refine gL 31 Tryz.func59 #[.int .i64 0, .int .i64 (wrap64 ((t105.length : Int) - 1)), .slice Ao69 y113.length co69] ?_; (with_reducible refine (turn_within.calls 0 (wrap64 ((t105.length : Int) - 1)) _ _ y113 true _ ?side1 ?side2 A7.out).mono ?_); (case side1 => exact pC (Kd.R_reads' HO115.out).2.2); (case side2 => exact (Kd.R_reads' HO115.out).2.1); rintro e w70 ⟨rfl, hb⟩; refine ⟨_, rfl, ?_⟩; replace HO107 := vb HO107 hb; replace HO110 := vb HO110 hb; replace HO115 := rb HO115 hb; replace BK101 := bb BK101 hb; replace BK102 := bb BK102 hb; replace BK103 := bb BK103 hb; replace BK104 := bb BK104 hb; replace BK112 := bb BK112 hb; replace HB := bs HB hb; clear hb))
    replace HO107 := Aside0.mk (Kd.V_drew HO107.out)
    replace HO110 := Aside0.mk (Kd.V_drew HO110.out)
    replace HO115 := Aside0.mk (Kd.R_drew HO115.out)
    replace BK101 := Aside0.mk (blk_drew BK101.out)
    replace BK102 := Aside0.mk (blk_drew BK102.out)
    replace BK103 := Aside0.mk (blk_drew BK103.out)
    replace BK104 := Aside0.mk (blk_drew BK104.out)
    replace BK112 := Aside0.mk (blk_drew BK112.out)
    replace HB := Aside0.mk (below_drew1 HB.out)
    refine start_ (n := 7) (S := fun w' => w'.cell? ⟨gb112, 0, none⟩ = some (.slice Ao59 t105.length co59) ∧ w'.cell? ⟨gb112, 1, none⟩ = some (.slice Ao65 t108.length co65) ∧ w'.cell? ⟨gb102, 0, none⟩ = some (.int .i64 a1) ∧ w'.cell? ⟨gb103, 0, none⟩ = some (.int .i64 a2)) (ds := []) #[false, false, false, false, false, false, false] (by kernel_rfl) rfl rfl ⟨(blk_cell BK112.out 0).trans rfl, (blk_cell BK112.out 1).trans rfl, (blk_cell BK102.out 0).trans rfl, (blk_cell BK103.out 0).trans rfl⟩ (fun hHeld => ?_)
    generalize w70.drew = w71 at HO107 HO110 HO115 BK101 BK102 BK103 BK104 BK112 HB hHeld ⊢
    refine tk 0 34 hHeld ?_
    refine tk 1 35 hHeld ?_
    refine tk 3 37 hHeld ?_
    refine tk 4 38 hHeld ?_
    refine on 2 (fun K hK => ?_)
    refine gO Tryz.func63 #[.agg #[.slice Ao59 t105.length co59, .slice Ao65 t108.length co65]] ?_
    with_reducible refine (turn_day_order.calls k _ _ t105 _ _ t108 t117 _ ?side1 ?side2 ?side3 ?side4 A9.out).mono ?_
    (case side1 => exact pC (Kd.V_reads' HO107.out).2.2)
    (case side2 => exact (Kd.V_reads' HO107.out).2.1)
    (case side3 => exact pC (Kd.V_reads' HO110.out).2.2)
    (case side4 => exact (Kd.V_reads' HO110.out).2.1)
    rintro e w72 ⟨v118, rfl, ho0, hb⟩
    refine ⟨_, rfl, ?_⟩
    replace HO107 := Aside0.mk (Kd.V_elder' (pV HO107.out) (Kd.R_base ho0) hb)
    replace HO110 := Aside0.mk (Kd.V_elder' (pV HO110.out) (Kd.R_base ho0) hb)
    have HO119 := Aside0.mk (Kd.R_lower (Kd.R_newB (Kd.R_newB (Kd.R_newB (Kd.R_new' ho0 (Kd.R_lt (pR HO115.out))) (g := gb102) (o := .cells #[.int .i64 a1] 3 (0, 0)) (pB BK102.out)) (g := gb103) (o := .cells #[.int .i64 a2] 3 (0, 0)) (pB BK103.out)) (g := gb104) (o := .cells #[.int .i64 a3] 3 (0, 0)) (pB BK104.out)) (below_size (pE HB)))
    replace HO115 := re HO115 ho0 hb
    replace BK101 := bb BK101 hb
    replace BK102 := bb BK102 hb
    replace BK103 := bb BK103 hb
    replace BK104 := bb BK104 hb
    replace BK112 := bb BK112 hb
    replace HB := bs HB hb
    (try clear hb)
    (try clear hb2)
    (try clear hk)
    (try clear hi)
    (try clear ho0)
    obtain ⟨Ao73, co73, eo73⟩ := Kd.R_slice HO119.out
    (first | subst eo73 | (injection eo73 with f1_ f2_ f3_; have f4_ := f1_.symm; have f5_ := f3_.symm; clear f1_ f2_ f3_; subst f4_; subst f5_))
    refine hK.out _ _ ⟨(blk_cell BK112.out 0).trans rfl, (blk_cell BK112.out 1).trans rfl, (blk_cell BK102.out 0).trans rfl, (blk_cell BK103.out 0).trans rfl⟩ (fun hHeld => ?_)
    clear hK K
    refine norm_ (a' := ?_) ?_ ?_
    rotate_left
    ·show Act.put _ (some 36) _ = _
     simp only [Act.put, List.setIfInBounds_toArray, List.set_cons_zero, List.set_cons_succ, i64_w, i32_w]
     rfl
    refine on 5 (fun K hK => ?_)
    refine gO Tryz.func71 #[.agg #[.slice Ao59 t105.length co59, .slice Ao65 t108.length co65], .slice Ao73 t117.length co73, .int .i64 a1, .int .i64 a2] ?_
    with_reducible refine (turn_day_isLate.calls _ _ t105 _ _ t108 _ _ t117 a1 a2 false _ ?side1 ?side2 ?side3 ?side4 ?side5 ?side6 A10.out).mono ?_
    (case side1 => exact pC (Kd.V_reads' HO107.out).2.2)
    (case side2 => exact (Kd.V_reads' HO107.out).2.1)
    (case side3 => exact pC (Kd.V_reads' HO110.out).2.2)
    (case side4 => exact (Kd.V_reads' HO110.out).2.1)
    (case side5 => exact pC (Kd.R_reads' HO119.out).2.2)
    (case side6 => exact (Kd.R_reads' HO119.out).2.1)
    rintro e w74 ⟨rfl, hb⟩
    refine ⟨_, rfl, ?_⟩
    replace HO107 := vb HO107 hb
    replace HO110 := vb HO110 hb
    replace HO115 := rb HO115 hb
    replace HO119 := rb HO119 hb
    replace BK101 := bb BK101 hb
    replace BK102 := bb BK102 hb
    replace BK103 := bb BK103 hb
    replace BK104 := bb BK104 hb
    replace BK112 := bb BK112 hb
    replace HB := bs HB hb
    (try clear hb)
    (try clear hb2)
    (try clear hk)
    (try clear hi)
    refine hK.out _ _ ⟨(blk_cell BK112.out 0).trans rfl, (blk_cell BK112.out 1).trans rfl, (blk_cell BK102.out 0).trans rfl, (blk_cell BK103.out 0).trans rfl⟩ (fun hHeld => ?_)
    clear hK K
    refine norm_ (a' := ?_) ?_ ?_
    rotate_left
    ·show Act.put _ (some 39) _ = _
     simp only [Act.put, List.setIfInBounds_toArray, List.set_cons_zero, List.set_cons_succ, i64_w, i32_w]
     rfl
    refine pu 6 33 ?_
    refine done_ (by kernel_rfl) ?_
    try go_wp2_with (first | ((with_reducible refine gc 86 rfl ?_); refine gL 41 Tryz.func86 #[.int .i64 500, .func (.func 87) #[] #[.pointer (some ⟨gb112, 0, none⟩), .pointer (some ⟨gb104, 0, none⟩), .pointer (some ⟨gb102, 0, none⟩), .pointer (some ⟨gb103, 0, none⟩)]] ?_; (with_reducible refine (sort_Search_at_turn_Slack_1.calls k 500 gb112 Ao59 co59 t105 Ao65 co65 t108 gb104 a3 gb102 a1 gb103 a2 t121 _ ?side1 ?side2 ?side3 ?side4 ?side5 ?side6 ?side7 ?side8 ?side9 ?side10 ?side11 ?side12 ?side13 ?side14 A43.out).mono ?_); (case side1 => exact pB BK112.out); (case side2 => exact pC (Kd.V_reads' HO107.out).2.2); (case side3 => exact (Kd.V_reads' HO107.out).2.1); (case side4 => exact pC (Kd.V_reads' HO110.out).2.2); (case side5 => exact (Kd.V_reads' HO110.out).2.1); (case side6 => exact pB BK104.out); (case side7 => exact NB112_104.out); (case side8 => exact pB BK102.out); (case side9 => exact NB112_102.out); (case side10 => exact NB104_102.out); (case side11 => exact pB BK103.out); (case side12 => exact NB112_103.out); (case side13 => exact NB104_103.out); (case side14 => exact NB102_103.out); rintro e w75 ⟨rfl, hb⟩; refine ⟨_, rfl, ?_⟩; replace HO107 := vb HO107 hb; replace HO110 := vb HO110 hb; replace HO115 := rb HO115 hb; replace HO119 := rb HO119 hb; replace BK101 := bb BK101 hb; replace BK102 := bb BK102 hb; replace BK103 := bb BK103 hb; replace BK104 := bb BK104 hb; replace BK112 := bb BK112 hb; replace HB := bs HB hb; clear hb))
    go_ret2
    exact ⟨eT, pE HB⟩
  ·replace c8 := Bool.eq_false_iff.mpr c8
   subst c8
   rw [if_neg (show ¬ (false = true) by decide)] at H
   simp only [Option.some.injEq, Prod.mk.injEq] at H
   obtain ⟨rfl, rfl⟩ := H
   go_enter Tryz.func43, Tryz.ntmps43
   go_wp2_with (first | ((with_reducible refine gate_dst (N := 4) rfl ?_); refine bx 4 #[.slice A0_0 l0_0.length c0_0, .slice A0_1 l0_1.length c0_1] 25 ?_; intro gb101 hg w76 hbox hb; have BK101 := hbox; have GW101 := gs HB hg; have GE101 := gs HB hg; replace HB := bs HB hb; clear hb hbox hg) | ((with_reducible refine gate_dst (N := 5) rfl ?_); refine bx 5 #[.int .i64 a1] 3 ?_; intro gb102 hg w77 hbox hb; have BK102 := hbox; have GW102 := gs HB hg; have GE102 := gs HB hg; replace HB := bs HB hb; have NB101_102 := nl BK101 hg; have NB102_101 := nr BK101 hg; replace BK101 := bb BK101 hb; clear hb hbox hg) | ((with_reducible refine gate_dst (N := 6) rfl ?_); refine bx 6 #[.int .i64 a2] 3 ?_; intro gb103 hg w78 hbox hb; have BK103 := hbox; have GW103 := gs HB hg; have GE103 := gs HB hg; replace HB := bs HB hb; have NB101_103 := nl BK101 hg; have NB103_101 := nr BK101 hg; replace BK101 := bb BK101 hb; have NB102_103 := nl BK102 hg; have NB103_102 := nr BK102 hg; replace BK102 := bb BK102 hb; clear hb hbox hg) | ((with_reducible refine gate_dst (N := 7) rfl ?_); refine bx 7 #[.int .i64 a3] 3 ?_; intro gb104 hg w79 hbox hb; have BK104 := hbox; have GW104 := gs HB hg; have GE104 := gs HB hg; replace HB := bs HB hb; have NB101_104 := nl BK101 hg; have NB104_101 := nr BK101 hg; replace BK101 := bb BK101 hb; have NB102_104 := nl BK102 hg; have NB104_102 := nr BK102 hg; replace BK102 := bb BK102 hb; have NB103_104 := nl BK103 hg; have NB104_103 := nr BK103 hg; replace BK103 := bb BK103 hb; clear hb hbox hg; have hnb80 := NB101_102.out; have hnc80 := NB102_101.out; have hnb81 := NB101_103.out; have hnc81 := NB103_101.out; have hnb82 := NB101_104.out; have hnc82 := NB104_101.out; obtain ⟨_, _, _, _⟩ := cf2 BK101; have hnb84 := NB102_103.out; have hnc84 := NB103_102.out; have hnb85 := NB102_104.out; have hnc85 := NB104_102.out; obtain ⟨_, _⟩ := cf1 BK102; have hnb87 := NB103_104.out; have hnc87 := NB104_103.out; obtain ⟨_, _⟩ := cf1 BK103) | ((with_reducible refine gc 62 rfl ?_); refine gL 16 Tryz.func62 #[.agg #[.slice A0_0 l0_0.length c0_0, .slice A0_1 l0_1.length c0_1], .int .i64 a1, .int .i64 a2] ?_; (with_reducible refine (turn_open.calls k (fun k_ => k_ < w.heap.size) _ _ l0_0 (fun k_ => k_ < w.heap.size) _ _ l0_1 a1 a2 t105 t108 t111 _ ?side1 ?side2 A5.out).mono ?_); (case side1 => exact Kd.V_mk HC0_0.out (Kd.F_below (Kd.C_F k67_heap HR0_0.out) (pE HB))); (case side2 => exact Kd.V_mk HC0_1.out (Kd.F_below (Kd.C_F (Kd.heap_int .i64) HR0_1.out) (pE HB))); rintro e w89 ⟨v106, v109, rfl, ho0, ho1, hb⟩; refine ⟨_, rfl, ?_⟩; have HO107 := Aside0.mk (Kd.V_lower (Kd.V_mono (ok' := fun k_ => k_ ≠ gb101 ∧ k_ ≠ gb102 ∧ k_ ≠ gb103 ∧ k_ ≠ gb104) ho0 (fun k_ hk_ => ⟨Or.elim hk_ (fun hs_ => Or.elim hs_ (fun hs_ => fun e_ => Nat.not_le.2 hs_ (by rw [e_]; exact GW101.out)) (fun hs_ => fun e_ => Nat.not_le.2 hs_ (by rw [e_]; exact GW101.out))) (fun hn_ => (Kd.freshB (g := gb101) (o := .cells #[.slice A0_0 l0_0.length c0_0, .slice A0_1 l0_1.length c0_1] 25 (0, 0)) (pB BK101.out) k_ hn_)), Or.elim hk_ (fun hs_ => Or.elim hs_ (fun hs_ => fun e_ => Nat.not_le.2 hs_ (by rw [e_]; exact GW102.out)) (fun hs_ => fun e_ => Nat.not_le.2 hs_ (by rw [e_]; exact GW102.out))) (fun hn_ => (Kd.freshB (g := gb102) (o := .cells #[.int .i64 a1] 3 (0, 0)) (pB BK102.out) k_ hn_)), Or.elim hk_ (fun hs_ => Or.elim hs_ (fun hs_ => fun e_ => Nat.not_le.2 hs_ (by rw [e_]; exact GW103.out)) (fun hs_ => fun e_ => Nat.not_le.2 hs_ (by rw [e_]; exact GW103.out))) (fun hn_ => (Kd.freshB (g := gb103) (o := .cells #[.int .i64 a2] 3 (0, 0)) (pB BK103.out) k_ hn_)), Or.elim hk_ (fun hs_ => Or.elim hs_ (fun hs_ => fun e_ => Nat.not_le.2 hs_ (by rw [e_]; exact GW104.out)) (fun hs_ => fun e_ => Nat.not_le.2 hs_ (by rw [e_]; exact GW104.out))) (fun hn_ => (Kd.freshB (g := gb104) (o := .cells #[.int .i64 a3] 3 (0, 0)) (pB BK104.out) k_ hn_))⟩)) (below_size (pE HB))); have HO110 := Aside0.mk (Kd.V_lower (Kd.V_mono (ok' := fun k_ => k_ ≠ gb101 ∧ k_ ≠ gb102 ∧ k_ ≠ gb103 ∧ k_ ≠ gb104) ho1 (fun k_ hk_ => ⟨Or.elim hk_ (fun hs_ => Or.elim hs_ (fun hs_ => fun e_ => Nat.not_le.2 hs_ (by rw [e_]; exact GW101.out)) (fun hs_ => fun e_ => Nat.not_le.2 hs_ (by rw [e_]; exact GW101.out))) (fun hn_ => (Kd.freshB (g := gb101) (o := .cells #[.slice A0_0 l0_0.length c0_0, .slice A0_1 l0_1.length c0_1] 25 (0, 0)) (pB BK101.out) k_ hn_)), Or.elim hk_ (fun hs_ => Or.elim hs_ (fun hs_ => fun e_ => Nat.not_le.2 hs_ (by rw [e_]; exact GW102.out)) (fun hs_ => fun e_ => Nat.not_le.2 hs_ (by rw [e_]; exact GW102.out))) (fun hn_ => (Kd.freshB (g := gb102) (o := .cells #[.int .i64 a1] 3 (0, 0)) (pB BK102.out) k_ hn_)), Or.elim hk_ (fun hs_ => Or.elim hs_ (fun hs_ => fun e_ => Nat.not_le.2 hs_ (by rw [e_]; exact GW103.out)) (fun hs_ => fun e_ => Nat.not_le.2 hs_ (by rw [e_]; exact GW103.out))) (fun hn_ => (Kd.freshB (g := gb103) (o := .cells #[.int .i64 a2] 3 (0, 0)) (pB BK103.out) k_ hn_)), Or.elim hk_ (fun hs_ => Or.elim hs_ (fun hs_ => fun e_ => Nat.not_le.2 hs_ (by rw [e_]; exact GW104.out)) (fun hs_ => fun e_ => Nat.not_le.2 hs_ (by rw [e_]; exact GW104.out))) (fun hn_ => (Kd.freshB (g := gb104) (o := .cells #[.int .i64 a3] 3 (0, 0)) (pB BK104.out) k_ hn_))⟩)) (below_size (pE HB))); replace BK101 := bb BK101 hb; replace BK102 := bb BK102 hb; replace BK103 := bb BK103 hb; replace BK104 := bb BK104 hb; replace HB := bs HB hb; clear hb ho0 ho1) | ((with_reducible refine gate_dst (N := 10) rfl ?_); refine bx 10 #[.slice none 0 0, .slice none 0 0] 99 ?_; intro gb112 hg w90 hbox hb; replace HO107 := ve HO107 hg hb; replace HO110 := ve HO110 hg hb; have BK112 := hbox; have GW112 := gs HB hg; have GE112 := gs HB hg; replace HB := bs HB hb; have NB101_112 := nl BK101 hg; have NB112_101 := nr BK101 hg; replace BK101 := bb BK101 hb; have NB102_112 := nl BK102 hg; have NB112_102 := nr BK102 hg; replace BK102 := bb BK102 hb; have NB103_112 := nl BK103 hg; have NB112_103 := nr BK103 hg; replace BK103 := bb BK103 hb; have NB104_112 := nl BK104 hg; have NB112_104 := nr BK104 hg; replace BK104 := bb BK104 hb; clear hb hbox hg; obtain ⟨Ao91, co91, eo91⟩ := Kd.V_slice HO107.out; subst eo91; have hnb92 := NB112_101.out; have hnc92 := NB101_112.out; have hnb93 := NB112_102.out; have hnc93 := NB102_112.out; have hnb94 := NB112_103.out; have hnc94 := NB103_112.out; have hnb95 := NB112_104.out; have hnc95 := NB104_112.out; obtain ⟨_, _, _, _⟩ := cf2 BK112; obtain ⟨Ao97, co97, eo97⟩ := Kd.V_slice HO110.out; subst eo97; obtain ⟨_, _⟩ := cf1 BK104) | ((with_reducible refine gate_dst (N := 30) rfl ?_); refine Kd.R_lit (Kd.int .i64) _ 3 ?hg (N := 30) ?hd (xs := ([a3] : List Int)) (inner := [.int .i64 a3]) (ok := fun _ => True) (okp := fun _ => True) ?hr ?hp (fun _ hk => hk) trivial (Below.refl _ _) (Nat.le_refl _) (by simp) ?_; (case hd => rfl); (case hg => rfl); (case hr => first | (go_simp; done) | (go_simp; rfl)); (case hp => exact (Reps.one (show Kd.M (Kd.int .i64) _ _ _ a3 [.int .i64 a3] from rfl) (Reps.none _ _))); intro v114 w99 ho100 hb hg_ hnew_; clear hg_ hnew_; (first | rw [← Ny113.out] at ho100 | (simp only [Int.reduceToNat] at ho100; rw [← Ny113.out] at ho100)); replace HO107 := Aside0.mk (Kd.V_elder' (by refine pV ?_; exact (Kd.V_mono (Kd.V_far (p := ⟨gb112, 1, none⟩) (Kd.V_far (p := ⟨gb112, 0, none⟩) (Kd.V_mono HO107.out (fun k_ hk => (⟨hk, hk.2⟩ : _ ∧ k_ ≠ gb112))) (fun _ hk => hk.2) (.slice Ao91 t105.length co91)) (fun _ hk => hk.2) (.slice Ao97 t108.length co97)) (fun _ h_ => h_.1))) (Kd.R_base ho100) hb); replace HO110 := Aside0.mk (Kd.V_elder' (by refine pV ?_; exact (Kd.V_mono (Kd.V_far (p := ⟨gb112, 1, none⟩) (Kd.V_far (p := ⟨gb112, 0, none⟩) (Kd.V_mono HO110.out (fun k_ hk => (⟨hk, hk.2⟩ : _ ∧ k_ ≠ gb112))) (fun _ hk => hk.2) (.slice Ao91 t105.length co91)) (fun _ hk => hk.2) (.slice Ao97 t108.length co97)) (fun _ h_ => h_.1))) (Kd.R_base ho100) hb); have HO115 := Aside0.mk (Kd.R_lower (Kd.R_newB (Kd.R_newB (Kd.R_newB ho100 (g := gb102) (o := .cells #[.int .i64 a1] 3 (0, 0)) (pF BK102)) (g := gb103) (o := .cells #[.int .i64 a2] 3 (0, 0)) (pF BK103)) (g := gb104) (o := .cells #[.int .i64 a3] 3 (0, 0)) (pF BK104)) (below_size (pE HB))); replace BK101 := bf BK101 hb; replace BK102 := bf BK102 hb; replace BK103 := bf BK103 hb; replace BK104 := bf BK104 hb; replace BK112 := Aside0.mk (blk_below (g := gb112) (o := .cells #[.slice Ao91 t105.length co91, .slice Ao97 t108.length co97] 99 (0, 0)) (by refine pB ?_; refine blk_put (cs := #[.slice Ao91 t105.length co91, .slice none 0 0]) ?_ 1 _ rfl; refine pB ?_; refine blk_put (cs := #[.slice none 0 0, .slice none 0 0]) ?_ 0 _ rfl; (with_reducible repeat (first | refine blk_drewN ?_ _ | refine blk_drew ?_ | refine blk_alloc ?_ _)); exact BK112.out) hb); replace HB := bs HB hb; clear hb ho100; obtain ⟨Ao101, co101, eo101⟩ := Kd.R_slice HO115.out; subst eo101) | ((with_reducible refine gc 59 rfl ?_); refine gL 31 Tryz.func59 #[.int .i64 0, .int .i64 (wrap64 ((t105.length : Int) - 1)), .slice Ao101 y113.length co101] ?_; (with_reducible refine (turn_within.calls 0 (wrap64 ((t105.length : Int) - 1)) _ _ y113 false _ ?side1 ?side2 A7.out).mono ?_); (case side1 => exact pC (Kd.R_reads' HO115.out).2.2); (case side2 => exact (Kd.R_reads' HO115.out).2.1); rintro e w102 ⟨rfl, hb⟩; refine ⟨_, rfl, ?_⟩; replace HO107 := vb HO107 hb; replace HO110 := vb HO110 hb; replace HO115 := rb HO115 hb; replace BK101 := bb BK101 hb; replace BK102 := bb BK102 hb; replace BK103 := bb BK103 hb; replace BK104 := bb BK104 hb; replace BK112 := bb BK112 hb; replace HB := bs HB hb; clear hb))
   go_ret2
   exact ⟨eT, pE HB⟩
 ·rw [if_neg c6] at H
  have c6b0 : (t111 == 0) = false := beq_eq_false_iff_ne.mpr c6
  have c6b1 : (t111 != 0) = true := bne_iff_ne.mpr c6
  simp only [Option.some.injEq, Prod.mk.injEq] at H
  obtain ⟨rfl, rfl⟩ := H
  go_enter Tryz.func43, Tryz.ntmps43
  go_wp2_with (first | ((with_reducible refine gate_dst (N := 4) rfl ?_); refine bx 4 #[.slice A0_0 l0_0.length c0_0, .slice A0_1 l0_1.length c0_1] 25 ?_; intro gb101 hg w103 hbox hb; have BK101 := hbox; have GW101 := gs HB hg; have GE101 := gs HB hg; replace HB := bs HB hb; clear hb hbox hg) | ((with_reducible refine gate_dst (N := 5) rfl ?_); refine bx 5 #[.int .i64 a1] 3 ?_; intro gb102 hg w104 hbox hb; have BK102 := hbox; have GW102 := gs HB hg; have GE102 := gs HB hg; replace HB := bs HB hb; have NB101_102 := nl BK101 hg; have NB102_101 := nr BK101 hg; replace BK101 := bb BK101 hb; clear hb hbox hg) | ((with_reducible refine gate_dst (N := 6) rfl ?_); refine bx 6 #[.int .i64 a2] 3 ?_; intro gb103 hg w105 hbox hb; have BK103 := hbox; have GW103 := gs HB hg; have GE103 := gs HB hg; replace HB := bs HB hb; have NB101_103 := nl BK101 hg; have NB103_101 := nr BK101 hg; replace BK101 := bb BK101 hb; have NB102_103 := nl BK102 hg; have NB103_102 := nr BK102 hg; replace BK102 := bb BK102 hb; clear hb hbox hg) | ((with_reducible refine gate_dst (N := 7) rfl ?_); refine bx 7 #[.int .i64 a3] 3 ?_; intro gb104 hg w106 hbox hb; have BK104 := hbox; have GW104 := gs HB hg; have GE104 := gs HB hg; replace HB := bs HB hb; have NB101_104 := nl BK101 hg; have NB104_101 := nr BK101 hg; replace BK101 := bb BK101 hb; have NB102_104 := nl BK102 hg; have NB104_102 := nr BK102 hg; replace BK102 := bb BK102 hb; have NB103_104 := nl BK103 hg; have NB104_103 := nr BK103 hg; replace BK103 := bb BK103 hb; clear hb hbox hg; have hnb107 := NB101_102.out; have hnc107 := NB102_101.out; have hnb108 := NB101_103.out; have hnc108 := NB103_101.out; have hnb109 := NB101_104.out; have hnc109 := NB104_101.out; obtain ⟨_, _, _, _⟩ := cf2 BK101; have hnb111 := NB102_103.out; have hnc111 := NB103_102.out; have hnb112 := NB102_104.out; have hnc112 := NB104_102.out; obtain ⟨_, _⟩ := cf1 BK102; have hnb114 := NB103_104.out; have hnc114 := NB104_103.out; obtain ⟨_, _⟩ := cf1 BK103) | ((with_reducible refine gc 62 rfl ?_); refine gL 16 Tryz.func62 #[.agg #[.slice A0_0 l0_0.length c0_0, .slice A0_1 l0_1.length c0_1], .int .i64 a1, .int .i64 a2] ?_; (with_reducible refine (turn_open.calls k (fun k_ => k_ < w.heap.size) _ _ l0_0 (fun k_ => k_ < w.heap.size) _ _ l0_1 a1 a2 t105 t108 t111 _ ?side1 ?side2 A5.out).mono ?_); (case side1 => exact Kd.V_mk HC0_0.out (Kd.F_below (Kd.C_F k67_heap HR0_0.out) (pE HB))); (case side2 => exact Kd.V_mk HC0_1.out (Kd.F_below (Kd.C_F (Kd.heap_int .i64) HR0_1.out) (pE HB))); rintro e w116 ⟨v106, v109, rfl, ho0, ho1, hb⟩; refine ⟨_, rfl, ?_⟩; have HO107 := Aside0.mk (Kd.V_lower (Kd.V_mono (ok' := fun k_ => k_ ≠ gb101 ∧ k_ ≠ gb102 ∧ k_ ≠ gb103 ∧ k_ ≠ gb104) ho0 (fun k_ hk_ => ⟨Or.elim hk_ (fun hs_ => Or.elim hs_ (fun hs_ => fun e_ => Nat.not_le.2 hs_ (by rw [e_]; exact GW101.out)) (fun hs_ => fun e_ => Nat.not_le.2 hs_ (by rw [e_]; exact GW101.out))) (fun hn_ => (Kd.freshB (g := gb101) (o := .cells #[.slice A0_0 l0_0.length c0_0, .slice A0_1 l0_1.length c0_1] 25 (0, 0)) (pB BK101.out) k_ hn_)), Or.elim hk_ (fun hs_ => Or.elim hs_ (fun hs_ => fun e_ => Nat.not_le.2 hs_ (by rw [e_]; exact GW102.out)) (fun hs_ => fun e_ => Nat.not_le.2 hs_ (by rw [e_]; exact GW102.out))) (fun hn_ => (Kd.freshB (g := gb102) (o := .cells #[.int .i64 a1] 3 (0, 0)) (pB BK102.out) k_ hn_)), Or.elim hk_ (fun hs_ => Or.elim hs_ (fun hs_ => fun e_ => Nat.not_le.2 hs_ (by rw [e_]; exact GW103.out)) (fun hs_ => fun e_ => Nat.not_le.2 hs_ (by rw [e_]; exact GW103.out))) (fun hn_ => (Kd.freshB (g := gb103) (o := .cells #[.int .i64 a2] 3 (0, 0)) (pB BK103.out) k_ hn_)), Or.elim hk_ (fun hs_ => Or.elim hs_ (fun hs_ => fun e_ => Nat.not_le.2 hs_ (by rw [e_]; exact GW104.out)) (fun hs_ => fun e_ => Nat.not_le.2 hs_ (by rw [e_]; exact GW104.out))) (fun hn_ => (Kd.freshB (g := gb104) (o := .cells #[.int .i64 a3] 3 (0, 0)) (pB BK104.out) k_ hn_))⟩)) (below_size (pE HB))); have HO110 := Aside0.mk (Kd.V_lower (Kd.V_mono (ok' := fun k_ => k_ ≠ gb101 ∧ k_ ≠ gb102 ∧ k_ ≠ gb103 ∧ k_ ≠ gb104) ho1 (fun k_ hk_ => ⟨Or.elim hk_ (fun hs_ => Or.elim hs_ (fun hs_ => fun e_ => Nat.not_le.2 hs_ (by rw [e_]; exact GW101.out)) (fun hs_ => fun e_ => Nat.not_le.2 hs_ (by rw [e_]; exact GW101.out))) (fun hn_ => (Kd.freshB (g := gb101) (o := .cells #[.slice A0_0 l0_0.length c0_0, .slice A0_1 l0_1.length c0_1] 25 (0, 0)) (pB BK101.out) k_ hn_)), Or.elim hk_ (fun hs_ => Or.elim hs_ (fun hs_ => fun e_ => Nat.not_le.2 hs_ (by rw [e_]; exact GW102.out)) (fun hs_ => fun e_ => Nat.not_le.2 hs_ (by rw [e_]; exact GW102.out))) (fun hn_ => (Kd.freshB (g := gb102) (o := .cells #[.int .i64 a1] 3 (0, 0)) (pB BK102.out) k_ hn_)), Or.elim hk_ (fun hs_ => Or.elim hs_ (fun hs_ => fun e_ => Nat.not_le.2 hs_ (by rw [e_]; exact GW103.out)) (fun hs_ => fun e_ => Nat.not_le.2 hs_ (by rw [e_]; exact GW103.out))) (fun hn_ => (Kd.freshB (g := gb103) (o := .cells #[.int .i64 a2] 3 (0, 0)) (pB BK103.out) k_ hn_)), Or.elim hk_ (fun hs_ => Or.elim hs_ (fun hs_ => fun e_ => Nat.not_le.2 hs_ (by rw [e_]; exact GW104.out)) (fun hs_ => fun e_ => Nat.not_le.2 hs_ (by rw [e_]; exact GW104.out))) (fun hn_ => (Kd.freshB (g := gb104) (o := .cells #[.int .i64 a3] 3 (0, 0)) (pB BK104.out) k_ hn_))⟩)) (below_size (pE HB))); replace BK101 := bb BK101 hb; replace BK102 := bb BK102 hb; replace BK103 := bb BK103 hb; replace BK104 := bb BK104 hb; replace HB := bs HB hb; clear hb ho0 ho1) | ((with_reducible refine gate_dst (N := 10) rfl ?_); refine bx 10 #[.slice none 0 0, .slice none 0 0] 99 ?_; intro gb112 hg w117 hbox hb; replace HO107 := ve HO107 hg hb; replace HO110 := ve HO110 hg hb; have BK112 := hbox; have GW112 := gs HB hg; have GE112 := gs HB hg; replace HB := bs HB hb; have NB101_112 := nl BK101 hg; have NB112_101 := nr BK101 hg; replace BK101 := bb BK101 hb; have NB102_112 := nl BK102 hg; have NB112_102 := nr BK102 hg; replace BK102 := bb BK102 hb; have NB103_112 := nl BK103 hg; have NB112_103 := nr BK103 hg; replace BK103 := bb BK103 hb; have NB104_112 := nl BK104 hg; have NB112_104 := nr BK104 hg; replace BK104 := bb BK104 hb; clear hb hbox hg; obtain ⟨Ao118, co118, eo118⟩ := Kd.V_slice HO107.out; subst eo118; have hnb119 := NB112_101.out; have hnc119 := NB101_112.out; have hnb120 := NB112_102.out; have hnc120 := NB102_112.out; have hnb121 := NB112_103.out; have hnc121 := NB103_112.out; have hnb122 := NB112_104.out; have hnc122 := NB104_112.out; obtain ⟨_, _, _, _⟩ := cf2 BK112; obtain ⟨Ao124, co124, eo124⟩ := Kd.V_slice HO110.out; subst eo124))
  go_ret2
  exact ⟨eT, pE HB⟩
def walkmillref04_Slack.l0 : Nat → Int → Int → Int → Int → List (S67) → List Int → Option (Int)
 | 0, _, _, _, _, _, _ => none
 | k + 1, x1, x2, x3, x9, x109000, x109001 => if x9 < 500 then (if 0 ≤ x3 then (if x3 < (x109000.length : Int) then ((some (x109000.set (x3 : Int).toNat (⟨(rd_T67 x109000 x3).f0, (rd_T67 x109000 x3).f1, (⟨(rd_T67 x109000 x3).f2.f0, wrap64 (((rd_T67 x109000 x3).f2.f1) + 1)⟩ : S42)⟩ : S67) : List (S67))).bind fun y110 => ((walkmillref04_Order.f k y110 x109001).bind fun t111 => ((walkmillref04_Late.f k y110 x109001 t111 x1 x2).bind fun t114 => (if t114 = true then (some x9) else (walkmillref04_Slack.l0 k x1 x2 x3 (wrap64 (x9 + 1)) y110 x109001))))) else (none)) else (none)) else (some x9)
def walkmillref04_Slack.f (k : Nat) (l0_0 : List (S67)) (l0_1 : List Int) (a1 : Int) (a2 : Int) (a3 : Int) : Option (Int) := (walkmillref04_Copy.f l0_0 l0_1).bind fun bt102 => (walkmillref04_Slack.l0 k a1 a2 a3 0 bt102.1 bt102.2)
theorem walkmillref04_Slack.mono_l : ∀ k, (∀ y0 y1 y2 y3 y4 y5, LeO (walkmillref04_Slack.l0 k y0 y1 y2 y3 y4 y5) (walkmillref04_Slack.l0 (k + 1) y0 y1 y2 y3 y4 y5))
 | 0 => fun _ _ _ _ _ _ r h => by simp [walkmillref04_Slack.l0] at h
 | k + 1 => by
  have ih0 := walkmillref04_Slack.mono_l k
  ·intro y0 y1 y2 y3 y4 y5
   unfold walkmillref04_Slack.l0
   repeat' first
   | (with_reducible exact ih0 _ _ _ _ _ _)
   | (with_reducible exact walkmillref04_Late.mono _ _ _ _ _ _)
   | (with_reducible exact walkmillref04_Order.mono _ _ _)
   | (with_reducible exact LeO.refl _)
   | (with_reducible exact LeO.none _)
   | (with_reducible refine LeO.ite ?_ ?_)
   | (with_reducible refine LeO.bind ?_ (fun _ => ?_))
   | exact ih0 _ _ _ _ _ _
   | exact walkmillref04_Late.mono _ _ _ _ _ _
   | exact walkmillref04_Order.mono _ _ _
   | exact LeO.none _
   | refine LeO.ite ?_ ?_
   | refine LeO.bind ?_ (fun _ => ?_)
theorem walkmillref04_Slack.mono : ∀ a0 a1 a2 a3 a4 k, LeO (walkmillref04_Slack.f k a0 a1 a2 a3 a4) (walkmillref04_Slack.f (k + 1) a0 a1 a2 a3 a4) := by
 intro a0 a1 a2 a3 a4 k
 have ih0 := walkmillref04_Slack.mono_l k
 unfold walkmillref04_Slack.f
 repeat' first
   | (with_reducible exact ih0 _ _ _ _ _ _)
   | (with_reducible exact walkmillref04_Late.mono _ _ _ _ _ _)
   | (with_reducible exact walkmillref04_Order.mono _ _ _)
   | (with_reducible exact LeO.refl _)
   | (with_reducible exact LeO.none _)
   | (with_reducible refine LeO.ite ?_ ?_)
   | (with_reducible refine LeO.bind ?_ (fun _ => ?_))
   | exact ih0 _ _ _ _ _ _
   | exact walkmillref04_Late.mono _ _ _ _ _ _
   | exact walkmillref04_Order.mono _ _ _
   | exact LeO.none _
   | refine LeO.ite ?_ ?_
   | refine LeO.bind ?_ (fun _ => ?_)
set_option maxHeartbeats 8000000 in
set_option maxRecDepth 100000 in
theorem walkmillref04_Slack.calls (k : Nat) (A0_0 : Option Addr) (c0_0 : Nat) (l0_0 : List (S67)) (A0_1 : Option Addr) (c0_1 : Nat) (l0_1 : List Int) (a1 : Int) (a2 : Int) (a3 : Int) (r : Int) (w : World) (hr0_0 : Kd.C k67 w A0_0 l0_0.length l0_0) (hc0_0 : l0_0.length ≤ c0_0) (hr0_1 : Kd.C (Kd.int .i64) w A0_1 l0_1.length l0_1) (hc0_1 : l0_1.length ≤ c0_1) (h : walkmillref04_Slack.f k l0_0 l0_1 a1 a2 a3 = some r) :
  Calls Tryz.prog 45 #[.agg #[.slice A0_0 l0_0.length c0_0, .slice A0_1 l0_1.length c0_1], .int .i64 a1, .int .i64 a2, .int .i64 a3] w fun e w' => e = .returned (.int .i64 r) ∧ Below w.heap.size w w' := by
 have hu25 := Tryz.underlying25
 have HR0_0 := Aside0.mk hr0_0
 have HC0_0 := Aside0.mk hc0_0
 clear hr0_0 hc0_0
 have HR0_1 := Aside0.mk hr0_1
 have HC0_1 := Aside0.mk hc0_1
 clear hr0_1 hc0_1
 have HB := Aside0.mk (Below.refl w.heap.size w)
 have H : ((walkmillref04_Copy.f l0_0 l0_1).bind fun bt102 => (walkmillref04_Slack.l0 k a1 a2 a3 0 bt102.1 bt102.2)) = some r := h
 clear h
 obtain ⟨⟨t102, t105⟩, A5, H⟩ := bi H
 have H' := Aside0.mk H
 clear H
 go_enter Tryz.func45, Tryz.ntmps45
 go_wp2_with (first | ((with_reducible refine gate_dst (N := 4) rfl ?_); refine bx 4 #[.slice A0_0 l0_0.length c0_0, .slice A0_1 l0_1.length c0_1] 25 ?_; intro gb101 hg w6 hbox hb; have BK101 := hbox; have GW101 := gs HB hg; have GE101 := gs HB hg; replace HB := bs HB hb; clear hb hbox hg; obtain ⟨hcz7_0, hcz7_1, hfz7_0, hfz7_1⟩ := cf2 BK101) | ((with_reducible refine gc 18 rfl ?_); refine gL 12 Tryz.func18 #[.agg #[.slice A0_0 l0_0.length c0_0, .slice A0_1 l0_1.length c0_1]] ?_; (with_reducible refine (walkmillref04_Copy.calls _ _ l0_0 _ _ l0_1 t102 t105 _ ?side1 ?side2 ?side3 ?side4 A5.out).mono ?_); (case side1 => exact pC (Kd.C_below HR0_0.out HB.out)); (case side2 => exact HC0_0.out); (case side3 => exact pC (Kd.C_below HR0_1.out HB.out)); (case side4 => exact HC0_1.out); rintro e w8 ⟨v103, v106, rfl, ho0, ho1, hb⟩; refine ⟨_, rfl, ?_⟩; have HO104 := rl ho0 HB; have HO107 := rl ho1 HB; replace BK101 := bb BK101 hb; replace HB := bs HB hb; clear hb ho0 ho1) | ((with_reducible refine gate_dst (N := 10) rfl ?_); refine bx 10 #[.slice none 0 0, .slice none 0 0] 25 ?_; intro gb108 hg w9 hbox hb; replace HO104 := rb HO104 hb; replace HO107 := rb HO107 hb; have BK108 := hbox; have GW108 := gs HB hg; have GE108 := gs HB hg; replace HB := bs HB hb; have NB101_108 := nl BK101 hg; have NB108_101 := nr BK101 hg; replace BK101 := bb BK101 hb; clear hb hbox hg; obtain ⟨Ao10, co10, eo10⟩ := Kd.R_slice HO104.out; subst eo10; have hnb11 := NB108_101.out; have hnc11 := NB101_108.out; obtain ⟨hcz12_0, hcz12_1, hfz12_0, hfz12_1⟩ := cf2 BK108; obtain ⟨Ao13, co13, eo13⟩ := Kd.R_slice HO107.out; subst eo13))
 go_loopg [9] k (fun kq v9 w' => ∃ (x9_1 : Int) (x109000_1 : List (S67)) (u109000 : Value), v9 = .int .i64 x9_1 ∧ Aside0 (walkmillref04_Slack.l0 kq a1 a2 a3 x9_1 x109000_1 t105 = some r) ∧ Aside0 (kq ≤ k) ∧ Aside0 (Kd.R k67 67 w' w.heap.size (fun _ => True) u109000 x109000_1) ∧ Aside0 (Kd.R (Kd.int .i64) 3 w' w.heap.size (fun _ => True) (.slice Ao13 t105.length co13) t105) ∧ Aside0 (w'.heap[gb101]? = some (.cells #[(.slice A0_0 l0_0.length c0_0), (.slice A0_1 l0_1.length c0_1)] 25 (0, 0))) ∧ Aside0 (w'.heap[gb108]? = some (.cells #[u109000, (.slice Ao13 t105.length co13)] 25 (0, 0))) ∧ Aside0 (Below w.heap.size w w'))
 case atStart => exact ⟨(0), (t102), (.slice Ao10 t102.length co10), (by first | rfl | (simp; done) | (simp [*]; done)), H', ⟨Nat.le_refl _⟩, ⟨by (with_reducible repeat (first | apply Kd.R_alloc | apply Kd.R_drewN | apply Kd.R_drew)); exact Kd.R_mono (Kd.R_far (p := ⟨gb108, 1, none⟩) (Kd.R_far (p := ⟨gb108, 0, none⟩) (Kd.R_types HO104.out BK108.out (by decide)) (fun _ hk => hk.2) (.slice Ao10 t102.length co10)) (fun _ hk => hk.2) (.slice Ao13 t105.length co13)) (fun _ hk => trivial)⟩, ⟨by (with_reducible repeat (first | apply Kd.R_alloc | apply Kd.R_drewN | apply Kd.R_drew)); exact Kd.R_mono (Kd.R_far (p := ⟨gb108, 1, none⟩) (Kd.R_far (p := ⟨gb108, 0, none⟩) (Kd.R_types HO107.out BK108.out (by decide)) (fun _ hk => hk.2) (.slice Ao10 t102.length co10)) (fun _ hk => hk.2) (.slice Ao13 t105.length co13)) (fun _ hk => trivial)⟩, ⟨by refine pB ?_; refine blk_far ?_ NB101_108.out _; refine pB ?_; refine blk_far ?_ NB101_108.out _; (with_reducible repeat (first | refine blk_drewN ?_ _ | refine blk_drew ?_ | refine blk_alloc ?_ _)); exact BK101.out⟩, ⟨by refine pB ?_; refine blk_put (cs := #[.slice Ao10 t102.length co10, .slice none 0 0]) ?_ 1 _ rfl; refine pB ?_; refine blk_put (cs := #[.slice none 0 0, .slice none 0 0]) ?_ 0 _ rfl; (with_reducible repeat (first | refine blk_drewN ?_ _ | refine blk_drew ?_ | refine blk_alloc ?_ _)); exact BK108.out⟩, ⟨pE HB⟩⟩
 case round =>
  clear H'
  try clear c1
  try clear p2
  try clear c4
  try clear c11
  try clear hcz12_0
  try clear hcz12_1
  try clear hcz7_0
  try clear hcz7_1
  try clear hfz12_0
  try clear hfz12_1
  try clear hfz7_0
  try clear hfz7_1
  obtain ⟨x9_1, x109000_1, u109000, rfl, HA, HK1, HO_109000, HO_109001, BK101, BK108, HB⟩ := hrel
  cases gk with
  | zero => exact absurd HA.out (by simp [walkmillref04_Slack.l0])
  | succ k1 =>
   have H := HA.out
   clear HA
   simp only [walkmillref04_Slack.l0] at H
   by_cases c14 : x9_1 < 500
   ·rw [if_pos c14] at H
    have c14b0 : decide (x9_1 < 500) = true := decide_eq_true c14
    clear c14
    by_cases c15 : 0 ≤ a3
    ·rw [if_pos c15] at H
     have c15b0 : decide (0 ≤ a3) = true := decide_eq_true c15
     clear c15
     by_cases c16 : a3 < (x109000_1.length : Int)
     ·rw [if_pos c16] at H
      have c16b0 : decide (a3 < (x109000_1.length : Int)) = true := decide_eq_true c16
      clear c16
      obtain ⟨y110, hy110⟩ : ∃ y_ : List (S67), y_ = (x109000_1.set (a3 : Int).toNat (⟨(rd_T67 x109000_1 a3).f0, (rd_T67 x109000_1 a3).f1, (⟨(rd_T67 x109000_1 a3).f2.f0, wrap64 (((rd_T67 x109000_1 a3).f2.f1) + 1)⟩ : S42)⟩ : S67)) := ⟨_, rfl⟩
      replace H : ((walkmillref04_Order.f k1 y110 t105).bind fun t111 => ((walkmillref04_Late.f k1 y110 t105 t111 a1 a2).bind fun t114 => (if t114 = true then (some x9_1) else (walkmillref04_Slack.l0 k1 a1 a2 a3 (wrap64 (x9_1 + 1)) y110 t105)))) = some r := yy hy110 H
      have Ny110 := Aside0.mk hy110
      clear hy110
      obtain ⟨t111, A18, H⟩ := bi H
      obtain ⟨t114, A19, H⟩ := bi H
      by_cases c20 : t114 = true
      ·subst c20
       rw [if_pos rfl] at H
       obtain rfl := Option.some.inj H
       have hnb21 := NB108_101.out
       have hnc21 := NB101_108.out
       obtain ⟨_, _, _, _⟩ := cf2 BK108
       obtain ⟨Ao23, co23, eo23⟩ := Kd.R_slice HO_109000.out
       subst eo23
       have p109 : 0 ≤ (a3 : Int) := dT
       have q109 : a3 < (x109000_1.length : Int) := dT
       obtain ⟨ad109, e109, hx109_0, hx109_1, hx109_2, hx109_3⟩ := at_T67 (Kd.R_reads' HO_109000.out).2.2 a3 p109 q109
       cases e109
       replace p109 := eq_true p109
       replace q109 := eq_true q109
       have p17 : 0 ≤ (a3 : Int) := dT
       have q17 : (a3 : Int) < ((x109000_1.length : Int) : Int) := dT
       obtain ⟨go17, co17, eo17, gb17, gl17, cl17, HG17⟩ := Kd.R_form HO_109000.out (by omega)
       (first | cases eo17 | (injection eo17 with ea_ en_ ec_; (first | subst ea_ | (injection ea_ with ea_; subst ea_)); subst ec_; clear en_))
       have GB17 := Aside0.mk gb17
       have GG17 := Aside0.mk HG17
       clear gb17 gl17 HG17
       (first | simp only [add_plain] at hx109_0 | skip)
       (first | simp only [add_plain] at hx109_1 | skip)
       (first | simp only [add_plain] at hx109_2 | skip)
       (first | simp only [add_plain] at hx109_3 | skip)
       obtain ⟨ce17, hcl17, hM17, hcc17, hfr17⟩ := Kd.R_elem HO_109000.out z67 (a3 : Int) p17 q17
       obtain rfl := k67_openM hM17
       have hx17_0 : wr.cell? ⟨go17, (a3 : Int).toNat * 4, none⟩ = some (.int .i64 ((rd_T67 x109000_1 a3).f0)) := hcc17 0 _ rfl
       have hx17_1 : wr.cell? ⟨go17, (a3 : Int).toNat * 4 + 1, none⟩ = some (.int .i64 ((rd_T67 x109000_1 a3).f1)) := hcc17 1 _ rfl
       have hx17_2 : wr.cell? ⟨go17, (a3 : Int).toNat * 4 + 2, none⟩ = some (.int .i64 ((rd_T67 x109000_1 a3).f2.f0)) := hcc17 2 _ rfl
       have hx17_3 : wr.cell? ⟨go17, (a3 : Int).toNat * 4 + 3, none⟩ = some (.int .i64 ((rd_T67 x109000_1 a3).f2.f1)) := hcc17 3 _ rfl
       have hf17_0 : wr.frozen? ⟨go17, (a3 : Int).toNat * 4, none⟩ = false := hfr17 0
       have hf17_1 : wr.frozen? ⟨go17, (a3 : Int).toNat * 4 + 1, none⟩ = false := hfr17 1
       have hf17_2 : wr.frozen? ⟨go17, (a3 : Int).toNat * 4 + 2, none⟩ = false := hfr17 2
       have hf17_3 : wr.frozen? ⟨go17, (a3 : Int).toNat * 4 + 3, none⟩ = false := hfr17 3
       clear hcl17 hcc17 hfr17 hM17
       replace p17 := eq_true p17
       replace q17 := eq_true q17
       have HX24 := Aside0.mk (show Kd.R k67 67 wr w.heap.size (fun _ => True) (.slice (some ⟨go17, 0, none⟩) x109000_1.length co23) x109000_1 from (pR HO_109000.out))
       obtain ⟨ce24, hcl24, hM24, hcc24, hfr24⟩ := Kd.R_elem HX24.out z67 (a3 : Int) (dT) (by have h_ : (a3 : Int) < ((x109000_1.length : Int) : Int) := dT; first | exact h_ | (have e_ := (Kd.R_reads' HO_109000.out).1; omega) | simpa using h_)
       obtain rfl := k67_openM hM24
       have HP24 := Kd.R_seg HX24.out (a3 : Int) (dT) (by have h_ : (a3 : Int) < ((x109000_1.length : Int) : Int) := dT; first | exact h_ | (have e_ := (Kd.R_reads' HO_109000.out).1; omega) | simpa using h_) (seg := [.int .i64 (wrap64 (((rd_T67 x109000_1 a3).f2.f1) + 1))]) (j := 3) hcl24 hcc24 (show 4 ≤ 4 from by decide) (x' := (⟨(rd_T67 x109000_1 a3).f0, (rd_T67 x109000_1 a3).f1, (⟨(rd_T67 x109000_1 a3).f2.f0, wrap64 (((rd_T67 x109000_1 a3).f2.f1) + 1)⟩ : S42)⟩ : S67)) (k67_mkM _ _ _ (⟨(rd_T67 x109000_1 a3).f0, (rd_T67 x109000_1 a3).f1, (⟨(rd_T67 x109000_1 a3).f2.f0, wrap64 (((rd_T67 x109000_1 a3).f2.f1) + 1)⟩ : S42)⟩ : S67) ) (fun _ hk => hk)
       have hx24_3 := hcc24 3 _ rfl
       (try simp only [show (k67).sz = 4 from rfl, Nat.mul_one, Nat.add_zero] at hx24_3)
       have hf24_3 := hfr24 3
       (try simp only [show (k67).sz = 4 from rfl, Nat.mul_one, Nat.add_zero] at hf24_3)
       clear hcl24 hcc24 hfr24 hM24
       try go_wp2_with (first | ((with_reducible refine gate_store (t := 3) (p := 25) rfl ?_); refine store_event (t := 3) (p := 25) (v := ?vo_w25) (w1 := (wr.setCell ⟨go17, (a3 : Int).toNat * 4 + 3, none⟩ (.int .i64 (wrap64 (((rd_T67 x109000_1 a3).f2.f1) + 1))))) ?hg ?ho ?hn ?hr ?_; (case ho => rfl); (case hg => rfl); (case hn => rfl); (case hr => first | (go_simp; done) | (go_simp; rfl)); intro w25 hw; have hg : wr.grownBy w25 (some go17) := (by rw [hw]; exact HP24.2); have hp_ : Kd.R k67 67 w25 w.heap.size (fun _ => True) (.slice (some ⟨go17, 0, none⟩) x109000_1.length co23) y110 := (by rw [hw, Ny110.out]; exact HP24.1); clear HP24; replace HO_109001 := Aside0.mk (Kd.R_over' (v := (.slice (some ⟨go17, 0, none⟩) x109000_1.length co23)) (pR HO_109001.out) (Kd.R_typed HO_109000.out) (by decide) hg); replace BK101 := Aside0.mk (blk_grown (g := gb101) (o := .cells #[.slice A0_0 l0_0.length c0_0, .slice A0_1 l0_1.length c0_1] 25 (0, 0)) (pB BK101.out) hg (Kd.R_ne HO_109000.out BK101.out (by decide))); replace BK108 := Aside0.mk (blk_grown (g := gb108) (o := .cells #[.slice (some ⟨go17, 0, none⟩) x109000_1.length co23, .slice Ao13 t105.length co13] 25 (0, 0)) (pB BK108.out) hg (Kd.R_ne HO_109000.out BK108.out (by decide))); replace HO_109000 := Aside0.mk (hp_); replace HB := Aside0.mk ((by rw [hw]; exact below_set (HB.out) GB17.out : Below w.heap.size w w25)); clear hg hw hp_))
       replace HO_109000 := Aside0.mk (Kd.R_drew HO_109000.out)
       replace HO_109001 := Aside0.mk (Kd.R_drew HO_109001.out)
       replace BK101 := Aside0.mk (blk_drew BK101.out)
       replace BK108 := Aside0.mk (blk_drew BK108.out)
       replace HB := Aside0.mk (below_drew1 HB.out)
       refine start_ (n := 6) (S := fun w' => w'.cell? ⟨gb108, 0, none⟩ = some (.slice (some ⟨go17, 0, none⟩) x109000_1.length co23) ∧ w'.cell? ⟨gb108, 1, none⟩ = some (.slice Ao13 t105.length co13)) (ds := []) #[false, false, false, false, false, false] (by kernel_rfl) rfl rfl ⟨(blk_cell BK108.out 0).trans rfl, (blk_cell BK108.out 1).trans rfl⟩ (fun hHeld => ?_)
       generalize w25.drew = w26 at HO_109000 HO_109001 BK101 BK108 HB hHeld ⊢
       refine pu 3 29 ?_
       refine pu 4 30 ?_
       refine tk 0 26 hHeld ?_
       refine tk 1 27 hHeld ?_
       refine on 2 (fun K hK => ?_)
       refine goes_ Tryz.func24 (by kernel_rfl) rfl #[.agg #[.slice (some ⟨go17, 0, none⟩) y110.length co23, .slice Ao13 t105.length co13]] (by rfl) rfl rfl (by (try simp only [List.map_toArray, List.map_cons, List.map_nil]); first | done | (rw [show y110.length = x109000_1.length from (Kd.R_reads' HO_109000.out).1.symm] <;> rfl) | rfl | (simp only [List.length_drop, List.length_take]; rfl)) ?_
       with_reducible refine (walkmillref04_Order.calls k1 _ _ y110 _ _ t105 t111 _ ?side1 ?side2 ?side3 ?side4 A18.out).mono ?_
       (case side1 => exact pC (Kd.R_reads' HO_109000.out).2.2)
       (case side2 => rw [show y110.length = x109000_1.length from (Kd.R_reads' HO_109000.out).1.symm]; exact (Kd.R_reads' HO_109000.out).2.1)
       (case side3 => exact pC (Kd.R_reads' HO_109001.out).2.2)
       (case side4 => exact (Kd.R_reads' HO_109001.out).2.1)
       rintro e w27 ⟨v112, rfl, ho0, hb⟩
       refine ⟨_, rfl, ?_⟩
       replace HO_109000 := rb HO_109000 hb
       have HO113 := Aside0.mk (Kd.R_lower (Kd.R_new' ho0 (Kd.R_lt (pR HO_109001.out))) (below_size (pE HB)))
       replace HO_109001 := re HO_109001 ho0 hb
       replace BK101 := bb BK101 hb
       replace BK108 := bb BK108 hb
       replace HB := bs HB hb
       (try clear hb)
       (try clear hb2)
       (try clear hk)
       (try clear hi)
       (try clear ho0)
       obtain ⟨Ao28, co28, eo28⟩ := Kd.R_slice HO113.out
       (first | subst eo28 | (injection eo28 with f1_ f2_ f3_; have f4_ := f1_.symm; have f5_ := f3_.symm; clear f1_ f2_ f3_; subst f4_; subst f5_))
       refine hK.out _ _ ⟨(blk_cell BK108.out 0).trans rfl, (blk_cell BK108.out 1).trans rfl⟩ (fun hHeld => ?_)
       clear hK K
       refine norm_ (a' := ?_) ?_ ?_
       rotate_left
       ·show Act.put _ (some 28) _ = _
        simp only [Act.put, List.setIfInBounds_toArray, List.set_cons_zero, List.set_cons_succ, i64_w, i32_w]
        rfl
       refine on 5 (fun K hK => ?_)
       refine goes_ Tryz.func44 (by kernel_rfl) rfl #[.agg #[.slice (some ⟨go17, 0, none⟩) y110.length co23, .slice Ao13 t105.length co13], .slice Ao28 t111.length co28, .int .i64 a1, .int .i64 a2] (by rfl) rfl rfl (by (try simp only [List.map_toArray, List.map_cons, List.map_nil]); first | done | (rw [show y110.length = x109000_1.length from (Kd.R_reads' HO_109000.out).1.symm] <;> rfl) | rfl | (simp only [List.length_drop, List.length_take]; rfl)) ?_
       with_reducible refine (walkmillref04_Late.calls k1 _ _ y110 _ _ t105 _ _ t111 a1 a2 true _ ?side1 ?side2 ?side3 ?side4 ?side5 ?side6 A19.out).mono ?_
       (case side1 => exact pC (Kd.R_reads' HO_109000.out).2.2)
       (case side2 => rw [show y110.length = x109000_1.length from (Kd.R_reads' HO_109000.out).1.symm]; exact (Kd.R_reads' HO_109000.out).2.1)
       (case side3 => exact pC (Kd.R_reads' HO_109001.out).2.2)
       (case side4 => exact (Kd.R_reads' HO_109001.out).2.1)
       (case side5 => exact pC (Kd.R_reads' HO113.out).2.2)
       (case side6 => exact (Kd.R_reads' HO113.out).2.1)
       rintro e w29 ⟨rfl, hb⟩
       refine ⟨_, rfl, ?_⟩
       replace HO_109000 := rb HO_109000 hb
       replace HO_109001 := rb HO_109001 hb
       replace HO113 := rb HO113 hb
       replace BK101 := bb BK101 hb
       replace BK108 := bb BK108 hb
       replace HB := bs HB hb
       (try clear hb)
       (try clear hb2)
       (try clear hk)
       (try clear hi)
       refine hK.out _ _ ⟨(blk_cell BK108.out 0).trans rfl, (blk_cell BK108.out 1).trans rfl⟩ (fun hHeld => ?_)
       clear hK K
       refine norm_ (a' := ?_) ?_ ?_
       rotate_left
       ·show Act.put _ (some 31) _ = _
        simp only [Act.put, List.setIfInBounds_toArray, List.set_cons_zero, List.set_cons_succ, i64_w, i32_w]
        rfl
       refine done_ (by kernel_rfl) ?_
       try go_wp2
       go_ret
       exact ⟨eT, pE HB⟩
      ·replace c20 := Bool.eq_false_iff.mpr c20
       subst c20
       rw [if_neg (show ¬ (false = true) by decide)] at H
       have H' := Aside0.mk H
       clear H
       have hnb30 := NB108_101.out
       have hnc30 := NB101_108.out
       obtain ⟨_, _, _, _⟩ := cf2 BK108
       obtain ⟨Ao32, co32, eo32⟩ := Kd.R_slice HO_109000.out
       subst eo32
       have p109 : 0 ≤ (a3 : Int) := dT
       have q109 : a3 < (x109000_1.length : Int) := dT
       obtain ⟨ad109, e109, hx109_0, hx109_1, hx109_2, hx109_3⟩ := at_T67 (Kd.R_reads' HO_109000.out).2.2 a3 p109 q109
       cases e109
       replace p109 := eq_true p109
       replace q109 := eq_true q109
       have p17 : 0 ≤ (a3 : Int) := dT
       have q17 : (a3 : Int) < ((x109000_1.length : Int) : Int) := dT
       obtain ⟨go17, co17, eo17, gb17, gl17, cl17, HG17⟩ := Kd.R_form HO_109000.out (by omega)
       (first | cases eo17 | (injection eo17 with ea_ en_ ec_; (first | subst ea_ | (injection ea_ with ea_; subst ea_)); subst ec_; clear en_))
       have GB17 := Aside0.mk gb17
       have GG17 := Aside0.mk HG17
       clear gb17 gl17 HG17
       (first | simp only [add_plain] at hx109_0 | skip)
       (first | simp only [add_plain] at hx109_1 | skip)
       (first | simp only [add_plain] at hx109_2 | skip)
       (first | simp only [add_plain] at hx109_3 | skip)
       obtain ⟨ce17, hcl17, hM17, hcc17, hfr17⟩ := Kd.R_elem HO_109000.out z67 (a3 : Int) p17 q17
       obtain rfl := k67_openM hM17
       have hx17_0 : wr.cell? ⟨go17, (a3 : Int).toNat * 4, none⟩ = some (.int .i64 ((rd_T67 x109000_1 a3).f0)) := hcc17 0 _ rfl
       have hx17_1 : wr.cell? ⟨go17, (a3 : Int).toNat * 4 + 1, none⟩ = some (.int .i64 ((rd_T67 x109000_1 a3).f1)) := hcc17 1 _ rfl
       have hx17_2 : wr.cell? ⟨go17, (a3 : Int).toNat * 4 + 2, none⟩ = some (.int .i64 ((rd_T67 x109000_1 a3).f2.f0)) := hcc17 2 _ rfl
       have hx17_3 : wr.cell? ⟨go17, (a3 : Int).toNat * 4 + 3, none⟩ = some (.int .i64 ((rd_T67 x109000_1 a3).f2.f1)) := hcc17 3 _ rfl
       have hf17_0 : wr.frozen? ⟨go17, (a3 : Int).toNat * 4, none⟩ = false := hfr17 0
       have hf17_1 : wr.frozen? ⟨go17, (a3 : Int).toNat * 4 + 1, none⟩ = false := hfr17 1
       have hf17_2 : wr.frozen? ⟨go17, (a3 : Int).toNat * 4 + 2, none⟩ = false := hfr17 2
       have hf17_3 : wr.frozen? ⟨go17, (a3 : Int).toNat * 4 + 3, none⟩ = false := hfr17 3
       clear hcl17 hcc17 hfr17 hM17
       replace p17 := eq_true p17
       replace q17 := eq_true q17
       have HX33 := Aside0.mk (show Kd.R k67 67 wr w.heap.size (fun _ => True) (.slice (some ⟨go17, 0, none⟩) x109000_1.length co32) x109000_1 from (pR HO_109000.out))
       obtain ⟨ce33, hcl33, hM33, hcc33, hfr33⟩ := Kd.R_elem HX33.out z67 (a3 : Int) (dT) (by have h_ : (a3 : Int) < ((x109000_1.length : Int) : Int) := dT; first | exact h_ | (have e_ := (Kd.R_reads' HO_109000.out).1; omega) | simpa using h_)
       obtain rfl := k67_openM hM33
       have HP33 := Kd.R_seg HX33.out (a3 : Int) (dT) (by have h_ : (a3 : Int) < ((x109000_1.length : Int) : Int) := dT; first | exact h_ | (have e_ := (Kd.R_reads' HO_109000.out).1; omega) | simpa using h_) (seg := [.int .i64 (wrap64 (((rd_T67 x109000_1 a3).f2.f1) + 1))]) (j := 3) hcl33 hcc33 (show 4 ≤ 4 from by decide) (x' := (⟨(rd_T67 x109000_1 a3).f0, (rd_T67 x109000_1 a3).f1, (⟨(rd_T67 x109000_1 a3).f2.f0, wrap64 (((rd_T67 x109000_1 a3).f2.f1) + 1)⟩ : S42)⟩ : S67)) (k67_mkM _ _ _ (⟨(rd_T67 x109000_1 a3).f0, (rd_T67 x109000_1 a3).f1, (⟨(rd_T67 x109000_1 a3).f2.f0, wrap64 (((rd_T67 x109000_1 a3).f2.f1) + 1)⟩ : S42)⟩ : S67) ) (fun _ hk => hk)
       have hx33_3 := hcc33 3 _ rfl
       (try simp only [show (k67).sz = 4 from rfl, Nat.mul_one, Nat.add_zero] at hx33_3)
       have hf33_3 := hfr33 3
       (try simp only [show (k67).sz = 4 from rfl, Nat.mul_one, Nat.add_zero] at hf33_3)
       clear hcl33 hcc33 hfr33 hM33
       try go_wp2_with (first | ((with_reducible refine gate_store (t := 3) (p := 25) rfl ?_); refine store_event (t := 3) (p := 25) (v := ?vo_w34) (w1 := (wr.setCell ⟨go17, (a3 : Int).toNat * 4 + 3, none⟩ (.int .i64 (wrap64 (((rd_T67 x109000_1 a3).f2.f1) + 1))))) ?hg ?ho ?hn ?hr ?_; (case ho => rfl); (case hg => rfl); (case hn => rfl); (case hr => first | (go_simp; done) | (go_simp; rfl)); intro w34 hw; have hg : wr.grownBy w34 (some go17) := (by rw [hw]; exact HP33.2); have hp_ : Kd.R k67 67 w34 w.heap.size (fun _ => True) (.slice (some ⟨go17, 0, none⟩) x109000_1.length co32) y110 := (by rw [hw, Ny110.out]; exact HP33.1); clear HP33; replace HO_109001 := Aside0.mk (Kd.R_over' (v := (.slice (some ⟨go17, 0, none⟩) x109000_1.length co32)) (pR HO_109001.out) (Kd.R_typed HO_109000.out) (by decide) hg); replace BK101 := Aside0.mk (blk_grown (g := gb101) (o := .cells #[.slice A0_0 l0_0.length c0_0, .slice A0_1 l0_1.length c0_1] 25 (0, 0)) (pB BK101.out) hg (Kd.R_ne HO_109000.out BK101.out (by decide))); replace BK108 := Aside0.mk (blk_grown (g := gb108) (o := .cells #[.slice (some ⟨go17, 0, none⟩) x109000_1.length co32, .slice Ao13 t105.length co13] 25 (0, 0)) (pB BK108.out) hg (Kd.R_ne HO_109000.out BK108.out (by decide))); replace HO_109000 := Aside0.mk (hp_); replace HB := Aside0.mk ((by rw [hw]; exact below_set (HB.out) GB17.out : Below w.heap.size w w34)); clear hg hw hp_))
       replace HO_109000 := Aside0.mk (Kd.R_drew HO_109000.out)
       replace HO_109001 := Aside0.mk (Kd.R_drew HO_109001.out)
       replace BK101 := Aside0.mk (blk_drew BK101.out)
       replace BK108 := Aside0.mk (blk_drew BK108.out)
       replace HB := Aside0.mk (below_drew1 HB.out)
       refine start_ (n := 6) (S := fun w' => w'.cell? ⟨gb108, 0, none⟩ = some (.slice (some ⟨go17, 0, none⟩) x109000_1.length co32) ∧ w'.cell? ⟨gb108, 1, none⟩ = some (.slice Ao13 t105.length co13)) (ds := []) #[false, false, false, false, false, false] (by kernel_rfl) rfl rfl ⟨(blk_cell BK108.out 0).trans rfl, (blk_cell BK108.out 1).trans rfl⟩ (fun hHeld => ?_)
       generalize w34.drew = w35 at HO_109000 HO_109001 BK101 BK108 HB hHeld ⊢
       refine pu 3 29 ?_
       refine pu 4 30 ?_
       refine tk 0 26 hHeld ?_
       refine tk 1 27 hHeld ?_
       refine on 2 (fun K hK => ?_)
       refine goes_ Tryz.func24 (by kernel_rfl) rfl #[.agg #[.slice (some ⟨go17, 0, none⟩) y110.length co32, .slice Ao13 t105.length co13]] (by rfl) rfl rfl (by (try simp only [List.map_toArray, List.map_cons, List.map_nil]); first | done | (rw [show y110.length = x109000_1.length from (Kd.R_reads' HO_109000.out).1.symm] <;> rfl) | rfl | (simp only [List.length_drop, List.length_take]; rfl)) ?_
       with_reducible refine (walkmillref04_Order.calls k1 _ _ y110 _ _ t105 t111 _ ?side1 ?side2 ?side3 ?side4 A18.out).mono ?_
       (case side1 => exact pC (Kd.R_reads' HO_109000.out).2.2)
       (case side2 => rw [show y110.length = x109000_1.length from (Kd.R_reads' HO_109000.out).1.symm]; exact (Kd.R_reads' HO_109000.out).2.1)
       (case side3 => exact pC (Kd.R_reads' HO_109001.out).2.2)
       (case side4 => exact (Kd.R_reads' HO_109001.out).2.1)
       rintro e w36 ⟨v112, rfl, ho0, hb⟩
       refine ⟨_, rfl, ?_⟩
       replace HO_109000 := rb HO_109000 hb
       have HO113 := Aside0.mk (Kd.R_lower (Kd.R_new' ho0 (Kd.R_lt (pR HO_109001.out))) (below_size (pE HB)))
       replace HO_109001 := re HO_109001 ho0 hb
       replace BK101 := bb BK101 hb
       replace BK108 := bb BK108 hb
       replace HB := bs HB hb
       (try clear hb)
       (try clear hb2)
       (try clear hk)
       (try clear hi)
       (try clear ho0)
       obtain ⟨Ao37, co37, eo37⟩ := Kd.R_slice HO113.out
       (first | subst eo37 | (injection eo37 with f1_ f2_ f3_; have f4_ := f1_.symm; have f5_ := f3_.symm; clear f1_ f2_ f3_; subst f4_; subst f5_))
       refine hK.out _ _ ⟨(blk_cell BK108.out 0).trans rfl, (blk_cell BK108.out 1).trans rfl⟩ (fun hHeld => ?_)
       clear hK K
       refine norm_ (a' := ?_) ?_ ?_
       rotate_left
       ·show Act.put _ (some 28) _ = _
        simp only [Act.put, List.setIfInBounds_toArray, List.set_cons_zero, List.set_cons_succ, i64_w, i32_w]
        rfl
       refine on 5 (fun K hK => ?_)
       refine goes_ Tryz.func44 (by kernel_rfl) rfl #[.agg #[.slice (some ⟨go17, 0, none⟩) y110.length co32, .slice Ao13 t105.length co13], .slice Ao37 t111.length co37, .int .i64 a1, .int .i64 a2] (by rfl) rfl rfl (by (try simp only [List.map_toArray, List.map_cons, List.map_nil]); first | done | (rw [show y110.length = x109000_1.length from (Kd.R_reads' HO_109000.out).1.symm] <;> rfl) | rfl | (simp only [List.length_drop, List.length_take]; rfl)) ?_
       with_reducible refine (walkmillref04_Late.calls k1 _ _ y110 _ _ t105 _ _ t111 a1 a2 false _ ?side1 ?side2 ?side3 ?side4 ?side5 ?side6 A19.out).mono ?_
       (case side1 => exact pC (Kd.R_reads' HO_109000.out).2.2)
       (case side2 => rw [show y110.length = x109000_1.length from (Kd.R_reads' HO_109000.out).1.symm]; exact (Kd.R_reads' HO_109000.out).2.1)
       (case side3 => exact pC (Kd.R_reads' HO_109001.out).2.2)
       (case side4 => exact (Kd.R_reads' HO_109001.out).2.1)
       (case side5 => exact pC (Kd.R_reads' HO113.out).2.2)
       (case side6 => exact (Kd.R_reads' HO113.out).2.1)
       rintro e w38 ⟨rfl, hb⟩
       refine ⟨_, rfl, ?_⟩
       replace HO_109000 := rb HO_109000 hb
       replace HO_109001 := rb HO_109001 hb
       replace HO113 := rb HO113 hb
       replace BK101 := bb BK101 hb
       replace BK108 := bb BK108 hb
       replace HB := bs HB hb
       (try clear hb)
       (try clear hb2)
       (try clear hk)
       (try clear hi)
       refine hK.out _ _ ⟨(blk_cell BK108.out 0).trans rfl, (blk_cell BK108.out 1).trans rfl⟩ (fun hHeld => ?_)
       clear hK K
       refine norm_ (a' := ?_) ?_ ?_
       rotate_left
       ·show Act.put _ (some 31) _ = _
        simp only [Act.put, List.setIfInBounds_toArray, List.set_cons_zero, List.set_cons_succ, i64_w, i32_w]
        rfl
       refine done_ (by kernel_rfl) ?_
       try go_wp2
       go_roundg k1
       case measure => have := HK1.out; omega
       case rel => exact ⟨(wrap64 (x9_1 + 1)), (y110), (.slice (some ⟨go17, 0, none⟩) x109000_1.length co32), (by first | rfl | (simp; done) | (simp [*]; done)), H', ⟨by have := HK1.out; omega⟩, ⟨by (with_reducible repeat (first | apply Kd.R_alloc | apply Kd.R_drewN | apply Kd.R_drew)); exact HO_109000.out⟩, ⟨by (with_reducible repeat (first | apply Kd.R_alloc | apply Kd.R_drewN | apply Kd.R_drew)); exact Kd.R_mono HO_109001.out (fun _ hk => trivial)⟩, ⟨by (with_reducible repeat (first | refine blk_drewN ?_ _ | refine blk_drew ?_ | refine blk_alloc ?_ _)); exact BK101.out⟩, ⟨by (with_reducible repeat (first | refine blk_drewN ?_ _ | refine blk_drew ?_ | refine blk_alloc ?_ _)); exact BK108.out⟩, ⟨pE HB⟩⟩
     ·rw [if_neg c16] at H
      exact absurd H (by simp)
    ·rw [if_neg c15] at H
     exact absurd H (by simp)
   ·rw [if_neg c14] at H
    have c14b0 : decide (x9_1 < 500) = false := decide_eq_false c14
    clear c14
    obtain rfl := Option.some.inj H
    go_wp2
    go_ret
    exact ⟨eT, pE HB⟩
end Go.Proofs.YtlmglnobdcgbeaaGreat.P
namespace Go.Proofs.YtlmglnobdcgbeaaGreat.P
open Go.RowKit Go.Proofs.YtlmglnobdcgbeaaGreatW.PrintWords Go.Proofs.YtlmglnobdcgbeaaGreatW.PrintLast Go.Proofs.YtlmglnobdcgbeaaGreatW.PrintMore
def lg (c : S67) (n : Int) : S67 := ⟨c.f0, c.f1, ⟨c.f2.f0, wrap64 (c.f2.f1 + n)⟩⟩
def lng (cl : List S67) (c : Nat) (n : Int) : List S67 := cl.set c (lg (rd_T67 cl c) n)
theorem lng_len (cl : List S67) (c : Nat) (n : Int) : (lng cl c n).length = cl.length := by simp [lng]
theorem rd_lng (cl : List S67) (c : Nat) (hc : c < cl.length) (n x : Int) : rd_T67 (lng cl c n) x = if x.toNat = c then lg (rd_T67 cl x) n else rd_T67 cl x := by
  unfold lng
  generalize hr : rd_T67 cl c = r
  unfold rd_T67 at *
  rw [List.getD_eq_getElem?_getD, List.getD_eq_getElem?_getD, List.getElem?_set]
  by_cases h : x.toNat = c
  · rw [if_pos h.symm, if_pos h, if_pos hc, ← hr, h, Int.toNat_natCast, List.getD_eq_getElem?_getD]; rfl
  · rw [if_neg (fun e => h e.symm), if_neg h]
def pr67 (c : S67) : Int × Int := (c.f0, c.f1)
theorem lng_pr (cl : List S67) (c : Nat) (n : Int) : (lng cl c n).map pr67 = cl.map pr67 := by
  refine List.ext_getElem (by simp [lng_len]) fun i h1 h2 => ?_
  have h3 : i < cl.length := by simpa using h2
  have hlen : i < (lng cl c n).length := by simpa using h1
  rw [List.getElem_map, List.getElem_map]
  have : (lng cl c n)[i] = if c = i then lg (rd_T67 cl c) n else cl[i] := List.getElem_set hlen
  rw [this]
  by_cases h : c = i
  · rw [if_pos h]; subst h; rw [rd67_at cl c h3]; rfl
  · rw [if_neg h]
theorem ear_pr (cl cl' : List S67) (h : cl.map pr67 = cl'.map pr67) (hr : ∀ x, pr67 (rd_T67 cl x) = pr67 (rd_T67 cl' x)) (a : Nat) : ear cl a = ear cl' a := by
  have key : ∀ (l : List S67) (c : S67), ((l.take a).filter (same c)).length = (((l.map pr67).take a).filter (fun p => decide (p = pr67 c))).length := fun l c => by
    rw [← List.map_take, List.filter_map, List.length_map]
    congr 2
    funext d
    simp only [same, pr67, Function.comp, Prod.mk.injEq, Bool.decide_and]
  unfold ear
  rw [key, key, h, hr]
theorem pr_eq {c d : S67} (h : pr67 c = pr67 d) : c.f0 = d.f0 ∧ c.f1 = d.f1 := by simpa [pr67] using h
theorem ordA_pr (cl cl' : List S67) (rk : List Int) (h : cl.map pr67 = cl'.map pr67) (hr : ∀ x, pr67 (rd_T67 cl x) = pr67 (rd_T67 cl' x)) : ordA cl rk = ordA cl' rk := by
  have hl : cl.length = cl'.length := by simpa using congrArg List.length h
  unfold ordA
  rw [hl]
  congr 1
  funext a b
  unfold key
  rw [ear_pr cl cl' h hr, ear_pr cl cl' h hr, (pr_eq (hr a)).1, (pr_eq (hr a)).2, (pr_eq (hr b)).1, (pr_eq (hr b)).2]
theorem rd_lng_pr (cl : List S67) (c : Nat) (hc : c < cl.length) (n x : Int) : pr67 (rd_T67 (lng cl c n) x) = pr67 (rd_T67 cl x) := by
  rw [rd_lng cl c hc]; split <;> rfl
theorem ordA_lng (cl : List S67) (rk : List Int) (c : Nat) (hc : c < cl.length) (n : Int) : ordA (lng cl c n) rk = ordA cl rk :=
  ordA_pr _ _ rk (lng_pr cl c n) (rd_lng_pr cl c hc n)
def St20 (cl : List S67) : Prop := ∀ c ∈ cl, c.f2.f1 ≤ 20
theorem st20_of {cl : List S67} {rk : List Int} (h : chk cl rk = 0) : St20 cl := by
  unfold chk at h
  split at h
  · cases h
  split at h
  · cases h
  split at h
  · rename_i h3
    intro c hc
    have := List.all_eq_true.1 h3 c hc
    simp only [clothOk, isIn, Bool.and_eq_true, decide_eq_true_eq] at this
    omega
  · cases h
theorem valid_lng {cl : List S67} {rk : List Int} (v : Valid cl rk) (s : St20 cl) (c : Nat) (hc : c < cl.length) (n : Int) (h0 : 0 ≤ n) (h1 : n ≤ 520) : Valid (lng cl c n) rk := by
  refine ⟨v.r1, v.r6, v.perm, by rw [lng_len]; exact v.c10, fun d hd => ?_⟩
  rcases List.mem_or_eq_of_mem_set hd with h | h
  · exact v.ok d h
  · subst h
    have e := rd67_at cl c hc
    have := v.ok _ (List.getElem_mem hc)
    have := s _ (List.getElem_mem hc)
    rw [e]
    show _ ∧ _ ∧ _ ∧ _ ∧ _ ∧ cl[c].f2.f0 ≤ wrap64 (cl[c].f2.f1 + n) ∧ wrap64 (cl[c].f2.f1 + n) ≤ 600
    rw [w64_of (by omega) (by omega)]
    refine ⟨?_, ?_, ?_, ?_, ?_, ?_, ?_⟩ <;> first | omega | exact this.1 | skip
    all_goals (simp only [lg]; omega)
theorem lng_lng {cl : List S67} {rk : List Int} (v : Valid cl rk) (s : St20 cl) (c : Nat) (hc : c < cl.length) (n : Int) (h0 : 0 ≤ n) (h1 : n ≤ 520) : lng (lng cl c n) c 1 = lng cl c (n + 1) := by
  have e : rd_T67 (lng cl c n) c = lg (rd_T67 cl c) n := by rw [rd_lng cl c hc]; simp
  have h3 := cl_ok v c hc
  have : (rd_T67 cl c).f2.f1 ≤ 20 := by rw [rd67_at cl c hc]; exact s _ (List.getElem_mem hc)
  unfold lng at *
  rw [e, List.set_set]
  congr 1
  unfold lg
  simp only [S67.mk.injEq, S42.mk.injEq, true_and]
  rw [w64_of (n := _ + n) (by omega) (by omega), Int.add_assoc]
theorem lng_zero {cl : List S67} {rk : List Int} (v : Valid cl rk) (c : Nat) (hc : c < cl.length) : lng cl c 0 = cl := by
  have h3 := cl_ok v c hc
  unfold lng lg
  rw [w64_of (by omega) (by omega), Int.add_zero]
  show cl.set c (rd_T67 cl c) = cl
  rw [rd67_at cl c hc]; simp
def Le2 : List Int → List Int → Prop
  | [], [] => True
  | a :: r, b :: s => a ≤ b ∧ Le2 r s
  | _, _ => False
theorem Le2.refl : ∀ l, Le2 l l
  | [] => trivial
  | a :: r => ⟨Int.le_refl a, Le2.refl r⟩
def inz (v : Int) : List Int → List Int
  | [] => [v]
  | x :: xs => if v ≤ x then v :: x :: xs else x :: inz v xs
theorem inz_perm (v : Int) : ∀ l, (inz v l).Perm (v :: l)
  | [] => List.Perm.refl _
  | x :: xs => by
    unfold inz; split
    · exact List.Perm.refl _
    · exact ((inz_perm v xs).cons x).trans (List.Perm.swap v x xs)
theorem inz_sorted (v : Int) : ∀ l : List Int, l.Pairwise (fun a b => a ≤ b) → (inz v l).Pairwise (fun a b => a ≤ b)
  | [], _ => List.pairwise_singleton _ _
  | x :: xs, h => by
    obtain ⟨h1, h2⟩ := List.pairwise_cons.1 h
    unfold inz; split
    · rename_i hv
      refine List.pairwise_cons.2 ⟨fun y hy => ?_, h⟩
      rcases List.mem_cons.1 hy with e | e
      · omega
      · have := h1 y e; omega
    · rename_i hv
      refine List.pairwise_cons.2 ⟨fun y hy => ?_, inz_sorted v xs h2⟩
      rcases List.mem_cons.1 ((inz_perm v xs).mem_iff.1 hy) with e | e
      · omega
      · exact h1 y e
theorem srt_cons (v : Int) (r : List Int) (h : r.Pairwise (fun a b => a ≤ b)) : srt (v :: r) = inz v r :=
  sorted_key (g := fun x => x) _ _ ((srt_perm _).trans (inz_perm v r).symm) (srt_sorted _) (inz_sorted v r h) (fun _ _ _ _ e => e)
theorem inz_head (v : Int) (l : List Int) (h : (v :: l).Pairwise (fun a b => a ≤ b)) : inz v l = v :: l := by
  cases l with
  | nil => rfl
  | cons x xs => exact if_pos ((List.pairwise_cons.1 h).1 x (by simp))
theorem inz_le2 : ∀ (xs ys : List Int) (a b : Int), a ≤ b → xs.Pairwise (fun a b => a ≤ b) → ys.Pairwise (fun a b => a ≤ b) → Le2 xs ys → Le2 (inz a xs) (inz b ys)
  | [], [], a, b, h, _, _, _ => ⟨h, trivial⟩
  | [], _ :: _, _, _, _, _, _, h => h.elim
  | _ :: _, [], _, _, _, _, _, h => h.elim
  | x :: xs, y :: ys, a, b, hab, hx, hy, ⟨h1, h2⟩ => by
    obtain ⟨x1, x2⟩ := List.pairwise_cons.1 hx
    obtain ⟨y1, y2⟩ := List.pairwise_cons.1 hy
    unfold inz
    by_cases ha : a ≤ x <;> by_cases hb : b ≤ y
    · rw [if_pos ha, if_pos hb]; exact ⟨hab, h1, h2⟩
    · rw [if_pos ha, if_neg hb]
      refine ⟨by omega, ?_⟩
      have := inz_le2 xs ys x b (by omega) x2 y2 h2
      rwa [inz_head x xs hx] at this
    · rw [if_neg ha, if_pos hb]
      refine ⟨by omega, ?_⟩
      have := inz_le2 xs ys a y (by omega) x2 y2 h2
      rwa [inz_head y ys hy] at this
    · rw [if_neg ha, if_neg hb]; exact ⟨h1, inz_le2 xs ys a b hab x2 y2 h2⟩
theorem run_mono {cl cl' : List S67} {rk : List Int} (v : Valid cl rk) (v' : Valid cl' rk) (hl : cl'.length = cl.length) (h1 : ∀ x, (rd_T67 cl x).f1 = (rd_T67 cl' x).f1) (h2 : ∀ x, (rd_T67 cl x).f2.f1 ≤ (rd_T67 cl' x).f2.f1) (L : Int) :
    ∀ (xs fr fr' : List Int) (M : Nat), (∀ x ∈ xs, 0 ≤ x ∧ x < (cl.length : Int)) → 200 ≤ M → M + 600 * xs.length ≤ 1000000 → (∀ y ∈ fr, 0 ≤ y ∧ y ≤ (M : Int)) → (∀ y ∈ fr', 0 ≤ y ∧ y ≤ (M : Int)) → fr.Pairwise (fun a b => a ≤ b) → fr'.Pairwise (fun a b => a ≤ b) → Le2 fr fr' → fr ≠ [] →
      (∃ t ∈ (runT highF cl fr xs).map (waitT cl), t.2 > L) → ∃ t ∈ (runT highF cl' fr' xs).map (waitT cl'), t.2 > L
  | [], fr, fr', M, _, _, _, _, _, _, _, _, _, ⟨t, ht, _⟩ => by cases ht
  | x :: xs, [], _, _, _, _, _, _, _, _, _, _, hne, _ => absurd rfl hne
  | x :: xs, a :: r, [], _, _, _, _, _, _, _, _, h, _, _ => h.elim
  | x :: xs, a :: r, b :: s, M, hin, hM, hM2, hb, hb', hs, hs', ⟨hab, hrs⟩, hne, ht => by
    obtain ⟨s1, s2⟩ := List.pairwise_cons.1 hs
    obtain ⟨s1', s2'⟩ := List.pairwise_cons.1 hs'
    have hx := hin x (by simp)
    have ok := cl_ok v x.toNat (by omega)
    have ok' := cl_ok v' x.toNat (by omega)
    rw [show ((x.toNat : Nat) : Int) = x by omega] at ok ok'
    have ba := hb a (by simp)
    have bb := hb' b (by simp)
    have e1 := h1 x
    have e2 := h2 x
    have tk : takenT cl (a :: r) x = mx (rd_T67 cl x).f1 a := rfl
    have tk' : takenT cl' (b :: s) x = mx (rd_T67 cl x).f1 b := by rw [e1]; rfl
    have mxb : ∀ p q : Int, 0 ≤ p → p ≤ 200 → 0 ≤ q → q ≤ M → 0 ≤ mx p q ∧ mx p q ≤ M := fun p q _ _ _ _ => by unfold mx; split <;> omega
    have mxm : mx (rd_T67 cl x).f1 a ≤ mx (rd_T67 cl x).f1 b := by unfold mx; split <;> split <;> omega
    have m1 := mxb (rd_T67 cl x).f1 a (by omega) (by omega) (by omega) (by omega)
    have m2 := mxb (rd_T67 cl x).f1 b (by omega) (by omega) (by omega) (by omega)
    have mge : (rd_T67 cl x).f1 ≤ mx (rd_T67 cl x).f1 a := by unfold mx; split <;> omega
    simp only [List.length_cons] at hM2
    have dn : doneT highF cl (a :: r) x = mx (rd_T67 cl x).f1 a + (rd_T67 cl x).f2.f1 := by
      show wrap64 (takenT cl (a :: r) x + (rd_T67 cl x).f2.f1) = _
      rw [tk, w64_of (by omega) (by omega)]
    have dn' : doneT highF cl' (b :: s) x = mx (rd_T67 cl x).f1 b + (rd_T67 cl' x).f2.f1 := by
      show wrap64 (takenT cl' (b :: s) x + (rd_T67 cl' x).f2.f1) = _
      rw [tk', w64_of (by omega) (by omega)]
    obtain ⟨t, ht, htL⟩ := ht
    rw [runT, List.map_cons] at ht
    rw [runT, List.map_cons]
    rcases List.mem_cons.1 ht with rfl | ht
    · refine ⟨_, List.mem_cons_self, ?_⟩
      have w1 : (waitT cl (x, takenT cl (a :: r) x, doneT highF cl (a :: r) x)).2 = mx (rd_T67 cl x).f1 a - (rd_T67 cl x).f1 := by
        show wrap64 (takenT cl (a :: r) x - (rd_T67 cl x).f1) = _
        rw [tk, w64_of (by omega) (by omega)]
      have w2 : (waitT cl' (x, takenT cl' (b :: s) x, doneT highF cl' (b :: s) x)).2 = mx (rd_T67 cl x).f1 b - (rd_T67 cl x).f1 := by
        show wrap64 (takenT cl' (b :: s) x - (rd_T67 cl' x).f1) = _
        rw [tk', ← e1, w64_of (by omega) (by omega)]
      omega
    · have q1 : (a :: r).set 0 (doneT highF cl (a :: r) x) = doneT highF cl (a :: r) x :: r := rfl
      have q2 : (b :: s).set 0 (doneT highF cl' (b :: s) x) = doneT highF cl' (b :: s) x :: s := rfl
      rw [q1, srt_cons _ _ s2] at ht
      rw [q2, srt_cons _ _ s2']
      obtain ⟨u, hu, huL⟩ := run_mono v v' hl h1 h2 L xs (inz (doneT highF cl (a :: r) x) r) (inz (doneT highF cl' (b :: s) x) s) (M + 600) (fun y hy => hin y (by simp [hy])) (by omega) (by omega)
        (fun y hy => by
          rcases List.mem_cons.1 ((inz_perm _ _).mem_iff.1 hy) with h | h
          · rw [h, dn]; omega
          · have := hb y (by simp [h]); omega)
        (fun y hy => by
          rcases List.mem_cons.1 ((inz_perm _ _).mem_iff.1 hy) with h | h
          · rw [h, dn']; omega
          · have := hb' y (by simp [h]); omega)
        (inz_sorted _ _ s2) (inz_sorted _ _ s2') (inz_le2 _ _ _ _ (by rw [dn, dn']; omega) s2 s2' hrs)
        (fun h => by have := (inz_perm (doneT highF cl (a :: r) x) r).length_eq; rw [h] at this; simp at this) ⟨t, ht, htL⟩
      exact ⟨u, List.mem_cons_of_mem _ hu, huL⟩
theorem late_mono {cl cl' : List S67} {rk : List Int} (v : Valid cl rk) (v' : Valid cl' rk) (hl : cl'.length = cl.length) (h1 : ∀ x, (rd_T67 cl x).f1 = (rd_T67 cl' x).f1) (h2 : ∀ x, (rd_T67 cl x).f2.f1 ≤ (rd_T67 cl' x).f2.f1) (L : Int) (m : Nat) (hm : 1 ≤ m) (ord : List Int) (hin : ∀ x ∈ ord, 0 ≤ x ∧ x < (cl.length : Int)) (ho : ord.length ≤ 1000) (h : lateB cl ord m L = true) : lateB cl' ord m L = true := by
  unfold lateB waitsL at *
  rw [Int.toNat_natCast] at *
  rw [List.any_eq_true] at *
  have := run_mono v v' hl h1 h2 L ord (List.replicate m 0) (List.replicate m 0) 200 hin (by omega) (by omega) (fun y hy => by rw [List.eq_of_mem_replicate hy]; omega) (fun y hy => by rw [List.eq_of_mem_replicate hy]; omega) (List.pairwise_replicate.2 (.inr (Int.le_refl _))) (List.pairwise_replicate.2 (.inr (Int.le_refl _))) (Le2.refl _) (by intro e; have := congrArg List.length e; simp at this; omega)
  obtain ⟨t, ht, hL⟩ := h
  obtain ⟨u, hu, hU⟩ := this ⟨t, ht, by simpa using hL⟩
  exact ⟨u, hu, by simpa using hU⟩
def lateN (cl : List S67) (rk : List Int) (c m : Nat) (L : Int) (n : Int) : Bool := lateB (lng cl c n) (ordA cl rk) m L
theorem lateN_mono {cl : List S67} {rk : List Int} (v : Valid cl rk) (s : St20 cl) (c : Nat) (hc : c < cl.length) (m : Nat) (hm : 1 ≤ m) (L a b : Int) (h0 : 0 ≤ a) (hab : a ≤ b) (hb : b ≤ 520) (h : lateN cl rk c m L a = true) : lateN cl rk c m L b = true := by
  have h10 := v.c10
  refine late_mono (valid_lng v s c hc a h0 (by omega)) (valid_lng v s c hc b (by omega) hb) (by rw [lng_len, lng_len]) (fun x => ?_) (fun x => ?_) L m hm _ (fun x hx => by rw [lng_len]; exact ordA_in x hx) (by rw [ordA_len]; omega) h
  · rw [(pr_eq (rd_lng_pr cl c hc a x)).2, (pr_eq (rd_lng_pr cl c hc b x)).2]
  · rw [rd_lng cl c hc, rd_lng cl c hc]
    by_cases e : x.toNat = c
    · rw [if_pos e, if_pos e]
      have ex : rd_T67 cl x = cl[c] := by unfold rd_T67; rw [e, List.getD_eq_getElem?_getD, List.getElem?_eq_getElem hc]; rfl
      have := v.ok _ (List.getElem_mem hc)
      have := s _ (List.getElem_mem hc)
      rw [ex]
      show wrap64 _ ≤ wrap64 _
      rw [w64_of (by omega) (by omega), w64_of (by omega) (by omega)]; omega
    · rw [if_neg e, if_neg e]; exact Int.le_refl _
theorem longer_eq (cl : List S67) (rk : List Int) (hl : cl.length ≤ 1000) (c : Nat) (hc : c < cl.length) (n : Int) : turn_day_longer.f cl rk c n = some (lng cl c n, rk) := by
  unfold turn_day_longer.f api_TurnCloth_111.f
  simp only [Option.bind_some, List.nil_append, List.length_nil]
  rw [if_pos (by omega), Option.bind_some, if_pos (by omega), if_pos (by omega), Int.toNat_natCast]; rfl
theorem slack1_eq {cl : List S67} {rk : List Int} (v : Valid cl rk) (s : St20 cl) (c : Nat) (hc : c < cl.length) (m : Nat) (hm : 1 ≤ m) (hm2 : m ≤ 1000) (L : Int) (n k : Nat) (hn : n ≤ 500) (hk : 1200 < k) : turn_Slack_1.f k n cl rk c m L = some (lateN cl rk c m L ((n + 1 : Nat) : Int)) := by
  have h10 := v.c10
  unfold turn_Slack_1.f
  rw [nx n (by omega), longer_eq cl rk (by omega) c hc, Option.bind_some, dayOrder_eq v k hk, Option.bind_some]
  rw [isLate_eq (lng cl c _) rk _ (fun x hx => by rw [lng_len]; exact ordA_in x hx) m hm hm2 L]; rfl
theorem search_l {cl : List S67} {rk : List Int} (v : Valid cl rk) (s : St20 cl) (c : Nat) (hc : c < cl.length) (m : Nat) (hm : 1 ≤ m) (hm2 : m ≤ 1000) (L : Int) : ∀ (d a b k : Nat), b - a ≤ d → a ≤ b → b ≤ 500 → d + 1300 < k → (∀ n, n < a → lateN cl rk c m L ((n + 1 : Nat) : Int) = false) → (b < 500 → lateN cl rk c m L ((b + 1 : Nat) : Int) = true) →
    ∃ r : Nat, sort_Search_at_turn_Slack_1.l0 k a b cl rk c m L = some (r : Int) ∧ r ≤ 500 ∧ (∀ n, n < r → lateN cl rk c m L ((n + 1 : Nat) : Int) = false) ∧ (r < 500 → lateN cl rk c m L ((r + 1 : Nat) : Int) = true)
  | d, a, b, 0, _, _, _, hk, _, _ => by omega
  | d, a, b, k + 1, hd, hab, hb, hk, h1, h2 => by
    rw [sort_Search_at_turn_Slack_1.l0]
    by_cases h : a < b
    · obtain ⟨d, rfl⟩ : ∃ q, d = q + 1 := ⟨d - 1, by omega⟩
      have em : wrap64 ((IntKind.u64.wrap (wrap64 ((a : Int) + b))) / 2) = ((a + b) / 2 : Nat) := by
        rw [w64_of (n := (a : Int) + b) (by omega) (by omega)]
        have : IntKind.u64.wrap ((a : Int) + b) = (a : Int) + b := by show ((a : Int) + b) % 18446744073709551616 = _; omega
        rw [this, w64_of (by omega) (by omega)]; omega
      rw [if_pos (by omega), em, slack1_eq v s c hc m hm hm2 L _ k (by omega) (by omega), Option.bind_some]
      by_cases hq : lateN cl rk c m L (((a + b) / 2 + 1 : Nat) : Int) = true
      · rw [if_pos hq]
        exact search_l v s c hc m hm hm2 L d a ((a + b) / 2) k (by omega) (by omega) (by omega) (by omega) h1 (fun _ => hq)
      · rw [if_neg hq, nx _ (by omega)]
        refine search_l v s c hc m hm hm2 L d ((a + b) / 2 + 1) b k (by omega) (by omega) (by omega) (by omega) (fun n hn => ?_) h2
        by_cases hp : lateN cl rk c m L ((n + 1 : Nat) : Int) = true
        · exact absurd (lateN_mono v s c hc m hm L _ _ (by omega) (by omega) (by omega) hp) hq
        · simpa using hp
    · rw [if_neg (by omega)]
      obtain rfl : a = b := by omega
      exact ⟨a, rfl, hb, h1, h2⟩
theorem rSlack_l {cl : List S67} {rk : List Int} (v : Valid cl rk) (s : St20 cl) (c : Nat) (hc : c < cl.length) (m : Nat) (hm : 1 ≤ m) (hm2 : m ≤ 5) (L : Int) (hL : 0 ≤ L) : ∀ (d a k : Nat), a + d = 500 → d + 1400 < k → (∀ n, n < a → lateN cl rk c m L ((n + 1 : Nat) : Int) = false) →
    ∃ r : Nat, walkmillref04_Slack.l0 k m L c a (lng cl c a) rk = some (r : Int) ∧ r ≤ 500 ∧ (∀ n, n < r → lateN cl rk c m L ((n + 1 : Nat) : Int) = false) ∧ (r < 500 → lateN cl rk c m L ((r + 1 : Nat) : Int) = true)
  | 0, a, k, hd, hk, h1 => by
    obtain ⟨k, rfl⟩ : ∃ q, k = q + 1 := ⟨k - 1, by omega⟩
    rw [walkmillref04_Slack.l0, if_neg (by omega)]
    exact ⟨a, rfl, by omega, h1, fun h => by omega⟩
  | d + 1, a, k, hd, hk, h1 => by
    obtain ⟨k, rfl⟩ : ∃ q, k = q + 1 := ⟨k - 1, by omega⟩
    have h10 := v.c10
    have hv := valid_lng v s c hc ((a + 1 : Nat) : Int) (by omega) (by omega)
    have hmul : (m + 2) * (ordA cl rk).length ≤ 7 * 10 := Nat.mul_le_mul (by omega) (by rw [ordA_len]; omega)
    have e : (lng cl c a).set c ⟨(rd_T67 (lng cl c a) c).f0, (rd_T67 (lng cl c a) c).f1, ⟨(rd_T67 (lng cl c a) c).f2.f0, wrap64 ((rd_T67 (lng cl c a) c).f2.f1 + 1)⟩⟩ = lng cl c ((a + 1 : Nat) : Int) := by
      have := lng_lng v s c hc (a : Int) (by omega) (by omega)
      rw [show ((a + 1 : Nat) : Int) = (a : Int) + 1 by omega, ← this]; rfl
    rw [walkmillref04_Slack.l0, if_pos (by omega), if_pos (by omega), if_pos (by rw [lng_len]; omega), Int.toNat_natCast, e, Option.bind_some, rOrder_eq hv k (by omega), Option.bind_some, ordA_lng cl rk c hc]
    rw [late_eq (lng cl c _) rk (by rw [lng_len]; omega) _ (by rw [ordA_len]; omega) (fun x hx => by rw [lng_len]; exact ordA_in x hx) m hm (by omega) L hL k (by rw [lng_len]; omega), Option.bind_some]
    rw [show lateB (lng cl c ((a + 1 : Nat) : Int)) (ordA cl rk) m L = lateN cl rk c m L ((a + 1 : Nat) : Int) from rfl]
    by_cases hq : lateN cl rk c m L ((a + 1 : Nat) : Int) = true
    · rw [if_pos hq]
      exact ⟨a, rfl, by omega, h1, fun _ => hq⟩
    · rw [if_neg hq, nx a (by omega)]
      refine rSlack_l v s c hc m hm hm2 L hL d (a + 1) k (by omega) (by omega) fun n hn => ?_
      by_cases hna : n = a
      · subst hna; simpa using hq
      · exact h1 n (by omega)
theorem slack_uniq {cl : List S67} {rk : List Int} {c m : Nat} {L : Int} {r q : Nat} (hr : r ≤ 500) (hq : q ≤ 500) (r1 : ∀ n, n < r → lateN cl rk c m L ((n + 1 : Nat) : Int) = false) (r2 : r < 500 → lateN cl rk c m L ((r + 1 : Nat) : Int) = true)
    (q1 : ∀ n, n < q → lateN cl rk c m L ((n + 1 : Nat) : Int) = false) (q2 : q < 500 → lateN cl rk c m L ((q + 1 : Nat) : Int) = true) : r = q := by
  rcases Nat.lt_trichotomy r q with h | h | h
  · have := q1 r h; rw [r2 (by omega)] at this; cases this
  · exact h
  · have := r1 q h; rw [q2 (by omega)] at this; cases this
end Go.Proofs.YtlmglnobdcgbeaaGreat.P
namespace Go.Proofs.YtlmglnobdcgbeaaGreat.D
open Go Go.RowKit
noncomputable section
inductive AV where
  | any
  | lit (v : Value)
  | ptr (b off : Nat)
  | gptr (g off : Nat)
  | slice (b off len : Nat) (cap : Option Nat)
  | empty
  | map (b : Nat)
  | func (fn : Fn) (first captured : List AV)
  | yield (l : Nat)
  | iface (t : TypeId) (v : AV)
  | agg (cs : List AV)
  | tuple (cs : List AV)
  deriving Inhabited
abbrev Phi := Nat → Option (Nat × Nat)
mutual
def VR (φ : Phi) : AV → Value → Prop
  | .any, _ => True
  | .lit v, x => x = v
  | .ptr b o, x => ∃ c m, φ b = some (c, m) ∧ x = .pointer (some ⟨c, o, none⟩)
  | .gptr g o, x => x = .pointer (some ⟨g, o, none⟩)
  | .slice b o n cap, x => ∃ c m k, φ b = some (c, m) ∧ x = .slice (some ⟨c, o, none⟩) n k ∧
      n ≤ k ∧ (∀ k', cap = some k' → k = k') ∧ (cap = none → o = 0 → k = m)
  | .empty, x => ∃ a k, x = .slice (some a) 0 k
  | .map b, x => ∃ c m, φ b = some (c, m) ∧ x = .map (some c)
  | .func fn xs ys, x => ∃ as_ bs : Array Value, x = .func fn as_ bs ∧ VRs φ xs as_.toList ∧ VRs φ ys bs.toList
  | .yield l, x => ∃ c m, φ l = some (c, m) ∧ x = .func (.yield c) #[] #[]
  | .iface t a, x => ∃ y, x = .iface t y ∧ VR φ a y
  | .agg cs, x => ∃ as_ : Array Value, x = .agg as_ ∧ VRs φ cs as_.toList
  | .tuple cs, x => ∃ as_ : Array Value, x = .tuple as_ ∧ VRs φ cs as_.toList
def VRs (φ : Phi) : List AV → List Value → Prop
  | [], l => l = []
  | a :: as_, l => ∃ x xs, l = x :: xs ∧ VR φ a x ∧ VRs φ as_ xs
end
def Phi.le (φ ψ : Phi) : Prop := ∀ b x, φ b = some x → ψ b = some x
theorem Phi.le_refl (φ : Phi) : φ.le φ := fun _ _ h => h
theorem Phi.le_trans {a b c : Phi} (h : a.le b) (k : b.le c) : a.le c := fun x y hx => k x y (h x y hx)
mutual
theorem VR.mono {φ ψ : Phi} (h : φ.le ψ) : ∀ (a : AV) (x : Value), VR φ a x → VR ψ a x
  | .any, _, _ => trivial
  | .lit _, _, hv => hv
  | .ptr _ _, _, ⟨c, m, h1, h2⟩ => ⟨c, m, h _ _ h1, h2⟩
  | .gptr _ _, _, hv => hv
  | .slice _ _ _ _, _, ⟨c, m, k, h1, h2⟩ => ⟨c, m, k, h _ _ h1, h2⟩
  | .empty, _, hv => hv
  | .map _, _, ⟨c, m, h1, h2⟩ => ⟨c, m, h _ _ h1, h2⟩
  | .func _ xs ys, _, ⟨as_, bs, h1, h2, h3⟩ => ⟨as_, bs, h1, VRs.mono h xs _ h2, VRs.mono h ys _ h3⟩
  | .yield _, _, ⟨c, m, h1, h2⟩ => ⟨c, m, h _ _ h1, h2⟩
  | .iface _ a, _, ⟨y, h1, h2⟩ => ⟨y, h1, VR.mono h a y h2⟩
  | .agg cs, _, ⟨as_, h1, h2⟩ => ⟨as_, h1, VRs.mono h cs _ h2⟩
  | .tuple cs, _, ⟨as_, h1, h2⟩ => ⟨as_, h1, VRs.mono h cs _ h2⟩
theorem VRs.mono {φ ψ : Phi} (h : φ.le ψ) : ∀ (as_ : List AV) (l : List Value), VRs φ as_ l → VRs ψ as_ l
  | [], _, hv => hv
  | a :: as_, _, ⟨x, xs, h1, h2, h3⟩ => ⟨x, xs, h1, VR.mono h a x h2, VRs.mono h as_ xs h3⟩
end
theorem VRs.nil {φ : Phi} : VRs φ [] [] := rfl
theorem VRs.cons {φ : Phi} {a : AV} {as_ : List AV} {x : Value} {xs : List Value} (h : VR φ a x) (hs : VRs φ as_ xs) : VRs φ (a :: as_) (x :: xs) := ⟨x, xs, rfl, h, hs⟩
theorem VRs.length {φ : Phi} : ∀ {as_ : List AV} {l : List Value}, VRs φ as_ l → as_.length = l.length
  | [], _, h => by cases h; rfl
  | _ :: _, _, ⟨_, _, h, _, hs⟩ => by subst h; simp [VRs.length hs]
theorem VRs.get {φ : Phi} : ∀ {as_ : List AV} {l : List Value}, VRs φ as_ l → ∀ {i : Nat} {a : AV}, as_[i]? = some a → ∃ x, l[i]? = some x ∧ VR φ a x
  | [], _, _, _, _, h => by simp at h
  | _ :: _, _, ⟨x, xs, h1, h2, h3⟩, 0, a, h => by subst h1; simp at h; subst h; exact ⟨x, by simp, h2⟩
  | _ :: _, _, ⟨x, xs, h1, h2, h3⟩, i + 1, a, h => by subst h1; simp at h; obtain ⟨y, hy⟩ := VRs.get h3 h; exact ⟨y, by simpa using hy⟩
theorem VRs.set {φ : Phi} : ∀ {as_ : List AV} {l : List Value}, VRs φ as_ l → ∀ (i : Nat) {a : AV} {x : Value}, VR φ a x → VRs φ (as_.set i a) (l.set i x)
  | [], _, h, _, _, _, _ => by cases h; exact VRs.nil
  | _ :: _, _, ⟨x, xs, h1, h2, h3⟩, 0, _, _, hv => by subst h1; exact VRs.cons hv h3
  | _ :: _, _, ⟨x, xs, h1, h2, h3⟩, i + 1, _, _, hv => by subst h1; exact VRs.cons h2 (VRs.set h3 i hv)
theorem VRs.append {φ : Phi} : ∀ {as_ : List AV} {l : List Value} {bs : List AV} {k : List Value}, VRs φ as_ l → VRs φ bs k → VRs φ (as_ ++ bs) (l ++ k)
  | [], _, _, _, h, hk => by cases h; exact hk
  | _ :: _, _, _, _, ⟨x, xs, h1, h2, h3⟩, hk => by subst h1; exact VRs.cons h2 (VRs.append h3 hk)
theorem VRs.take {φ : Phi} : ∀ {as_ : List AV} {l : List Value}, VRs φ as_ l → ∀ (n : Nat), VRs φ (as_.take n) (l.take n)
  | [], _, h, n => by cases h; simp [VRs]
  | _ :: _, _, ⟨x, xs, h1, h2, h3⟩, 0 => by simp [VRs]
  | _ :: _, _, ⟨x, xs, h1, h2, h3⟩, n + 1 => by subst h1; exact VRs.cons h2 (VRs.take h3 n)
theorem VRs.drop {φ : Phi} : ∀ {as_ : List AV} {l : List Value}, VRs φ as_ l → ∀ (n : Nat), VRs φ (as_.drop n) (l.drop n)
  | [], _, h, n => by cases h; simp [VRs]
  | _ :: _, _, ⟨x, xs, h1, h2, h3⟩, 0 => by subst h1; exact VRs.cons h2 h3
  | _ :: _, _, ⟨x, xs, h1, h2, h3⟩, n + 1 => by subst h1; exact VRs.drop h3 n
theorem VRs.lits {φ : Phi} : ∀ (l : List Value), VRs φ (l.map .lit) l
  | [] => VRs.nil
  | x :: xs => VRs.cons (show VR φ (.lit x) x from rfl) (VRs.lits xs)
theorem VRs.map_of {α : Type} {φ : Phi} {f : α → AV} {g : α → Value} : ∀ (l : List α), (∀ x ∈ l, VR φ (f x) (g x)) → VRs φ (l.map f) (l.map g)
  | [], _ => VRs.nil
  | x :: xs, h => VRs.cons (h x (by simp)) (VRs.map_of xs fun y hy => h y (by simp [hy]))
mutual
def AV.toV : AV → Option Value
  | .lit v => some v
  | .gptr g o => some (.pointer (some ⟨g, o, none⟩))
  | .iface t a => match a.toV with | some x => some (.iface t x) | none => none
  | .agg cs => match AV.toVs cs with | some l => some (.agg l.toArray) | none => none
  | .tuple cs => match AV.toVs cs with | some l => some (.tuple l.toArray) | none => none
  | _ => none
def AV.toVs : List AV → Option (List Value)
  | [] => some []
  | a :: as_ => match a.toV, AV.toVs as_ with | some x, some xs => some (x :: xs) | _, _ => none
end
mutual
theorem AV.toV_eq {φ : Phi} : ∀ (a : AV) (v x : Value), a.toV = some v → VR φ a x → x = v
  | .any, _, _, h, _ => by simp [AV.toV] at h
  | .lit _, _, _, h, hv => by simp [AV.toV] at h; subst h; exact hv
  | .ptr _ _, _, _, h, _ => by simp [AV.toV] at h
  | .gptr _ _, _, _, h, hv => by simp [AV.toV] at h; subst h; exact hv
  | .slice _ _ _ _, _, _, h, _ => by simp [AV.toV] at h
  | .empty, _, _, h, _ => by simp [AV.toV] at h
  | .map _, _, _, h, _ => by simp [AV.toV] at h
  | .func _ _ _, _, _, h, _ => by simp [AV.toV] at h
  | .yield _, _, _, h, _ => by simp [AV.toV] at h
  | .iface t a, _, _, h, ⟨y, h1, h2⟩ => by
    simp only [AV.toV] at h
    split at h
    · rename_i z hz; cases h; rw [h1, AV.toV_eq a z y hz h2]
    · cases h
  | .agg cs, _, _, h, ⟨as_, h1, h2⟩ => by
    simp only [AV.toV] at h
    split at h
    · rename_i z hz; cases h; rw [h1, ← AV.toVs_eq cs z _ hz h2]
    · cases h
  | .tuple cs, _, _, h, ⟨as_, h1, h2⟩ => by
    simp only [AV.toV] at h
    split at h
    · rename_i z hz; cases h; rw [h1, ← AV.toVs_eq cs z _ hz h2]
    · cases h
theorem AV.toVs_eq {φ : Phi} : ∀ (as_ : List AV) (l k : List Value), AV.toVs as_ = some l → VRs φ as_ k → k = l
  | [], _, _, h, hv => by simp [AV.toVs] at h; subst h; exact hv
  | a :: as_, _, _, h, ⟨x, xs, h1, h2, h3⟩ => by
    simp only [AV.toVs] at h
    split at h
    · rename_i y ys hy hys; cases h; rw [h1, AV.toV_eq a y x hy h2, AV.toVs_eq as_ ys xs hys h3]
    · cases h
end
def AV.view : AV → AV
  | .lit (.agg cs) => .agg (cs.toList.map .lit)
  | .lit (.tuple cs) => .tuple (cs.toList.map .lit)
  | .lit (.iface t v) => .iface t (.lit v)
  | .lit (.func fn a b) => .func fn (a.toList.map .lit) (b.toList.map .lit)
  | a => a
theorem VR.view {φ : Phi} {a : AV} {x : Value} (h : VR φ a x) : VR φ a.view x := by
  unfold AV.view
  split
  · exact ⟨_, h, VRs.lits _⟩
  · exact ⟨_, h, VRs.lits _⟩
  · exact ⟨_, h, rfl⟩
  · exact ⟨_, _, h, VRs.lits _, VRs.lits _⟩
  · exact h
inductive TT where
  | tip
  | node (v : AV) (l r : TT)
def TT.get (t : TT) : Nat → AV :=
  TT.rec (motive := fun _ => Nat → AV) (fun _ => .lit undef)
    (fun v _ _ l r n => Nat.rec (motive := fun _ => AV) v (fun m _ => Nat.rec (motive := fun _ => AV) (l (Nat.div m 2)) (fun _ _ => r (Nat.div m 2)) (Nat.mod m 2)) n) t
def TT.path (d : Nat) : Nat → AV → TT :=
  Nat.rec (motive := fun _ => Nat → AV → TT) (fun _ _ => .tip)
    (fun _ ih n x => Nat.rec (motive := fun _ => TT) (.node x .tip .tip)
      (fun m _ => Nat.rec (motive := fun _ => TT) (.node (.lit undef) (ih (Nat.div m 2) x) .tip) (fun _ _ => .node (.lit undef) .tip (ih (Nat.div m 2) x)) (Nat.mod m 2)) n) d
def TT.set (t : TT) : Nat → AV → TT :=
  TT.rec (motive := fun _ => Nat → AV → TT) (fun n x => TT.path 10 n x)
    (fun v l r ihl ihr n x => Nat.rec (motive := fun _ => TT) (.node x l r)
      (fun m _ => Nat.rec (motive := fun _ => TT) (.node v (ihl (Nat.div m 2) x) r) (fun _ _ => .node v l (ihr (Nat.div m 2) x)) (Nat.mod m 2)) n) t
theorem TT.get_even (v : AV) (l r : TT) (m : Nat) (h : m % 2 = 0) : (TT.node v l r).get (m + 1) = l.get (m / 2) := by
  show Nat.rec (motive := fun _ => AV) _ _ (m % 2) = _
  rw [h]; rfl
theorem TT.get_odd (v : AV) (l r : TT) (m : Nat) (h : m % 2 = 1) : (TT.node v l r).get (m + 1) = r.get (m / 2) := by
  show Nat.rec (motive := fun _ => AV) _ _ (m % 2) = _
  rw [h]; rfl
theorem TT.path_zero (d : Nat) (x : AV) : TT.path (d + 1) 0 x = .node x .tip .tip := rfl
theorem TT.path_even (d m : Nat) (x : AV) (h : m % 2 = 0) : TT.path (d + 1) (m + 1) x = .node (.lit undef) (TT.path d (m / 2) x) .tip := by
  show Nat.rec (motive := fun _ => TT) _ _ (m % 2) = _
  rw [h]; rfl
theorem TT.path_odd (d m : Nat) (x : AV) (h : m % 2 = 1) : TT.path (d + 1) (m + 1) x = .node (.lit undef) .tip (TT.path d (m / 2) x) := by
  show Nat.rec (motive := fun _ => TT) _ _ (m % 2) = _
  rw [h]; rfl
theorem TT.set_zero (v : AV) (l r : TT) (x : AV) : (TT.node v l r).set 0 x = .node x l r := rfl
theorem TT.set_even (v : AV) (l r : TT) (m : Nat) (x : AV) (h : m % 2 = 0) : (TT.node v l r).set (m + 1) x = .node v (l.set (m / 2) x) r := by
  show Nat.rec (motive := fun _ => TT) _ _ (m % 2) = _
  rw [h]; rfl
theorem TT.set_odd (v : AV) (l r : TT) (m : Nat) (x : AV) (h : m % 2 = 1) : (TT.node v l r).set (m + 1) x = .node v l (r.set (m / 2) x) := by
  show Nat.rec (motive := fun _ => TT) _ _ (m % 2) = _
  rw [h]; rfl
theorem par (m : Nat) : m % 2 = 0 ∨ m % 2 = 1 := by omega
theorem TT.get_path_eq : ∀ (d n : Nat) (x : AV), n + 1 < 2 ^ d → (TT.path d n x).get n = x
  | 0, n, _, h => by simp at h
  | d + 1, 0, x, h => rfl
  | d + 1, m + 1, x, h => by
    rw [Nat.pow_succ] at h
    rcases par m with hp | hp
    · rw [TT.path_even _ _ _ hp, TT.get_even _ _ _ _ hp]; exact TT.get_path_eq d _ _ (by omega)
    · rw [TT.path_odd _ _ _ hp, TT.get_odd _ _ _ _ hp]; exact TT.get_path_eq d _ _ (by omega)
theorem TT.get_path_ne : ∀ (d n k : Nat) (x : AV), k ≠ n → (TT.path d n x).get k = .lit undef
  | 0, _, _, _, _ => rfl
  | d + 1, 0, 0, x, h => absurd rfl h
  | d + 1, 0, k + 1, x, h => by
    rw [TT.path_zero]
    rcases par k with hp | hp
    · rw [TT.get_even _ _ _ _ hp]; rfl
    · rw [TT.get_odd _ _ _ _ hp]; rfl
  | d + 1, m + 1, 0, x, h => by
    rcases par m with hp | hp
    · rw [TT.path_even _ _ _ hp]; rfl
    · rw [TT.path_odd _ _ _ hp]; rfl
  | d + 1, m + 1, k + 1, x, h => by
    rcases par m with hp | hp <;> rcases par k with hq | hq
    · rw [TT.path_even _ _ _ hp, TT.get_even _ _ _ _ hq]; exact TT.get_path_ne d _ _ _ (by omega)
    · rw [TT.path_even _ _ _ hp, TT.get_odd _ _ _ _ hq]; rfl
    · rw [TT.path_odd _ _ _ hp, TT.get_even _ _ _ _ hq]; rfl
    · rw [TT.path_odd _ _ _ hp, TT.get_odd _ _ _ _ hq]; exact TT.get_path_ne d _ _ _ (by omega)
theorem TT.get_set_eq : ∀ (t : TT) (n : Nat) (x : AV), n + 1 < 2 ^ 10 → (t.set n x).get n = x
  | .tip, n, x, h => TT.get_path_eq 10 n x h
  | .node v l r, 0, x, h => rfl
  | .node v l r, m + 1, x, h => by
    rcases par m with hp | hp
    · rw [TT.set_even _ _ _ _ _ hp, TT.get_even _ _ _ _ hp]; exact TT.get_set_eq _ _ _ (by omega)
    · rw [TT.set_odd _ _ _ _ _ hp, TT.get_odd _ _ _ _ hp]; exact TT.get_set_eq _ _ _ (by omega)
theorem TT.get_set_ne : ∀ (t : TT) (n k : Nat) (x : AV), k ≠ n → (t.set n x).get k = t.get k
  | .tip, n, k, x, h => TT.get_path_ne 10 n k x h
  | .node v l r, 0, 0, x, h => absurd rfl h
  | .node v l r, 0, k + 1, x, h => by
    rw [TT.set_zero]
    rcases par k with hp | hp
    · rw [TT.get_even _ _ _ _ hp, TT.get_even _ _ _ _ hp]
    · rw [TT.get_odd _ _ _ _ hp, TT.get_odd _ _ _ _ hp]
  | .node v l r, m + 1, 0, x, h => by
    rcases par m with hp | hp
    · rw [TT.set_even _ _ _ _ _ hp]; rfl
    · rw [TT.set_odd _ _ _ _ _ hp]; rfl
  | .node v l r, m + 1, k + 1, x, h => by
    rcases par m with hp | hp <;> rcases par k with hq | hq
    · rw [TT.set_even _ _ _ _ _ hp, TT.get_even _ _ _ _ hq, TT.get_even _ _ _ _ hq]; exact TT.get_set_ne _ _ _ _ (by omega)
    · rw [TT.set_even _ _ _ _ _ hp, TT.get_odd _ _ _ _ hq, TT.get_odd _ _ _ _ hq]
    · rw [TT.set_odd _ _ _ _ _ hp, TT.get_even _ _ _ _ hq, TT.get_even _ _ _ _ hq]
    · rw [TT.set_odd _ _ _ _ _ hp, TT.get_odd _ _ _ _ hq, TT.get_odd _ _ _ _ hq]; exact TT.get_set_ne _ _ _ _ (by omega)
structure ALoop where
  state : LoopState
  pending : Option Code
  n : Nat
  tmps : TT
  params : Array Tmp
  assign : Code
  body : Code
  defers : Nat
inductive Md where
  | exact
  | grow
  | ro
  deriving DecidableEq
inductive AO where
  | cells (cs : List AV) (elem : TypeId) (md : Md)
  | map (es : List (AV × AV × Nat)) (clock : Nat)
  | loop (r : ALoop)
  | defd (isOpen : Bool)
  | sIter (s : ByteArray) (pos : Nat)
  | dead
inductive Tr where
  | tip
  | node (o : AO) (l r : Tr)
def Tr.get (t : Tr) : Nat → Option AO :=
  Tr.rec (motive := fun _ => Nat → Option AO) (fun _ => none)
    (fun v _ _ l r n => Nat.rec (motive := fun _ => Option AO) (some v) (fun m _ => Nat.rec (motive := fun _ => Option AO) (l (Nat.div m 2)) (fun _ _ => r (Nat.div m 2)) (Nat.mod m 2)) n) t
def Tr.set (t : Tr) : Nat → AO → Tr :=
  Tr.rec (motive := fun _ => Nat → AO → Tr) (fun n x => Nat.rec (motive := fun _ => Tr) (.node x .tip .tip) (fun _ _ => .tip) n)
    (fun v l r ihl ihr n x => Nat.rec (motive := fun _ => Tr) (.node x l r)
      (fun m _ => Nat.rec (motive := fun _ => Tr) (.node v (ihl (Nat.div m 2) x) r) (fun _ _ => .node v l (ihr (Nat.div m 2) x)) (Nat.mod m 2)) n) t
theorem Tr.get_even (v : AO) (l r : Tr) (m : Nat) (h : m % 2 = 0) : (Tr.node v l r).get (m + 1) = l.get (m / 2) := by
  show Nat.rec (motive := fun _ => Option AO) _ _ (m % 2) = _
  rw [h]; rfl
theorem Tr.get_odd (v : AO) (l r : Tr) (m : Nat) (h : m % 2 = 1) : (Tr.node v l r).get (m + 1) = r.get (m / 2) := by
  show Nat.rec (motive := fun _ => Option AO) _ _ (m % 2) = _
  rw [h]; rfl
theorem Tr.set_even (v : AO) (l r : Tr) (m : Nat) (x : AO) (h : m % 2 = 0) : (Tr.node v l r).set (m + 1) x = .node v (l.set (m / 2) x) r := by
  show Nat.rec (motive := fun _ => Tr) _ _ (m % 2) = _
  rw [h]; rfl
theorem Tr.set_odd (v : AO) (l r : Tr) (m : Nat) (x : AO) (h : m % 2 = 1) : (Tr.node v l r).set (m + 1) x = .node v l (r.set (m / 2) x) := by
  show Nat.rec (motive := fun _ => Tr) _ _ (m % 2) = _
  rw [h]; rfl
theorem Tr.get_set_ne : ∀ (t : Tr) (n m : Nat) (x : AO), m ≠ n → (t.set n x).get m = t.get m
  | .tip, 0, 0, x, h => absurd rfl h
  | .tip, 0, m + 1, x, h => by
    show (Tr.node x .tip .tip).get (m + 1) = none
    rcases par m with hp | hp
    · rw [Tr.get_even _ _ _ _ hp]; rfl
    · rw [Tr.get_odd _ _ _ _ hp]; rfl
  | .tip, n + 1, m, x, h => rfl
  | .node v l r, 0, 0, x, h => absurd rfl h
  | .node v l r, 0, k + 1, x, h => by
    show (Tr.node x l r).get (k + 1) = _
    rcases par k with hp | hp
    · rw [Tr.get_even _ _ _ _ hp, Tr.get_even _ _ _ _ hp]
    · rw [Tr.get_odd _ _ _ _ hp, Tr.get_odd _ _ _ _ hp]
  | .node v l r, m + 1, 0, x, h => by
    rcases par m with hp | hp
    · rw [Tr.set_even _ _ _ _ _ hp]; rfl
    · rw [Tr.set_odd _ _ _ _ _ hp]; rfl
  | .node v l r, m + 1, k + 1, x, h => by
    rcases par m with hp | hp <;> rcases par k with hq | hq
    · rw [Tr.set_even _ _ _ _ _ hp, Tr.get_even _ _ _ _ hq, Tr.get_even _ _ _ _ hq]; exact Tr.get_set_ne _ _ _ _ (by omega)
    · rw [Tr.set_even _ _ _ _ _ hp, Tr.get_odd _ _ _ _ hq, Tr.get_odd _ _ _ _ hq]
    · rw [Tr.set_odd _ _ _ _ _ hp, Tr.get_even _ _ _ _ hq, Tr.get_even _ _ _ _ hq]
    · rw [Tr.set_odd _ _ _ _ _ hp, Tr.get_odd _ _ _ _ hq, Tr.get_odd _ _ _ _ hq]; exact Tr.get_set_ne _ _ _ _ (by omega)
theorem Tr.get_set_eq : ∀ (t : Tr) (n : Nat) (x : AO), (t.get n).isSome = true → (t.set n x).get n = some x
  | .tip, n, x, h => by cases h
  | .node v l r, 0, x, h => rfl
  | .node v l r, m + 1, x, h => by
    rcases par m with hp | hp
    · rw [Tr.get_even _ _ _ _ hp] at h
      rw [Tr.set_even _ _ _ _ _ hp, Tr.get_even _ _ _ _ hp]; exact Tr.get_set_eq _ _ _ h
    · rw [Tr.get_odd _ _ _ _ hp] at h
      rw [Tr.set_odd _ _ _ _ _ hp, Tr.get_odd _ _ _ _ hp]; exact Tr.get_set_eq _ _ _ h
theorem Tr.set_new : ∀ (t : Tr) (n : Nat) (x y : AO), (t.set n x).get n = some y → y = x
  | .tip, 0, x, y, h => by cases h; rfl
  | .tip, n + 1, x, y, h => by cases h
  | .node v l r, 0, x, y, h => by cases h; rfl
  | .node v l r, m + 1, x, y, h => by
    rcases par m with hp | hp
    · rw [Tr.set_even _ _ _ _ _ hp, Tr.get_even _ _ _ _ hp] at h; exact Tr.set_new _ _ _ _ h
    · rw [Tr.set_odd _ _ _ _ _ hp, Tr.get_odd _ _ _ _ hp] at h; exact Tr.set_new _ _ _ _ h
structure AH where
  size : Nat
  t : Tr
def AH.get (H : AH) (b : Nat) : Option AO :=
  AH.rec (motive := fun _ => Option AO) (fun s t => Nat.rec (motive := fun _ => Option AO) none (fun _ _ => t.get b) (Nat.sub s b)) H
theorem AH.get_eq (H : AH) (b : Nat) : H.get b = if b < H.size then H.t.get b else none := by
  obtain ⟨s, t⟩ := H
  show Nat.rec (motive := fun _ => Option AO) none (fun _ _ => t.get b) (s - b) = if b < s then t.get b else none
  by_cases h : b < s
  · obtain ⟨q, hq⟩ : ∃ q, s - b = q + 1 := ⟨s - b - 1, by omega⟩
    rw [hq, if_pos h]
  · rw [show s - b = 0 by omega, if_neg h]; rfl
def AH.set (H : AH) (b : Nat) (o : AO) : AH := match H with | ⟨s, t⟩ => ⟨s, t.set b o⟩
def AH.push (H : AH) (o : AO) : Option AH :=
  let t := H.t.set H.size o
  match t.get H.size with
  | some _ => some ⟨H.size + 1, t⟩
  | none => none
theorem AH.get_lt {H : AH} {b : Nat} {o : AO} (h : H.get b = some o) : b < H.size := by
  rw [AH.get_eq] at h; split at h
  · assumption
  · cases h
theorem AH.get_set {H : AH} {b : Nat} {o o' : AO} (h : H.get b = some o) (c : Nat) : (H.set b o').get c = if c = b then some o' else H.get c := by
  have hl := AH.get_lt h
  rw [AH.get_eq] at h
  rw [AH.get_eq, AH.get_eq]
  obtain ⟨s, t⟩ := H
  simp only [AH.set] at h hl ⊢
  rw [if_pos hl] at h
  by_cases hc : c = b
  · subst hc; simp only [hl, if_true]; exact Tr.get_set_eq t _ o' (by rw [h]; rfl)
  · rw [if_neg hc, Tr.get_set_ne _ _ _ _ hc]; rfl
theorem AH.get_push {H H' : AH} {o : AO} (h : H.push o = some H') (c : Nat) : c ≠ H.size → H'.get c = H.get c := by
  intro hc
  unfold AH.push at h
  simp only at h
  split at h
  · cases h
    rw [AH.get_eq, AH.get_eq]
    simp only
    rw [Tr.get_set_ne _ _ _ _ hc]
    by_cases h1 : c < H.size
    · rw [if_pos h1, if_pos (by omega)]
    · rw [if_neg h1, if_neg (by omega)]
  · cases h
theorem AH.push_size {H H' : AH} {o : AO} (h : H.push o = some H') : H'.size = H.size + 1 := by
  unfold AH.push at h
  simp only at h
  split at h
  · cases h; rfl
  · cases h
theorem AH.push_new {H H' : AH} {o : AO} (h : H.push o = some H') : H'.get H.size = some o := by
  unfold AH.push at h
  simp only at h
  split at h
  · rename_i y hy
    cases h
    rw [AH.get_eq]
    simp only
    rw [if_pos (Nat.lt_succ_self _), hy, Tr.set_new _ _ _ _ hy]
  · cases h
end
end Go.Proofs.YtlmglnobdcgbeaaGreat.D
namespace Go.Proofs.YtlmglnobdcgbeaaGreat.D
open Go Go.RowKit
noncomputable section
def callE (c : Call) : Bool :=
  match c.callee with
  | .builtin .len | .builtin .cap | .builtin .max | .builtin .min => false
  | _ => true
def isETab : Op → Bool := Op.rec (motive := fun _ => Bool) (fun _ => false) (fun _ => true) (fun _ _ _ => false) (fun _ => false) (fun _ _ => false) (fun _ _ => false) (fun _ _ _ => false) (fun _ _ _ _ => true) (fun _ _ => false) (fun _ _ _ => true) (fun _ => true) (fun _ => true) (fun _ => false) (fun _ _ _ _ _ => false) (fun _ _ _ => false) (fun _ _ _ => false) (fun _ _ => true) (fun _ _ => false) (fun _ _ _ => false) (fun _ _ => false) (fun _ _ => true) (fun _ _ _ => false) (fun _ _ _ _ _ => false) (fun _ _ _ => false) (fun _ _ _ => false) (fun _ _ _ => false) (fun _ _ _ => false) (fun _ _ _ _ => false) (fun _ _ _ _ => true) (fun _ _ _ => true) (fun _ _ _ _ => true) (fun _ _ => true) (fun _ _ => true) (fun _ => true) (fun _ _ _ _ => false) (fun _ _ => false) (fun c => callE c) (fun _ => true) (fun _ => true) (fun _ => true) (fun _ _ => true) (fun _ _ _ => true) (fun _ _ => true)
def isE (o : Oper) : Bool := isETab o.op
def depB (o : Oper) (j : Nat) : Bool := o.after.toList.any fun e => Region.binds .any e && decide (e.on = j)
def regOk (ops : Array Oper) : Bool :=
  (List.range ops.size).all fun i => match ops[i]? with
    | none => true
    | some o => o.after.toList.all (fun e => !Region.binds .any e || decide (e.on < i)) &&
      (List.range ops.size).all fun j => match ops[j]? with
        | none => true
        | some oj => isE oj || (match oj.dst with
          | none => true
          | some d => !(o.looksAt ops).contains d || (!decide (j = i) && depB o j))
def codeOk : Code → Bool
  | .region _ ops d => !d || regOk ops
  | .seq a b => codeOk a && codeOk b
  | .cond _ a b => codeOk a && codeOk b
  | .block _ a => codeOk a
  | .loop a => codeOk a
  | .rangeFunc _ _ a b => codeOk a && codeOk b
  | .scope a => codeOk a
  | _ => true
theorem regOk_before {ops : Array Oper} (h : regOk ops = true) {i : Nat} {o : Oper} (ho : ops[i]? = some o) : ∀ e ∈ o.after, Region.binds .any e = true → e.on < i := by
  intro e he hb
  have hlt : i < ops.size := (Array.getElem?_eq_some_iff.1 ho).1
  have := List.all_eq_true.1 h i (List.mem_range.2 hlt)
  rw [ho] at this
  simp only [Bool.and_eq_true] at this
  have h2 := List.all_eq_true.1 this.1 e (by simpa using he)
  simp [hb] at h2
  exact h2
theorem regOk_reads {ops : Array Oper} (h : regOk ops = true) {i j : Nat} {o oj : Oper} {d : Tmp} (ho : ops[i]? = some o) (hj : ops[j]? = some oj) (hE : isE oj = false) (hd : oj.dst = some d) (hl : d ∈ o.looksAt ops) : j ≠ i ∧ depB o j = true := by
  have hlt : i < ops.size := (Array.getElem?_eq_some_iff.1 ho).1
  have hlj : j < ops.size := (Array.getElem?_eq_some_iff.1 hj).1
  have := List.all_eq_true.1 h i (List.mem_range.2 hlt)
  rw [ho] at this
  simp only [Bool.and_eq_true] at this
  have h2 := List.all_eq_true.1 this.2 j (List.mem_range.2 hlj)
  rw [hj] at h2
  simp only [hE, hd, Bool.false_or] at h2
  simp [hl] at h2
  exact h2
theorem depB_iff {o : Oper} {j : Nat} (h : depB o j = true) : ∃ e ∈ o.after, Region.binds .any e = true ∧ e.on = j := by
  unfold depB at h
  obtain ⟨e, he, hb⟩ := List.any_eq_true.1 h
  simp at hb
  exact ⟨e, by simpa using he, hb.1, hb.2⟩
end
end Go.Proofs.YtlmglnobdcgbeaaGreat.D
namespace Go.Proofs.YtlmglnobdcgbeaaGreat.D
open Go Go.RowKit
noncomputable section
def esz (P : Program) (t : TypeId) : Nat := match P.info? t with | some i => i.size | none => 0
def ES (φ : Phi) : List (AV × AV × Nat) → List MapEntry → Prop
  | [], l => l = []
  | (k, v, b) :: es, l => ∃ e rest, l = e :: rest ∧ VR φ k e.key ∧ VR φ v e.val ∧ e.born = b ∧ ES φ es rest
theorem ES.mono {φ ψ : Phi} (h : φ.le ψ) : ∀ {es : List (AV × AV × Nat)} {l : List MapEntry}, ES φ es l → ES ψ es l
  | [], _, hv => hv
  | (_, _, _) :: _, _, ⟨e, r, h1, h2, h3, h4, h5⟩ => ⟨e, r, h1, h2.mono h, h3.mono h, h4, ES.mono h h5⟩
structure TR (φ : Phi) (n : Nat) (t : TT) (tm : Array Value) : Prop where
  size : tm.size = n
  le : n ≤ 1000
  get : ∀ i, VR φ (t.get i) (tm.getD i undef)
theorem TR.mono {φ ψ : Phi} (h : φ.le ψ) {n : Nat} {t : TT} {tm : Array Value} (hv : TR φ n t tm) : TR ψ n t tm := ⟨hv.size, hv.le, fun i => (hv.get i).mono h⟩
def OR (P : Program) (φ : Phi) (m : Nat) : AO → Obj → Prop
  | .cells cs elem md, o => ∃ (xs : Array Value) (fz : Nat × Nat), o = .cells xs elem fz ∧ (∀ i, i < xs.size → ¬ (fz.1 ≤ i ∧ i < fz.2)) ∧
      VRs φ cs (xs.toList.take cs.length) ∧ (md ≠ .grow → xs.size = cs.length) ∧ (md = .grow → xs.size = m * esz P elem)
  | .map es clock, o => ∃ es' : Array MapEntry, o = .map es' clock ∧ ES φ es es'.toList
  | .loop r, o => ∃ (fn : FuncId) (tm : Array Value) (d m' : Nat), φ r.defers = some (d, m') ∧
      o = .loop { state := r.state, pending := r.pending, fn, tmps := tm, params := r.params, assign := r.assign, body := r.body, defers := d } ∧ TR φ r.n r.tmps tm ∧ codeOk r.assign = true ∧ codeOk r.body = true
  | .defd b, o => o = .deferred (if b then some [] else none)
  | .sIter s p, o => o = .stringIter s p
  | .dead, _ => True
theorem OR.mono {P : Program} {φ ψ : Phi} (h : φ.le ψ) {m : Nat} {ao : AO} {o : Obj} (hv : OR P φ m ao o) : OR P ψ m ao o := by
  cases ao with
  | cells cs elem md => obtain ⟨xs, fz, h1, h2, h3, h4⟩ := hv; exact ⟨xs, fz, h1, h2, h3.mono h, h4⟩
  | map es clock => obtain ⟨es', h1, h2⟩ := hv; exact ⟨es', h1, h2.mono h⟩
  | loop r => obtain ⟨fn, tm, d, m', h1, h2, h3⟩ := hv; exact ⟨fn, tm, d, m', h _ _ h1, h2, h3.1.mono h, h3.2⟩
  | defd b => exact hv
  | sIter s p => exact hv
  | dead => trivial
abbrev Glob := Nat → Option (Array Value)
def GlobAt (w : World) (g : Nat) (vs : Array Value) : Prop := ∃ (xs : Array Value) (e : TypeId) (fz : Nat × Nat), w.heap[g]? = some (.cells xs e fz) ∧ xs.toList.take vs.size = vs.toList
theorem GlobAt.of {w v : World} {g : Nat} {vs : Array Value} (h : GlobAt w g vs) (e : v.heap[g]? = w.heap[g]?) : GlobAt v g vs := let ⟨xs, t, fz, h1, h2⟩ := h; ⟨xs, t, fz, by rw [e]; exact h1, h2⟩
structure R (P : Program) (G : Glob) (n0 : Nat) (φ : Phi) (H : AH) (w : World) : Prop where
  obj : ∀ b c m, φ b = some (c, m) → ∃ ao o, H.get b = some ao ∧ w.heap[c]? = some o ∧ OR P φ m ao o ∧ (n0 ≤ c ∨ ∃ cs e, ao = .cells cs e .ro)
  inj : ∀ b b' c m m', φ b = some (c, m) → φ b' = some (c, m') → H.get b ≠ some .dead → H.get b' ≠ some .dead → b = b'
  low : n0 ≤ w.heap.size
  glob : ∀ g vs, G g = some vs → GlobAt w g vs ∧ g < n0
structure Sim (P : Program) (G : Glob) (n0 : Nat) (φ : Phi) (H : AH) (w : World) (ψ : Phi) (K : AH) (v : World) : Prop where
  le : φ.le ψ
  new : ∀ b, φ b = none → b < H.size → ψ b = none
  sz : H.size ≤ K.size
  r : R P G n0 ψ K v
  bel : Below n0 w v
section
variable {P : Program} {G : Glob} {n0 : Nat} {φ ψ χ : Phi} {H K L : AH} {w v u : World}
theorem Sim.refl (h : R P G n0 φ H w) : Sim P G n0 φ H w φ H w := ⟨Phi.le_refl _, fun _ h _ => h, Nat.le_refl _, h, Below.refl _ _⟩
theorem Sim.trans (h : Sim P G n0 φ H w ψ K v) (k : Sim P G n0 ψ K v χ L u) : Sim P G n0 φ H w χ L u :=
  ⟨Phi.le_trans h.le k.le, fun b hb hs => k.new b (h.new b hb hs) (Nat.lt_of_lt_of_le hs h.sz), Nat.le_trans h.sz k.sz, k.r, h.bel.trans k.bel⟩
structure SameHeap (w v : World) : Prop where
  heap : v.heap = w.heap
  os : v.os = w.os
  tape : v.tape = w.tape
  output : v.output = w.output
theorem SameHeap.refl (w : World) : SameHeap w w := ⟨rfl, rfl, rfl, rfl⟩
theorem SameHeap.drew (w : World) : SameHeap w { w with drawn := w.drawn + 1 } := ⟨rfl, rfl, rfl, rfl⟩
theorem R.same (h : R P G n0 φ H w) (s : SameHeap w v) : R P G n0 φ H v :=
  ⟨fun b c m hb => by rw [s.heap]; exact h.obj b c m hb, h.inj, by rw [s.heap]; exact h.low, fun g vs hg => let ⟨h1, h2⟩ := h.glob g vs hg; ⟨h1.of (by rw [s.heap]), h2⟩⟩
theorem SameHeap.below (s : SameHeap w v) (B : Nat) : Below B w v := ⟨s.os, s.tape, s.output, by rw [s.heap]; exact Nat.le_refl _, fun k _ => by rw [s.heap]⟩
theorem Sim.same (h : R P G n0 φ H w) (s : SameHeap w v) : Sim P G n0 φ H w φ H v := ⟨Phi.le_refl _, fun _ h _ => h, Nat.le_refl _, h.same s, s.below _⟩
theorem R.lt (h : R P G n0 φ H w) {b c m : Nat} (hb : φ b = some (c, m)) : b < H.size ∧ c < w.heap.size := by
  obtain ⟨ao, o, h1, h2, _⟩ := h.obj b c m hb
  exact ⟨AH.get_lt h1, (Array.getElem?_eq_some_iff.1 h2).1⟩
theorem R.none_ge (h : R P G n0 φ H w) {b : Nat} (hb : H.size ≤ b) : φ b = none := by
  cases hp : φ b with
  | none => rfl
  | some x => exact absurd (h.lt (c := x.1) (m := x.2) hp).1 (by omega)
structure Upd (w : World) (c : Nat) (o : Obj) (v : World) : Prop where
  at_ : v.heap[c]? = some o
  other : ∀ k, k ≠ c → v.heap[k]? = w.heap[k]?
  size : v.heap.size = w.heap.size
  os : v.os = w.os
  tape : v.tape = w.tape
  output : v.output = w.output
theorem Upd.below {c : Nat} {o : Obj} (h : Upd w c o v) (hc : n0 ≤ c) : Below n0 w v :=
  ⟨h.os, h.tape, h.output, by rw [h.size]; exact Nat.le_refl _, fun k hk => h.other k (by omega)⟩
theorem Upd.putObj {c : Nat} (o : Obj) (hc : c < w.heap.size) : Upd w c o (w.putObj c o) :=
  ⟨World.putObj_heap_same hc, fun k hk => World.putObj_heap_other hk, World.putObj_size, rfl, rfl, rfl⟩
theorem R.set (h : R P G n0 φ H w) {b c m : Nat} {ao ao' : AO} {o : Obj} (hb : φ b = some (c, m)) (hg : H.get b = some ao) (hd : ao ≠ .dead) (hro : ∀ cs e, ao ≠ .cells cs e .ro)
    (ho : OR P φ m ao' o) (hu : Upd w c o v) : Sim P G n0 φ H w φ (H.set b ao') v := by
  have hc : n0 ≤ c := by
    obtain ⟨ao₁, o₁, h1, _, _, h4⟩ := h.obj b c m hb
    rw [hg] at h1; cases h1
    rcases h4 with h4 | ⟨cs, e, h4⟩
    · exact h4
    · exact absurd h4 (hro cs e)
  refine ⟨Phi.le_refl _, fun _ h _ => h, Nat.le_refl _, ⟨?_, ?_, by rw [hu.size]; exact h.low, ?_⟩, hu.below hc⟩
  · intro b' c' m' hb'
    by_cases hbb : b' = b
    · subst hbb
      rw [hb] at hb'; cases hb'
      exact ⟨ao', o, by rw [AH.get_set hg, if_pos rfl], hu.at_, ho, .inl hc⟩
    · obtain ⟨ao₁, o₁, h1, h2, h3, h4⟩ := h.obj b' c' m' hb'
      by_cases hcc : c' = c
      · subst hcc
        have : H.get b' = some .dead := by
          apply Classical.byContradiction
          intro hn
          exact hbb (h.inj b' b c' m' m hb' hb hn (by rw [hg]; intro e; cases e; exact hd rfl))
        rw [this] at h1; cases h1
        exact ⟨.dead, o, by rw [AH.get_set hg, if_neg hbb, this], hu.at_, trivial, .inl hc⟩
      · exact ⟨ao₁, o₁, by rw [AH.get_set hg, if_neg hbb]; exact h1, by rw [hu.other _ hcc]; exact h2, h3, h4⟩
  · intro b₁ b₂ c' m₁ m₂ h1 h2 hn1 hn2
    refine h.inj b₁ b₂ c' m₁ m₂ h1 h2 ?_ ?_
    · rw [AH.get_set hg] at hn1
      by_cases e : b₁ = b
      · subst e; rw [hg]; intro e; cases e; exact hd rfl
      · rw [if_neg e] at hn1; exact hn1
    · rw [AH.get_set hg] at hn2
      by_cases e : b₂ = b
      · subst e; rw [hg]; intro e; cases e; exact hd rfl
      · rw [if_neg e] at hn2; exact hn2
  · intro g vs hgv
    obtain ⟨he, hlt⟩ := h.glob g vs hgv
    exact ⟨he.of (hu.other g (by omega)), hlt⟩
theorem R.kill (h : R P G n0 φ H w) {b c m : Nat} {ao : AO} (hb : φ b = some (c, m)) (hg : H.get b = some ao) (hro : ∀ cs e, ao ≠ .cells cs e .ro) : Sim P G n0 φ H w φ (H.set b .dead) w := by
  refine ⟨Phi.le_refl _, fun _ h _ => h, Nat.le_refl _, ⟨?_, ?_, h.low, h.glob⟩, Below.refl _ _⟩
  · intro b' c' m' hb'
    obtain ⟨ao₁, o₁, h1, h2, h3, h4⟩ := h.obj b' c' m' hb'
    by_cases hbb : b' = b
    · subst hbb
      rw [hg] at h1; cases h1
      refine ⟨.dead, o₁, by rw [AH.get_set hg, if_pos rfl], h2, trivial, ?_⟩
      rcases h4 with h4 | ⟨cs, e, h4⟩
      · exact .inl h4
      · exact absurd h4 (hro cs e)
    · exact ⟨ao₁, o₁, by rw [AH.get_set hg, if_neg hbb]; exact h1, h2, h3, h4⟩
  · intro b₁ b₂ c' m₁ m₂ h1 h2 hn1 hn2
    refine h.inj b₁ b₂ c' m₁ m₂ h1 h2 ?_ ?_
    · rw [AH.get_set hg] at hn1
      by_cases e : b₁ = b
      · rw [if_pos e] at hn1; exact absurd rfl hn1
      · rw [if_neg e] at hn1; exact hn1
    · rw [AH.get_set hg] at hn2
      by_cases e : b₂ = b
      · rw [if_pos e] at hn2; exact absurd rfl hn2
      · rw [if_neg e] at hn2; exact hn2
theorem R.pushU (h : R P G n0 φ H w) {ao : AO} (hp : H.push ao = some K) : Sim P G n0 φ H w φ K w := by
  have hne : ∀ b x, φ b = some x → b ≠ H.size := fun b x hb => by have := (h.lt (c := x.1) (m := x.2) hb).1; omega
  refine ⟨Phi.le_refl _, fun _ h _ => h, by rw [AH.push_size hp]; omega, ⟨?_, ?_, h.low, h.glob⟩, Below.refl _ _⟩
  · intro b c m hb
    rw [AH.get_push hp b (hne _ _ hb)]
    exact h.obj b c m hb
  · intro b b' c m m' h1 h2
    rw [AH.get_push hp b (hne _ _ h1), AH.get_push hp b' (hne _ _ h2)]
    exact h.inj b b' c m m' h1 h2
def Phi.put (φ : Phi) (p : Nat) (x : Nat × Nat) : Phi := fun b => if b = p then some x else φ b
theorem Phi.put_same (φ : Phi) (p : Nat) (x : Nat × Nat) : φ.put p x p = some x := if_pos rfl
theorem Phi.le_put {φ : Phi} {p : Nat} (x : Nat × Nat) (h : φ p = none) : φ.le (φ.put p x) := fun b y hb => by
  unfold Phi.put
  by_cases e : b = p
  · subst e; rw [h] at hb; cases hb
  · rw [if_neg e]; exact hb
structure New (w : World) (o : Obj) (v : World) : Prop where
  heap : v.heap = w.heap.push o
  os : v.os = w.os
  tape : v.tape = w.tape
  output : v.output = w.output
theorem New.alloc (w : World) (o : Obj) : New w o (w.alloc o) := ⟨rfl, rfl, rfl, rfl⟩
theorem New.old {o : Obj} (h : New w o v) {k : Nat} (hk : k < w.heap.size) : v.heap[k]? = w.heap[k]? := by
  rw [h.heap, Array.getElem?_push, if_neg (by omega)]
theorem New.fresh {o : Obj} (h : New w o v) : v.heap[w.heap.size]? = some o := by rw [h.heap]; simp
theorem New.below {o : Obj} (h : New w o v) (hn : n0 ≤ w.heap.size) : Below n0 w v :=
  ⟨h.os, h.tape, h.output, by rw [h.heap]; simp, fun k hk => h.old (by omega)⟩
theorem R.late (h : R P G n0 φ H w) {p m : Nat} {ao : AO} {o : Obj} (hp : φ p = none) (hg : H.get p = some ao) (ho : OR P (φ.put p (w.heap.size, m)) m ao o) (hn : New w o v) :
    R P G n0 (φ.put p (w.heap.size, m)) H v ∧ Below n0 w v := by
  have hle := Phi.le_put (w.heap.size, m) hp
  refine ⟨⟨?_, ?_, by have := h.low; rw [hn.heap]; simp; omega, ?_⟩, hn.below h.low⟩
  · intro b c m' hb
    unfold Phi.put at hb
    by_cases e : b = p
    · subst e
      rw [if_pos rfl] at hb; cases hb
      exact ⟨ao, o, hg, hn.fresh, ho, .inl h.low⟩
    · rw [if_neg e] at hb
      obtain ⟨ao₁, o₁, h1, h2, h3, h4⟩ := h.obj b c m' hb
      exact ⟨ao₁, o₁, h1, by rw [hn.old (h.lt hb).2]; exact h2, h3.mono hle, h4⟩
  · intro b b' c m₁ m₂ h1 h2 hn1 hn2
    unfold Phi.put at h1 h2
    by_cases e : b = p
    · by_cases e' : b' = p
      · rw [e, e']
      · rw [if_pos e] at h1; rw [if_neg e'] at h2; cases h1
        exact absurd (h.lt h2).2 (by omega)
    · by_cases e' : b' = p
      · rw [if_neg e] at h1; rw [if_pos e'] at h2; cases h2
        exact absurd (h.lt h1).2 (by omega)
      · rw [if_neg e] at h1; rw [if_neg e'] at h2
        exact h.inj b b' c m₁ m₂ h1 h2 hn1 hn2
  · intro g vs hgv
    obtain ⟨he, hlt⟩ := h.glob g vs hgv
    exact ⟨he.of (hn.old (by have := h.low; omega)), hlt⟩
theorem R.push (h : R P G n0 φ H w) {m : Nat} {ao : AO} {o : Obj} (hp : H.push ao = some K) (ho : OR P (φ.put H.size (w.heap.size, m)) m ao o) (hn : New w o v) :
    Sim P G n0 φ H w (φ.put H.size (w.heap.size, m)) K v := by
  have h1 := h.pushU hp
  have hnone : φ H.size = none := h.none_ge (Nat.le_refl _)
  obtain ⟨h2, h3⟩ := h1.r.late hnone (AH.push_new hp) ho hn
  refine ⟨Phi.le_put _ hnone, fun b hb hs => ?_, h1.sz, h2, h3⟩
  unfold Phi.put
  rw [if_neg (by omega)]; exact hb
theorem R.move (h : R P G n0 φ H w) {b c m : Nat} {ao ao' : AO} {o : Obj} (hb : φ b = some (c, m)) (hg : H.get b = some ao) (hd : ao ≠ .dead) (hro : ∀ cs e, ao ≠ .cells cs e .ro)
    (hp : (H.set b .dead).push ao' = some K) (ho : OR P φ m ao' o) (hu : Upd w c o v) : Sim P G n0 φ H w (φ.put H.size (c, m)) K v := by
  have hc : n0 ≤ c := by
    obtain ⟨ao₁, o₁, h1, _, _, h4⟩ := h.obj b c m hb
    rw [hg] at h1; cases h1
    rcases h4 with h4 | ⟨cs, e, h4⟩
    · exact h4
    · exact absurd h4 (hro cs e)
  have hnone : φ H.size = none := h.none_ge (Nat.le_refl _)
  have hle := Phi.le_put (c, m) hnone
  have hbs : b < H.size := AH.get_lt hg
  have hsz : (H.set b .dead).size = H.size := rfl
  have hnew : K.get H.size = some ao' := by have := AH.push_new hp; rwa [hsz] at this
  have hold : ∀ x, x ≠ H.size → x ≠ b → K.get x = H.get x := fun x hx hxb => by
    rw [AH.get_push hp x (by rw [hsz]; exact hx), AH.get_set hg, if_neg hxb]
  have hdead : K.get b = some .dead := by rw [AH.get_push hp b (by rw [hsz]; omega), AH.get_set hg, if_pos rfl]
  refine ⟨hle, fun x hx hs => ?_, by rw [AH.push_size hp, hsz]; omega, ⟨?_, ?_, by rw [hu.size]; exact h.low, ?_⟩, hu.below hc⟩
  · unfold Phi.put; rw [if_neg (by omega)]; exact hx
  · intro x c' m' hx
    unfold Phi.put at hx
    by_cases e : x = H.size
    · rw [if_pos e] at hx; cases hx; subst e
      exact ⟨ao', o, hnew, hu.at_, ho.mono hle, .inl hc⟩
    · rw [if_neg e] at hx
      obtain ⟨ao₁, o₁, h1, h2, h3, h4⟩ := h.obj x c' m' hx
      by_cases hxb : x = b
      · subst hxb
        rw [hb] at hx; cases hx
        exact ⟨.dead, o, hdead, hu.at_, trivial, .inl hc⟩
      · by_cases hcc : c' = c
        · subst hcc
          have : H.get x = some .dead := by
            apply Classical.byContradiction
            intro hn
            exact hxb (h.inj x b c' m' m hx hb hn (by rw [hg]; intro e; cases e; exact hd rfl))
          exact ⟨.dead, o, by rw [hold x e hxb, this], hu.at_, trivial, .inl hc⟩
        · exact ⟨ao₁, o₁, by rw [hold x e hxb]; exact h1, by rw [hu.other _ hcc]; exact h2, h3.mono hle, h4⟩
  · have key : ∀ x c' m', (φ.put H.size (c, m)) x = some (c', m') → K.get x ≠ some .dead → x ≠ b := fun x c' m' _ hn e => by subst e; exact hn hdead
    intro x y c' m₁ m₂ h1 h2 hn1 hn2
    have hxb := key x _ _ h1 hn1
    have hyb := key y _ _ h2 hn2
    unfold Phi.put at h1 h2
    by_cases e : x = H.size
    · by_cases e' : y = H.size
      · rw [e, e']
      · rw [if_pos e] at h1; rw [if_neg e'] at h2; cases h1
        rw [hold y e' hyb] at hn2
        exact absurd (h.inj y b c m₂ m h2 hb hn2 (by rw [hg]; intro e; cases e; exact hd rfl)) hyb
    · by_cases e' : y = H.size
      · rw [if_neg e] at h1; rw [if_pos e'] at h2; cases h2
        rw [hold x e hxb] at hn1
        exact absurd (h.inj x b c m₁ m h1 hb hn1 (by rw [hg]; intro e; cases e; exact hd rfl)) hxb
      · rw [if_neg e] at h1; rw [if_neg e'] at h2
        rw [hold x e hxb] at hn1
        rw [hold y e' hyb] at hn2
        exact h.inj x y c' m₁ m₂ h1 h2 hn1 hn2
  · intro g vs hgv
    obtain ⟨he, hlt⟩ := h.glob g vs hgv
    exact ⟨he.of (hu.other g (by omega)), hlt⟩
end
end
end Go.Proofs.YtlmglnobdcgbeaaGreat.D
namespace Go.Proofs.YtlmglnobdcgbeaaGreat.D
open Go Go.RowKit
noncomputable section
def calm {α : Type} (P : Program) : Sem α → Option α
  | .pure a => some a
  | .program k => calm P (k P)
  | _ => none
theorem calm_run {α : Type} {P : Program} : ∀ {s : Sem α} {a : α}, calm P s = some a → ∀ w, s.run P w = .ok a w := by
  intro s
  induction s with
  | pure a => intro b h w; simp [calm] at h; subst h; rfl
  | program k ih => intro b h w; exact ih P h w
  | _ => intro b h; simp [calm] at h
def AV.one : AV → Bool
  | .any | .agg _ | .tuple _ => false
  | .lit v => v.oneCell'
  | _ => true
theorem AV.one_sound {φ : Phi} {a : AV} {v : Value} (h : a.one = true) (hv : VR φ a v) : v.oneCell' = true := by
  cases a with
  | any => cases h
  | lit u => cases hv; exact h
  | ptr b o => obtain ⟨c, m, _, rfl⟩ := hv; rfl
  | gptr g o => cases hv; rfl
  | slice b o n cap => obtain ⟨c, m, k, _, rfl, _⟩ := hv; rfl
  | empty => obtain ⟨a, k, rfl⟩ := hv; rfl
  | map b => obtain ⟨c, m, _, rfl⟩ := hv; rfl
  | func fn xs ys => obtain ⟨as_, bs, rfl, _⟩ := hv; rfl
  | yield l => obtain ⟨c, m, _, rfl⟩ := hv; rfl
  | iface t a => obtain ⟨y, rfl, _⟩ := hv; rfl
  | agg cs => cases h
  | tuple cs => cases h
def AV.parts : AV → Option (List AV)
  | .any | .tuple _ => none
  | .lit v => some (v.cells.toList.map .lit)
  | .agg cs => some cs
  | a => some [a]
theorem AV.parts_sound {φ : Phi} {a : AV} {cs : List AV} {v : Value} (h : a.parts = some cs) (hv : VR φ a v) : VRs φ cs v.cells.toList := by
  cases a with
  | any => cases h
  | tuple _ => cases h
  | lit u => cases h; cases hv; exact VRs.lits _
  | agg ds => cases h; obtain ⟨as_, rfl, h2⟩ := hv; exact h2
  | ptr b o => cases h; have hv' := hv; obtain ⟨c, m, _, rfl⟩ := hv; exact VRs.cons hv' VRs.nil
  | gptr g o => cases h; have hv' := hv; cases hv; exact VRs.cons hv' VRs.nil
  | slice b o n cap => cases h; have hv' := hv; obtain ⟨c, m, k, _, rfl, _⟩ := hv; exact VRs.cons hv' VRs.nil
  | empty => cases h; have hv' := hv; obtain ⟨a, k, rfl⟩ := hv; exact VRs.cons hv' VRs.nil
  | map b => cases h; have hv' := hv; obtain ⟨c, m, _, rfl⟩ := hv; exact VRs.cons hv' VRs.nil
  | func fn xs ys => cases h; have hv' := hv; obtain ⟨as_, bs, rfl, _⟩ := hv; exact VRs.cons hv' VRs.nil
  | yield l => cases h; have hv' := hv; obtain ⟨c, m, _, rfl⟩ := hv; exact VRs.cons hv' VRs.nil
  | iface t a => cases h; have hv' := hv; obtain ⟨y, rfl, _⟩ := hv; exact VRs.cons hv' VRs.nil
def setMany {α : Type} : List α → Nat → List α → List α
  | l, _, [] => l
  | l, o, x :: xs => setMany (l.set o x) (o + 1) xs
theorem setMany_VRs {φ : Phi} : ∀ (cs : List AV) (xs : List Value) (as_ : List AV) (l : List Value) (o : Nat), VRs φ cs xs → VRs φ as_ l → VRs φ (setMany as_ o cs) (setMany l o xs)
  | [], _, as_, l, o, h, hl => by cases h; exact hl
  | c :: cs, _, as_, l, o, ⟨x, xs, h1, h2, h3⟩, hl => by subst h1; exact setMany_VRs cs xs _ _ _ h3 (hl.set o h2)
theorem setMany_length {α : Type} : ∀ (xs : List α) (l : List α) (o : Nat), (setMany l o xs).length = l.length
  | [], _, _ => rfl
  | x :: xs, l, o => by rw [setMany, setMany_length xs]; simp
theorem foldl_setMany (o : Nat) : ∀ (xs : List Value) (k : Nat) (arr : Array Value),
    ((xs.zipIdx k).foldl (fun cs (p : Value × Nat) => cs.setIfInBounds (o + p.2) p.1) arr).toList = setMany arr.toList (o + k) xs
  | [], _, _ => rfl
  | x :: xs, k, arr => by
    rw [List.zipIdx_cons, List.foldl_cons, foldl_setMany o xs (k + 1)]
    simp only [setMany, Array.toList_setIfInBounds]
    rw [Nat.add_assoc]
def fillA (place : Nat → Option (Nat × Nat)) (cells : List AV) : List (Nat × AV) → Option (List AV)
  | [] => some cells
  | (i, a) :: rest =>
    match place i, a.parts with
    | some (off, size), some cs => if cs.length ≠ size || off + cs.length > cells.length then none else fillA place (setMany cells off cs) rest
    | _, _ => none
theorem fillA_sound {φ : Phi} {place : Nat → Option (Nat × Nat)} : ∀ (ps : List (Nat × AV)) (qs : List (Nat × Value)) (cells : List AV) (arr : Array Value) (out : List AV),
    fillA place cells ps = some out → VRs φ cells arr.toList → ps.map (·.1) = qs.map (·.1) → VRs φ (ps.map (·.2)) (qs.map (·.2)) → ∃ arr', Instr.fill place arr qs = some arr' ∧ VRs φ out arr'.toList
  | [], [], cells, arr, out, h, hc, _, _ => by simp [fillA] at h; subst h; exact ⟨arr, rfl, hc⟩
  | [], _ :: _, _, _, _, _, _, h, _ => by simp at h
  | _ :: _, [], _, _, _, _, _, h, _ => by simp at h
  | (i, a) :: ps, (j, v) :: qs, cells, arr, out, h, hc, hi, hv => by
    simp only [List.map_cons, List.cons.injEq] at hi hv
    obtain ⟨rfl, hi⟩ := hi
    obtain ⟨x, xs, hx, hv1, hv2⟩ := hv
    cases hx
    simp only [fillA] at h
    split at h
    case h_2 => cases h
    rename_i off size cs hp hcs
    split at h
    · cases h
    rename_i hn
    have hvc := AV.parts_sound hcs hv1
    have hlen := hvc.length
    have hlc := hc.length
    simp only [Array.length_toList] at hlen hlc
    simp only [Bool.or_eq_true, decide_eq_true_eq, not_or, bne_iff_ne, ne_eq, Decidable.not_not, Nat.not_lt] at hn
    simp only [Instr.fill, hp]
    rw [if_neg (by simp only [Bool.or_eq_true, decide_eq_true_eq, not_or, bne_iff_ne, ne_eq, Decidable.not_not]; omega)]
    refine fillA_sound ps qs _ _ out h ?_ hi hv2
    have he := foldl_setMany off v.cells.toList 0 arr
    rw [Nat.add_zero] at he
    have : (v.cells.zipIdx.foldl (fun (cs : Array Value) (p : Value × Nat) => cs.setIfInBounds (off + p.2) p.1) arr).toList = setMany arr.toList off v.cells.toList := by
      rw [← he, ← Array.foldl_toList, Array.toList_zipIdx]
    rw [show (v.cells.zipIdx.foldl (fun (cs : Array Value) (x : Value × Nat) => match x with | (c, j) => cs.setIfInBounds (off + j) c) arr) = (v.cells.zipIdx.foldl (fun (cs : Array Value) (p : Value × Nat) => cs.setIfInBounds (off + p.2) p.1) arr) from rfl, this]
    exact setMany_VRs _ _ _ _ _ hvc hc
def isRowB (P : Program) (t : TypeId) : Option Bool :=
  match P.underlying t with
  | some (.struct _) | some (.array _ _) => some true
  | some _ => some false
  | none => none
def sizeB (P : Program) (t : TypeId) : Option Nat := (P.info? t).map (·.size)
theorem run_isAgg {P : Program} {t : TypeId} {b : Bool} (h : isRowB P t = some b) (w : World) : (isAgg t).run P w = .ok b w := by
  unfold isRowB at h
  cases hu : P.underlying t with
  | none => simp [hu] at h
  | some d =>
    unfold isAgg
    rw [Sem.run_bind, run_underlying hu w]
    cases d <;> simp_all
theorem run_sizeB {P : Program} {t : TypeId} {n : Nat} (h : sizeB P t = some n) (w : World) : (sizeOf t).run P w = .ok n w := by
  unfold sizeB at h
  cases hi : P.info? t with
  | none => simp [hi] at h
  | some i => simp [hi] at h; simp [sizeOf, typeInfo, hi, h]
def partA (P : Program) (t : TypeId) (cs : List AV) (off : Nat) : Option AV :=
  match isRowB P t with
  | some true => match sizeB P t with
    | some n => some (.agg ((cs.drop off).take n))
    | none => none
  | some false => cs[off]?
  | none => none
theorem partA_sound {P : Program} {φ : Phi} {t : TypeId} {cs : List AV} {off : Nat} {r : AV} {arr : Array Value} (h : partA P t cs off = some r) (hv : VRs φ cs arr.toList) :
    ∃ v, VR φ r v ∧ ∀ w, (part t arr off).run P w = .ok v w := by
  unfold partA at h
  split at h
  · rename_i hb
    split at h
    · rename_i n hn
      cases h
      refine ⟨.agg (arr.extract off (off + n)), ⟨_, rfl, ?_⟩, fun w => ?_⟩
      · have := (hv.drop off).take n
        rw [Array.toList_extract]
        simpa using this
      · simp [part, run_isAgg hb w, run_sizeB hn w]
    · cases h
  · rename_i hb
    obtain ⟨x, hx, hvx⟩ := hv.get h
    refine ⟨x, hvx, fun w => ?_⟩
    have hx' : arr[off]? = some x := by simpa using hx
    simp [part, run_isAgg hb w, hx']
  · cases h
end
end Go.Proofs.YtlmglnobdcgbeaaGreat.D
namespace Go.Proofs.YtlmglnobdcgbeaaGreat.D
open Go Go.RowKit
noncomputable section
abbrev Ev := Operand → AV
def popFlat (P : Program) (ev : Ev) (o : Oper) : Option AV :=
  match o.op with
  | .select _ _ => none
  | _ => if o.op.operands.toList.all (fun x => (ev x).toV.isSome) then
      match calm P (execOp (fun x => (ev x).toV.getD undef) o) with
      | some (.value v) => some (.lit v)
      | _ => none
    else none
def Yld (P : Program) (φ : Phi) (ρ : Operand → Value) (o : Oper) (r : AV) : Prop := ∃ v, VR φ r v ∧ ∀ w, (execOp ρ o).run P w = .ok (.value v) w
section
variable {P : Program} {φ : Phi} {ev : Ev} {ρ : Operand → Value} {o : Oper} {r : AV}
theorem popFlat_sound (hev : ∀ x, VR φ (ev x) (ρ x)) (h : popFlat P ev o = some r) : Yld P φ ρ o r := by
  unfold popFlat at h
  have hsel : ∀ cs b, o.op ≠ .select cs b := by
    intro cs b e
    rw [e] at h
    cases h
  have h' : (if o.op.operands.toList.all (fun x => (ev x).toV.isSome) = true then
      match calm P (execOp (fun x => (ev x).toV.getD undef) o) with
      | some (.value v) => some (AV.lit v)
      | _ => none
    else none) = some r := by
    cases ho : o.op <;> rw [ho] at h <;> first | (exact h) | (cases h)
  clear h
  split at h'
  case isFalse => cases h'
  rename_i hall
  split at h'
  case h_2 => cases h'
  rename_i v hc
  cases h'
  refine ⟨v, rfl, fun w => ?_⟩
  have : execOp ρ o = execOp (fun x => (ev x).toV.getD undef) o := by
    refine execOp_congr o hsel fun x hx => ?_
    have hs := List.all_eq_true.1 hall x (by simpa using hx)
    obtain ⟨u, hu⟩ := Option.isSome_iff_exists.1 hs
    rw [hu]
    exact AV.toV_eq _ u _ hu (hev x)
  rw [this]
  exact calm_run hc w
def asInt? : AV → Option (IntKind × Int)
  | .lit (.int k n) => some (k, n)
  | _ => none
theorem asInt?_sound {a : AV} {k : IntKind} {n : Int} {v : Value} (h : asInt? a = some (k, n)) (hv : VR φ a v) : v = .int k n := by
  unfold asInt? at h
  split at h
  · cases h; exact hv
  · cases h
def popIndexAddr (P : Program) (t : TypeId) (x ix : AV) : Option AV :=
  match P.underlying t, x, asInt? ix with
  | some (.slice elem), .slice b off len _, some (_, i) =>
    match sizeB P elem with
    | some s => if 0 ≤ i ∧ i < len then some (.ptr b (off + i.toNat * s)) else none
    | none => none
  | some (.array len elem), .ptr b off, some (_, i) =>
    match sizeB P elem with
    | some s => if 0 ≤ i ∧ i < len then some (.ptr b (off + i.toNat * s)) else none
    | none => none
  | some (.array len elem), .gptr b off, some (_, i) =>
    match sizeB P elem with
    | some s => if 0 ≤ i ∧ i < len then some (.gptr b (off + i.toNat * s)) else none
    | none => none
  | _, _, _ => none
theorem popIndexAddr_sound {t : TypeId} {x ix : AV} {xv iv : Value} (hx : VR φ x xv) (hi : VR φ ix iv) (h : popIndexAddr P t x ix = some r) :
    ∃ v, VR φ r v ∧ ∀ w, (Instr.indexAt t xv iv).run P w = .ok v w := by
  unfold popIndexAddr at h
  split at h
  · rename_i elem b off len cap k i hu hii
    split at h
    case h_2 => cases h
    rename_i s hs
    split at h
    case isFalse => cases h
    rename_i hr
    cases h
    obtain ⟨c, m, kk, hb, rfl, _⟩ := hx
    obtain rfl := asInt?_sound hii hi
    refine ⟨.pointer (some ⟨c, off + i.toNat * s, none⟩), ⟨c, m, hb, rfl⟩, fun w => ?_⟩
    simp [Instr.indexAt, asIntOf, run_underlying hu, run_sizeB hs, Addr.add_mid, hr.1, hr.2]
  · rename_i len elem b off k i hu hii
    split at h
    case h_2 => cases h
    rename_i s hs
    split at h
    case isFalse => cases h
    rename_i hr
    cases h
    obtain ⟨c, m, hb, rfl⟩ := hx
    obtain rfl := asInt?_sound hii hi
    refine ⟨.pointer (some ⟨c, off + i.toNat * s, none⟩), ⟨c, m, hb, rfl⟩, fun w => ?_⟩
    simp [Instr.indexAt, Instr.sureAddr, asIntOf, run_underlying hu, run_sizeB hs, Addr.add_mid, hr.1, hr.2]
  · rename_i len elem b off k i hu hii
    split at h
    case h_2 => cases h
    rename_i s hs
    split at h
    case isFalse => cases h
    rename_i hr
    cases h
    cases hx
    obtain rfl := asInt?_sound hii hi
    refine ⟨.pointer (some ⟨b, off + i.toNat * s, none⟩), rfl, fun w => ?_⟩
    simp [Instr.indexAt, Instr.sureAddr, asIntOf, run_underlying hu, run_sizeB hs, Addr.add_mid, hr.1, hr.2]
  · cases h
def popFieldAddr (P : Program) (s : TypeId) (x : AV) (f : Nat) : Option AV :=
  match P.underlying s, x with
  | some (.struct fields), .ptr b off =>
    match fields[f]? with
    | some fd => match sizeB P fd.type with
      | some (_ + 1) => some (.ptr b (off + fd.offset))
      | _ => none
    | none => none
  | _, _ => none
theorem popFieldAddr_sound {s : TypeId} {x : AV} {f : Nat} {xv : Value} (hx : VR φ x xv) (h : popFieldAddr P s x f = some r) :
    ∃ v, VR φ r v ∧ ∀ w, (Instr.fieldAt s xv f).run P w = .ok v w := by
  unfold popFieldAddr at h
  split at h
  case h_2 => cases h
  rename_i fields b off hu
  split at h
  case h_2 => cases h
  rename_i fd hf
  split at h
  case h_2 => cases h
  rename_i n hs
  cases h
  obtain ⟨c, m, hb, rfl⟩ := hx
  refine ⟨.pointer (some ⟨c, off + fd.offset, none⟩), ⟨c, m, hb, rfl⟩, fun w => ?_⟩
  simp [Instr.fieldAt, Instr.sureAddr, run_underlying hu, hf, fieldPlace, run_sizeB hs, Addr.add_mid]
def popField (P : Program) (t : TypeId) (x : AV) (f : Nat) : Option AV :=
  match P.underlying t, x.view with
  | some (.struct fields), .agg cs =>
    match fields[f]? with
    | some fd => partA P fd.type cs fd.offset
    | none => none
  | _, _ => none
theorem popField_sound {t : TypeId} {x : AV} {f : Nat} {xv : Value} (hx : VR φ x xv) (h : popField P t x f = some r) :
    ∃ v, VR φ r v ∧ ∀ w, (Instr.field t xv f).run P w = .ok v w := by
  unfold popField at h
  split at h
  case h_2 => cases h
  rename_i fields cs hu hv
  split at h
  case h_2 => cases h
  rename_i fd hf
  have hx' := hx.view
  rw [hv] at hx'
  obtain ⟨as_, rfl, hcs⟩ := hx'
  obtain ⟨v, h1, h2⟩ := partA_sound h hcs
  refine ⟨v, h1, fun w => ?_⟩
  simp [Instr.field, run_underlying hu, hf, asAgg, h2]
def popIndex (P : Program) (t : TypeId) (x ix : AV) : Option AV :=
  match P.underlying t, x.view, asInt? ix with
  | some (.array len elem), .agg cs, some (_, i) =>
    match sizeB P elem with
    | some s => if 0 ≤ i ∧ i < len then partA P elem cs (i.toNat * s) else none
    | none => none
  | _, _, _ => none
theorem popIndex_sound {t : TypeId} {x ix : AV} {xv iv : Value} (hx : VR φ x xv) (hi : VR φ ix iv) (h : popIndex P t x ix = some r) :
    ∃ v, VR φ r v ∧ ∀ w, (Instr.index t xv iv).run P w = .ok v w := by
  unfold popIndex at h
  split at h
  case h_2 => cases h
  rename_i len elem cs k i hu hv hii
  split at h
  case h_2 => cases h
  rename_i s hs
  split at h
  case isFalse => cases h
  rename_i hr
  have hx' := hx.view
  rw [hv] at hx'
  obtain ⟨as_, rfl, hcs⟩ := hx'
  obtain rfl := asInt?_sound hii hi
  obtain ⟨v, h1, h2⟩ := partA_sound h hcs
  refine ⟨v, h1, fun w => ?_⟩
  simp [Instr.index, asIntOf, run_underlying hu, run_sizeB hs, hr.1, hr.2, h2]
def zeroB (P : Program) (t : TypeId) : Option Value := (P.info? t).bind (·.zero)
theorem run_zeroB {t : TypeId} {z : Value} (h : zeroB P t = some z) (w : World) : (zeroValue t).run P w = .ok z w := by
  unfold zeroB at h
  cases hi : P.info? t with
  | none => simp [hi] at h
  | some i => simp [hi] at h; simp [zeroValue, typeInfo, hi, h]
def placesB (P : Program) : List Field → Option (List (Nat × Nat))
  | [] => some []
  | f :: fs => match sizeB P f.type, placesB P fs with
    | some s, some l => some ((f.offset, s) :: l)
    | _, _ => none
theorem run_placesB : ∀ {fs : List Field} {l : List (Nat × Nat)}, placesB P fs = some l → ∀ w,
    (fs.mapM (fun f => do pure (f.offset, ← sizeOf f.type)) : Sem (List (Nat × Nat))).run P w = .ok l w
  | [], l, h, w => by simp [placesB] at h; subst h; simp
  | f :: fs, l, h, w => by
    simp only [placesB] at h
    split at h
    case h_2 => cases h
    rename_i s l' hs hl
    cases h
    have ih := run_placesB (fs := fs) hl w
    simp at ih
    simp [List.mapM_cons, run_sizeB hs, ih]
def popBuild (P : Program) (t : TypeId) (ps : List (Nat × AV)) : Option AV :=
  match zeroB P t, P.underlying t with
  | some z, some (.struct fields) =>
    match placesB P fields.toList with
    | some pl => (fillA (pl[·]?) (z.cells.toList.map .lit) ps).map .agg
    | none => none
  | some z, some (.array _ elem) =>
    match sizeB P elem with
    | some s => (fillA (fun i => some (i * s, s)) (z.cells.toList.map .lit) ps).map .agg
    | none => none
  | _, _ => none
theorem popBuild_sound {t : TypeId} {ps : List (Nat × AV)} {qs : Array (Nat × Value)} (hi : ps.map (·.1) = qs.toList.map (·.1)) (hv : VRs φ (ps.map (·.2)) (qs.toList.map (·.2)))
    (h : popBuild P t ps = some r) : ∃ v, VR φ r v ∧ ∀ w, (Instr.build t qs).run P w = .ok v w := by
  unfold popBuild at h
  split at h
  · rename_i z fields hz hu
    split at h
    case h_2 => cases h
    rename_i pl hpl
    cases hf : fillA (pl[·]?) (z.cells.toList.map .lit) ps with
    | none => simp [hf] at h
    | some out =>
      simp [hf] at h; subst h
      obtain ⟨arr, h1, h2⟩ := fillA_sound (φ := φ) ps qs.toList _ z.cells out hf (VRs.lits _) hi hv
      refine ⟨.agg arr, ⟨arr, rfl, h2⟩, fun w => ?_⟩
      have hp : (fields.mapM (fun f => do pure (f.offset, ← sizeOf f.type)) : Sem (Array (Nat × Nat))).run P w = .ok pl.toArray w := by
        rw [Array.mapM_eq_mapM_toList, Sem.run_map, run_placesB hpl]; rfl
      simp only [Instr.build, Sem.run_bind, run_zeroB hz, Result.andThen_ok, run_underlying hu, hp]
      rw [show (fun x : Nat => (pl.toArray[x]? : Option (Nat × Nat))) = (fun x : Nat => pl[x]?) from by funext x; simp, h1]
      rfl
  · rename_i z len elem hz hu
    split at h
    case h_2 => cases h
    rename_i s hs
    cases hf : fillA (fun i => some (i * s, s)) (z.cells.toList.map .lit) ps with
    | none => simp [hf] at h
    | some out =>
      simp [hf] at h; subst h
      obtain ⟨arr, h1, h2⟩ := fillA_sound (φ := φ) ps qs.toList _ z.cells out hf (VRs.lits _) hi hv
      refine ⟨.agg arr, ⟨arr, rfl, h2⟩, fun w => ?_⟩
      simp only [Instr.build, Sem.run_bind, run_zeroB hz, Result.andThen_ok, run_underlying hu, run_sizeB hs, h1]
      rfl
  · cases h
def bound? : Option AV → Option (Option Int)
  | none => some none
  | some a => match asInt? a with | some (_, i) => some (some i) | none => none
theorem bound?_none {x : Option AV} {v : Option Value} (h : bound? x = some none) (hx : ∀ a, x = some a → ∃ u, v = some u ∧ VR φ a u) (hn : x = none → v = none) : v = none := by
  cases x with
  | none => exact hn rfl
  | some a => cases ha : asInt? a <;> simp [bound?, ha] at h
theorem bound?_some {x : Option AV} {v : Option Value} {i : Int} (h : bound? x = some (some i)) (hx : ∀ a, x = some a → ∃ u, v = some u ∧ VR φ a u) : ∃ k, v = some (.int k i) := by
  cases x with
  | none => cases h
  | some a =>
    cases ha : asInt? a with
    | none => simp [bound?, ha] at h
    | some p =>
      simp [bound?, ha] at h
      obtain ⟨u, hu, hv⟩ := hx a rfl
      exact ⟨p.1, by rw [hu, asInt?_sound (k := p.1) (n := i) (by rw [ha, ← h]) hv]⟩
theorem run_sliceBound {k : IntKind} {i : Int} {y : Nat} {code : BoundsCode} (h0 : 0 ≤ i) (h1 : i ≤ y) (w : World) : (Instr.sliceBound (.int k i) y code).run P w = .ok i.toNat w := by
  simp [Instr.sliceBound, asIntOf, h0, h1]
theorem run_sliceBounds {len k l h : Nat} {lv hv : Option Value} (hH : hv = none ∧ h = len ∨ ∃ kk i, hv = some (.int kk i) ∧ 0 ≤ i ∧ i ≤ (k : Int) ∧ h = i.toNat)
    (hL : lv = none ∧ l = 0 ∨ ∃ kk i, lv = some (.int kk i) ∧ 0 ≤ i ∧ i ≤ (h : Int) ∧ l = i.toNat) (w : World) : (Instr.sliceBounds true len k lv hv none).run P w = .ok (l, h, k) w := by
  unfold Instr.sliceBounds
  rcases hH with ⟨rfl, rfl⟩ | ⟨kk, i, rfl, h0, h1, rfl⟩ <;> rcases hL with ⟨rfl, rfl⟩ | ⟨kk', i', rfl, h0', h1', rfl⟩
  · simp
  · simp [run_sliceBound h0' h1']
  · simp [run_sliceBound h0 h1]
  · simp [run_sliceBound h0 h1, run_sliceBound h0' h1']
theorem run_sliceBounds3 {len k l h m : Nat} {lv : Option Value} {km kh : IntKind} {m' h' : Int} (hm0 : 0 ≤ m') (hm1 : m' ≤ (k : Int)) (hm : m = m'.toNat) (hh0 : 0 ≤ h') (hh1 : h' ≤ (m : Int)) (hh : h = h'.toNat)
    (hL : lv = none ∧ l = 0 ∨ ∃ kk i, lv = some (.int kk i) ∧ 0 ≤ i ∧ i ≤ (h : Int) ∧ l = i.toNat) (w : World) : (Instr.sliceBounds true len k lv (some (.int kh h')) (some (.int km m'))).run P w = .ok (l, h, m) w := by
  unfold Instr.sliceBounds
  subst hm hh
  rcases hL with ⟨rfl, rfl⟩ | ⟨kk', i', rfl, h0', h1', rfl⟩
  · simp [run_sliceBound hm0 hm1, run_sliceBound hh0 hh1]
  · simp [run_sliceBound hm0 hm1, run_sliceBound hh0 hh1, run_sliceBound h0' h1']
def popSlice (P : Program) (t : TypeId) (x : AV) (lo hi mx : Option AV) : Option AV :=
  match P.underlying t, x with
  | some (.slice elem), .slice b off len cap =>
    match sizeB P elem, bound? lo, bound? hi, bound? mx with
    | some (s + 1), some lo, some hi, some none =>
      let h : Int := hi.getD len
      let l : Int := lo.getD 0
      if 0 ≤ l ∧ l ≤ h then
        match cap with
        | some k =>
          if h ≤ k then some (.slice b (if (k : Int) = l then off else off + l.toNat * (s + 1)) (h.toNat - l.toNat) (some (k - l.toNat))) else none
        | none =>
          if h ≤ len then
            if l = 0 then some (.slice b off h.toNat none)
            else if l < h then some (.slice b (off + l.toNat * (s + 1)) (h.toNat - l.toNat) none)
            else some .empty
          else none
      else none
    | some (s + 1), some lo, some (some h), some (some m) =>
      let l : Int := lo.getD 0
      if 0 ≤ l ∧ l ≤ h ∧ h ≤ m ∧ m ≤ (cap.getD len : Nat) then
        some (.slice b (if m = l then off else off + l.toNat * (s + 1)) (h.toNat - l.toNat) (some (m.toNat - l.toNat)))
      else none
    | _, _, _, _ => none
  | _, _ => none
theorem popSlice_sound {t : TypeId} {x : AV} {lo hi mx : Option AV} {xv : Value} {lv hv mv : Option Value} (hx : VR φ x xv)
    (hl : ∀ a, lo = some a → ∃ u, lv = some u ∧ VR φ a u) (hln : lo = none → lv = none) (hh : ∀ a, hi = some a → ∃ u, hv = some u ∧ VR φ a u) (hhn : hi = none → hv = none)
    (hm : ∀ a, mx = some a → ∃ u, mv = some u ∧ VR φ a u) (hmn : mx = none → mv = none)
    (h : popSlice P t x lo hi mx = some r) : ∃ v, VR φ r v ∧ ∀ w, (Instr.sliceAt t xv lv hv mv).run P w = .ok v w := by
  unfold popSlice at h
  split at h
  case h_2 => cases h
  rename_i elem b off len cap hu
  obtain ⟨c, m, k, hb, rfl, hnk, hk1, hk2⟩ := hx
  split at h
  · rename_i s lo' hi' hs hlo hhi hmx
    obtain rfl := bound?_none hmx hm hmn
    simp only at h
    split at h
    case isFalse => cases h
    rename_i hlh
    have hbounds : ∀ w, (hi'.getD (len : Int) ≤ (k : Int)) → (Instr.sliceBounds true len k lv hv none).run P w = .ok ((lo'.getD 0).toNat, (hi'.getD (len : Int)).toNat, k) w := by
      intro w hy
      refine run_sliceBounds ?_ ?_ w
      · cases hi' with
        | none => exact .inl ⟨bound?_none hhi hh hhn, by simp⟩
        | some i => obtain ⟨kk, rfl⟩ := bound?_some hhi hh; exact .inr ⟨kk, i, rfl, by simp at hlh; omega, by simpa using hy, rfl⟩
      · cases lo' with
        | none => exact .inl ⟨bound?_none hlo hl hln, by simp⟩
        | some i => obtain ⟨kk, rfl⟩ := bound?_some hlo hl; exact .inr ⟨kk, i, rfl, by simp at hlh; omega, by simp at hlh; omega, rfl⟩
    have hrun : ∀ w, (hi'.getD (len : Int) ≤ (k : Int)) → (Instr.sliceAt t (.slice (some ⟨c, off, none⟩) len k) lv hv none).run P w =
        .ok (.slice (if k = (lo'.getD 0).toNat then some ⟨c, off, none⟩ else some ⟨c, off + (lo'.getD 0).toNat * (s + 1), none⟩) ((hi'.getD (len : Int)).toNat - (lo'.getD 0).toNat) (k - (lo'.getD 0).toNat)) w := by
      intro w hy
      simp only [Instr.sliceAt, Instr.slice, Sem.run_bind, run_underlying hu, Result.andThen_ok, hbounds w hy, run_sizeB hs, Option.map_some, Addr.add_mid, Sem.run_pure]
    split at h
    · rename_i k'
      obtain rfl := hk1 k' rfl
      split at h
      case isFalse => cases h
      rename_i hhk
      cases h
      refine ⟨_, ?_, fun w => hrun w hhk⟩
      by_cases e : k = (lo'.getD 0).toNat
      · rw [if_pos e, if_pos (by omega)]
        exact ⟨c, m, _, hb, rfl, by omega, fun _ e => by cases e; rfl, fun e => by cases e⟩
      · rw [if_neg e, if_neg (by omega)]
        exact ⟨c, m, _, hb, rfl, by omega, fun _ e => by cases e; rfl, fun e => by cases e⟩
    · split at h
      case isFalse => cases h
      rename_i hhk
      have hhk' : hi'.getD (len : Int) ≤ (k : Int) := by omega
      split at h
      · rename_i hl0
        cases h
        refine ⟨_, ?_, fun w => hrun w hhk'⟩
        rw [hl0]
        simp only [Int.toNat_zero, Nat.zero_mul, Nat.add_zero, ite_self, Nat.sub_zero]
        exact ⟨c, m, k, hb, rfl, by omega, fun _ e => (by cases e), hk2⟩
      · rename_i hl0
        split at h
        · rename_i hl1
          cases h
          refine ⟨_, ?_, fun w => hrun w hhk'⟩
          rw [if_neg (by omega)]
          refine ⟨c, m, _, hb, rfl, by omega, fun _ e => (by cases e), fun _ e => ?_⟩
          have : 0 < (lo'.getD 0).toNat * (s + 1) := Nat.mul_pos (by omega) (by omega)
          omega
        · cases h
          refine ⟨_, ?_, fun w => hrun w hhk'⟩
          have : (hi'.getD (len : Int)).toNat - (lo'.getD 0).toNat = 0 := by omega
          rw [this]
          split
          · exact ⟨_, _, rfl⟩
          · exact ⟨_, _, rfl⟩
  · rename_i s lo' h' m' hs hlo hhi hmx
    simp only at h
    split at h
    case isFalse => cases h
    rename_i hc
    cases h
    obtain ⟨km, rfl⟩ := bound?_some hmx hm
    obtain ⟨kh, rfl⟩ := bound?_some hhi hh
    have hmk : m' ≤ (k : Int) := by
      cases cap with
      | none => simp at hc; omega
      | some k' => have := hk1 k' rfl; subst this; simp at hc; omega
    have hrun : ∀ w, (Instr.sliceAt t (.slice (some ⟨c, off, none⟩) len k) lv (some (.int kh h')) (some (.int km m'))).run P w =
        .ok (.slice (if m'.toNat = (lo'.getD 0).toNat then some ⟨c, off, none⟩ else some ⟨c, off + (lo'.getD 0).toNat * (s + 1), none⟩) (h'.toNat - (lo'.getD 0).toNat) (m'.toNat - (lo'.getD 0).toNat)) w := by
      intro w
      have hb : (Instr.sliceBounds true len k lv (some (.int kh h')) (some (.int km m'))).run P w = .ok ((lo'.getD 0).toNat, h'.toNat, m'.toNat) w := by
        refine run_sliceBounds3 (by omega) hmk rfl (by omega) (by omega) rfl ?_ w
        cases lo' with
        | none => exact .inl ⟨bound?_none hlo hl hln, by simp⟩
        | some i => obtain ⟨kk, rfl⟩ := bound?_some hlo hl; exact .inr ⟨kk, i, rfl, by simp at hc; omega, by simp at hc; omega, rfl⟩
      simp only [Instr.sliceAt, Instr.slice, Sem.run_bind, run_underlying hu, Result.andThen_ok, hb, run_sizeB hs, Option.map_some, Addr.add_mid, Sem.run_pure]
    refine ⟨_, ?_, hrun⟩
    by_cases e : m'.toNat = (lo'.getD 0).toNat
    · rw [if_pos e, if_pos (by omega)]
      exact ⟨c, m, _, hb, rfl, by omega, fun _ e => by cases e; rfl, fun e => by cases e⟩
    · rw [if_neg e, if_neg (by omega)]
      exact ⟨c, m, _, hb, rfl, by omega, fun _ e => by cases e; rfl, fun e => by cases e⟩
  · cases h
end
end
end Go.Proofs.YtlmglnobdcgbeaaGreat.D
namespace Go.Proofs.YtlmglnobdcgbeaaGreat.D
open Go Go.RowKit
noncomputable section
def nilF (P : Program) (t : TypeId) (a b : AV) : Bool :=
  match P.underlying t, a, b with
  | some (.pointer _), .ptr _ _, .lit (.pointer none) => true
  | some (.pointer _), .lit (.pointer none), .ptr _ _ => true
  | some (.slice _), .slice _ _ _ _, .lit (.slice none _ _) => true
  | some (.slice _), .lit (.slice none _ _), .slice _ _ _ _ => true
  | some (.slice _), .empty, .lit (.slice none _ _) => true
  | some (.slice _), .lit (.slice none _ _), .empty => true
  | some (.map _ _), .map _, .lit (.map none) => true
  | some (.map _ _), .lit (.map none), .map _ => true
  | some (.func _ _ _), .func _ _ _, .lit .nilFunc => true
  | some (.func _ _ _), .lit .nilFunc, .func _ _ _ => true
  | some (.func _ _ _), .yield _, .lit .nilFunc => true
  | some (.func _ _ _), .lit .nilFunc, .yield _ => true
  | some (.interface _), .iface _ _, .lit .nilIface => true
  | some (.interface _), .lit .nilIface, .iface _ _ => true
  | _, _, _ => false
def popNil (P : Program) (op : BinOp) (t : TypeId) (a b : AV) : Option AV :=
  match op with
  | .eql => if nilF P t a b then some (.lit (.bool false)) else none
  | .neq => if nilF P t a b then some (.lit (.bool true)) else none
  | _ => none
section
variable {P : Program} {φ : Phi} {ev : Ev} {ρ : Operand → Value} {o : Oper} {r : AV}
theorem binOp_of_equal {t : TypeId} {x y : Value} {w : World} (op : BinOp) (hop : op = .eql ∨ op = .neq) (hE : (Op.equal t x y).run P w = .ok false w)
    (h1 : binOp .eql t x y = (do pure (.bool (← Op.equal t x y)))) (h2 : binOp .neq t x y = (do pure (.bool (!(← Op.equal t x y))))) : (binOp op t x y).run P w = .ok (.bool (op == .neq)) w := by
  rcases hop with rfl | rfl
  · rw [h1]; simp only [Sem.run_bind, hE, Result.andThen_ok, Sem.run_pure]; rfl
  · rw [h2]; simp only [Sem.run_bind, hE, Result.andThen_ok, Sem.run_pure]; rfl
theorem nilF_sound {t : TypeId} {a b : AV} {x y : Value} (h : nilF P t a b = true) (ha : VR φ a x) (hb : VR φ b y) (w : World) (u v : Operand) (op : BinOp) (hop : op = .eql ∨ op = .neq) :
    (eqGuard op t u v x y).run P w = .ok () w ∧ (binOp op t x y).run P w = .ok (.bool (op == .neq)) w := by
  unfold nilF at h
  split at h <;> (try cases h) <;> rename_i hu <;>
    simp only [VR] at ha hb <;> (try subst ha) <;> (try subst hb) <;>
    (first
      | (obtain ⟨c, m, k, _, rfl, _⟩ := ha)
      | (obtain ⟨c, m, k, _, rfl, _⟩ := hb)
      | (obtain ⟨c, m, _, rfl⟩ := ha)
      | (obtain ⟨c, m, _, rfl⟩ := hb)
      | (obtain ⟨c, m, rfl⟩ := ha)
      | (obtain ⟨c, m, rfl⟩ := hb)
      | (obtain ⟨c, m, rfl, _⟩ := ha)
      | (obtain ⟨c, m, rfl, _⟩ := hb)
      | (obtain ⟨c, rfl, _⟩ := ha)
      | (obtain ⟨c, rfl, _⟩ := hb)) <;>
    (refine ⟨by rcases hop with rfl | rfl <;> rfl, binOp_of_equal op hop ?_ rfl rfl⟩
     show (Op.equalIn (9999 + 1) t _ _).run P w = _
     unfold Op.equalIn
     simp only [Sem.run_bind, run_underlying hu, Result.andThen_ok]
     rfl)
end
end
end Go.Proofs.YtlmglnobdcgbeaaGreat.D
namespace Go.Proofs.YtlmglnobdcgbeaaGreat.D
open Go Go.RowKit
noncomputable section
def popAssert (P : Program) (x : AV) (t : TypeId) (ok : Bool) : Option AV :=
  match P.underlying t, x with
  | some (.interface _), _ => none
  | some _, .iface u v => if u = t then some (if ok then .tuple [v, .lit (.bool true)] else v) else
      if ok then match zeroB P t with | some z => some (.tuple [.lit z, .lit (.bool false)]) | none => none
      else none
  | _, _ => none
def popLen (P : Program) (b : Builtin) (ts : List TypeId) (xs : List AV) : Option AV :=
  match b, ts, xs with
  | .len, t :: _, .slice _ _ n _ :: _ => match P.underlying t with | some (.slice _) => some (.lit (goInt n)) | _ => none
  | .len, t :: _, .empty :: _ => match P.underlying t with | some (.slice _) => some (.lit (goInt 0)) | _ => none
  | .cap, t :: _, .slice _ _ _ (some k) :: _ => match P.underlying t with | some (.slice _) => some (.lit (goInt k)) | _ => none
  | _, _, _ => none
def orElse (a : Option AV) (b : Option AV) : Option AV := match a with | some r => some r | none => b
def pop (P : Program) (ev : Ev) (o : Oper) : Option AV :=
  match o.op with
  | .move x => some (ev x)
  | .assign x => some (ev x)
  | .pick c a b => match ev c with | .lit (.bool t) => some (if t then ev a else ev b) | _ => none
  | .extract t i => match (ev t).view with | .tuple cs => cs[i]? | _ => none
  | .field t x f => popField P t (ev x) f
  | .build t ps => popBuild P t (ps.toList.map fun p => (p.1, ev p.2))
  | .index t x ix => orElse (popIndex P t (ev x) (ev ix)) (popFlat P ev o)
  | .makeInterface t x => match P.underlying t with | some (.interface _) => none | some _ => some (.iface t (ev x)) | none => none
  | .makeFunc fn first captured => some (.func fn (first.toList.map ev) (captured.toList.map ev))
  | .indexAddr t x ix => popIndexAddr P t (ev x) (ev ix)
  | .fieldAddr s x f => popFieldAddr P s (ev x) f
  | .slice t x lo hi mx => orElse (popSlice P t (ev x) (lo.map ev) (hi.map ev) (mx.map ev)) (popFlat P ev o)
  | .nilCheck x => match ev x with
    | .ptr b off => some (.ptr b off)
    | .gptr b off => some (.gptr b off)
    | .iface t v => some (.iface t v)
    | .func (.func f) a b => some (.func (.func f) a b)
    | .yield l => some (.yield l)
    | _ => popFlat P ev o
  | .binOp op t x y _ => orElse (popNil P op t (ev x) (ev y)) (popFlat P ev o)
  | .typeAssert x _ t ok => orElse (popAssert P (ev x) t ok) (popFlat P ev o)
  | .call c => match c.callee with
    | .builtin b => orElse (popLen P b c.argTypes.toList (c.args.toList.map ev)) (popFlat P ev o)
    | _ => none
  | _ => popFlat P ev o
section
variable {P : Program} {φ : Phi} {ev : Ev} {ρ : Operand → Value} {o : Oper} {r : AV}
theorem orElse_some {a b : Option AV} (h : orElse a b = some r) : a = some r ∨ b = some r := by
  cases a with
  | some x => exact .inl h
  | none => exact .inr h
theorem yld_of {s : Sem Value} (he : execOp ρ o = (do pure (.value (← s)))) (h : ∃ v, VR φ r v ∧ ∀ w, s.run P w = .ok v w) : Yld P φ ρ o r := by
  obtain ⟨v, h1, h2⟩ := h
  exact ⟨v, h1, fun w => by rw [he]; simp only [Sem.run_bind, h2 w, Result.andThen_ok, Sem.run_pure]⟩
theorem popAssert_sound {x : AV} {xt t : TypeId} {ok : Bool} {xv : Value} (hx : VR φ x xv) (h : popAssert P x t ok = some r) :
    ∃ v, VR φ r v ∧ ∀ w, (Instr.typeAssert xv xt t ok).run P w = .ok v w := by
  unfold popAssert at h
  split at h
  · cases h
  · rename_i d u v hni hu
    obtain ⟨y, rfl, hy⟩ := hx
    have hnot : ∀ ms, d ≠ .interface ms := fun ms e => hni ms (by first | exact e | rw [hu, e])
    split at h
    · rename_i hut
      subst hut
      cases h
      refine ⟨if ok then .tuple #[y, .bool true] else y, ?_, fun w => ?_⟩
      · cases ok
        · exact hy
        · exact ⟨_, rfl, VRs.cons hy (VRs.cons (show VR φ (.lit _) _ from rfl) VRs.nil)⟩
      · cases d <;> first | exact absurd rfl (hnot _) | (simp [Instr.typeAssert, run_underlying hu])
    · rename_i hut
      split at h
      case isFalse => cases h
      rename_i hok
      split at h
      case h_2 => cases h
      rename_i z hz
      cases h
      refine ⟨.tuple #[z, .bool false], ⟨_, rfl, VRs.cons (show VR φ (.lit _) _ from rfl) (VRs.cons (show VR φ (.lit _) _ from rfl) VRs.nil)⟩, fun w => ?_⟩
      cases d <;> first | exact absurd rfl (hnot _) | (simp [Instr.typeAssert, run_underlying hu, hut, hok, run_zeroB hz])
  · cases h
theorem popLen_sound {b : Builtin} {ts : List TypeId} {ty : TypeId} {xs : List AV} {cs : Array Bool} {as_ : Array TypeId} {vs : Array Value} (ha : as_.toList = ts) (hx : VRs φ xs vs.toList) (h : popLen P b ts xs = some r) :
    ∃ v, VR φ r v ∧ ∀ w, (builtin b as_ ty cs vs).run P w = .ok (.value v) w := by
  unfold popLen at h
  split at h
  · rename_i t ts b' off n cap xs
    split at h
    case h_2 => cases h
    rename_i e hu
    cases h
    obtain ⟨x, xs', hx1, hx2, _⟩ := hx
    obtain ⟨c, m, k, _, rfl, _⟩ := hx2
    refine ⟨goInt n, rfl, fun w => ?_⟩
    have h0 : as_[0]? = some t := by rw [← Array.getElem?_toList, ha]; rfl
    have h1 : vs[0]? = some (.slice (some ⟨c, off, none⟩) n k) := by rw [← Array.getElem?_toList, hx1]; rfl
    simp [builtin, Builtin.len_, h0, h1, run_underlying hu]
  · rename_i t ts xs
    split at h
    case h_2 => cases h
    rename_i e hu
    cases h
    obtain ⟨x, xs', hx1, hx2, _⟩ := hx
    obtain ⟨a, k, rfl⟩ := hx2
    refine ⟨goInt 0, rfl, fun w => ?_⟩
    have h0 : as_[0]? = some t := by rw [← Array.getElem?_toList, ha]; rfl
    have h1 : vs[0]? = some (.slice (some a) 0 k) := by rw [← Array.getElem?_toList, hx1]; rfl
    simp [builtin, Builtin.len_, h0, h1, run_underlying hu]
  · rename_i t ts b' off n k' xs
    split at h
    case h_2 => cases h
    rename_i e hu
    cases h
    obtain ⟨x, xs', hx1, hx2, _⟩ := hx
    obtain ⟨c, m, k, _, rfl, _, hk, _⟩ := hx2
    obtain rfl := hk k' rfl
    refine ⟨goInt k, rfl, fun w => ?_⟩
    have h0 : as_[0]? = some t := by rw [← Array.getElem?_toList, ha]; rfl
    have h1 : vs[0]? = some (.slice (some ⟨c, off, none⟩) n k) := by rw [← Array.getElem?_toList, hx1]; rfl
    simp [builtin, Builtin.cap_, h0, h1, run_underlying hu]
  · cases h
theorem VRs.evs (hev : ∀ x, VR φ (ev x) (ρ x)) (l : Array Operand) : VRs φ (l.toList.map ev) (l.map ρ).toList := by
  rw [Array.toList_map]
  exact VRs.map_of _ fun x _ => hev x
theorem pop_sound (hev : ∀ x, VR φ (ev x) (ρ x)) (h : pop P ev o = some r) : Yld P φ ρ o r := by
  have hfl := fun h => popFlat_sound (P := P) (r := r) (o := o) hev h
  unfold pop at h
  split at h
  · rename_i x ho; cases h; exact ⟨ρ x, hev x, fun w => by simp [execOp, ho]⟩
  · rename_i x ho; cases h; exact ⟨ρ x, hev x, fun w => by simp [execOp, ho]⟩
  · rename_i c a b ho
    split at h
    case h_2 => cases h
    rename_i t hc
    cases h
    have hc' := hev c
    rw [hc] at hc'
    have hc'' : ρ c = .bool t := hc'
    refine ⟨if t then ρ a else ρ b, ?_, fun w => by simp [execOp, ho, hc'', asBool]⟩
    cases t
    · exact hev b
    · exact hev a
  · rename_i t i ho
    split at h
    case h_2 => cases h
    rename_i cs hv
    have hx := (hev t).view
    rw [hv] at hx
    obtain ⟨as_, ha, hcs⟩ := hx
    obtain ⟨y, hy, hvy⟩ := hcs.get h
    have hy' : as_[i]? = some y := by simpa using hy
    exact ⟨y, hvy, fun w => by simp [execOp, ho, ha, Instr.extract, hy']⟩
  · rename_i t x f ho
    exact yld_of (by simp only [execOp, ho]) (popField_sound (hev x) h)
  · rename_i t ps ho
    refine yld_of (s := Instr.build t (ps.map fun x => (x.1, ρ x.2))) (by simp only [execOp, ho]) (popBuild_sound ?_ ?_ h)
    · simp [Function.comp_def]
    · have := VRs.map_of (φ := φ) (f := fun p : Nat × Operand => ev p.2) (g := fun p => ρ p.2) ps.toList fun p _ => hev p.2
      simpa [Function.comp_def] using this
  · rename_i t x ix ho
    rcases orElse_some h with h | h
    · exact yld_of (by simp only [execOp, ho]) (popIndex_sound (hev x) (hev ix) h)
    · exact hfl h
  · rename_i t x ho
    split at h
    · cases h
    · rename_i d hni hu
      cases h
      have hnot : ∀ ms, d ≠ .interface ms := fun ms e => hni ms (by first | exact e | rw [hu, e])
      refine ⟨.iface t (ρ x), ⟨_, rfl, hev x⟩, fun w => ?_⟩
      cases d <;> first | exact absurd rfl (hnot _) | (simp [execOp, ho, Instr.makeInterface, run_underlying hu])
    · cases h
  · rename_i fn first captured ho
    cases h
    exact ⟨.func fn (first.map ρ) (captured.map ρ), ⟨_, _, rfl, VRs.evs hev _, VRs.evs hev _⟩, fun w => by simp [execOp, ho, Instr.makeFunc]⟩
  · rename_i t x ix ho
    exact yld_of (by simp only [execOp, ho]) (popIndexAddr_sound (hev x) (hev ix) h)
  · rename_i s x f ho
    exact yld_of (by simp only [execOp, ho]) (popFieldAddr_sound (hev x) h)
  · rename_i t x lo hi mx ho
    rcases orElse_some h with h | h
    · have key : ∀ (l : Option Operand), (∀ a, l.map ev = some a → ∃ u, l.map ρ = some u ∧ VR φ a u) ∧ (l.map ev = none → l.map ρ = none) := by
        intro l
        cases l with
        | none => exact ⟨fun a e => (by cases e), fun _ => rfl⟩
        | some y => exact ⟨fun a e => (by cases e; exact ⟨_, rfl, hev y⟩), fun e => (by cases e)⟩
      exact yld_of (by simp only [execOp, ho]) (popSlice_sound (hev x) (key lo).1 (key lo).2 (key hi).1 (key hi).2 (key mx).1 (key mx).2 h)
    · exact hfl h
  · rename_i x ho
    split at h
    · rename_i b off hx
      cases h
      have hv := hev x
      rw [hx] at hv
      have hv' := hv
      obtain ⟨c, m, _, hc⟩ := hv
      rw [hc] at hv'
      exact ⟨_, hv', fun w => by simp [execOp, ho, hc]⟩
    · rename_i b off hx
      cases h
      have hv := hev x
      rw [hx] at hv
      have hv' := hv
      have hc : ρ x = .pointer (some ⟨b, off, none⟩) := hv
      rw [hc] at hv'
      exact ⟨_, hv', fun w => by simp [execOp, ho, hc]⟩
    · rename_i b off hx
      cases h
      have hv := hev x
      rw [hx] at hv
      have hv' := hv
      obtain ⟨c, hc, _⟩ := hv
      rw [hc] at hv'
      exact ⟨_, hv', fun w => by simp [execOp, ho, hc]⟩
    · rename_i f a b hx
      cases h
      have hv := hev x
      rw [hx] at hv
      have hv' := hv
      obtain ⟨c, m, hc, _⟩ := hv
      rw [hc] at hv'
      exact ⟨_, hv', fun w => by simp [execOp, ho, hc]⟩
    · rename_i l hx
      cases h
      have hv := hev x
      rw [hx] at hv
      have hv' := hv
      obtain ⟨c, m, _, hc⟩ := hv
      rw [hc] at hv'
      exact ⟨_, hv', fun w => by simp [execOp, ho, hc]⟩
    · exact hfl h
  · rename_i op t x y yt ho
    rcases orElse_some h with h | h
    · have key : ∀ q, nilF P t (ev x) (ev y) = true → (op = .eql ∨ op = .neq) → q = (op == .neq) → r = .lit (.bool q) → Yld P φ ρ o r := by
        intro q hn hop hq hr
        subst hr
        refine ⟨.bool q, rfl, fun w => ?_⟩
        obtain ⟨h1, h2⟩ := nilF_sound hn (hev x) (hev y) w x y op hop
        simp only [execOp, ho, Sem.run_bind, h1, Result.andThen_ok, h2, Sem.run_pure, hq]
      unfold popNil at h
      split at h
      · split at h
        · rename_i hn; cases h; exact key false hn (.inl rfl) rfl rfl
        · cases h
      · split at h
        · rename_i hn; cases h; exact key true hn (.inr rfl) rfl rfl
        · cases h
      · cases h
    · exact hfl h
  · rename_i x xt t ok ho
    rcases orElse_some h with h | h
    · exact yld_of (by simp only [execOp, ho]) (popAssert_sound (xt := xt) (hev x) h)
    · exact hfl h
  · rename_i c ho
    split at h
    · rename_i b hb
      rcases orElse_some h with h | h
      · obtain ⟨v, h1, h2⟩ := popLen_sound (as_ := c.argTypes) (ty := o.type) (cs := (c.args.map fun | .const _ => true | _ => false)) rfl (VRs.evs hev c.args) h
        refine ⟨v, h1, fun w => ?_⟩
        simp only [execOp, ho, resolve, hb, Sem.run_bind, Sem.run_pure, Result.andThen_ok, invoke]
        exact h2 w
      · exact hfl h
    · cases h
  · exact hfl h
end
end
end Go.Proofs.YtlmglnobdcgbeaaGreat.D
