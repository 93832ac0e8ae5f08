/- Part 9 of what the law's proof needs: words, walks of functions and plain facts. -/
import Derived.Deep.Slices
import Derived.OpenShut
import Derived.ChangeArms
import Derived.Test.YtlmglnobdcgbeaaGreatG01
import Derived.Test.YtlmglnobdcgbeaaGreatG02
import Derived.Test.YtlmglnobdcgbeaaGreatG03
import Derived.Test.YtlmglnobdcgbeaaGreatG04
import Derived.Test.YtlmglnobdcgbeaaGreatG08
set_option linter.unusedVariables false
set_option linter.unusedSimpArgs false
namespace Go.Proofs.YtlmglnobdcgbeaaGreat.P
open Go.RowKit Go.Proofs.YtlmglnobdcgbeaaGreatW.PrintWords Go.Proofs.YtlmglnobdcgbeaaGreatW.PrintLast Go.Proofs.YtlmglnobdcgbeaaGreatW.PrintMore
theorem anyO_pure {α : Type} (q : α → Option Bool) (p : α → Bool) (h : ∀ x, q x = some (p x)) : ∀ l, anyO q l = some (l.any p)
  | [] => rfl
  | x :: r => by
    unfold anyO
    rw [h x, anyO_pure q p h r]
    cases hp : p x <;> simp [hp]
theorem w64_of {n : Int} (h0 : -9223372036854775808 ≤ n) (h1 : n < 9223372036854775808) : wrap64 n = n := by unfold wrap64; omega
theorem nx (i : Nat) (h : i < 1000000) : wrap64 ((i : Int) + 1) = ((i + 1 : Nat) : Int) := by rw [w64_of (by omega) (by omega)]; simp
def isIn (a b n : Int) : Bool := decide (a ≤ n) && decide (n ≤ b)
theorem within1_eq (a b x : Int) : aD1.f x a b = some (!isIn a b x) := by
  unfold aD1.f isIn
  by_cases h : x < a
  · rw [if_pos h]; simp [show ¬ a ≤ x by omega]
  · rw [if_neg h]
    by_cases h2 : x ≤ b
    · simp [show a ≤ x by omega, h2]
    · simp [h2]; omega
theorem within_eq (a b : Int) (l : List Int) : aB7.f a b l = some (l.all (isIn a b)) := by
  unfold aB7.f aC7.f
  rw [anyO_pure _ (fun x => !isIn a b x) (fun x => within1_eq a b x)]
  simp [List.any_eq_not_all_not]
theorem rd_at (l : List Int) (i : Nat) (h : i < l.length) : rd l (i : Int) = l[i] := by
  unfold rd; simp [List.getD_eq_getElem?_getD, List.getElem?_eq_getElem h]
theorem rd67_at (l : List S67) (i : Nat) (h : i < l.length) : aA4 l (i : Int) = l[i] := by
  unfold aA4; simp [List.getD_eq_getElem?_getD, List.getElem?_eq_getElem h]
def rng (n : Nat) : List Int := (List.range n).map (fun i : Nat => (i : Int))
theorem mem_rng {n : Nat} {x : Int} : x ∈ rng n ↔ 0 ≤ x ∧ x < (n : Int) := by
  unfold rng
  simp only [List.mem_map, List.mem_range]
  constructor
  · rintro ⟨i, h, rfl⟩; omega
  · exact fun h => ⟨x.toNat, by omega, by omega⟩
theorem rng_length (n : Nat) : (rng n).length = n := by simp [rng]
theorem rng_getElem (n i : Nat) (h : i < (rng n).length) : (rng n)[i] = (i : Int) := by simp [rng]
theorem rng_succ (n : Nat) : rng (n + 1) = rng n ++ [(n : Int)] := by unfold rng; rw [List.range_succ, List.map_append]; rfl
theorem rng_lt (n : Nat) : (rng n).Pairwise (fun a b => a < b) := by
  refine List.pairwise_iff_getElem.2 fun i j hi hj hij => ?_
  rw [rng_getElem, rng_getElem]; omega
theorem rng_nodup (n : Nat) : (rng n).Nodup := List.nodup_iff_pairwise_ne.2 ((rng_lt n).imp fun h e => by omega)
theorem sorted_key {g : Int → Int} : ∀ (p q : List Int), p.Perm q → p.Pairwise (fun a b => g a ≤ g b) → q.Pairwise (fun a b => g a ≤ g b) → (∀ a ∈ p, ∀ b ∈ p, g a = g b → a = b) → p = q
  | [], q, h, _, _, _ => (List.Perm.nil_eq h)
  | a :: p, [], h, _, _, _ => absurd h.length_eq (by simp)
  | a :: p, b :: q, h, hp, hq, hi => by
    obtain ⟨p1, p2⟩ := List.pairwise_cons.1 hp
    obtain ⟨q1, q2⟩ := List.pairwise_cons.1 hq
    have hb : b ∈ a :: p := h.mem_iff.2 (by simp)
    have ha : a ∈ b :: q := h.mem_iff.1 (by simp)
    have e : a = b := by
      rcases List.mem_cons.1 hb with e | hb'
      · exact e.symm
      rcases List.mem_cons.1 ha with e | ha'
      · exact e
      exact hi a (by simp) b hb (Int.le_antisymm (p1 b hb') (q1 a ha'))
    subst e
    rw [sorted_key p q (List.Perm.cons_inv h) p2 q2 (fun x hx y hy => hi x (by simp [hx]) y (by simp [hy]))]
theorem srt_perm (l : List Int) : (srt l).Perm l := List.mergeSort_perm _ _
theorem srt_sorted (l : List Int) : (srt l).Pairwise (fun a b => a ≤ b) := by
  have := List.pairwise_mergeSort (le := fun x y : Int => decide (x ≤ y)) (fun a b c h1 h2 => by simp at *; omega) (fun a b => by simp; omega) l
  exact this.imp (fun h => by simpa using h)
theorem isOrder_l (x0 s : List Int) (x1 : Int) (hs : s.length ≤ 1000) : ∀ (d i k : Nat), i + d = s.length → d < k →
    aC3.l0 k x0 x1 s (s.length : Int) i = some (decide (∀ j (h : j < s.length), i ≤ j → s[j] = (j : Int)) && ((x0.length : Int) == x1))
  | 0, i, k, hd, hk => by
    obtain ⟨k, rfl⟩ : ∃ m, k = m + 1 := ⟨k - 1, by omega⟩
    rw [aC3.l0, if_neg (by omega), decide_eq_true (fun j hj hij => by omega)]; simp
  | d + 1, i, k, hd, hk => by
    obtain ⟨k, rfl⟩ : ∃ m, k = m + 1 := ⟨k - 1, by omega⟩
    rw [aC3.l0, if_pos (by omega), if_pos (by omega), if_pos (by omega), rd_at s i (by omega)]
    by_cases h : (i : Int) = s[i]
    · rw [if_pos h, nx i (by omega), isOrder_l x0 s x1 hs d (i + 1) k (by omega) (by omega)]
      congr 2
      refine decide_eq_decide.2 ⟨fun h2 j hj hij => ?_, fun h2 j hj hij => h2 j hj (by omega)⟩
      rcases Nat.eq_or_lt_of_le hij with e | e
      · subst e; exact h.symm
      · exact h2 j hj (by omega)
    · rw [if_neg h, decide_eq_false (fun h2 => h (h2 i (by omega) (Nat.le_refl _)).symm)]; rfl
theorem isOrder_eq (l : List Int) (n : Nat) (hl : l.length ≤ 1000) : aC3.f l (n : Int) = some (decide (l.Perm (rng n))) := by
  unfold aC3.f
  have hsl : (srt l).length = l.length := (srt_perm l).length_eq
  rw [if_pos (by omega)]
  have := isOrder_l l (srt l) n (by omega) (srt l).length 0 (l.length + 2) (by omega) (by omega)
  simp only [Int.ofNat_zero] at this
  rw [show aC3.l0 (l.length + 2) l n (srt l) ((srt l).length : Int) 0 = _ from this]
  congr 1
  have e : ((l.length : Int) == (n : Int)) = decide (l.length = n) := by
    by_cases h : l.length = n
    · simp [h]
    · rw [decide_eq_false h, beq_eq_false_iff_ne]; omega
  rw [e, ← Bool.decide_and]
  refine decide_eq_decide.2 ⟨?_, fun h => ?_⟩
  · rintro ⟨h1, h2⟩
    have : srt l = rng n := List.ext_getElem (by rw [rng_length, hsl, h2]) (fun i hi hj => by rw [h1 i hi (by omega), rng_getElem])
    rw [← this]; exact (srt_perm l).symm
  · have hln : l.length = n := by rw [h.length_eq, rng_length]
    have : srt l = rng n := sorted_key (g := id) _ _ ((srt_perm l).trans h) (srt_sorted l) ((rng_lt n).imp fun h => Int.le_of_lt h) (fun a _ b _ h => h)
    refine ⟨fun j hj _ => ?_, hln⟩
    have h2 : j < (rng n).length := by rw [rng_length]; omega
    have : (srt l)[j] = (rng n)[j] := by simp only [this]
    rw [this, rng_getElem]
def clothOk (n : Int) (c : S67) : Bool := isIn 0 (n - 1) c.f0 && (isIn 0 200 c.f1 && (isIn 1 20 c.f2.f0 && isIn 1 20 c.f2.f1 && decide (c.f2.f0 ≤ c.f2.f1)))
def chk (cl : List S67) (rk : List Int) : Int := if (isIn 1 6 (rk.length : Int) && decide (rk.Perm (rng rk.length))) = false then 4 else if (cl.length : Int) > 10 then 5 else if cl.all (clothOk rk.length) = true then 0 else 2
theorem Check1_eq (c : S67) (l0 : List S67) (rk : List Int) (hr : rk.length ≤ 1000) : aD3.f c.f0 c.f1 c.f2.f0 c.f2.f1 l0 rk = some (!clothOk rk.length c) := by
  unfold aD3.f clothOk
  rw [within_eq, within_eq, within_eq, w64_of (by omega) (by omega)]
  simp only [Option.bind_some, List.all_cons, List.all_nil, Bool.and_true]
  cases isIn 0 ((rk.length : Int) - 1) c.f0 <;> cases isIn 0 200 c.f1 <;> cases (isIn 1 20 c.f2.f0 && isIn 1 20 c.f2.f1) <;> simp
  by_cases h : c.f2.f0 ≤ c.f2.f1
  · simp [h]
  · simp [h]; omega
theorem tCheck_eq (cl : List S67) (rk : List Int) (hr : rk.length ≤ 1000) (k : Nat) (hk : 0 < k) : aB8.f k cl rk = some (chk cl rk) := by
  obtain ⟨k, rfl⟩ : ∃ m, k = m + 1 := ⟨k - 1, by omega⟩
  unfold aB8.f chk
  rw [within_eq, isOrder_eq rk rk.length hr]
  simp only [Option.bind_some, List.all_cons, List.all_nil, Bool.and_true]
  have hj : ∀ b, aB8.j0 (k + 1) b cl rk = some (if b = true then 4 else if (cl.length : Int) > 10 then 5 else if cl.all (clothOk rk.length) = true then 0 else 2) := fun b => by
    rw [aB8.j0]
    unfold aC9.f
    rw [anyO_pure _ (fun x => !clothOk rk.length x) (fun x => Check1_eq x cl rk hr)]
    have ha : (cl.any fun x => !clothOk rk.length x) = !cl.all (clothOk rk.length) := by simp [List.any_eq_not_all_not]
    rw [ha, Option.bind_some]
    split
    · rfl
    split
    · rfl
    cases cl.all (clothOk rk.length) <;> rfl
  rw [hj, hj]
  cases isIn 1 6 (rk.length : Int) <;> cases decide (rk.Perm (rng rk.length)) <;> simp
structure Valid (cl : List S67) (rk : List Int) : Prop where
  r1 : 1 ≤ rk.length
  r6 : rk.length ≤ 6
  perm : rk.Perm (rng rk.length)
  c10 : cl.length ≤ 10
  ok : ∀ c ∈ cl, 0 ≤ c.f0 ∧ c.f0 < rk.length ∧ 0 ≤ c.f1 ∧ c.f1 ≤ 200 ∧ 1 ≤ c.f2.f0 ∧ c.f2.f0 ≤ c.f2.f1 ∧ c.f2.f1 ≤ 600
theorem valid_of {cl : List S67} {rk : List Int} (h : chk cl rk = 0) : Valid cl rk := by
  unfold chk at h
  split at h
  · cases h
  rename_i h1
  split at h
  · cases h
  rename_i h2
  split at h
  · rename_i h3
    simp only [Bool.not_eq_false, Bool.and_eq_true, decide_eq_true_eq] at h1
    have h1' := h1.1
    simp only [isIn, Bool.and_eq_true, decide_eq_true_eq] at h1'
    refine ⟨by omega, by omega, h1.2, by omega, fun c hc => ?_⟩
    have := List.all_eq_true.1 h3 c hc
    simp only [clothOk, isIn, Bool.and_eq_true, decide_eq_true_eq] at this
    omega
  · cases h
def same (c x : S67) : Bool := decide (x.f0 = c.f0) && decide (x.f1 = c.f1)
def ear (cl : List S67) (a : Nat) : Nat := ((cl.take a).filter (same (aA4 cl a))).length
theorem ear_le (cl : List S67) (a : Nat) : ear cl a ≤ a := by
  unfold ear
  exact Nat.le_trans (List.length_filter_le _ _) (List.length_take_le _ _)
theorem nth_l (cl ys : List S67) (c : S67) (u v : Int) (hl : ys.length ≤ 1000) : ∀ (d i k : Nat) (m : Nat), i + d = ys.length → m ≤ i → 2 * d < k →
    aB3.l0 k m ys (ys.length : Int) i c.f0 c.f1 u v = some ((m + ((ys.drop i).filter (same c)).length : Nat) : Int)
  | 0, i, k, m, hd, hm, hk => by
    obtain ⟨k, rfl⟩ : ∃ m, k = m + 1 := ⟨k - 1, by omega⟩
    rw [aB3.l0, if_neg (by omega), List.drop_of_length_le (by omega)]; simp
  | d + 1, i, k, m, hd, hm, hk => by
    obtain ⟨k, rfl⟩ : ∃ m, k = m + 1 := ⟨k - 1, by omega⟩
    obtain ⟨k, rfl⟩ : ∃ m, k = m + 1 := ⟨k - 1, by omega⟩
    have hlt : i < ys.length := by omega
    have hj : ∀ b : Bool, aB3.j1 (k + 1) m ys (ys.length : Int) i b c.f0 c.f1 u v = some (((if b = true then m + 1 else m) + ((ys.drop (i + 1)).filter (same c)).length : Nat) : Int) := fun b => by
      rw [aB3.j1, nx i (by omega), nx m (by omega)]
      cases b
      · simp only [Bool.false_eq_true, if_false]; exact nth_l cl ys c u v hl d (i + 1) k m (by omega) (by omega) (by omega)
      · simp only [if_true]; exact nth_l cl ys c u v hl d (i + 1) k (m + 1) (by omega) (by omega) (by omega)
    rw [aB3.l0, if_pos (by omega), if_pos (by omega), if_pos (by omega), rd67_at ys i hlt, hj, hj, List.drop_eq_getElem_cons hlt, List.filter_cons]
    unfold same
    by_cases h0 : ys[i].f0 = c.f0
    · rw [if_pos h0]
      by_cases h1 : ys[i].f1 = c.f1
      · simp [h0, h1]; omega
      · simp [h0, h1]
    · rw [if_neg h0]; simp [h0]
theorem nth_eq (cl : List S67) (rk : List Int) (a : Nat) (ha : a < cl.length) (hl : cl.length ≤ 1000) (k : Nat) (hk : 2 * cl.length < k) : aB3.f k cl rk a = some (ear cl a : Int) := by
  unfold aB3.f
  rw [if_pos (by omega), if_pos (by omega), if_pos (by omega), Option.bind_some, Int.toNat_natCast]
  have := nth_l cl (cl.take a) (aA4 cl a) (aA4 cl a).f2.f0 (aA4 cl a).f2.f1 (by simp; omega) (cl.take a).length 0 k 0 (by omega) (by omega) (by simp; omega)
  simp only [Int.ofNat_zero, List.drop_zero, Nat.zero_add] at this
  exact this
def key (cl : List S67) (rk : List Int) (a : Int) : Int := (((aA4 cl a).f1 * 100 + ear cl a.toNat) * 10 + rd rk (aA4 cl a).f0) * 100 + a
theorem rank_bd {rk : List Int} (hp : rk.Perm (rng rk.length)) (h6 : rk.length ≤ 6) (x : Int) : 0 ≤ rd rk x ∧ rd rk x ≤ 5 := by
  unfold rd
  rcases Nat.lt_or_ge x.toNat rk.length with h | h
  · have hm : rk.getD x.toNat 0 ∈ rk := by rw [List.getD_eq_getElem?_getD, List.getElem?_eq_getElem h]; simp
    have := mem_rng.1 (hp.mem_iff.1 hm)
    omega
  · rw [List.getD_eq_getElem?_getD, List.getElem?_eq_none h]; simp
theorem cl_ok {cl : List S67} {rk : List Int} (v : Valid cl rk) (a : Nat) (ha : a < cl.length) : 0 ≤ (aA4 cl a).f0 ∧ (aA4 cl a).f0 < rk.length ∧ 0 ≤ (aA4 cl a).f1 ∧ (aA4 cl a).f1 ≤ 200 ∧ 1 ≤ (aA4 cl a).f2.f0 ∧ (aA4 cl a).f2.f0 ≤ (aA4 cl a).f2.f1 ∧ (aA4 cl a).f2.f1 ≤ 600 := by
  rw [rd67_at cl a ha]; exact v.ok _ (List.getElem_mem _)
theorem key_inj (cl : List S67) (rk : List Int) (hc : cl.length ≤ 100) (a b : Int) (ha : 0 ≤ a ∧ a < cl.length) (hb : 0 ≤ b ∧ b < cl.length) (h : key cl rk a = key cl rk b) : a = b := by
  unfold key at h; omega
theorem or_eq (p q r s : Int) (k : Nat) (hk : 5 < k) : aB9.f k [p, q, r, s] = some (if p ≠ 0 then p else if q ≠ 0 then q else if r ≠ 0 then r else s) := by
  obtain ⟨k, rfl⟩ : ∃ m, k = m + 5 := ⟨k - 5, by omega⟩
  have w1 : wrap64 ((0 : Int) + 1) = 1 := by rw [w64_of (by omega) (by omega)]; rfl
  have w2 : wrap64 ((1 : Int) + 1) = 2 := by rw [w64_of (by omega) (by omega)]; rfl
  have w3 : wrap64 ((2 : Int) + 1) = 3 := by rw [w64_of (by omega) (by omega)]; rfl
  have w4 : wrap64 ((3 : Int) + 1) = 4 := by rw [w64_of (by omega) (by omega)]; rfl
  have r0 : rd [p, q, r, s] 0 = p := rfl
  have r1 : rd [p, q, r, s] 1 = q := rfl
  have r2 : rd [p, q, r, s] 2 = r := rfl
  have r3 : rd [p, q, r, s] 3 = s := rfl
  unfold aB9.f
  simp only [aB9.l0, w1, w2, w3, w4, r0, r1, r2, r3, List.length_cons, List.length_nil]
  by_cases hp : p = 0
  · by_cases hq : q = 0
    · by_cases hr : r = 0
      · by_cases hs : s = 0
        · simp [hp, hq, hr, hs]
        · simp [hp, hq, hr, hs]
      · simp [hp, hq, hr]
    · simp [hp, hq]
  · simp [hp]
theorem before_eq {cl : List S67} {rk : List Int} (v : Valid cl rk) (a b : Int) (ha : 0 ≤ a ∧ a < cl.length) (hb : 0 ≤ b ∧ b < cl.length) (k : Nat) (hk : 30 < k) :
    ∃ c, aB2.f k cl rk a b = some c ∧ (c < 0 ↔ key cl rk a < key cl rk b) := by
  have h10 := v.c10
  have na := nth_eq cl rk a.toNat (by omega) (by omega) k (by omega)
  have nb := nth_eq cl rk b.toNat (by omega) (by omega) k (by omega)
  have oa := cl_ok v a.toNat (by omega)
  have ob := cl_ok v b.toNat (by omega)
  have ea := ear_le cl a.toNat
  have eb := ear_le cl b.toNat
  have ra := rank_bd v.perm v.r6 (aA4 cl a).f0
  have rb := rank_bd v.perm v.r6 (aA4 cl b).f0
  rw [show ((a.toNat : Nat) : Int) = a by omega] at na oa
  rw [show ((b.toNat : Nat) : Int) = b by omega] at nb ob
  unfold aB2.f
  rw [if_pos ha.1, if_pos ha.2, if_pos hb.1, if_pos hb.2, na, nb]
  simp only [Option.bind_some]
  rw [if_pos oa.1, if_pos oa.2.1, if_pos ob.1, if_pos ob.2.1, or_eq _ _ _ _ k (by omega), Option.bind_some, w64_of (n := (aA4 cl a).f1 - (aA4 cl b).f1) (by omega) (by omega),
    w64_of (n := (ear cl a.toNat : Int) - ear cl b.toNat) (by omega) (by omega), w64_of (n := rd rk (aA4 cl a).f0 - rd rk (aA4 cl b).f0) (by omega) (by omega), w64_of (n := a - b) (by omega) (by omega)]
  refine ⟨_, rfl, ?_⟩
  unfold key
  generalize (aA4 cl a).f1 = c1 at *
  generalize (aA4 cl b).f1 = c2 at *
  generalize rd rk (aA4 cl a).f0 = r1 at *
  generalize rd rk (aA4 cl b).f0 = r2 at *
  generalize ear cl a.toNat = e1 at *
  generalize ear cl b.toNat = e2 at *
  clear na nb v
  split
  · omega
  split
  · omega
  split
  · omega
  · omega
def inN (n : Nat) (l : List Int) : Prop := ∀ x ∈ l, 0 ≤ x ∧ x < (n : Int)
def byKey (g : Int → Int) (l : List Int) : Prop := l.Pairwise (fun a b => g a ≤ g b)
def Less (cl : List S67) (rk : List Int) : Prop := ∀ (a b : Int), 0 ≤ a ∧ a < cl.length → 0 ≤ b ∧ b < cl.length → ∀ k, 30 < k → ∃ c, aB2.f k cl rk a b = some c ∧ (c < 0 ↔ key cl rk a < key cl rk b)
theorem rd_mid (p q : List Int) (x : Int) : rd (p ++ x :: q) (p.length : Int) = x := by
  unfold rd; simp [List.getD_eq_getElem?_getD]
theorem rd_mid1 (p q : List Int) (u x : Int) : rd (p ++ u :: x :: q) ((p.length + 1 : Nat) : Int) = x := by
  have := rd_mid (p ++ [u]) q x
  simpa using this
theorem swap_mid (u v : Int) (q : List Int) : ∀ p : List Int, ((p ++ u :: v :: q).set (p.length + 1) u).set p.length v = p ++ v :: u :: q
  | [] => rfl
  | a :: p => by simp [swap_mid u v q p]
theorem ins_l1 (cl : List S67) (rk : List Int) (hb : Less cl rk) (bd : Int) (r : List Int) (v : Int) (i : Int) : ∀ (m : Nat) (s1 s2 : List Int) (k : Nat), s1.length = m → 2 * m + 40 < k → (m + s2.length + r.length : Nat) < 1000 → inN cl.length (s1 ++ v :: (s2 ++ r)) → byKey (key cl rk) (s1 ++ s2) → (∀ y ∈ s2, key cl rk v < key cl rk y) →
    ∃ (s1' s2' : List Int) (k' : Nat), aA0.l1 k (s1 ++ v :: (s2 ++ r)) 0 bd i m cl rk = aA0.l0 k' (s1' ++ v :: (s2' ++ r)) 0 bd (wrap64 (i + 1)) cl rk ∧ k ≤ k' + 2 * m + 2 ∧ s1' ++ s2' = s1 ++ s2 ∧ (∀ y ∈ s2', key cl rk v < key cl rk y) ∧ (∀ y ∈ s1', key cl rk y ≤ key cl rk v)
  | 0, s1, s2, k, hm, hkk, hn, hr, hs, h2 => by
    obtain ⟨k, rfl⟩ : ∃ m, k = m + 1 := ⟨k - 1, by omega⟩
    obtain ⟨k, rfl⟩ : ∃ m, k = m + 1 := ⟨k - 1, by omega⟩
    obtain rfl : s1 = [] := List.eq_nil_of_length_eq_zero hm
    exact ⟨[], s2, k, by rw [aA0.l1, if_neg (by omega), aA0.j2, if_neg (by simp)], by omega, rfl, h2, fun y hy => (by cases hy)⟩
  | m + 1, s1, s2, k, hm, hkk, hn, hr, hs, h2 => by
    obtain ⟨k, rfl⟩ : ∃ m, k = m + 1 := ⟨k - 1, by omega⟩
    obtain ⟨p, u, rfl⟩ : ∃ p u, s1 = p ++ [u] := by
      have hne : s1 ≠ [] := by intro e; subst e; simp at hm
      exact ⟨s1.dropLast, s1.getLast hne, (List.dropLast_concat_getLast hne).symm⟩
    have hp : p.length = m := by simpa using hm
    subst hp
    have e0 : (p ++ [u]) ++ v :: (s2 ++ r) = p ++ u :: v :: (s2 ++ r) := by simp
    have hu := hr u (by simp)
    have hv := hr v (by simp)
    have ej : wrap64 (((p.length + 1 : Nat) : Int) - 1) = (p.length : Int) := by rw [w64_of (by omega) (by omega)]; omega
    have hlen : ((p ++ u :: v :: (s2 ++ r)).length : Int) = (p.length : Int) + 2 + s2.length + r.length := by simp; omega
    obtain ⟨c, hc1, hc2⟩ := hb v u hv hu k (by omega)
    rw [e0, aA0.l1, if_pos (by omega), if_pos (by omega), hlen, if_pos (by omega), ej, if_pos (by omega), if_pos (by omega), rd_mid1, rd_mid, hc1, Option.bind_some]
    obtain ⟨k, rfl⟩ : ∃ m, k = m + 1 := ⟨k - 1, by omega⟩
    rw [aA0.j2]
    by_cases hc : key cl rk v < key cl rk u
    · rw [if_pos (decide_eq_true (hc2.2 hc)), ej, if_pos (by omega), hlen, if_pos (by omega), if_pos (by omega), if_pos (by omega), Int.toNat_natCast, Int.toNat_natCast, rd_mid, rd_mid1, swap_mid]
      have e1 : p ++ v :: u :: (s2 ++ r) = p ++ v :: ((u :: s2) ++ r) := by simp
      rw [e1]
      obtain ⟨s1', s2', k', q1, q2, q3, q4, q5⟩ := ins_l1 cl rk hb bd r v i p.length p (u :: s2) k rfl (by omega) (by simp; omega) (fun x hx => hr x (by simp at hx ⊢; rcases hx with h | h | h | h | h <;> simp [h])) (by simpa using hs) (fun y hy => by
        rcases List.mem_cons.1 hy with rfl | hy
        · exact hc
        · exact h2 y hy)
      exact ⟨s1', s2', k', q1, by omega, by rw [q3]; simp, q4, q5⟩
    · rw [if_neg (by simp; have := fun h => hc (hc2.1 h); omega)]
      refine ⟨p ++ [u], s2, k, by rw [e0], by omega, rfl, h2, fun y hy => ?_⟩
      rcases List.mem_append.1 hy with hy | hy
      · have : byKey (key cl rk) (p ++ [u]) := List.Pairwise.sublist (List.sublist_append_left _ _) hs
        have := (List.pairwise_append.1 this).2.2 y hy u (by simp)
        omega
      · obtain rfl := List.mem_singleton.1 hy; omega
theorem ins_l0 (cl : List S67) (rk : List Int) (hb : Less cl rk) : ∀ (d : Nat) (s r : List Int) (k : Nat), r.length = d → 50 * d + 50 < k → s.length + d ≤ 15 → inN cl.length (s ++ r) → byKey (key cl rk) s →
    ∃ ys, aA0.l0 k (s ++ r) 0 ((s.length + d : Nat) : Int) s.length cl rk = some ys ∧ ys.Perm (s ++ r) ∧ byKey (key cl rk) ys
  | 0, s, r, k, hd, hkk, hn, hr, hs => by
    obtain ⟨k, rfl⟩ : ∃ m, k = m + 1 := ⟨k - 1, by omega⟩
    obtain rfl : r = [] := List.eq_nil_of_length_eq_zero hd
    exact ⟨s ++ [], by rw [aA0.l0, if_neg (by omega)], List.Perm.refl _, by simpa using hs⟩
  | d + 1, s, r, k, hd, hkk, hn, hr, hs => by
    obtain ⟨k, rfl⟩ : ∃ m, k = m + 1 := ⟨k - 1, by omega⟩
    obtain ⟨v, r, rfl⟩ : ∃ v r', r = v :: r' := by cases r with | nil => cases hd | cons v r => exact ⟨v, r, rfl⟩
    have hrl : r.length = d := by simpa using hd
    rw [aA0.l0, if_pos (by omega)]
    obtain ⟨s1, s2, k', q1, q2, q3, q4, q5⟩ := ins_l1 cl rk hb ((s.length + (d + 1) : Nat) : Int) r v s.length s.length s [] k rfl (by omega) (by simp; omega) (by simpa using hr) (by simpa using hs) (fun y hy => (by cases hy))
    rw [List.nil_append] at q1
    rw [q1, nx s.length (by omega)]
    rw [List.append_nil] at q3
    have hl : (s1 ++ v :: s2).length = s.length + 1 := by rw [← q3]; simp; omega
    have hp1 : (s1 ++ v :: s2 ++ r).Perm (s ++ v :: r) := by
      rw [← q3, List.append_assoc, List.append_assoc]
      refine List.Perm.append_left s1 ?_
      rw [List.cons_append]
      exact List.perm_middle.symm
    have hs' : byKey (key cl rk) (s1 ++ v :: s2) := by
      rw [← q3] at hs
      obtain ⟨a1, a2, a3⟩ := List.pairwise_append.1 hs
      refine List.pairwise_append.2 ⟨a1, List.pairwise_cons.2 ⟨fun y hy => Int.le_of_lt (q4 y hy), a2⟩, fun x hx y hy => ?_⟩
      rcases List.mem_cons.1 hy with rfl | hy
      · exact q5 x hx
      · exact a3 x hx y hy
    obtain ⟨ys, y1, y2, y3⟩ := ins_l0 cl rk hb d (s1 ++ v :: s2) r k' hrl (by have := congrArg List.length q3; simp at this; omega) (by omega) (fun x hx => hr x (hp1.mem_iff.1 hx)) hs'
    refine ⟨ys, ?_, y2.trans hp1, y3⟩
    rw [hl] at y1
    rw [show s1 ++ v :: (s2 ++ r) = s1 ++ v :: s2 ++ r by simp, show s.length + (d + 1) = s.length + 1 + d by omega]
    exact y1
theorem len_some (k : Nat) (a : Int) : ∃ L, aD2.f (k + 2) a = some L := by
  have m0 : ∀ y : Int, 0 ≤ y % 256 := fun y => by omega
  have m1 : ∀ y : Int, y % 256 < 256 := fun y => by omega
  have j1 : ∀ x n : Int, ∃ L, aB6.j1 (k + 1) x n = some L := by
    intro x n
    rw [aB6.j1]
    split <;> (rw [if_pos (m0 _), if_pos (m1 _)]; exact ⟨_, rfl⟩)
  have j : ∀ x n : Int, ∃ L, aB6.j0 (k + 2) x n = some L := by
    intro x n
    rw [aB6.j0]
    split <;> exact j1 _ _
  unfold aD2.f aB6.f
  split
  · obtain ⟨L, e⟩ := j (a / 4294967296) 32
    exact ⟨L, by rw [e]; rfl⟩
  · obtain ⟨L, e⟩ := j a 0
    exact ⟨L, by rw [e]; rfl⟩
def ordA (cl : List S67) (rk : List Int) : List Int := (rng cl.length).mergeSort fun a b => decide (key cl rk a ≤ key cl rk b)
theorem ordA_perm (cl : List S67) (rk : List Int) : (ordA cl rk).Perm (rng cl.length) := List.mergeSort_perm _ _
theorem ordA_byKey (cl : List S67) (rk : List Int) : byKey (key cl rk) (ordA cl rk) := by
  have := List.pairwise_mergeSort (le := fun a b : Int => decide (key cl rk a ≤ key cl rk b)) (fun a b c h1 h2 => by simp at *; omega) (fun a b => by simp; omega) (rng cl.length)
  exact this.imp (fun h => by simpa using h)
theorem ordA_uniq (cl : List S67) (rk : List Int) (hc : cl.length ≤ 100) (ys : List Int) (hp : ys.Perm (rng cl.length)) (hs : byKey (key cl rk) ys) : ys = ordA cl rk :=
  sorted_key (g := key cl rk) ys _ (hp.trans (ordA_perm cl rk).symm) hs (ordA_byKey cl rk) (fun a ha b hb h => key_inj cl rk hc a b (mem_rng.1 (hp.mem_iff.1 ha)) (mem_rng.1 (hp.mem_iff.1 hb)) h)
theorem sort_ok {cl : List S67} {rk : List Int} (v : Valid cl rk) (k : Nat) (hkk : 1000 < k) :
    aB0.f k (rng cl.length) cl rk = some (ordA cl rk) := by
  have h10 := v.c10
  have hb : Less cl rk := fun a b ha hb k hk => before_eq v a b ha hb k hk
  obtain ⟨k, rfl⟩ : ∃ m, k = m + 2 := ⟨k - 2, by omega⟩
  obtain ⟨L, eL⟩ := len_some k (IntKind.u64.wrap ((rng cl.length).length : Int))
  have hr : inN cl.length (rng cl.length) := fun x hx => mem_rng.1 hx
  have hlen : (rng cl.length).length = cl.length := rng_length _
  generalize hl : rng cl.length = l at *
  have key_ : ∃ ys, aA0.f (k + 1) l 0 (l.length : Int) cl rk = some ys ∧ ys.Perm l ∧ byKey (key cl rk) ys := by
    unfold aA0.f
    rw [show wrap64 (0 + 1) = 1 by rw [w64_of (by omega) (by omega)]; rfl]
    cases l with
    | nil =>
      exact ⟨[], by rw [aA0.l0, if_neg (by simp)], List.Perm.refl _, List.Pairwise.nil⟩
    | cons v r =>
      have := ins_l0 cl rk hb r.length [v] r (k + 1) rfl (by simp at hlen; omega) (by simp at hlen ⊢; omega) hr (List.pairwise_singleton _ _)
      simpa [Nat.add_comm] using this
  obtain ⟨ys, y1, y2, y3⟩ := key_
  unfold aB0.f aA5.f
  rw [eL, Option.bind_some, aA5.l0, w64_of (n := (l.length : Int) - 0) (by omega) (by omega), if_pos (by omega), y1]
  exact congrArg some (ordA_uniq cl rk (by omega) ys (by rw [hl]; exact y2) y3)
theorem tOrder_l {cl : List S67} {rk : List Int} (v : Valid cl rk) : ∀ (d i k : Nat), i + d = cl.length → d + 1100 < k → aB1.l0 k (rng i) (cl.length : Int) i cl rk = some (ordA cl rk)
  | 0, i, k, hd, hk => by
    obtain ⟨k, rfl⟩ : ∃ m, k = m + 1 := ⟨k - 1, by omega⟩
    rw [aB1.l0, if_neg (by omega), show i = cl.length by omega, sort_ok v k (by omega)]; rfl
  | d + 1, i, k, hd, hk => by
    obtain ⟨k, rfl⟩ : ∃ m, k = m + 1 := ⟨k - 1, by omega⟩
    have h10 := v.c10
    rw [aB1.l0, if_pos (by omega), if_pos (by rw [rng_length]; omega), nx i (by omega), ← rng_succ]
    exact tOrder_l v d (i + 1) k (by omega) (by omega)
theorem dayOrder_eq {cl : List S67} {rk : List Int} (v : Valid cl rk) (k : Nat) (hk : 1200 < k) : aB1.f k cl rk = some (ordA cl rk) := by
  have h10 := v.c10
  exact tOrder_l v cl.length 0 k (by omega) (by omega)
theorem open_eq (cl : List S67) (rk : List Int) (hr : rk.length ≤ 1000) (s l : Int) (k : Nat) (hk : 0 < k) : aB5.f k cl rk s l = some (cl, rk, if chk cl rk = 0 then (if (isIn 1 5 s && isIn 0 500 l) = true then 0 else 3) else chk cl rk) := by
  obtain ⟨k, rfl⟩ : ∃ m, k = m + 1 := ⟨k - 1, by omega⟩
  unfold aB5.f
  rw [tCheck_eq cl rk hr (k + 1) (by omega), within_eq, within_eq]
  simp only [Option.bind_some, List.all_cons, List.all_nil, Bool.and_true]
  have hj : ∀ (e : Int) (b : Bool), aB5.j0 (k + 1) e b cl rk = some (cl, rk, if b = true then 3 else e) := fun e b => by
    rw [aB5.j0]; cases b <;> simp
  rw [hj, hj, hj]
  by_cases h : chk cl rk = 0
  · simp only [h, if_true]; cases isIn 1 5 s <;> cases isIn 0 500 l <;> simp
  · simp only [h, if_false]; simp
theorem order_eq (cl : List S67) (rk : List Int) (hr : rk.length ≤ 1000) (k : Nat) (hk : 1200 < k) : aC2.f k cl rk = some (if chk cl rk = 0 then ordA cl rk else [], chk cl rk) := by
  unfold aC2.f
  rw [open_eq cl rk hr 1 0 k (by omega), Option.bind_some]
  have e : (isIn 1 5 1 && isIn 0 500 0) = true := by decide
  by_cases h : chk cl rk = 0
  · simp only [h, e, if_true]
    rw [dayOrder_eq (valid_of h) k hk]; rfl
  · simp only [h, if_false]
def hoursOf (cl : List S67) (most : Bool) : List Int := cl.map fun c => if most = true then c.f2.f1 else c.f2.f0
def ofM (most : Bool) (x y : Int) : Int := if most = true then y else x
theorem rd_hours (cl : List S67) (b : Bool) (x : Int) (h0 : 0 ≤ x) (h1 : x < cl.length) : rd (hoursOf cl b) x = ofM b (aA4 cl x).f2.f0 (aA4 cl x).f2.f1 := by
  have e1 := rd_at (hoursOf cl b) x.toNat (by simp [hoursOf]; omega)
  have e2 := rd67_at cl x.toNat (by omega)
  rw [show ((x.toNat : Nat) : Int) = x by omega] at e1 e2
  rw [e1, e2]; simp [hoursOf, ofM]
theorem runT_fst (of : Int → Int → Int) (cl : List S67) : ∀ (xs fr : List Int), (runT of cl fr xs).map (fun t => t.1) = xs
  | [], _ => rfl
  | x :: xs, fr => by rw [runT, List.map_cons, runT_fst of cl xs]
theorem ofM_true : ofM true = highF := by funext x y; rfl
theorem ofM_false : ofM false = lowF := by funext x y; rfl
theorem ordA_in {cl : List S67} {rk : List Int} : ∀ x ∈ ordA cl rk, 0 ≤ x ∧ x < (cl.length : Int) := fun x hx => mem_rng.1 ((ordA_perm cl rk).mem_iff.1 hx)
theorem ordA_len (cl : List S67) (rk : List Int) : (ordA cl rk).length = cl.length := by rw [(ordA_perm cl rk).length_eq, rng_length]
def St20 (cl : List S67) : Prop := ∀ c ∈ cl, c.f2.f1 ≤ 20
theorem st20_of {cl : List S67} {rk : List Int} (h : chk cl rk = 0) : St20 cl := by
  unfold chk at h
  split at h
  · cases h
  split at h
  · cases h
  split at h
  · rename_i h3
    intro c hc
    have := List.all_eq_true.1 h3 c hc
    simp only [clothOk, isIn, Bool.and_eq_true, decide_eq_true_eq] at this
    omega
  · cases h
def Le2 : List Int → List Int → Prop
  | [], [] => True
  | a :: r, b :: s => a ≤ b ∧ Le2 r s
  | _, _ => False
theorem Le2.refl : ∀ l, Le2 l l
  | [] => trivial
  | a :: r => ⟨Int.le_refl a, Le2.refl r⟩
def inz (v : Int) : List Int → List Int
  | [] => [v]
  | x :: xs => if v ≤ x then v :: x :: xs else x :: inz v xs
theorem inz_perm (v : Int) : ∀ l, (inz v l).Perm (v :: l)
  | [] => List.Perm.refl _
  | x :: xs => by
    unfold inz; split
    · exact List.Perm.refl _
    · exact ((inz_perm v xs).cons x).trans (List.Perm.swap v x xs)
theorem inz_sorted (v : Int) : ∀ l : List Int, l.Pairwise (fun a b => a ≤ b) → (inz v l).Pairwise (fun a b => a ≤ b)
  | [], _ => List.pairwise_singleton _ _
  | x :: xs, h => by
    obtain ⟨h1, h2⟩ := List.pairwise_cons.1 h
    unfold inz; split
    · rename_i hv
      refine List.pairwise_cons.2 ⟨fun y hy => ?_, h⟩
      rcases List.mem_cons.1 hy with e | e
      · omega
      · have := h1 y e; omega
    · rename_i hv
      refine List.pairwise_cons.2 ⟨fun y hy => ?_, inz_sorted v xs h2⟩
      rcases List.mem_cons.1 ((inz_perm v xs).mem_iff.1 hy) with e | e
      · omega
      · exact h1 y e
theorem srt_cons (v : Int) (r : List Int) (h : r.Pairwise (fun a b => a ≤ b)) : srt (v :: r) = inz v r :=
  sorted_key (g := fun x => x) _ _ ((srt_perm _).trans (inz_perm v r).symm) (srt_sorted _) (inz_sorted v r h) (fun _ _ _ _ e => e)
theorem inz_head (v : Int) (l : List Int) (h : (v :: l).Pairwise (fun a b => a ≤ b)) : inz v l = v :: l := by
  cases l with
  | nil => rfl
  | cons x xs => exact if_pos ((List.pairwise_cons.1 h).1 x (by simp))
theorem inz_le2 : ∀ (xs ys : List Int) (a b : Int), a ≤ b → xs.Pairwise (fun a b => a ≤ b) → ys.Pairwise (fun a b => a ≤ b) → Le2 xs ys → Le2 (inz a xs) (inz b ys)
  | [], [], a, b, h, _, _, _ => ⟨h, trivial⟩
  | [], _ :: _, _, _, _, _, _, h => h.elim
  | _ :: _, [], _, _, _, _, _, h => h.elim
  | x :: xs, y :: ys, a, b, hab, hx, hy, ⟨h1, h2⟩ => by
    obtain ⟨x1, x2⟩ := List.pairwise_cons.1 hx
    obtain ⟨y1, y2⟩ := List.pairwise_cons.1 hy
    unfold inz
    by_cases ha : a ≤ x <;> by_cases hb : b ≤ y
    · rw [if_pos ha, if_pos hb]; exact ⟨hab, h1, h2⟩
    · rw [if_pos ha, if_neg hb]
      refine ⟨by omega, ?_⟩
      have := inz_le2 xs ys x b (by omega) x2 y2 h2
      rwa [inz_head x xs hx] at this
    · rw [if_neg ha, if_pos hb]
      refine ⟨by omega, ?_⟩
      have := inz_le2 xs ys a y (by omega) x2 y2 h2
      rwa [inz_head y ys hy] at this
    · rw [if_neg ha, if_neg hb]; exact ⟨h1, inz_le2 xs ys a b hab x2 y2 h2⟩
theorem okT_yes (cl : List S67) (ord : List Int) (hin : ∀ x ∈ ord, 0 ≤ x ∧ x < (cl.length : Int)) (m : Nat) (hm : 1 ≤ m) (hm2 : m ≤ 1000) : okT cl ord m = true := by
  unfold okT
  simp only [Bool.and_eq_true, decide_eq_true_eq, List.all_eq_true]
  exact ⟨⟨by omega, by omega⟩, hin⟩
theorem lows1_len (l : List S42) (t : Int × Int × Int) : (lows_1 l t).length = l.length := by simp [lows_1]
theorem highs1_len (l : List S42) (t : Int × Int × Int) : (highs_1 l t).length = l.length := by simp [highs_1]
def stA (cl : List S67) (rk : List Int) (m : Nat) : List S42 := highs_ (lows_ (List.replicate cl.length z42) (runT lowF cl (List.replicate m 0) (ordA cl rk))) (runT highF cl (List.replicate m 0) (ordA cl rk))
theorem ordA_nodup (cl : List S67) (rk : List Int) : (ordA cl rk).Nodup := (ordA_perm cl rk).nodup_iff.2 (rng_nodup _)
theorem stA_len (cl : List S67) (rk : List Int) (m : Nat) : (stA cl rk m).length = cl.length := by
  have h1 : ∀ (ts : List (Int × Int × Int)) (l : List S42), (lows_ l ts).length = l.length := fun ts => by
    induction ts with
    | nil => exact fun _ => rfl
    | cons t ts ih => exact fun l => (ih (lows_1 l t)).trans (lows1_len l t)
  have h2 : ∀ (ts : List (Int × Int × Int)) (l : List S42), (highs_ l ts).length = l.length := fun ts => by
    induction ts with
    | nil => exact fun _ => rfl
    | cons t ts ih => exact fun l => (ih (highs_1 l t)).trans (highs1_len l t)
  unfold stA
  rw [h2, h1, List.length_replicate]
def endA (of : Int → Int → Int) (cl : List S67) (rk : List Int) (m : Nat) : Int := (runT of cl (List.replicate m 0) (ordA cl rk)).foldl endF 0
theorem runT_done (of : Int → Int → Int) (cl : List S67) : ∀ (xs fr : List Int), ∀ t ∈ runT of cl fr xs, t.2.2 = wrap64 (t.2.1 + of (aA4 cl t.1).f2.f0 (aA4 cl t.1).f2.f1)
  | [], _ => fun t ht => by cases ht
  | x :: xs, fr => fun t ht => by
    rw [runT] at ht
    rcases List.mem_cons.1 ht with rfl | ht
    · rfl
    · exact runT_done of cl xs _ t ht
theorem valid_m {cl : List S67} {rk : List Int} {M E : Int} (h : E = 0) (hE : (if chk cl rk = 0 then (if (isIn 1 5 M && isIn 0 500 0) = true then 0 else 3) else chk cl rk : Int) = E) : Valid cl rk ∧ ∃ m : Nat, M = m ∧ 1 ≤ m ∧ m ≤ 5 := by
  subst h
  have hc : chk cl rk = 0 := by
    by_cases h : chk cl rk = 0
    · exact h
    · rw [if_neg h] at hE; exact hE
  have hb : (isIn 1 5 M && isIn 0 500 0) = true := by
    rw [if_pos hc] at hE
    by_cases h : (isIn 1 5 M && isIn 0 500 0) = true
    · exact h
    · rw [if_neg h] at hE; cases hE
  simp only [isIn, Bool.and_eq_true, decide_eq_true_eq] at hb
  exact ⟨valid_of hc, M.toNat, by omega, by omega, by omega⟩
def woA (cl : List S67) (rk : List Int) (m : Nat) : Int × Int := (waitsL cl (ordA cl rk) m).foldl worstW (0, -1)
theorem tStarts_k (cl : List S67) (rk : List Int) (M : Int) (k : Nat) (hk : 1300 < k) (hl : cl.length ≤ 20) (hr : rk.length ≤ 10) (E : Int) (hE : (if chk cl rk = 0 then (if (isIn 1 5 M && isIn 0 500 0) = true then 0 else 3) else chk cl rk : Int) = E) :
    aC0.f k cl rk M = if E = 0 then some (stA cl rk M.toNat, 0) else some ([], E) := by
  unfold aC0.f
  rw [open_eq cl rk (by omega) M 0 k (by omega), Option.bind_some]
  simp only []
  rw [hE]
  by_cases h : E = 0
  · rw [if_pos h, if_pos h]
    obtain ⟨v, m, rfl, hm, hm2⟩ := valid_m h hE
    rw [if_pos (by omega), if_pos (by omega), dayOrder_eq v k (by omega), Option.bind_some]
    unfold startsO
    rw [if_pos (okT_yes cl _ ordA_in m hm (by omega)), Option.bind_some]
    unfold stA
    rfl
  · rw [if_neg h, if_neg h]
theorem tWaits_k (cl : List S67) (rk : List Int) (M : Int) (k : Nat) (hk : 1300 < k) (hl : cl.length ≤ 20) (hr : rk.length ≤ 10) (E : Int) (hE : (if chk cl rk = 0 then (if (isIn 1 5 M && isIn 0 500 0) = true then 0 else 3) else chk cl rk : Int) = E) :
    aC1.f k cl rk M = if E = 0 then (if cl.length = 0 then some (0, 0, 7) else some ((woA cl rk M.toNat).1, (woA cl rk M.toNat).2, 0)) else some (0, 0, E) := by
  unfold aC1.f
  rw [open_eq cl rk (by omega) M 0 k (by omega), Option.bind_some]
  simp only []
  rw [hE]
  by_cases h : E = 0
  · rw [if_pos h, if_pos h]
    obtain ⟨v, m, rfl, hm, hm2⟩ := valid_m h hE
    by_cases h0 : cl.length = 0
    · rw [if_pos (by omega), if_pos h0]
    · rw [if_neg (by omega), if_neg h0, dayOrder_eq v k (by omega), Option.bind_some]
      unfold waitsO
      rw [if_pos (okT_yes cl _ ordA_in m hm (by omega)), Option.bind_some]
      unfold woA
      rw [Int.toNat_natCast]
  · rw [if_neg h, if_neg h]
theorem tEnds_k (cl : List S67) (rk : List Int) (M : Int) (k : Nat) (hk : 1300 < k) (hl : cl.length ≤ 20) (hr : rk.length ≤ 10) (E : Int) (hE : (if chk cl rk = 0 then (if (isIn 1 5 M && isIn 0 500 0) = true then 0 else 3) else chk cl rk : Int) = E) :
    aC4.f k cl rk M = if E = 0 then some (endA lowF cl rk M.toNat, endA highF cl rk M.toNat, 0) else some (0, 0, E) := by
  unfold aC4.f
  rw [open_eq cl rk (by omega) M 0 k (by omega), Option.bind_some]
  simp only []
  rw [hE]
  by_cases h : E = 0
  · rw [if_pos h, if_pos h]
    obtain ⟨v, m, rfl, hm, hm2⟩ := valid_m h hE
    rw [dayOrder_eq v k (by omega), Option.bind_some]
    unfold endsO
    rw [if_pos (okT_yes cl _ ordA_in m hm (by omega)), Option.bind_some]
    rfl
  · rw [if_neg h, if_neg h]
def tkS (cl : List S67) (fr : List Int) (x : Int) : Int := mx (aA4 cl x).f1 (rd fr 0)
def livT (cl : List S67) (st : List Int) : List Int → List Int → List Int → List Int
  | tk, _, [] => tk
  | tk, fr, x :: xs => livT cl st (tk.set x.toNat (tkS cl fr x)) (srt (fr.set 0 (tkS cl fr x + rd st x))) xs
def okS (cl : List S67) (st : List Int) : List Int → List Int → Prop
  | _, [] => True
  | fr, x :: xs => tkS cl fr x < 1000 ∧ okS cl st (srt (fr.set 0 (tkS cl fr x + rd st x))) xs
def pm (h : Int) (u fr : List Int) : Prop := (u.map (fun y => max h y)).Perm (fr.map (fun y => max h y))
theorem pm_some {h : Int} {u fr : List Int} (p : pm h u fr) (y : Int) (hy : y ∈ u) (hle : y ≤ h) : ∃ z ∈ fr, z ≤ h := by
  have h1 : h ∈ u.map (fun y => max h y) := List.mem_map.2 ⟨y, hy, by omega⟩
  obtain ⟨z, hz, e⟩ := List.mem_map.1 (p.mem_iff.1 h1)
  exact ⟨z, hz, by omega⟩
theorem pm_all {h : Int} {u fr : List Int} (p : pm h u fr) (hu : ∀ y ∈ u, h < y) (z : Int) (hz : z ∈ fr) : h < z := by
  rcases Int.lt_or_le h z with e | e
  · exact e
  · have h1 : h ∈ fr.map (fun y => max h y) := List.mem_map.2 ⟨z, hz, by omega⟩
    obtain ⟨y, hy, e⟩ := List.mem_map.1 (p.mem_iff.2 h1)
    have := hu y hy
    omega
theorem pm_next {h : Int} {u fr : List Int} (p : pm h u fr) : pm (h + 1) u fr := by
  have := p.map (fun y => max (h + 1) y)
  rw [List.map_map, List.map_map] at this
  have e : ((fun y => max (h + 1) y) ∘ fun y => max h y) = fun y => max (h + 1) y := by funext y; simp only [Function.comp]; omega
  rw [e] at this
  exact this
theorem pm_set {h : Int} {u r : List Int} {a : Int} (p : pm h u (a :: r)) (j : Nat) (hj : j < u.length) (hu : u[j] ≤ h) (ha : a ≤ h) (v : Int) : pm h (u.set j v) (srt (v :: r)) := by
  have e1 : u = u.take j ++ u[j] :: u.drop (j + 1) := by rw [← List.drop_eq_getElem_cons hj, List.take_append_drop]
  have e2 : u.set j v = u.take j ++ v :: u.drop (j + 1) := by rw [List.set_eq_take_append_cons_drop, if_pos hj]
  have p1 : (u.map (fun y => max h y)).Perm (max h u[j] :: (u.take j ++ u.drop (j + 1)).map (fun y => max h y)) := by
    conv => lhs; rw [e1]
    rw [List.map_append, List.map_cons, List.map_append]
    exact List.perm_middle
  have p2 : ((u.take j ++ u.drop (j + 1)).map (fun y => max h y)).Perm (r.map (fun y => max h y)) := by
    have := p1.symm.trans p
    rw [List.map_cons, show max h u[j] = max h a by omega] at this
    exact List.Perm.cons_inv this
  unfold pm
  refine List.Perm.trans ?_ ((srt_perm (v :: r)).symm.map _)
  rw [e2, List.map_append, List.map_cons, List.map_cons]
  refine List.perm_middle.trans (List.Perm.cons _ ?_)
  rw [← List.map_append]
  exact p2
def due (cl : List S67) (fr xs : List Int) (h : Int) : Prop := match xs with
  | [] => True
  | x :: _ => h ≤ tkS cl fr x
theorem srt_len (l : List Int) : (srt l).length = l.length := (srt_perm l).length_eq
theorem due_next {cl : List S67} {st : List Int} {a : Int} {r : List Int} {x : Int} {xs : List Int} (hs : (a :: r).Pairwise (fun a b => a ≤ b)) (hst : 0 ≤ rd st x) (hcm : (x :: xs).Pairwise (fun a b => (aA4 cl a).f1 ≤ (aA4 cl b).f1)) : due cl (srt ((a :: r).set 0 (tkS cl (a :: r) x + rd st x))) xs (tkS cl (a :: r) x) := by
  cases xs with
  | nil => trivial
  | cons y ys =>
    have hc : (aA4 cl x).f1 ≤ (aA4 cl y).f1 := (List.pairwise_cons.1 hcm).1 y (by simp)
    have ha : tkS cl (a :: r) x = mx (aA4 cl x).f1 a := rfl
    show tkS cl (a :: r) x ≤ mx (aA4 cl y).f1 (rd (srt ((a :: r).set 0 (tkS cl (a :: r) x + rd st x))) 0)
    have hge : a ≤ rd (srt ((a :: r).set 0 (tkS cl (a :: r) x + rd st x))) 0 := by
      show a ≤ rd (srt ((tkS cl (a :: r) x + rd st x) :: r)) 0
      have hl : 0 < (srt ((tkS cl (a :: r) x + rd st x) :: r)).length := by rw [srt_len]; simp
      have e := rd_at (srt ((tkS cl (a :: r) x + rd st x) :: r)) 0 hl
      rw [show ((0 : Nat) : Int) = 0 from rfl] at e
      rw [e]
      have hm := (srt_perm ((tkS cl (a :: r) x + rd st x) :: r)).mem_iff.1 (List.getElem_mem hl)
      have haa : a ≤ tkS cl (a :: r) x := by rw [ha]; unfold mx; split <;> omega
      rcases List.mem_cons.1 hm with h | h
      · omega
      · exact (List.pairwise_cons.1 hs).1 _ h
    generalize rd (srt ((a :: r).set 0 (tkS cl (a :: r) x + rd st x))) 0 = e at hge ⊢
    rw [ha]
    unfold mx
    split <;> split <;> omega
theorem lived_l {cl : List S67} (rk ord st : List Int) (m : Nat) (hm : 1 ≤ m) (hm2 : m ≤ 1000) (ho : ord.length ≤ 1000) (hin : ∀ x ∈ ord, 0 ≤ x ∧ x < (cl.length : Int)) (hsl : st.length = cl.length) (hst : ∀ x ∈ ord, 1 ≤ rd st x ∧ rd st x ≤ 1000)
    (hcm : ord.Pairwise (fun a b => (aA4 cl a).f1 ≤ (aA4 cl b).f1)) :
    ∀ (H : Nat) (h i k : Nat) (tk u fr : List Int), h + H = 1000 → i ≤ ord.length → H * (2 * m + 6) + 4 < k → tk.length = cl.length → u.length = m → fr.length = m → fr.Pairwise (fun a b => a ≤ b) → pm h u fr → due cl fr (ord.drop i) h → okS cl st fr (ord.drop i) →
      aA3.l0 k ord m st tk u i h cl rk = some (livT cl st tk fr (ord.drop i))
  | 0, h, i, k, tk, u, fr, hH, hi, hk, htk, hu, hfr, hs, hp, hd, hok => by
    obtain ⟨k, rfl⟩ : ∃ q, k = q + 2 := ⟨k - 2, by omega⟩
    have hn : i = ord.length := by
      rcases Nat.lt_or_ge i ord.length with hlt | hge
      · rw [List.drop_eq_getElem_cons hlt] at hd hok
        have h1 : (h : Int) ≤ tkS cl fr ord[i] := hd
        have h2 := hok.1
        omega
      · omega
    subst hn
    rw [List.drop_of_length_le (Nat.le_refl _), aA3.l0, if_neg (by omega), aA3.j1, if_neg (by simp)]
    rfl
  | H + 1, h, i, k, tk, u, fr, hH, hi, hk, htk, hu, hfr, hs, hp, hd, hok => by
    have hmul : (H + 1) * (2 * m + 6) = H * (2 * m + 6) + (2 * m + 6) := by rw [Nat.add_mul, Nat.one_mul]
    obtain ⟨k, rfl⟩ : ∃ q, k = q + 2 := ⟨k - 2, by omega⟩
    rw [aA3.l0]
    by_cases hlt0 : i < ord.length
    case neg =>
      rw [if_neg (by omega), aA3.j1, if_neg (by simp), List.drop_of_length_le (by omega)]
      rfl
    rw [if_pos (by omega), decide_eq_true (show (h : Int) < 1000 by omega), aA3.j1, if_pos rfl]
    have hour : ∀ (J j i k : Nat) (tk u fr : List Int), j + J = m → i ≤ ord.length → H * (2 * m + 6) + 2 * J + 6 < k → tk.length = cl.length → u.length = m → fr.length = m → fr.Pairwise (fun a b => a ≤ b) → pm h u fr → due cl fr (ord.drop i) h → okS cl st fr (ord.drop i) → (∀ q, (hq : q < u.length) → q < j → (h : Int) < u[q]) →
        aA3.l1 k ord m st tk u i h j cl rk = some (livT cl st tk fr (ord.drop i)) := by
      have next : ∀ (i k : Nat) (tk u fr : List Int), i ≤ ord.length → H * (2 * m + 6) + 4 < k → tk.length = cl.length → u.length = m → fr.length = m → fr.Pairwise (fun a b => a ≤ b) → pm h u fr → okS cl st fr (ord.drop i) → (∀ hlt : i < ord.length, (h : Int) < (aA4 cl ord[i]).f1 ∨ ∀ y ∈ u, (h : Int) < y) →
          aA3.l0 k ord m st tk u i (wrap64 ((h : Int) + 1)) cl rk = some (livT cl st tk fr (ord.drop i)) := by
        intro i k tk u fr hi hk htk hu hfr hs hp hok hno
        rw [nx h (by omega)]
        refine lived_l rk ord st m hm hm2 ho hin hsl hst hcm H (h + 1) i k tk u fr (by omega) hi hk htk hu hfr hs (by have := pm_next hp; rwa [show ((h + 1 : Nat) : Int) = (h : Int) + 1 by omega]) ?_ hok
        rcases Nat.lt_or_ge i ord.length with hlt | hge
        · rw [List.drop_eq_getElem_cons hlt]
          show ((h + 1 : Nat) : Int) ≤ mx _ _
          rcases hno hlt with h1 | h1
          · unfold mx; split <;> omega
          · obtain ⟨a, r, rfl⟩ : ∃ a r, fr = a :: r := by
              cases fr with
              | nil => simp at hfr; omega
              | cons a r => exact ⟨a, r, rfl⟩
            have ha : (h : Int) < a := pm_all hp h1 a (by simp)
            show ((h + 1 : Nat) : Int) ≤ mx _ a
            unfold mx; split <;> omega
        · rw [List.drop_of_length_le hge]; trivial
      intro J
      induction J with
      | zero =>
        intro j i k tk u fr hJ hi hk htk hu hfr hs hp hd hok hq
        obtain ⟨k, rfl⟩ : ∃ q, k = q + 2 := ⟨k - 2, by omega⟩
        rw [aA3.l1, if_neg (by omega), aA3.j3, if_neg (by simp)]
        refine next i k tk u fr hi (by omega) htk hu hfr hs hp hok fun _ => .inr fun y hy => ?_
        obtain ⟨q, hq1, rfl⟩ := List.getElem_of_mem hy
        exact hq q hq1 (by omega)
      | succ J ihJ =>
        intro j i k tk u fr hJ hi hk htk hu hfr hs hp hd hok hq
        obtain ⟨k, rfl⟩ : ∃ q, k = q + 2 := ⟨k - 2, by omega⟩
        rw [aA3.l1, if_pos (by omega)]
        by_cases hlt : i < ord.length
        case neg =>
          rw [if_neg (by omega), aA3.j3, if_neg (by simp)]
          exact next i k tk u fr hi (by omega) htk hu hfr hs hp hok fun hh => absurd hh hlt
        have hx := hin ord[i] (List.getElem_mem hlt)
        have hsx := hst ord[i] (List.getElem_mem hlt)
        have erd := rd_at ord i hlt
        rw [if_pos (by omega), if_pos (by omega), erd, if_pos hx.1, if_pos hx.2, aA3.j3]
        by_cases hc : (aA4 cl ord[i]).f1 ≤ (h : Int)
        case neg =>
          rw [if_neg (by simpa using hc)]
          exact next i k tk u fr hi (by omega) htk hu hfr hs hp hok fun hh => .inl (by omega)
        rw [if_pos (by simpa using hc), if_pos (by omega), if_pos (by omega), rd_at u j (by omega)]
        by_cases hb : u[j] ≤ (h : Int)
        · rw [if_pos hb, if_pos (by omega), if_pos (by omega), erd, if_pos hx.1, if_pos (by omega), if_pos (by omega), nx i (by omega), nx j (by omega), Int.toNat_natCast, w64_of (by omega) (by omega)]
          obtain ⟨a, r, rfl⟩ : ∃ a r, fr = a :: r := by
            cases fr with
            | nil => simp at hfr; omega
            | cons a r => exact ⟨a, r, rfl⟩
          have ha : a ≤ (h : Int) := by
            obtain ⟨z, hz, hz2⟩ := pm_some hp u[j] (List.getElem_mem _) hb
            rcases List.mem_cons.1 hz with e | e
            · omega
            · have := (List.pairwise_cons.1 hs).1 z e; omega
          rw [List.drop_eq_getElem_cons hlt] at hd hok
          have e1 : tkS cl (a :: r) ord[i] = mx (aA4 cl ord[i]).f1 a := rfl
          have e2 : tkS cl (a :: r) ord[i] = (h : Int) := by
            have h1 : (h : Int) ≤ tkS cl (a :: r) ord[i] := hd
            rw [e1] at h1 ⊢
            revert h1
            unfold mx; split <;> omega
          have hd2 := due_next (cl := cl) (st := st) (x := ord[i]) (xs := ord.drop (i + 1)) hs (by omega) (by rw [← List.drop_eq_getElem_cons hlt]; exact hcm.sublist (List.drop_sublist _ _))
          have hok2 := hok.2
          rw [List.drop_eq_getElem_cons hlt, livT]
          rw [e2] at hd2 hok2 ⊢
          refine ihJ (j + 1) (i + 1) k _ _ _ (by omega) (by omega) (by omega) (by rw [List.length_set]; exact htk) (by rw [List.length_set]; exact hu) (by rw [srt_len, List.length_set]; exact hfr) (srt_sorted _) (pm_set hp j (by omega) hb ha _) hd2 hok2 fun q hq1 hq2 => ?_
          rw [List.getElem_set]
          split
          · omega
          · exact hq q (by rw [List.length_set] at hq1; exact hq1) (by omega)
        · rw [if_neg hb, nx j (by omega)]
          refine ihJ (j + 1) i k tk u fr (by omega) hi (by omega) htk hu hfr hs hp hd hok fun q hq1 hq2 => ?_
          by_cases e : q = j
          · subst e; omega
          · exact hq q hq1 (by omega)
    exact hour m 0 i k tk u fr (by omega) hi (by omega) htk hu hfr hs hp hd hok (fun q _ hq => by omega)
def setF (tk : List Int) (t : Int × Int × Int) : List Int := tk.set t.1.toNat t.2.1
theorem rd_set (l : List Int) (i : Nat) (hi : i < l.length) (v x : Int) : rd (l.set i v) x = if x.toNat = i then v else rd l x := by
  unfold rd
  rw [List.getD_eq_getElem?_getD, List.getD_eq_getElem?_getD, List.getElem?_set]
  by_cases h : x.toNat = i
  · rw [if_pos h.symm, if_pos hi, if_pos h]; rfl
  · rw [if_neg (fun e => h e.symm), if_neg h]
theorem fold_other : ∀ (ts : List (Int × Int × Int)) (tk : List Int) (x : Int), 0 ≤ x → (∀ t ∈ ts, 0 ≤ t.1 ∧ t.1.toNat < tk.length ∧ t.1 ≠ x) → rd (ts.foldl setF tk) x = rd tk x
  | [], _, _, _, _ => rfl
  | t :: ts, tk, x, hx, h => by
    have ht := h t (by simp)
    rw [List.foldl_cons, fold_other ts _ x hx (fun s hs => by have := h s (by simp [hs]); simp only [setF, List.length_set]; exact this)]
    unfold setF
    rw [rd_set tk _ ht.2.1, if_neg (fun e => ht.2.2 (by omega))]
theorem fold_at : ∀ (ts : List (Int × Int × Int)) (tk : List Int), (ts.map (fun t => t.1)).Nodup → (∀ t ∈ ts, 0 ≤ t.1 ∧ t.1.toNat < tk.length) → ∀ t ∈ ts, rd (ts.foldl setF tk) t.1 = t.2.1
  | [], _, _, _, t, ht => by cases ht
  | s :: ts, tk, hn, h, t, ht => by
    rw [List.map_cons] at hn
    obtain ⟨n1, n2⟩ := List.nodup_cons.1 hn
    have hs := h s (by simp)
    rw [List.foldl_cons]
    rcases List.mem_cons.1 ht with rfl | ht
    · rw [fold_other ts _ t.1 hs.1 (fun u hu => by
        have := h u (by simp [hu])
        refine ⟨this.1, by simp only [setF, List.length_set]; exact this.2, fun e => n1 ?_⟩
        rw [← e]; exact List.mem_map_of_mem hu)]
      unfold setF
      rw [rd_set tk _ hs.2, if_pos rfl]
    · exact fold_at ts _ n2 (fun u hu => by have := h u (by simp [hu]); simp only [setF, List.length_set]; exact this) t ht
theorem livT_run {cl : List S67} {rk : List Int} (v : Valid cl rk) (b : Bool) : ∀ (xs fr tk : List Int) (M : Nat), (∀ x ∈ xs, 0 ≤ x ∧ x < (cl.length : Int)) → 200 ≤ M → M + 600 * xs.length ≤ 1000000 → (∀ y ∈ fr, 0 ≤ y ∧ y ≤ (M : Int)) → fr ≠ [] →
    livT cl (hoursOf cl b) tk fr xs = (runT (ofM b) cl fr xs).foldl setF tk
  | [], fr, tk, M, _, _, _, _, _ => rfl
  | x :: xs, [], tk, M, _, _, _, _, hne => absurd rfl hne
  | x :: xs, a :: r, tk, M, hin, hM, hM2, hb, _ => by
    have hx := hin x (by simp)
    have ok := cl_ok v x.toNat (by omega)
    rw [show ((x.toNat : Nat) : Int) = x by omega] at ok
    have ba := hb a (by simp)
    simp only [List.length_cons] at hM2
    have e1 : tkS cl (a :: r) x = takenT cl (a :: r) x := rfl
    have e2 : takenT cl (a :: r) x = mx (aA4 cl x).f1 a := rfl
    have m1 : 0 ≤ mx (aA4 cl x).f1 a ∧ mx (aA4 cl x).f1 a ≤ M := by unfold mx; split <;> omega
    have e3 := rd_hours cl b x hx.1 hx.2
    have m2 : 0 ≤ ofM b (aA4 cl x).f2.f0 (aA4 cl x).f2.f1 ∧ ofM b (aA4 cl x).f2.f0 (aA4 cl x).f2.f1 ≤ 600 := by unfold ofM; split <;> omega
    have e4 : doneT (ofM b) cl (a :: r) x = tkS cl (a :: r) x + rd (hoursOf cl b) x := by
      unfold doneT
      rw [e3, e1, e2, w64_of (by omega) (by omega)]
    rw [livT, runT, List.foldl_cons, ← e4]
    show livT cl (hoursOf cl b) (tk.set x.toNat (takenT cl (a :: r) x)) _ xs = _
    refine livT_run v b xs _ _ (M + 600) (fun y hy => hin y (by simp [hy])) (by omega) (by omega) (fun y hy => ?_) ?_
    · rcases List.mem_cons.1 ((srt_perm _).mem_iff.1 hy) with h | h
      · rw [h, e4, e1, e2, e3]; omega
      · have := hb y (by simp [h]); omega
    · intro h
      have := (srt_perm ((a :: r).set 0 (doneT (ofM b) cl (a :: r) x))).length_eq
      rw [h] at this
      simp at this
theorem ordA_came {cl : List S67} {rk : List Int} (v : Valid cl rk) : (ordA cl rk).Pairwise (fun a b => (aA4 cl a).f1 ≤ (aA4 cl b).f1) := by
  have h10 := v.c10
  refine (ordA_byKey cl rk).imp_of_mem fun {a b} ha hb h => ?_
  have a1 := ordA_in (cl := cl) (rk := rk) a ha
  have b1 := ordA_in (cl := cl) (rk := rk) b hb
  have ra := rank_bd v.perm v.r6 (aA4 cl a).f0
  have rb := rank_bd v.perm v.r6 (aA4 cl b).f0
  have ea := ear_le cl a.toNat
  have eb := ear_le cl b.toNat
  unfold key at h
  omega
def livA (b : Bool) (cl : List S67) (rk : List Int) (m : Nat) : List Int := (runT (ofM b) cl (List.replicate m 0) (ordA cl rk)).foldl setF (List.replicate cl.length 0)
theorem by_one (a : Int) (ha : 0 ≤ a ∧ a < 256) (i : Nat) (hi : i < 1000) : aC8.f [a] i = some a := by
  unfold aC8.f
  have e : Int.tmod (i : Int) 1 = 0 := by rw [Int.tmod_one]
  simp [e, rd, w64_of (show -9223372036854775808 ≤ a by omega) (by omega)]
theorem stays_l {cl : List S67} {rk : List Int} (v : Valid cl rk) (b : Bool) : ∀ (d i k : Nat) (out : List Int), i + d = cl.length → d < k → out.length = i → aA6.l0 k [if b = true then 255 else 0] out i cl rk = some (out ++ (hoursOf cl b).drop i)
  | 0, i, k, out, hd, hk, ho => by
    obtain ⟨k, rfl⟩ : ∃ q, k = q + 1 := ⟨k - 1, by omega⟩
    rw [aA6.l0, if_neg (by omega), List.drop_of_length_le (by simp [hoursOf]; omega), List.append_nil]
  | d + 1, i, k, out, hd, hk, ho => by
    obtain ⟨k, rfl⟩ : ∃ q, k = q + 1 := ⟨k - 1, by omega⟩
    have h10 := v.c10
    have hlt : i < cl.length := by omega
    have hlt2 : i < (hoursOf cl b).length := by simp [hoursOf]; omega
    have ok := v.ok _ (List.getElem_mem hlt)
    rw [aA6.l0, if_pos (by omega), if_pos (by omega), by_one _ (by split <;> omega) i (by omega), Option.bind_some, if_pos (by omega), rd67_at cl i hlt, nx i (by omega), List.drop_eq_getElem_cons hlt2]
    have e : (hoursOf cl b)[i] = if b = true then cl[i].f2.f1 else cl[i].f2.f0 := by simp [hoursOf]
    have e2 : wrap64 (cl[i].f2.f0 + wrap64 (Int.tdiv (wrap64 ((if b = true then 255 else 0) * wrap64 (cl[i].f2.f1 - cl[i].f2.f0))) 255)) = (hoursOf cl b)[i] := by
      rw [e, w64_of (n := cl[i].f2.f1 - cl[i].f2.f0) (by omega) (by omega)]
      cases b
      · simp only [Bool.false_eq_true, if_false, Int.zero_mul]
        rw [w64_of (n := 0) (by omega) (by omega), Int.zero_tdiv, w64_of (n := 0) (by omega) (by omega), w64_of (by omega) (by omega), Int.add_zero]
      · simp only [if_true]
        rw [w64_of (n := 255 * _) (by omega) (by omega), Int.mul_tdiv_cancel_left _ (by decide), w64_of (n := cl[i].f2.f1 - cl[i].f2.f0) (by omega) (by omega), w64_of (by omega) (by omega)]
        omega
    rw [e2, stays_l v b d (i + 1) k _ (by omega) (by omega) (by simp [ho])]
    simp
theorem stays_eq {cl : List S67} {rk : List Int} (v : Valid cl rk) (b : Bool) (k : Nat) (hk : 100 < k) : aA6.f k cl rk [if b = true then 255 else 0] = some (hoursOf cl b) := by
  have h10 := v.c10
  have := stays_l v b cl.length 0 k [] (by omega) (by omega) rfl
  unfold aA6.f
  simpa using this
def by4 (v : S126) : Prop := (0 ≤ v.f0 ∧ v.f0 < 256) ∧ (0 ≤ v.f1 ∧ v.f1 < 256) ∧ (0 ≤ v.f2 ∧ v.f2 < 256) ∧ 0 ≤ v.f3 ∧ v.f3 < 256
theorem rd126_at (l : List S126) (i : Nat) (h : i < l.length) : aA9 l (i : Int) = l[i] := by
  unfold aA9; simp [List.getD_eq_getElem?_getD, List.getElem?_eq_getElem h]
theorem tmod_bd (a n : Int) (ha : 0 ≤ a) (hn : 0 < n) : 0 ≤ Int.tmod a n ∧ Int.tmod a n < n := ⟨Int.tmod_nonneg _ ha, Int.tmod_lt_of_pos _ hn⟩
theorem swap_perm (l : List Int) (a b : Nat) (ha : a < l.length) (hb : b < l.length) : ((l.set a l[b]).set b l[a]).Perm l := by
  rw [List.perm_iff_count]
  intro x
  have hb' : b < (l.set a l[b]).length := by rw [List.length_set]; exact hb
  rw [List.count_set (h := hb'), List.count_set (h := ha)]
  have e : (l.set a l[b])[b] = l[b] := by rw [List.getElem_set]; split <;> rfl
  rw [e]
  have hc : 0 < l.count x ∨ l[a] ≠ x := by
    by_cases h : l[a] = x
    · left; rw [List.count_pos_iff, ← h]; exact List.getElem_mem ha
    · exact .inr h
  simp only [beq_iff_eq]
  split <;> split <;> omega
theorem md_l2 (n : Nat) (hn : 1 ≤ n) (hn2 : n ≤ 4) (ws : List S126) (hws : ∀ v ∈ ws, by4 v) (wv : Int) (sw rk : List Int) : ∀ (d i k : Nat) (cs : Int) (cl : List S67), i + d = 8 → 2 * d + 2 < k → cl.length = i → 0 ≤ cs → cs ≤ 20 * (i : Int) → (∀ c ∈ cl, clothOk n c = true) →
    ∃ cl', aA2.l2 k n cs i ws wv sw cl rk = some (cl', rk) ∧ cl'.length ≤ 8 ∧ ∀ c ∈ cl', clothOk n c = true
  | 0, i, k, cs, cl, hd, hk, hl, h0, h1, hok => by
    obtain ⟨k, rfl⟩ : ∃ q, k = q + 2 := ⟨k - 2, by omega⟩
    have e : aA2.l2 (k + 2) n cs i ws wv sw cl rk = aA2.j4 (k + 1) n cs i false ws wv sw cl rk := by
      rw [aA2.l2, decide_eq_false (show ¬ (i : Int) < 8 by omega)]
      split <;> rfl
    rw [e, aA2.j4, if_neg (by simp)]
    exact ⟨cl, rfl, by omega, hok⟩
  | d + 1, i, k, cs, cl, hd, hk, hl, h0, h1, hok => by
    obtain ⟨k, rfl⟩ : ∃ q, k = q + 2 := ⟨k - 2, by omega⟩
    rw [aA2.l2]
    by_cases hlt : i < ws.length
    case neg =>
      rw [if_neg (by omega), aA2.j4, if_neg (by simp)]
      exact ⟨cl, rfl, by omega, hok⟩
    obtain ⟨⟨b0, b0'⟩, ⟨b1, b1'⟩, ⟨b2, b2'⟩, b3, b3'⟩ := hws _ (List.getElem_mem hlt)
    have t0 := tmod_bd ws[i].f0 n b0 (by omega)
    have t1 := tmod_bd ws[i].f1 20 b1 (by omega)
    have t2 := tmod_bd ws[i].f2 15 b2 (by omega)
    have t3 := tmod_bd ws[i].f3 5 b3 (by omega)
    have c : ∀ cm : Int, 0 ≤ cm → cm ≤ 160 → clothOk n ⟨Int.tmod ws[i].f0 n, cm, ⟨1 + Int.tmod ws[i].f2 15, mn 20 (1 + Int.tmod ws[i].f2 15 + Int.tmod ws[i].f3 5)⟩⟩ = true := fun cm h2 h3 => by
      have hmn : mn 20 (1 + Int.tmod ws[i].f2 15 + Int.tmod ws[i].f3 5) ≤ 20 ∧ 1 + Int.tmod ws[i].f2 15 ≤ mn 20 (1 + Int.tmod ws[i].f2 15 + Int.tmod ws[i].f3 5) := by unfold mn; split <;> omega
      simp only [clothOk, isIn, Bool.and_eq_true, decide_eq_true_eq]
      omega
    rw [if_pos (by omega), decide_eq_true (show (i : Int) < 8 by omega), aA2.j4, if_pos rfl, if_pos (by omega), if_pos (by omega), rd126_at ws i hlt, w64_of (n := ws[i].f0) (by omega) (by omega), w64_of (n := ws[i].f1) (by omega) (by omega), w64_of (n := ws[i].f2) (by omega) (by omega), w64_of (n := ws[i].f3) (by omega) (by omega), w64_of (n := 1 + _) (by omega) (by omega), w64_of (n := 1 + _ + _) (by omega) (by omega), w64_of (n := cs + _) (by omega) (by omega), nx i (by omega)]
    simp only [aC5.f, Option.bind_some]
    have happ : ∀ cm : Int, 0 ≤ cm → cm ≤ 160 → ∀ x ∈ cl ++ [(⟨Int.tmod ws[i].f0 n, cm, ⟨1 + Int.tmod ws[i].f2 15, mn 20 (1 + Int.tmod ws[i].f2 15 + Int.tmod ws[i].f3 5)⟩⟩ : S67)], clothOk n x = true := fun cm h2 h3 x hx => by
      rcases List.mem_append.1 hx with h | h
      · exact hok x h
      · rw [List.mem_singleton.1 h]; exact c cm h2 h3
    by_cases h3 : Int.tmod ws[i].f1 3 = 0
    · rw [if_pos h3, if_neg (by omega), if_pos (by omega)]
      exact md_l2 n hn hn2 ws hws wv sw rk d (i + 1) k _ _ (by omega) (by omega) (by simp [hl]) (by omega) (by omega) (happ _ (by omega) (by omega))
    · rw [if_neg h3, if_neg (by omega), if_pos (by omega)]
      exact md_l2 n hn hn2 ws hws wv sw rk d (i + 1) k _ _ (by omega) (by omega) (by simp [hl]) (by omega) (by omega) (happ _ (by omega) (by omega))
theorem md_l1 (n : Nat) (hn : 1 ≤ n) (hn2 : n ≤ 4) (ws : List S126) (hws : ∀ v ∈ ws, by4 v) (wv : Int) (sw : List Int) (hsw : ∀ x ∈ sw, 0 ≤ x ∧ x < 256) : ∀ (d i k : Nat) (rk : List Int), i + d = 4 → 2 * d + 31 < k → rk.Perm (rng n) →
    ∃ cl' rk', aA2.l1 k n 0 i ws wv sw rk = some (cl', rk') ∧ rk'.Perm (rng n) ∧ cl'.length ≤ 8 ∧ ∀ c ∈ cl', clothOk n c = true := by
  have fin : ∀ (i k : Nat) (rk : List Int), 30 < k → rk.Perm (rng n) → ∃ cl' rk', aA2.j2 k n 0 i false ws wv sw rk = some (cl', rk') ∧ rk'.Perm (rng n) ∧ cl'.length ≤ 8 ∧ ∀ c ∈ cl', clothOk n c = true := fun i k rk hk hp => by
    obtain ⟨k, rfl⟩ : ∃ q, k = q + 1 := ⟨k - 1, by omega⟩
    rw [aA2.j2, if_neg (by simp)]
    obtain ⟨cl', e, h1, h2⟩ := md_l2 n hn hn2 ws hws wv sw rk 8 0 k 0 [] (by omega) (by omega) rfl (by omega) (by omega) (fun c hc => by cases hc)
    exact ⟨cl', rk, e, hp, h1, h2⟩
  intro d
  induction d with
  | zero =>
    intro i k rk hd hk hp
    obtain ⟨k, rfl⟩ : ∃ q, k = q + 1 := ⟨k - 1, by omega⟩
    have e : aA2.l1 (k + 1) n 0 i ws wv sw rk = aA2.j2 k n 0 i false ws wv sw rk := by
      rw [aA2.l1, decide_eq_false (show ¬ (i : Int) < 4 by omega)]
      split <;> rfl
    rw [e]
    exact fin i k rk (by omega) hp
  | succ d ih =>
    intro i k rk hd hk hp
    obtain ⟨k, rfl⟩ : ∃ q, k = q + 2 := ⟨k - 2, by omega⟩
    rw [aA2.l1]
    by_cases hlt : i < sw.length
    case neg => rw [if_neg (by omega)]; exact fin i (k + 1) rk (by omega) hp
    have hrl : rk.length = n := by rw [hp.length_eq, rng_length]
    have hb := hsw _ (List.getElem_mem hlt)
    have t1 := tmod_bd (i : Int) n (by omega) (by omega)
    have t2 := tmod_bd sw[i] n hb.1 (by omega)
    have a1 : (Int.tmod (i : Int) n).toNat < rk.length := by omega
    have a2 : (Int.tmod sw[i] n).toNat < rk.length := by omega
    have r1 := rd_at rk _ a1
    have r2 := rd_at rk _ a2
    rw [show (((Int.tmod (i : Int) n).toNat : Nat) : Int) = Int.tmod (i : Int) n by omega] at r1
    rw [show (((Int.tmod sw[i] n).toNat : Nat) : Int) = Int.tmod sw[i] n by omega] at r2
    rw [if_pos (by omega), decide_eq_true (show (i : Int) < 4 by omega), aA2.j2, if_pos rfl, if_neg (by omega), if_pos (by omega), if_pos (by omega), if_pos t1.1, if_pos (by omega), rd_at sw i hlt, w64_of (n := sw[i]) (by omega) (by omega), if_pos t2.1, if_pos (by omega), r1, r2, nx i (by omega)]
    exact ih (i + 1) k _ (by omega) (by omega) ((swap_perm rk _ _ a1 a2).trans hp)
theorem md_l0 (n : Nat) (hn : 1 ≤ n) (hn2 : n ≤ 4) (ws : List S126) (hws : ∀ v ∈ ws, by4 v) (wv : Int) (sw : List Int) (hsw : ∀ x ∈ sw, 0 ≤ x ∧ x < 256) : ∀ (d i k : Nat), i + d = n → d + 50 < k →
    ∃ cl' rk', aA2.l0 k n 0 i ws wv sw (rng i) = some (cl', rk') ∧ rk'.Perm (rng n) ∧ cl'.length ≤ 8 ∧ ∀ c ∈ cl', clothOk n c = true
  | 0, i, k, hd, hk => by
    obtain ⟨k, rfl⟩ : ∃ q, k = q + 1 := ⟨k - 1, by omega⟩
    rw [aA2.l0, if_neg (by omega), show i = n by omega]
    exact md_l1 n hn hn2 ws hws wv sw hsw 4 0 k (rng n) (by omega) (by omega) (List.Perm.refl _)
  | d + 1, i, k, hd, hk => by
    obtain ⟨k, rfl⟩ : ∃ q, k = q + 1 := ⟨k - 1, by omega⟩
    rw [aA2.l0, if_pos (by omega), if_pos (by rw [rng_length]; omega), nx i (by omega), ← rng_succ]
    exact md_l0 n hn hn2 ws hws wv sw hsw d (i + 1) k (by omega) (by omega)
theorem day_ok (ws : List S126) (hws : ∀ v ∈ ws, by4 v) (wv : Int) (hwv : 0 ≤ wv ∧ wv < 256) (sw : List Int) (hsw : ∀ x ∈ sw, 0 ≤ x ∧ x < 256) (k : Nat) (hk : 100 < k) : ∃ cl rk, aA2.f k ws wv sw = some (cl, rk) ∧ chk cl rk = 0 ∧ cl.length ≤ 8 := by
  have t := tmod_bd wv 4 hwv.1 (by omega)
  obtain ⟨n, hn⟩ : ∃ n : Nat, 1 + Int.tmod wv 4 = n := ⟨(1 + Int.tmod wv 4).toNat, by omega⟩
  obtain ⟨cl, rk, e, h1, h2, h3⟩ := md_l0 n (by omega) (by omega) ws hws wv sw hsw n 0 k (by omega) (by omega)
  refine ⟨cl, rk, ?_, ?_, h2⟩
  · unfold aA2.f
    rw [w64_of (n := wv) (by omega) (by omega), w64_of (n := 1 + _) (by omega) (by omega), hn]
    exact e
  · have hl : rk.length = n := by rw [h1.length_eq, rng_length]
    unfold chk
    rw [if_neg (by rw [hl]; simp only [isIn, h1, decide_true, Bool.and_true, Bool.not_eq_false, Bool.and_eq_true, decide_eq_true_eq]; omega), if_neg (by omega), if_pos]
    rw [List.all_eq_true, hl]
    exact fun c hc => h3 c hc
theorem livT_len (cl : List S67) (st : List Int) : ∀ (xs fr tk : List Int), (livT cl st tk fr xs).length = tk.length
  | [], _, _ => rfl
  | x :: xs, fr, tk => by rw [livT, livT_len cl st xs, List.length_set]
theorem rd_set_le {tk tk' : List Int} (hl : tk.length = tk'.length) (h : ∀ y, rd tk y ≤ rd tk' y) (i : Nat) (v v' : Int) (hv : v ≤ v') (y : Int) : rd (tk.set i v) y ≤ rd (tk'.set i v') y := by
  rcases Nat.lt_or_ge i tk.length with hi | hi
  · rw [rd_set tk i hi, rd_set tk' i (by omega)]
    split
    · exact hv
    · exact h y
  · rw [List.set_eq_of_length_le hi, List.set_eq_of_length_le (by omega)]; exact h y
theorem livT_mono {cl : List S67} {st st' : List Int} (h : ∀ x, rd st x ≤ rd st' x) : ∀ (xs fr fr' tk tk' : List Int), tk.length = tk'.length → (∀ y, rd tk y ≤ rd tk' y) → fr.Pairwise (fun a b => a ≤ b) → fr'.Pairwise (fun a b => a ≤ b) → Le2 fr fr' → ∀ y, rd (livT cl st tk fr xs) y ≤ rd (livT cl st' tk' fr' xs) y
  | [], _, _, _, _, _, ht, _, _, _ => ht
  | x :: xs, [], [], tk, tk', hl, ht, hs, hs', hle => by
    rw [livT, livT]
    have z : ∀ a : Int, srt (([] : List Int).set 0 a) = [] := fun a => List.length_eq_zero_iff.1 (srt_perm _).length_eq
    rw [z, z]
    exact livT_mono h xs [] [] _ _ (by simp [hl]) (rd_set_le hl ht _ _ _ (Int.le_refl _)) List.Pairwise.nil List.Pairwise.nil trivial
  | x :: xs, [], b :: s, _, _, _, _, _, _, hle => hle.elim
  | x :: xs, a :: r, [], _, _, _, _, _, _, hle => hle.elim
  | x :: xs, a :: r, b :: s, tk, tk', hl, ht, hs, hs', ⟨hab, hrs⟩ => by
    rw [livT, livT]
    have s2 := (List.pairwise_cons.1 hs).2
    have s2' := (List.pairwise_cons.1 hs').2
    have e1 : tkS cl (a :: r) x = mx (aA4 cl x).f1 a := rfl
    have e2 : tkS cl (b :: s) x = mx (aA4 cl x).f1 b := rfl
    have hm : tkS cl (a :: r) x ≤ tkS cl (b :: s) x := by rw [e1, e2]; unfold mx; split <;> split <;> omega
    have q1 : (a :: r).set 0 (tkS cl (a :: r) x + rd st x) = (tkS cl (a :: r) x + rd st x) :: r := rfl
    have q2 : (b :: s).set 0 (tkS cl (b :: s) x + rd st' x) = (tkS cl (b :: s) x + rd st' x) :: s := rfl
    rw [q1, q2, srt_cons _ _ s2, srt_cons _ _ s2']
    have hx := h x
    exact livT_mono h xs _ _ _ _ (by simp [hl]) (rd_set_le hl ht _ _ _ hm) (inz_sorted _ _ s2) (inz_sorted _ _ s2') (inz_le2 _ _ _ _ (by omega) s2 s2' hrs)
theorem okS_gen {cl : List S67} {rk : List Int} (v : Valid cl rk) (st : List Int) (hst : ∀ x, 0 ≤ x → x < (cl.length : Int) → 0 ≤ rd st x ∧ rd st x ≤ 20) : ∀ (xs fr : List Int) (M : Nat), (∀ x ∈ xs, 0 ≤ x ∧ x < (cl.length : Int)) → 200 ≤ M → M + 20 * xs.length ≤ 999 → (∀ y ∈ fr, 0 ≤ y ∧ y ≤ (M : Int)) → fr ≠ [] → okS cl st fr xs
  | [], _, _, _, _, _, _, _ => trivial
  | x :: xs, [], _, _, _, _, _, hne => absurd rfl hne
  | x :: xs, a :: r, M, hin, hM, hM2, hb, _ => by
    have hx := hin x (by simp)
    have ok := cl_ok v x.toNat (by omega)
    rw [show ((x.toNat : Nat) : Int) = x by omega] at ok
    have ba := hb a (by simp)
    simp only [List.length_cons] at hM2
    have e1 : tkS cl (a :: r) x = mx (aA4 cl x).f1 a := rfl
    have m1 : 0 ≤ mx (aA4 cl x).f1 a ∧ mx (aA4 cl x).f1 a ≤ M := by unfold mx; split <;> omega
    have m2 := hst x hx.1 hx.2
    refine ⟨by rw [e1]; omega, okS_gen v st hst xs _ (M + 20) (fun y hy => hin y (by simp [hy])) (by omega) (by omega) (fun y hy => ?_) ?_⟩
    · rcases List.mem_cons.1 ((srt_perm _).mem_iff.1 hy) with h | h
      · rw [h, e1]; omega
      · have := hb y (by simp [h]); omega
    · intro h
      have := (srt_perm ((a :: r).set 0 (tkS cl (a :: r) x + rd st x))).length_eq
      rw [h] at this
      simp at this
def livG (cl : List S67) (rk st : List Int) (m : Nat) : List Int := livT cl st (List.replicate cl.length 0) (List.replicate m 0) (ordA cl rk)
theorem livG_len (cl : List S67) (rk st : List Int) (m : Nat) : (livG cl rk st m).length = cl.length := by unfold livG; rw [livT_len, List.length_replicate]
theorem livG_run {cl : List S67} {rk : List Int} (v : Valid cl rk) (b : Bool) (m : Nat) (hm : 1 ≤ m) : livG cl rk (hoursOf cl b) m = livA b cl rk m := by
  have h10 := v.c10
  have hol := ordA_len cl rk
  unfold livG livA
  exact livT_run v b (ordA cl rk) (List.replicate m 0) (List.replicate cl.length 0) 200 ordA_in (by omega) (by omega) (fun y hy => by rw [List.eq_of_mem_replicate hy]; omega) (by intro e; have := congrArg List.length e; simp at this; omega)
theorem livG_mono (cl : List S67) (rk : List Int) {st st' : List Int} (h : ∀ x, rd st x ≤ rd st' x) (m : Nat) (y : Int) : rd (livG cl rk st m) y ≤ rd (livG cl rk st' m) y :=
  livT_mono h _ _ _ _ _ rfl (fun _ => Int.le_refl _) (List.pairwise_replicate.2 (.inr (Int.le_refl _))) (List.pairwise_replicate.2 (.inr (Int.le_refl _))) (Le2.refl _) y
theorem livedG_eq {cl : List S67} {rk : List Int} (v : Valid cl rk) (st : List Int) (hsl : st.length = cl.length) (hst : ∀ x, 0 ≤ x → x < (cl.length : Int) → 1 ≤ rd st x ∧ rd st x ≤ 20) (m : Nat) (hm : 1 ≤ m) (hm2 : m ≤ 12) (k : Nat) (hk : 40000 < k) : aA3.f k cl rk (ordA cl rk) m st = some (livG cl rk st m) := by
  have h10 := v.c10
  have hol := ordA_len cl rk
  have hne : List.replicate m (0 : Int) ≠ [] := by intro e; have := congrArg List.length e; simp at this; omega
  have hz : ∀ y ∈ List.replicate m (0 : Int), 0 ≤ y ∧ y ≤ ((200 : Nat) : Int) := fun y hy => by rw [List.eq_of_mem_replicate hy]; omega
  unfold aA3.f
  rw [if_pos (by omega), if_pos (by omega), if_pos (by omega), if_pos (by omega), Int.toNat_natCast, Int.toNat_natCast]
  have hmul : 1000 * (2 * m + 6) ≤ 1000 * 30 := Nat.mul_le_mul_left _ (by omega)
  have hsrt : (List.replicate m (0 : Int)).Pairwise (fun a b => a ≤ b) := List.pairwise_replicate.2 (.inr (Int.le_refl _))
  have := lived_l rk (ordA cl rk) st m hm (by omega) (by omega) ordA_in hsl (fun x hx => by
      have hx2 := ordA_in (cl := cl) (rk := rk) x hx
      have := hst x hx2.1 hx2.2
      omega) (ordA_came v) 1000 0 0 k (List.replicate cl.length 0) (List.replicate m 0) (List.replicate m 0) (by omega) (by omega) (by omega) (by simp) (by simp) (by simp) hsrt (List.Perm.refl _)
      (by
        cases h : (ordA cl rk).drop 0 with
        | nil => trivial
        | cons x xs =>
          have hx2 := ordA_in (cl := cl) (rk := rk) x (by rw [List.drop_zero] at h; rw [h]; simp)
          have ok := cl_ok v x.toNat (by omega)
          rw [show ((x.toNat : Nat) : Int) = x by omega] at ok
          show ((0 : Nat) : Int) ≤ mx _ _
          unfold mx; split <;> omega)
      (by rw [List.drop_zero]; exact okS_gen v st (fun x h1 h2 => by have := hst x h1 h2; omega) (ordA cl rk) (List.replicate m 0) 200 ordA_in (by omega) (by omega) hz hne)
  rw [List.drop_zero] at this
  exact this
theorem mx_le (a b B : Int) : mx a b ≤ B ↔ a ≤ B ∧ b ≤ B := by unfold mx; split <;> omega
theorem mxl_le : ∀ (l : List Int) (z B : Int), l.foldl mx z ≤ B ↔ z ≤ B ∧ ∀ x ∈ l, x ≤ B
  | [], z, B => by simp
  | a :: l, z, B => by
    rw [List.foldl_cons, mxl_le l, mx_le]
    simp only [List.mem_cons, forall_eq_or_imp]
    exact ⟨fun h => ⟨h.1.1, h.1.2, h.2⟩, fun h => ⟨⟨h.1, h.2.1⟩, h.2.2⟩⟩
theorem mxl_mono (l l' : List Int) (h : ∀ x ∈ l, ∃ y ∈ l', x ≤ y) : l.foldl mx 0 ≤ l'.foldl mx 0 := by
  rw [mxl_le]
  have := (mxl_le l' 0 (l'.foldl mx 0)).1 (Int.le_refl _)
  exact ⟨this.1, fun x hx => by obtain ⟨y, hy, hle⟩ := h x hx; have := this.2 y hy; omega⟩
def lastG (tk st : List Int) (n : Nat) : Int := ((rng n).map fun x => rd tk x + rd st x).foldl mx 0
theorem lastG_mono {tk tk' st st' : List Int} (n : Nat) (h : ∀ x, rd tk x ≤ rd tk' x) (h2 : ∀ x, rd st x ≤ rd st' x) : lastG tk st n ≤ lastG tk' st' n := by
  refine mxl_mono _ _ fun x hx => ?_
  obtain ⟨a, ha, rfl⟩ := List.mem_map.1 hx
  have := h a
  have := h2 a
  exact ⟨_, List.mem_map_of_mem ha, by omega⟩
theorem livA_at {cl : List S67} {rk : List Int} (b : Bool) (m : Nat) : ∀ t ∈ runT (ofM b) cl (List.replicate m 0) (ordA cl rk), rd (livA b cl rk m) t.1 = t.2.1 := by
  have hr := runT_fst (ofM b) cl (ordA cl rk) (List.replicate m 0)
  refine fold_at _ _ (by rw [hr]; exact ordA_nodup cl rk) fun t ht => ?_
  have := ordA_in (cl := cl) (rk := rk) t.1 (runT_in _ _ _ _ t ht)
  rw [List.length_replicate]
  omega
theorem run_bd {cl : List S67} {rk : List Int} (v : Valid cl rk) (b : Bool) : ∀ (xs fr : List Int) (M : Nat), (∀ x ∈ xs, 0 ≤ x ∧ x < (cl.length : Int)) → 200 ≤ M → M + 600 * xs.length ≤ 1000000 → (∀ y ∈ fr, 0 ≤ y ∧ y ≤ (M : Int)) → fr ≠ [] → ∀ t ∈ runT (ofM b) cl fr xs, 0 ≤ t.2.1 ∧ t.2.1 ≤ 1000000 ∧ (aA4 cl t.1).f1 ≤ t.2.1
  | [], _, _, _, _, _, _, _ => fun t ht => by cases ht
  | x :: xs, [], _, _, _, _, _, hne => absurd rfl hne
  | x :: xs, a :: r, M, hin, hM, hM2, hb, _ => fun t ht => by
    have hx := hin x (by simp)
    have ok := cl_ok v x.toNat (by omega)
    rw [show ((x.toNat : Nat) : Int) = x by omega] at ok
    have ba := hb a (by simp)
    simp only [List.length_cons] at hM2
    have e2 : takenT cl (a :: r) x = mx (aA4 cl x).f1 a := rfl
    have m1 : 0 ≤ mx (aA4 cl x).f1 a ∧ mx (aA4 cl x).f1 a ≤ M ∧ (aA4 cl x).f1 ≤ mx (aA4 cl x).f1 a := by unfold mx; split <;> omega
    have m2 : 0 ≤ ofM b (aA4 cl x).f2.f0 (aA4 cl x).f2.f1 ∧ ofM b (aA4 cl x).f2.f0 (aA4 cl x).f2.f1 ≤ 600 := by unfold ofM; split <;> omega
    rw [runT] at ht
    rcases List.mem_cons.1 ht with rfl | ht
    · rw [show (x, takenT cl (a :: r) x, doneT (ofM b) cl (a :: r) x).2.1 = takenT cl (a :: r) x from rfl, e2]
      show _ ∧ _ ∧ (aA4 cl x).f1 ≤ _
      omega
    · refine run_bd v b xs _ (M + 600) (fun y hy => hin y (by simp [hy])) (by omega) (by omega) (fun y hy => ?_) ?_ t ht
      · rcases List.mem_cons.1 ((srt_perm _).mem_iff.1 hy) with h | h
        · rw [h]; unfold doneT; rw [e2, w64_of (by omega) (by omega)]; omega
        · have := hb y (by simp [h]); omega
      · intro h
        have := (srt_perm ((a :: r).set 0 (doneT (ofM b) cl (a :: r) x))).length_eq
        rw [h] at this
        simp at this
theorem run_bd0 {cl : List S67} {rk : List Int} (v : Valid cl rk) (b : Bool) (m : Nat) (hm : 1 ≤ m) : ∀ t ∈ runT (ofM b) cl (List.replicate m 0) (ordA cl rk), 0 ≤ t.2.1 ∧ t.2.1 ≤ 1000000 ∧ (aA4 cl t.1).f1 ≤ t.2.1 := by
  have h10 := v.c10
  have hol := ordA_len cl rk
  exact run_bd v b (ordA cl rk) (List.replicate m 0) 200 ordA_in (by omega) (by omega) (fun y hy => by rw [List.eq_of_mem_replicate hy]; omega) (by intro e; have := congrArg List.length e; simp at this; omega)
theorem run_of {cl : List S67} {rk : List Int} (b : Bool) (m : Nat) (x : Int) (h0 : 0 ≤ x) (h1 : x < (cl.length : Int)) : ∃ t ∈ runT (ofM b) cl (List.replicate m 0) (ordA cl rk), t.1 = x := by
  have hx : x ∈ ordA cl rk := (ordA_perm cl rk).mem_iff.2 (by rw [mem_rng]; exact ⟨h0, h1⟩)
  rw [← runT_fst (ofM b) cl (ordA cl rk) (List.replicate m 0)] at hx
  obtain ⟨t, ht, e⟩ := List.mem_map.1 hx
  exact ⟨t, ht, e⟩
theorem livA_bd {cl : List S67} {rk : List Int} (v : Valid cl rk) (b : Bool) (m : Nat) (hm : 1 ≤ m) (x : Int) (h0 : 0 ≤ x) (h1 : x < (cl.length : Int)) : 0 ≤ rd (livA b cl rk m) x ∧ rd (livA b cl rk m) x ≤ 1000000 ∧ (aA4 cl x).f1 ≤ rd (livA b cl rk m) x := by
  obtain ⟨t, ht, rfl⟩ := run_of (cl := cl) (rk := rk) b m x h0 h1
  rw [livA_at b m t ht]
  exact run_bd0 v b m hm t ht
theorem endA_eq {cl : List S67} {rk : List Int} (v : Valid cl rk) (b : Bool) (m : Nat) (hm : 1 ≤ m) : endA (ofM b) cl rk m = lastG (livA b cl rk m) (hoursOf cl b) cl.length := by
  have e1 : endA (ofM b) cl rk m = ((runT (ofM b) cl (List.replicate m 0) (ordA cl rk)).map fun t => t.2.2).foldl mx 0 := by
    unfold endA; rw [List.foldl_map]; rfl
  have dn : ∀ t ∈ runT (ofM b) cl (List.replicate m 0) (ordA cl rk), t.2.2 = rd (livA b cl rk m) t.1 + rd (hoursOf cl b) t.1 ∧ 0 ≤ t.1 ∧ t.1 < (cl.length : Int) := fun t ht => by
    have hx := ordA_in (cl := cl) (rk := rk) t.1 (runT_in _ _ _ _ t ht)
    have ok := cl_ok v t.1.toNat (by omega)
    rw [show ((t.1.toNat : Nat) : Int) = t.1 by omega] at ok
    have bd := run_bd0 v b m hm t ht
    have m2 : 0 ≤ ofM b (aA4 cl t.1).f2.f0 (aA4 cl t.1).f2.f1 ∧ ofM b (aA4 cl t.1).f2.f0 (aA4 cl t.1).f2.f1 ≤ 600 := by unfold ofM; split <;> omega
    rw [runT_done _ _ _ _ t ht, livA_at b m t ht, rd_hours cl b _ hx.1 hx.2, w64_of (by omega) (by omega)]
    exact ⟨rfl, hx⟩
  rw [e1]
  unfold lastG
  refine Int.le_antisymm (mxl_mono _ _ fun y hy => ?_) (mxl_mono _ _ fun y hy => ?_)
  · obtain ⟨t, ht, rfl⟩ := List.mem_map.1 hy
    obtain ⟨h1, h2⟩ := dn t ht
    exact ⟨_, List.mem_map_of_mem (f := fun x => rd (livA b cl rk m) x + rd (hoursOf cl b) x) ((mem_rng).2 h2), by omega⟩
  · obtain ⟨x, hx, rfl⟩ := List.mem_map.1 hy
    have hx := (mem_rng).1 hx
    obtain ⟨t, ht, rfl⟩ := run_of (cl := cl) (rk := rk) b m x hx.1 hx.2
    have h1 := (dn t ht).1
    exact ⟨_, List.mem_map_of_mem (f := fun t => t.2.2) ht, by omega⟩
theorem worst_ge : ∀ (ws : List (Int × Int)) (z : Int × Int), z.2 ≤ (ws.foldl worstW z).2 ∧ ∀ t ∈ ws, t.2 ≤ (ws.foldl worstW z).2
  | [], z => ⟨Int.le_refl _, fun t ht => by cases ht⟩
  | a :: ws, z => by
    rw [List.foldl_cons]
    obtain ⟨h1, h2⟩ := worst_ge ws (worstW z a)
    have h3 : z.2 ≤ (worstW z a).2 ∧ a.2 ≤ (worstW z a).2 := by unfold worstW; split <;> omega
    refine ⟨by omega, fun t ht => ?_⟩
    rcases List.mem_cons.1 ht with rfl | ht
    · omega
    · exact h2 t ht
theorem worst_mem : ∀ (ws : List (Int × Int)) (z : Int × Int), ws.foldl worstW z = z ∨ ws.foldl worstW z ∈ ws
  | [], z => .inl rfl
  | a :: ws, z => by
    rw [List.foldl_cons]
    rcases worst_mem ws (worstW z a) with h | h
    · rw [h]
      unfold worstW
      split
      · exact .inr (by simp)
      · exact .inl rfl
    · exact .inr (List.mem_cons_of_mem _ h)
theorem wait_at {cl : List S67} {rk : List Int} (v : Valid cl rk) (m : Nat) (hm : 1 ≤ m) : ∀ t ∈ waitsL cl (ordA cl rk) m, t.2 = rd (livA true cl rk m) t.1 - (aA4 cl t.1).f1 ∧ 0 ≤ t.1 ∧ t.1 < (cl.length : Int) := fun t ht => by
  unfold waitsL at ht
  rw [Int.toNat_natCast, ← ofM_true] at ht
  obtain ⟨u, hu, rfl⟩ := List.mem_map.1 ht
  have hx := ordA_in (cl := cl) (rk := rk) u.1 (runT_in _ _ _ _ u hu)
  have ok := cl_ok v u.1.toNat (by omega)
  rw [show ((u.1.toNat : Nat) : Int) = u.1 by omega] at ok
  have bd := run_bd0 v true m hm u hu
  refine ⟨?_, hx⟩
  show wrap64 (u.2.1 - (aA4 cl u.1).f1) = rd (livA true cl rk m) u.1 - (aA4 cl u.1).f1
  rw [livA_at true m u hu, w64_of (by omega) (by omega)]
theorem woA_ge {cl : List S67} {rk : List Int} (v : Valid cl rk) (m : Nat) (hm : 1 ≤ m) (x : Int) (h0 : 0 ≤ x) (h1 : x < (cl.length : Int)) : rd (livA true cl rk m) x - (aA4 cl x).f1 ≤ (woA cl rk m).2 := by
  obtain ⟨t, ht, rfl⟩ := run_of (cl := cl) (rk := rk) true m x h0 h1
  rw [ofM_true] at ht
  have hw : waitT cl t ∈ waitsL cl (ordA cl rk) m := by
    unfold waitsL
    rw [Int.toNat_natCast]
    exact List.mem_map_of_mem ht
  have e := (wait_at v m hm _ hw).1
  have := (worst_ge (waitsL cl (ordA cl rk) m) (0, -1)).2 _ hw
  have e2 : (waitT cl t).1 = t.1 := rfl
  rw [e2] at e
  unfold woA
  omega
theorem woA_at {cl : List S67} {rk : List Int} (v : Valid cl rk) (m : Nat) (hm : 1 ≤ m) (hne : 0 < cl.length) : (woA cl rk m).2 = rd (livA true cl rk m) (woA cl rk m).1 - (aA4 cl (woA cl rk m).1).f1 ∧ 0 ≤ (woA cl rk m).1 ∧ (woA cl rk m).1 < (cl.length : Int) := by
  rcases worst_mem (waitsL cl (ordA cl rk) m) (0, -1) with h | h
  · have h2 := livA_bd v true m hm 0 (by omega) (by omega)
    have h3 := woA_ge v m hm 0 (by omega) (by omega)
    unfold woA at h3
    rw [h] at h3
    omega
  · exact wait_at v m hm _ h
theorem rd_f0 (l : List S42) (x : Int) : rd (l.map fun s => s.f0) x = (aA8 l x).f0 := by
  unfold rd aA8
  rw [List.getD_eq_getElem?_getD, List.getD_eq_getElem?_getD, List.getElem?_map]
  cases l[x.toNat]? <;> rfl
theorem rd_f1 (l : List S42) (x : Int) : rd (l.map fun s => s.f1) x = (aA8 l x).f1 := by
  unfold rd aA8
  rw [List.getD_eq_getElem?_getD, List.getD_eq_getElem?_getD, List.getElem?_map]
  cases l[x.toNat]? <;> rfl
theorem lows_f0 : ∀ (ts : List (Int × Int × Int)) (l : List S42), (lows_ l ts).map (fun s => s.f0) = ts.foldl setF (l.map fun s => s.f0)
  | [], _ => rfl
  | t :: ts, l => by
    show (lows_ (lows_1 l t) ts).map (fun s => s.f0) = ts.foldl setF (setF (l.map fun s => s.f0) t)
    rw [lows_f0 ts]
    unfold lows_1 setF
    rw [List.map_set]
theorem highs_f1 : ∀ (ts : List (Int × Int × Int)) (l : List S42), (highs_ l ts).map (fun s => s.f1) = ts.foldl setF (l.map fun s => s.f1)
  | [], _ => rfl
  | t :: ts, l => by
    show (highs_ (highs_1 l t) ts).map (fun s => s.f1) = ts.foldl setF (setF (l.map fun s => s.f1) t)
    rw [highs_f1 ts]
    unfold highs_1 setF
    rw [List.map_set]
theorem set_same (l : List Int) (i : Nat) (v : Int) (h : ∀ hi : i < l.length, l[i] = v) : l.set i v = l := by
  refine List.ext_getElem (by simp) fun j h1 h2 => ?_
  rw [List.getElem_set]
  split
  · rename_i e; subst e; exact (h h2).symm
  · rfl
theorem rd42_at (l : List S42) (x : Int) (h0 : 0 ≤ x) (h : x.toNat < l.length) : aA8 l x = l[x.toNat] := by
  unfold aA8; simp [List.getD_eq_getElem?_getD, List.getElem?_eq_getElem h]
theorem lows_f1 : ∀ (ts : List (Int × Int × Int)) (l : List S42), (∀ t ∈ ts, 0 ≤ t.1) → (lows_ l ts).map (fun s => s.f1) = l.map fun s => s.f1
  | [], _, _ => rfl
  | t :: ts, l, h => by
    show (lows_ (lows_1 l t) ts).map (fun s => s.f1) = _
    rw [lows_f1 ts _ (fun s hs => h s (by simp [hs]))]
    unfold lows_1
    rw [List.map_set]
    refine set_same _ _ _ fun hi => ?_
    rw [List.length_map] at hi
    rw [List.getElem_map, rd42_at l t.1 (h t (by simp)) hi]
theorem highs_f0 : ∀ (ts : List (Int × Int × Int)) (l : List S42), (∀ t ∈ ts, 0 ≤ t.1) → (highs_ l ts).map (fun s => s.f0) = l.map fun s => s.f0
  | [], _, _ => rfl
  | t :: ts, l, h => by
    show (highs_ (highs_1 l t) ts).map (fun s => s.f0) = _
    rw [highs_f0 ts _ (fun s hs => h s (by simp [hs]))]
    unfold highs_1
    rw [List.map_set]
    refine set_same _ _ _ fun hi => ?_
    rw [List.length_map] at hi
    rw [List.getElem_map, rd42_at l t.1 (h t (by simp)) hi]
theorem stA_f0 (cl : List S67) (rk : List Int) (m : Nat) (x : Int) : (aA8 (stA cl rk m) x).f0 = rd (livA false cl rk m) x := by
  have h : ∀ of, ∀ t ∈ runT of cl (List.replicate m 0) (ordA cl rk), 0 ≤ t.1 := fun of t ht => (ordA_in (cl := cl) (rk := rk) t.1 (runT_in _ _ _ _ t ht)).1
  rw [← rd_f0]
  unfold stA livA
  rw [highs_f0 _ _ (h _), lows_f0, List.map_replicate, ofM_false]
  rfl
theorem stA_f1 (cl : List S67) (rk : List Int) (m : Nat) (x : Int) : (aA8 (stA cl rk m) x).f1 = rd (livA true cl rk m) x := by
  have h : ∀ of, ∀ t ∈ runT of cl (List.replicate m 0) (ordA cl rk), 0 ≤ t.1 := fun of t ht => (ordA_in (cl := cl) (rk := rk) t.1 (runT_in _ _ _ _ t ht)).1
  rw [← rd_f1]
  unfold stA livA
  rw [highs_f1, lows_f1 _ _ (h _), List.map_replicate, ofM_true]
  rfl
theorem by_gen (l : List Int) (hl : ∀ a ∈ l, 0 ≤ a ∧ a < 256) (i : Nat) : ∃ a, aC8.f l i = some a ∧ 0 ≤ a ∧ a ≤ 255 := by
  unfold aC8.f
  by_cases h : l.length = 0
  · exact ⟨0, by rw [if_pos (by omega)], by omega, by omega⟩
  have t := tmod_bd (i : Int) l.length (by omega) (by omega)
  have hlt : (Int.tmod (i : Int) l.length).toNat < l.length := by omega
  have e := rd_at l _ hlt
  rw [show (((Int.tmod (i : Int) (l.length : Int)).toNat : Nat) : Int) = Int.tmod (i : Int) (l.length : Int) by omega] at e
  have b := hl _ (List.getElem_mem hlt)
  refine ⟨l[(Int.tmod (i : Int) (l.length : Int)).toNat], ?_, by omega, by omega⟩
  rw [if_neg (by omega), if_pos t.1, if_pos t.2, e, w64_of (by omega) (by omega)]
theorem staysG_l {cl : List S67} {rk : List Int} (v : Valid cl rk) (l : List Int) (hl : ∀ a ∈ l, 0 ≤ a ∧ a < 256) : ∀ (d i : Nat) (out : List Int), i + d = cl.length → out.length = i → (∀ j (h : j < out.length) (h2 : j < cl.length), cl[j].f2.f0 ≤ out[j] ∧ out[j] ≤ cl[j].f2.f1) →
    ∃ st, (∀ k, d < k → aA6.l0 k l out i cl rk = some st) ∧ st.length = cl.length ∧ ∀ j (h : j < st.length) (h2 : j < cl.length), cl[j].f2.f0 ≤ st[j] ∧ st[j] ≤ cl[j].f2.f1
  | 0, i, out, hd, ho, hb => by
    refine ⟨out, fun k hk => ?_, by omega, hb⟩
    obtain ⟨k, rfl⟩ : ∃ q, k = q + 1 := ⟨k - 1, by omega⟩
    rw [aA6.l0, if_neg (by omega)]
  | d + 1, i, out, hd, ho, hb => by
    have h10 := v.c10
    have hlt : i < cl.length := by omega
    have ok := v.ok _ (List.getElem_mem hlt)
    obtain ⟨a, ha, a0, a1⟩ := by_gen l hl i
    have hm0 : 0 ≤ a * (cl[i].f2.f1 - cl[i].f2.f0) := Int.mul_nonneg a0 (by omega)
    have hm1 : a * (cl[i].f2.f1 - cl[i].f2.f0) ≤ 255 * (cl[i].f2.f1 - cl[i].f2.f0) := Int.mul_le_mul_of_nonneg_right a1 (by omega)
    have hq0 : 0 ≤ Int.tdiv (a * (cl[i].f2.f1 - cl[i].f2.f0)) 255 := Int.tdiv_nonneg hm0 (by omega)
    have hq1 : Int.tdiv (a * (cl[i].f2.f1 - cl[i].f2.f0)) 255 ≤ cl[i].f2.f1 - cl[i].f2.f0 := by
      rw [Int.tdiv_eq_ediv_of_nonneg hm0]
      exact Int.ediv_le_of_le_mul (by omega) (by rw [Int.mul_comm _ 255]; exact hm1)
    have hb2 : ∀ j (h : j < (out ++ [cl[i].f2.f0 + Int.tdiv (a * (cl[i].f2.f1 - cl[i].f2.f0)) 255]).length) (h2 : j < cl.length), cl[j].f2.f0 ≤ (out ++ [cl[i].f2.f0 + Int.tdiv (a * (cl[i].f2.f1 - cl[i].f2.f0)) 255])[j] ∧ (out ++ [cl[i].f2.f0 + Int.tdiv (a * (cl[i].f2.f1 - cl[i].f2.f0)) 255])[j] ≤ cl[j].f2.f1 := fun j h h2 => by
      rcases Nat.lt_or_ge j out.length with hj | hj
      · rw [List.getElem_append_left hj]; exact hb j hj h2
      · have : j = i := by simp at h; omega
        subst this
        rw [List.getElem_append_right hj]
        simp [ho]
        omega
    obtain ⟨st, h1, h2, h3⟩ := staysG_l v l hl d (i + 1) _ (by omega) (by simp [ho]) hb2
    refine ⟨st, fun k hk => ?_, h2, h3⟩
    obtain ⟨k, rfl⟩ : ∃ q, k = q + 1 := ⟨k - 1, by omega⟩
    rw [aA6.l0, if_pos (by omega), if_pos (by omega), ha, Option.bind_some, if_pos (by omega), rd67_at cl i hlt, nx i (by omega)]
    rw [w64_of (n := cl[i].f2.f1 - cl[i].f2.f0) (by omega) (by omega), w64_of (n := a * _) (by omega) (by omega), w64_of (n := Int.tdiv _ _) (by omega) (by omega), w64_of (n := _ + Int.tdiv _ _) (by omega) (by omega)]
    exact h1 k (by omega)
structure Tru (cl : List S67) (st : List Int) : Prop where
  len : st.length = cl.length
  lo : ∀ x, rd (hoursOf cl false) x ≤ rd st x
  hi : ∀ x, rd st x ≤ rd (hoursOf cl true) x
theorem rd_le (a b : List Int) (hl : a.length = b.length) (h : ∀ j (h1 : j < a.length) (h2 : j < b.length), a[j] ≤ b[j]) (x : Int) : rd a x ≤ rd b x := by
  unfold rd
  rw [List.getD_eq_getElem?_getD, List.getD_eq_getElem?_getD]
  rcases Nat.lt_or_ge x.toNat a.length with h1 | h1
  · rw [List.getElem?_eq_getElem h1, List.getElem?_eq_getElem (by omega)]; exact h _ h1 (by omega)
  · rw [List.getElem?_eq_none h1, List.getElem?_eq_none (by omega)]; exact Int.le_refl _
theorem staysG {cl : List S67} {rk : List Int} (v : Valid cl rk) (l : List Int) (hl : ∀ a ∈ l, 0 ≤ a ∧ a < 256) : ∃ st, (∀ k, 100 < k → aA6.f k cl rk l = some st) ∧ Tru cl st := by
  have h10 := v.c10
  obtain ⟨st, e, h1, h2⟩ := staysG_l v l hl cl.length 0 [] (by omega) rfl (fun j h => by simp at h)
  refine ⟨st, fun k hk => e k (by omega), h1, fun x => rd_le _ _ (by simp [hoursOf, h1]) (fun j a b => ?_) x, fun x => rd_le _ _ (by simp [hoursOf, h1]) (fun j a b => ?_) x⟩
  · have := (h2 j b (by omega)).1; simpa [hoursOf] using this
  · have := (h2 j a (by omega)).2; simpa [hoursOf] using this
theorem tru_b {cl : List S67} {rk : List Int} (v : Valid cl rk) (b : Bool) : Tru cl (hoursOf cl b) := by
  have key : ∀ x, rd (hoursOf cl false) x ≤ rd (hoursOf cl true) x := fun x => rd_le _ _ (by simp [hoursOf]) (fun j a c => by
    have := v.ok _ (List.getElem_mem (show j < cl.length by simpa [hoursOf] using a))
    simp [hoursOf]; omega) x
  cases b
  · exact ⟨by simp [hoursOf], fun _ => Int.le_refl _, key⟩
  · exact ⟨by simp [hoursOf], key, fun _ => Int.le_refl _⟩
theorem tru_bd {cl : List S67} {rk : List Int} (v : Valid cl rk) (s : St20 cl) {st : List Int} (t : Tru cl st) (x : Int) (h0 : 0 ≤ x) (h1 : x < (cl.length : Int)) : 1 ≤ rd st x ∧ rd st x ≤ 20 := by
  have a := t.lo x
  have b := t.hi x
  rw [rd_hours cl false x h0 h1] at a
  rw [rd_hours cl true x h0 h1] at b
  have ok := cl_ok v x.toNat (by omega)
  have s20 : (aA4 cl x.toNat).f2.f1 ≤ 20 := by rw [rd67_at cl x.toNat (by omega)]; exact s _ (List.getElem_mem _)
  rw [show ((x.toNat : Nat) : Int) = x by omega] at ok s20
  unfold ofM at a b
  simp at a b
  omega
structure TruOk (cl : List S67) (rk : List Int) (m : Nat) (K : Int) (st : List Int) (c h : Int) : Prop where
  lo : ∀ x, rd (livA false cl rk m) x ≤ rd (livG cl rk st m) x
  hi : ∀ x, rd (livG cl rk st m) x ≤ rd (livA true cl rk m) x
  k1 : K = 1 → ∀ x, rd (livG cl rk st m) x = rd (livA false cl rk m) x
  k2 : K = 2 → ∀ x, rd (livG cl rk st m) x = rd (livA true cl rk m) x
  w : ∀ x, 0 ≤ x → x < (cl.length : Int) → rd (livG cl rk st m) x - (aA4 cl x).f1 ≤ h
  wc : K = 2 → 0 < cl.length → rd (livG cl rk st m) c - (aA4 cl c).f1 = h
  e0 : endA lowF cl rk m ≤ lastG (livG cl rk st m) st cl.length
  e1 : lastG (livG cl rk st m) st cl.length ≤ endA highF cl rk m
  e2 : K = 1 → lastG (livG cl rk st m) st cl.length = endA lowF cl rk m
  e3 : K = 2 → lastG (livG cl rk st m) st cl.length = endA highF cl rk m
theorem truOk {cl : List S67} {rk : List Int} (v : Valid cl rk) (m : Nat) (hm : 1 ≤ m) (K : Int) {st : List Int} (t : Tru cl st) (h1 : K = 1 → st = hoursOf cl false) (h2 : K = 2 → st = hoursOf cl true) (c h : Int)
    (hw : ∀ x, 0 ≤ x → x < (cl.length : Int) → rd (livA true cl rk m) x - (aA4 cl x).f1 ≤ h) (hc : 0 < cl.length → rd (livA true cl rk m) c - (aA4 cl c).f1 = h) : TruOk cl rk m K st c h := by
  have lo := fun x => livG_mono cl rk t.lo m x
  have hi := fun x => livG_mono cl rk t.hi m x
  rw [livG_run v false m hm] at lo
  rw [livG_run v true m hm] at hi
  have ef := endA_eq v false m hm
  have et := endA_eq v true m hm
  rw [ofM_false] at ef
  rw [ofM_true] at et
  refine ⟨lo, hi, fun e x => by rw [h1 e, livG_run v false m hm], fun e x => by rw [h2 e, livG_run v true m hm], fun x a b => ?_, fun e hn => by rw [h2 e, livG_run v true m hm]; exact hc hn, ?_, ?_, fun e => by rw [h1 e, livG_run v false m hm, ef], fun e => by rw [h2 e, livG_run v true m hm, et]⟩
  · have := hw x a b
    have := hi x
    omega
  · rw [ef]; exact lastG_mono _ lo t.lo
  · rw [et]; exact lastG_mono _ hi t.hi
theorem own_eq (cl : List S67) (rk : List Int) (hc : cl.length ≤ 1000) (hr : rk.length ≤ 1000) : aB4.f cl rk = some (cl, rk) := by
  unfold aB4.f
  simp only [Option.bind_some, List.nil_append, List.length_nil]
  rw [if_pos (by omega), if_pos (by omega)]
theorem rdOf_at (l : List Bool) (x : Int) (h0 : 0 ≤ x) (h : x.toNat < l.length) : rdOf false l x = l[x.toNat] := by
  unfold rdOf; simp [List.getD_eq_getElem?_getD, List.getElem?_eq_getElem h]
theorem wonce_l (l : List Int) (n : Nat) (hl : l.length ≤ 1000) (hn : n ≤ 1000) (hnd : l.Nodup) (hin : ∀ x ∈ l, 0 ≤ x ∧ x < (n : Int)) :
    ∀ (d i k : Nat) (s : List Bool), i + d = l.length → 2 * d < k → s.length = n → (∀ j (h : j < l.length), i ≤ j → ∀ h2 : l[j].toNat < s.length, s[l[j].toNat] = false) → aA7.l0 k l n s i = some ((l.length : Int) == n)
  | 0, i, k, s, hd, hk, hs, hf => by
    obtain ⟨k, rfl⟩ : ∃ q, k = q + 1 := ⟨k - 1, by omega⟩
    rw [aA7.l0, if_neg (by omega)]
  | d + 1, i, k, s, hd, hk, hs, hf => by
    obtain ⟨k, rfl⟩ : ∃ q, k = q + 2 := ⟨k - 2, by omega⟩
    have hlt : i < l.length := by omega
    have hx := hin l[i] (List.getElem_mem hlt)
    have e1 := hf i hlt (Nat.le_refl _) (by omega)
    rw [aA7.l0, if_pos (by omega), if_pos (by omega), rd_at l i hlt, if_neg (by omega), if_neg (by omega), if_pos hx.1, if_pos (by omega), rdOf_at s _ hx.1 (by omega), e1, aA7.j1, if_neg (by simp), if_pos (by omega), if_pos (by omega), rd_at l i hlt, if_pos hx.1, if_pos (by omega), nx i (by omega)]
    refine wonce_l l n hl hn hnd hin d (i + 1) k _ (by omega) (by omega) (by rw [List.length_set]; exact hs) fun j h hij h2 => ?_
    have hne : l[i].toNat ≠ l[j].toNat := fun e => by
      have hy := hin l[j] (List.getElem_mem h)
      have : l[i] = l[j] := by omega
      have := (List.getElem_inj hnd).1 this
      omega
    rw [List.getElem_set_ne hne]
    exact hf j h (by omega) (by rw [List.length_set] at h2; exact h2)
theorem wonce_eq (cl : List S67) (rk : List Int) (hc : cl.length ≤ 10) (k : Nat) (hk : 30 < k) : aA7.f k (ordA cl rk) (cl.length : Int) = some true := by
  have hol := ordA_len cl rk
  unfold aA7.f
  rw [if_pos (by omega), if_pos (by omega), Int.toNat_natCast]
  have := wonce_l (ordA cl rk) cl.length (by omega) (by omega) (ordA_nodup cl rk) ordA_in (ordA cl rk).length 0 k (List.replicate cl.length false) (by omega) (by omega) (by simp) (fun j h _ h2 => by simp)
  rw [show ((0 : Nat) : Int) = 0 from rfl] at this
  rw [this, hol]; simp
theorem truth_l1 {cl : List S67} {rk : List Int} (v : Valid cl rk) (s : St20 cl) (m : Nat) (hm : 1 ≤ m) (bytes : List Int) (c h K : Int) {st : List Int} (t : Tru cl st) (q : TruOk cl rk m K st c h) (Kf : Nat)
    (next : ∀ k, Kf < k → aA1.j5 k bytes m (ordA cl rk) (stA cl rk m) c h K false cl rk (endA lowF cl rk m) (endA highF cl rk m) = some true) :
    ∀ (d i k : Nat), i + d = cl.length → 3 * d + Kf + 1 < k →
      aA1.l1 k bytes m (ordA cl rk) (stA cl rk m) c h K st (livG cl rk st m) (((rng i).map fun x => rd (livG cl rk st m) x + rd st x).foldl mx 0) i cl rk (endA lowF cl rk m) (endA highF cl rk m) = some true
  | 0, i, k, hd, hk => by
    obtain ⟨k, rfl⟩ : ∃ q, k = q + 1 := ⟨k - 1, by omega⟩
    obtain rfl : i = cl.length := by omega
    have hl := livG_len cl rk st m
    have e0 := q.e0
    have e1 := q.e1
    have e2 := q.e2
    have e3 := q.e3
    unfold lastG at e0 e1 e2 e3
    have fin := next k (by omega)
    rw [aA1.l1, if_neg (by omega), if_neg (by omega), if_neg (by omega)]
    by_cases h1 : K = 1
    · rw [if_pos h1, if_pos (e2 h1), if_neg (by omega)]; exact fin
    · rw [if_neg h1]
      by_cases h2 : K = 2
      · rw [if_pos h2, e3 h2, show (endA highF cl rk m != endA highF cl rk m) = false by simp]; exact fin
      · rw [if_neg h2]; exact fin
  | d + 1, i, k, hd, hk => by
    obtain ⟨k, rfl⟩ : ∃ q, k = q + 3 := ⟨k - 3, by omega⟩
    have h10 := v.c10
    have hlt : i < cl.length := by omega
    have hl := livG_len cl rk st m
    have hs := stA_len cl rk m
    have lo := q.lo i
    have hi := q.hi i
    have k1 := q.k1
    have k2 := q.k2
    have bd1 := livA_bd (cl := cl) (rk := rk) v false m hm i (by omega) (by omega)
    have bd2 := livA_bd (cl := cl) (rk := rk) v true m hm i (by omega) (by omega)
    have bs := tru_bd v s t i (by omega) (by omega)
    have ok := cl_ok v i hlt
    have w := q.w i (by omega) (by omega)
    have wc := q.wc
    have hstl := t.len
    have ih := truth_l1 v s m hm bytes c h K t q Kf next d (i + 1) k (by omega) (by omega)
    rw [rng_succ, List.map_append, List.foldl_append] at ih
    have step : ∀ b, b = false → aA1.j3 (k + 2) bytes m (ordA cl rk) (stA cl rk m) c h K st (livG cl rk st m) (((rng i).map fun x => rd (livG cl rk st m) x + rd st x).foldl mx 0) i b cl rk (endA lowF cl rk m) (endA highF cl rk m) = some true := fun b hb => by
      subst hb
      rw [aA1.j3, if_neg (by simp), if_pos (by omega), if_pos (by omega), if_pos (by omega), if_pos (by omega), w64_of (n := rd (livG cl rk st m) i - _) (by omega) (by omega), if_neg (by omega), w64_of (n := rd (livG cl rk st m) i + rd st i) (by omega) (by omega)]
      have fin : ∀ b, b = false → aA1.j4 (k + 1) bytes m (ordA cl rk) (stA cl rk m) c h K st (livG cl rk st m) (mx (((rng i).map fun x => rd (livG cl rk st m) x + rd st x).foldl mx 0) (rd (livG cl rk st m) i + rd st i)) i b cl rk (endA lowF cl rk m) (endA highF cl rk m) = some true := fun b hb => by
        subst hb
        rw [aA1.j4, if_neg (by simp), nx i (by omega)]
        exact ih
      by_cases h2 : K = 2
      · rw [if_pos h2]
        by_cases hc : (i : Int) = c
        · rw [if_pos hc]
          have := wc h2 (by omega)
          rw [← hc] at this
          exact fin _ (by rw [this]; simp)
        · rw [if_neg hc]; exact fin _ rfl
      · rw [if_neg h2]; exact fin _ rfl
    rw [aA1.l1, if_pos (by omega), if_pos (by omega), if_pos (by omega), stA_f0, stA_f1, if_neg (by omega), if_neg (by omega)]
    by_cases h1 : K = 1
    · rw [if_pos h1, if_pos (k1 h1 i), if_neg (by omega)]; exact step _ rfl
    · rw [if_neg h1]
      by_cases h2 : K = 2
      · rw [if_pos h2]; exact step _ (by rw [k2 h2 i]; simp)
      · rw [if_neg h2]; exact step _ rfl
theorem TurnTruth_yes (ws : List S126) (wv : Int) (sw : List Int) (M : Int) (bytes : List Int) (hws : ∀ v ∈ ws, by4 v) (hwv : 0 ≤ wv ∧ wv < 256) (hsw : ∀ x ∈ sw, 0 ≤ x ∧ x < 256) (hM : 0 ≤ M ∧ M < 256) (hby : ∀ x ∈ bytes, 0 ≤ x ∧ x < 256) : ∃ k, aA1.f k ws wv sw M bytes = some true := by
  refine ⟨200001, ?_⟩
  obtain ⟨cl, rk, e, hc, h8⟩ := day_ok ws hws wv hwv sw hsw 200001 (by omega)
  have v := valid_of hc
  have s := st20_of hc
  have h10 := v.c10
  have h6 := v.r6
  have hol := ordA_len cl rk
  have t0 := tmod_bd M 5 hM.1 (by omega)
  unfold aA1.f
  rw [e, Option.bind_some, w64_of (n := M) (by omega) (by omega), w64_of (n := 1 + _) (by omega) (by omega)]
  obtain ⟨m, hm⟩ : ∃ m : Nat, 1 + Int.tmod M 5 = m := ⟨(1 + Int.tmod M 5).toNat, by omega⟩
  simp only [hm]
  have m1 : 1 ≤ m := by omega
  have m5 : m ≤ 5 := by omega
  have hE : (if chk cl rk = 0 then (if (isIn 1 5 (m : Int) && isIn 0 500 0) = true then 0 else 3) else chk cl rk : Int) = 0 := by rw [if_pos hc, if_pos (by simp [isIn]; omega)]
  have wS := tStarts_k cl rk m 200001 (by omega) (by omega) (by omega) 0 hE
  have wE := tEnds_k cl rk m 200001 (by omega) (by omega) (by omega) 0 hE
  have wW := tWaits_k cl rk m 200001 (by omega) (by omega) (by omega) 0 hE
  rw [if_pos rfl, Int.toNat_natCast] at wS wE wW
  have ow := own_eq cl rk (by omega) (by omega)
  have hS := stA_len cl rk m
  rw [ow, Option.bind_some]
  simp only []
  rw [order_eq cl rk (by omega) 200001 (by omega), if_pos hc, hc, Option.bind_some, Option.bind_some]
  simp only []
  rw [wS, Option.bind_some, Option.bind_some]
  simp only []
  rw [wE, Option.bind_some, Option.bind_some]
  simp only []
  rw [wW]
  obtain ⟨s0, es0, ts0⟩ := staysG v bytes hby
  have main : ∀ c h : Int, (∀ x, 0 ≤ x → x < (cl.length : Int) → rd (livA true cl rk m) x - (aA4 cl x).f1 ≤ h) → (0 < cl.length → rd (livA true cl rk m) c - (aA4 cl c).f1 = h ∧ 0 ≤ c ∧ c < (cl.length : Int)) →
      aA1.j0 200001 bytes m (ordA cl rk) (stA cl rk m) c h false cl rk (endA lowF cl rk m) (endA highF cl rk m) = some true := fun c h hw hcc => by
    have w1 : wrap64 (0 + 1) = 1 := by rw [w64_of (by omega) (by omega)]; rfl
    have w2 : wrap64 (1 + 1) = 2 := by rw [w64_of (by omega) (by omega)]; rfl
    have w3 : wrap64 (2 + 1) = 3 := by rw [w64_of (by omega) (by omega)]; rfl
    have end_ : ∀ k, 0 < k → aA1.l0 k bytes m (ordA cl rk) (stA cl rk m) c h 3 cl rk (endA lowF cl rk m) (endA highF cl rk m) = some true := fun k hk => by
      obtain ⟨k, rfl⟩ : ∃ q, k = q + 1 := ⟨k - 1, by omega⟩
      rw [aA1.l0, if_neg (by omega)]
      by_cases hn : cl.length = 0
      · rw [if_pos (by omega)]; rfl
      · have := (hcc (by omega)).2
        rw [if_neg (by omega), if_pos this.1, if_pos (by omega)]; rfl
    have one : ∀ (K : Int) (st : List Int) (Kf k : Nat), 0 ≤ K → K < 3 → Tru cl st → (K = 1 → st = hoursOf cl false) → (K = 2 → st = hoursOf cl true) → (∀ k, 100 < k → aA6.f k cl rk (rd_L23 ([bytes, [0], [255]] : List (List Int)) K) = some st) → Kf + 41000 < k →
        (∀ k, Kf < k → aA1.l0 k bytes m (ordA cl rk) (stA cl rk m) c h (wrap64 (K + 1)) cl rk (endA lowF cl rk m) (endA highF cl rk m) = some true) →
        aA1.l0 k bytes m (ordA cl rk) (stA cl rk m) c h K cl rk (endA lowF cl rk m) (endA highF cl rk m) = some true := fun K st Kf k k0 k3 t h1 h2 hst hk next => by
      obtain ⟨k, rfl⟩ : ∃ q, k = q + 1 := ⟨k - 1, by omega⟩
      rw [aA1.l0, if_pos k3, if_pos k0, hst k (by omega), Option.bind_some, livedG_eq v st t.len (fun x a b => tru_bd v s t x a b) m m1 (by omega) k (by omega), Option.bind_some]
      exact truth_l1 v s m m1 bytes c h K t (truOk v m m1 K t h1 h2 c h hw (fun hn => (hcc hn).1)) (Kf + 1) (fun k hk => by
        obtain ⟨k, rfl⟩ : ∃ q, k = q + 1 := ⟨k - 1, by omega⟩
        rw [aA1.j5, if_neg (by simp)]
        exact next k (by omega)) cl.length 0 k (by omega) (by omega)
    rw [aA1.j0, if_neg (by simp)]
    have b0 : ∀ k, 100 < k → aA6.f k cl rk [0] = some (hoursOf cl false) := fun k hk => by
      have := stays_eq (cl := cl) (rk := rk) v false k hk
      rwa [if_neg (by simp)] at this
    have b1 : ∀ k, 100 < k → aA6.f k cl rk [255] = some (hoursOf cl true) := fun k hk => by
      have := stays_eq (cl := cl) (rk := rk) v true k hk
      rwa [if_pos rfl] at this
    refine one 0 s0 84000 200000 (by omega) (by omega) ts0 (by omega) (by omega) es0 (by omega) fun k hk => ?_
    rw [w1]
    refine one 1 (hoursOf cl false) 42000 k (by omega) (by omega) (tru_b v false) (fun _ => rfl) (by omega) b0 (by omega) fun k hk => ?_
    rw [w2]
    refine one 2 (hoursOf cl true) 10 k (by omega) (by omega) (tru_b v true) (by omega) (fun _ => rfl) b1 (by omega) fun k hk => ?_
    rw [w3]
    exact end_ k (by omega)
  have on := wonce_eq cl rk h10 200001 (by omega)
  by_cases hn : cl.length = 0
  · rw [if_pos hn, Option.bind_some]
    simp only []
    rw [if_pos trivial, if_pos trivial, if_pos trivial, on, Option.bind_some, if_pos rfl, if_pos (by omega), show (((7 : Int) == 7) != (((ordA cl rk).length : Int) == 0)) = false by rw [hol, hn]; rfl, if_neg (by simp), if_neg (by omega)]
    exact main 0 0 (fun x a b => by omega) (fun a => by omega)
  · rw [if_neg hn, Option.bind_some]
    simp only []
    have a1 := woA_at v m m1 (by omega)
    rw [if_pos trivial, if_pos trivial, if_pos trivial, on, Option.bind_some, if_pos rfl, if_pos (by omega), show (((0 : Int) == 7) != (((ordA cl rk).length : Int) == 0)) = false by rw [hol, show ((cl.length : Int) == 0) = false by simpa using hn]; rfl, if_neg (by simp), if_pos trivial]
    exact main _ _ (fun x a b => woA_ge v m m1 x a b) (fun _ => ⟨a1.1.symm, a1.2⟩)
end Go.Proofs.YtlmglnobdcgbeaaGreat.P
namespace Go.Proofs.YtlmglnobdcgbeaaGreat.P
open Go.RowKit Go.ChangeShapes Go.WideShapes Go.Deep Go.Proofs.YtlmglnobdcgbeaaGreatW.PrintWords Go.Proofs.YtlmglnobdcgbeaaGreatW.PrintLast Go.Proofs.YtlmglnobdcgbeaaGreatW.PrintMore
structure Opens {α : Type} (P : Program) (d : Kd α) (t : TypeId) (B : α → Prop) : Prop where
  sz : P.cellsOf t = d.sz
  op : ∀ (H : Type) (enc : TypeId × Value → H) (w : World) (base : Nat) (spare : Nat → Bool) (held : Bool) (n : Nat) (cs : List Value) (x : DataW H × List MemPlace), DataW.trod enc P w base spare held n t cs = some x → ∃ p, d.K w p cs ∧ B p
theorem Opens.int {P : Program} {t : TypeId} {k : IntKind} (ht : P.underlying t = some (.int k)) (hc : P.cellsOf t = 1) : Opens P (Kd.int k) t (fun n => (Lit.int k n).wf = true) :=
  ⟨hc, fun H enc w base spare held n cs x h => by
    obtain ⟨m, rfl, _, hw⟩ := DataW.trod_int ht h
    exact ⟨m, rfl, hw⟩⟩
theorem Opens.bool {P : Program} {t : TypeId} (ht : P.underlying t = some .bool) (hc : P.cellsOf t = 1) : Opens P Kd.bool t (fun _ => True) :=
  ⟨hc, fun H enc w base spare held n cs x h => by
    obtain ⟨b, rfl, _⟩ := DataW.trod_bool ht h
    exact ⟨b, rfl, trivial⟩⟩
theorem Opens.imp {α : Type} {P : Program} {d : Kd α} {t : TypeId} {B B' : α → Prop} (h : Opens P d t B) (hb : ∀ x, B x → B' x) : Opens P d t B' :=
  ⟨h.sz, fun H enc w base spare held n cs x hx => by obtain ⟨p, h1, h2⟩ := h.op H enc w base spare held n cs x hx; exact ⟨p, h1, hb p h2⟩⟩
theorem choose_list {α : Type} {Q : Nat → α → Prop} : ∀ (n : Nat), (∀ i, i < n → ∃ p, Q i p) → ∃ l : List α, l.length = n ∧ ∀ i p, l[i]? = some p → Q i p
  | 0, _ => ⟨[], rfl, fun i p h => by simp at h⟩
  | n + 1, h => by
    obtain ⟨l, hl, hq⟩ := choose_list n (fun i hi => h i (by omega))
    obtain ⟨p, hp⟩ := h n (by omega)
    refine ⟨l ++ [p], by simp [hl], fun i q hi => ?_⟩
    rcases Nat.lt_or_ge i l.length with h1 | h1
    · rw [List.getElem?_append_left h1] at hi
      exact hq i q hi
    · have : i = n := by
        have := (List.getElem?_eq_some_iff.1 hi).1
        simp at this
        omega
      subst this
      rw [List.getElem?_append_right h1, hl, Nat.sub_self] at hi
      obtain rfl : p = q := by simpa using hi
      exact hp
theorem Opens.slice {α : Type} {P : Program} {d : Kd α} {t e : TypeId} {B : α → Prop} (h : Opens P d e B) (ht : P.underlying t = some (.slice e)) (hc : P.cellsOf t = 1) : Opens P (Kd.slice e d) t (fun l => ∀ x ∈ l, B x) :=
  ⟨hc, fun H enc w base spare held n cs x hx => by
    rcases open_slice ht hx with ⟨rfl, _⟩ | ⟨a, len, cap, m, n', D, Pl, rfl, hb, hl, hm, hmm, _, hi⟩
    · exact ⟨[], ⟨none, 0, rfl, Nat.le_refl _, Kd.C_nil _ _⟩, fun x hx => by cases hx⟩
    · obtain ⟨l, hll, hq⟩ := choose_list (Q := fun i p => (∃ cs', d.K w p cs' ∧ ∀ j, j < d.sz → w.cell? (a.add (i * d.sz + j)) = cs'[j]?) ∧ B p) len (fun i hi' => by
        obtain ⟨cs', hcs, htr⟩ := hi i (by rw [hmm]; split <;> omega)
        obtain ⟨p, hk, hp⟩ := h.op H enc w base spare held n' cs' _ htr
        obtain ⟨_, hcl, hat⟩ := World.cells?_some hcs
        rw [h.sz] at hat
        exact ⟨p, ⟨cs', hk, fun j hj => by
          have := hat j hj
          rw [Go.Deep.add_add] at this
          exact this⟩, hp⟩)
      refine ⟨l, ⟨some a, cap, by rw [hll], by rw [hll]; exact hl, ⟨rfl, by rw [hll]; simp only [maxLen] at hm; omega, fun h0 => ⟨a, rfl, fun j p hj => ?_⟩⟩⟩, fun x hx => ?_⟩
      · obtain ⟨⟨cs', hk, hat⟩, _⟩ := hq j p hj
        refine ⟨cs', d.K_len hk, hk, fun i u hu => ?_⟩
        have hi' : i < d.sz := by have := (List.getElem?_eq_some_iff.1 hu).1; rw [d.K_len hk] at this; exact this
        rw [hat i hi', hu]
      · obtain ⟨i, hi'⟩ := List.getElem?_of_mem hx
        exact (hq i x hi').2⟩
def OpensS {α : Type} (P : Program) (fs : Array Field) (j off : Nat) (d : Kd α) (B : α → Prop) : Prop :=
  ∀ (H : Type) (enc : TypeId × Value → H) (w : World) (base : Nat) (spare : Nat → Bool) (held : Bool) (n : Nat) (cs : List Value) (xs : List (DataW H × List MemPlace)), xs.length = fs.size →
    (∀ (i : Nat) (f : Field), fs[i]? = some f → DataW.trod enc P w base spare held n f.type ((cs.drop f.offset).take (P.cellsOf f.type)) = xs[i]?) → ∃ p, d.K w p ((cs.drop off).take d.sz) ∧ B p
theorem OpensS.one {α : Type} {P : Program} {fs : Array Field} {j off : Nat} {d : Kd α} {B : α → Prop} (f : Field) (hf : fs[j]? = some f) (ho : f.offset = off) (h : Opens P d f.type B) : OpensS P fs j off d B := by
  intro H enc w base spare held n cs xs hl hx
  have h1 := hx j f hf
  have hj : j < xs.length := by rw [hl]; exact (Array.getElem?_eq_some_iff.1 hf).1
  rw [List.getElem?_eq_getElem hj, ho, h.sz] at h1
  exact h.op H enc w base spare held n _ _ h1
theorem OpensS.cons {α β : Type} {P : Program} {fs : Array Field} {j off : Nat} {d : Kd α} {d' : Kd β} {B : α → Prop} {B' : β → Prop} (h : OpensS P fs j off d B) (h' : OpensS P fs (j + 1) (off + d.sz) d' B') : OpensS P fs j off (Kd.pair d d') (fun p => B p.1 ∧ B' p.2) := by
  intro H enc w base spare held n cs xs hl hx
  obtain ⟨p, h1, h2⟩ := h H enc w base spare held n cs xs hl hx
  obtain ⟨q, h3, h4⟩ := h' H enc w base spare held n cs xs hl hx
  refine ⟨(p, q), ⟨_, _, ?_, h1, h3⟩, h2, h4⟩
  show (cs.drop off).take (d.sz + d'.sz) = _
  rw [List.take_add, List.drop_drop]
theorem OpensS.iso {α β : Type} {P : Program} {fs : Array Field} {j off : Nat} {d : Kd α} {B : α → Prop} (h : OpensS P fs j off d B) (f : β → α) (g : α → β) (hg : ∀ a, f (g a) = a) : OpensS P fs j off (Kd.iso d f) (fun y => B (f y)) := by
  intro H enc w base spare held n cs xs hl hx
  obtain ⟨p, h1, h2⟩ := h H enc w base spare held n cs xs hl hx
  exact ⟨g p, by show d.K w (f (g p)) _; rw [hg]; exact h1, by show B (f (g p)); rw [hg]; exact h2⟩
theorem Opens.struct {α : Type} {P : Program} {fs : Array Field} {d : Kd α} {t : TypeId} {B : α → Prop} (h : OpensS P fs 0 0 d B) (ht : P.underlying t = some (.struct fs)) (hc : P.cellsOf t = d.sz) : Opens P d t B :=
  ⟨hc, fun H enc w base spare held n cs x hx => by
    obtain ⟨xs, n', _, _, hcl, hl, hf⟩ := DataW.trod_struct ht hx
    obtain ⟨p, h1, h2⟩ := h H enc w base spare held n' cs xs hl hf
    refine ⟨p, ?_, h2⟩
    rw [List.drop_zero, List.take_of_length_le (by rw [hcl, hc]; exact Nat.le_refl _)] at h1
    exact h1⟩
theorem Opens.array {α : Type} {P : Program} {fs : Array Field} {d : Kd α} {t e : TypeId} {n : Nat} {B : α → Prop} (h : OpensS P fs 0 0 d B) (ht : P.underlying t = some (.array n e)) (hc : P.cellsOf t = d.sz) (he : P.cellsOf e = 1) (hn : fs.size = n) (hf : ∀ i : Fin fs.size, fs[i].type = e ∧ fs[i].offset = i.val) : Opens P d t B :=
  ⟨hc, fun H enc w base spare held n' cs x hx => by
    obtain ⟨xs, m, _, _, hcl, hl, hg⟩ := DataW.trod_array ht hx
    obtain ⟨p, h1, h2⟩ := h H enc w base spare held m cs xs (by rw [hl, hn]) (fun i f hi => by
      obtain ⟨hi', rfl⟩ := Array.getElem?_eq_some_iff.1 hi
      obtain ⟨e1, e2⟩ := hf ⟨i, hi'⟩
      have e1' : fs[i].type = e := e1
      have e2' : fs[i].offset = i := e2
      have := hg i (by rw [← hn]; exact hi')
      rw [he, Nat.mul_one] at this
      rw [e1', e2', he]; exact this)
    refine ⟨p, ?_, h2⟩
    rw [List.drop_zero, List.take_of_length_le (by rw [hcl, hc]; exact Nat.le_refl _)] at h1
    exact h1⟩
theorem Opens.arg_slice {α : Type} {P : Program} {d : Kd α} {t e : TypeId} {B : List α → Prop} (h : Opens P (Kd.slice e d) t B) {H : Type} {enc : TypeId × Value → H} {w : World} {base : Nat} {spare : Nat → Bool} {held : Bool} {v : Value} {x : DataW H} {ps : List MemPlace} {a : Option Addr} {len cap : Nat} (hv : v = .slice a len cap) (hx : DataW.Trod enc P w base spare held t v x ps) :
    ∃ l : List α, len = l.length ∧ l.length ≤ cap ∧ Kd.C d w a l.length l ∧ B l := by
  obtain ⟨n, hn⟩ := hx
  subst hv
  obtain ⟨l, ⟨A, c, he, hl, hr⟩, hb⟩ := h.op H enc w base spare held n _ _ hn
  have he' : Value.slice a len cap = .slice A l.length c := by simpa [Value.cells] using he
  cases he'
  exact ⟨l, rfl, hl, hr, hb⟩
theorem Opens.arg {α : Type} {P : Program} {d : Kd α} {t : TypeId} {B : α → Prop} (h : Opens P d t B) {H : Type} {enc : TypeId × Value → H} {w : World} {base : Nat} {spare : Nat → Bool} {held : Bool} {v : Value} {x : DataW H} {ps : List MemPlace} (hx : DataW.Trod enc P w base spare held t v x ps) :
    ∃ p : α, d.K w p v.cells.toList ∧ B p := by
  obtain ⟨n, hn⟩ := hx
  exact h.op H enc w base spare held n _ _ hn
theorem agg_cells {v : Value} {l : List Value} (h : v.cells.toList = l) (hl : 2 ≤ l.length) : v = .agg l.toArray := by
  cases v with
  | agg x => simp only [Value.cells] at h; rw [← h]
  | _ => simp only [Value.cells] at h; subst h; simp at hl
end Go.Proofs.YtlmglnobdcgbeaaGreat.P
namespace Go.Proofs.YtlmglnobdcgbeaaGreat.P
open Go.RowKit Go.Proofs.YtlmglnobdcgbeaaGreatW.PrintWords
def IsK (k : IntKind) (n : Int) : Prop := (Lit.int k n).wf = true
theorem O_u8 : Opens Tryz.prog (Kd.int .u8) 5 (IsK .u8) := Opens.int Tryz.underlying5 (by kernel_rfl)
def B126 (x : S126) : Prop := (IsK .u8) x.f0 ∧ (IsK .u8) x.f1 ∧ (IsK .u8) x.f2 ∧ (IsK .u8) x.f3
theorem O126 : Opens Tryz.prog k126 126 B126 := by
  refine Opens.array (fs := #[⟨"", 5, 0, false, "", "", 0⟩, ⟨"", 5, 1, false, "", "", 0⟩, ⟨"", 5, 2, false, "", "", 0⟩, ⟨"", 5, 3, false, "", "", 0⟩]) ?_ Tryz.underlying126 (by kernel_rfl) (by kernel_rfl) rfl (by decide)
  refine OpensS.iso (d := (Kd.pair (Kd.int .u8) (Kd.pair (Kd.int .u8) (Kd.pair (Kd.int .u8) (Kd.int .u8))))) (B := fun p => (IsK .u8) p.1 ∧ (IsK .u8) p.2.1 ∧ (IsK .u8) p.2.2.1 ∧ (IsK .u8) p.2.2.2) ?_ (fun x : S126 => (x.f0, x.f1, x.f2, x.f3)) (fun p => ⟨p.1, p.2.1, p.2.2.1, p.2.2.2⟩) (fun _ => rfl)
  refine OpensS.cons (B := IsK .u8) (B' := fun p : Int × Int × Int => (IsK .u8) p.1 ∧ (IsK .u8) p.2.1 ∧ (IsK .u8) p.2.2) ?_ ?_
  · exact OpensS.one _ rfl rfl O_u8
  refine OpensS.cons (B := IsK .u8) (B' := fun p : Int × Int => (IsK .u8) p.1 ∧ (IsK .u8) p.2) ?_ ?_
  · exact OpensS.one _ rfl rfl O_u8
  refine OpensS.cons (B := IsK .u8) (B' := fun p : Int => (IsK .u8) p) ?_ ?_
  · exact OpensS.one _ rfl rfl O_u8
  exact OpensS.one _ rfl rfl O_u8
def B76 (x : S76) : Prop := (fun l => ∀ x ∈ l, (B126) x) x.f0 ∧ (IsK .u8) x.f1 ∧ (fun l => ∀ x ∈ l, (IsK .u8) x) x.f2
theorem O76 : Opens Tryz.prog k76 76 B76 := by
  refine Opens.struct ?_ Tryz.underlying76 (by kernel_rfl)
  refine OpensS.iso (d := (Kd.pair (Kd.slice 126 k126) (Kd.pair (Kd.int .u8) (Kd.slice 5 (Kd.int .u8))))) (B := fun p => (fun l => ∀ x ∈ l, (B126) x) p.1 ∧ (IsK .u8) p.2.1 ∧ (fun l => ∀ x ∈ l, (IsK .u8) x) p.2.2) ?_ (fun x : S76 => (x.f0, x.f1, x.f2)) (fun p => ⟨p.1, p.2.1, p.2.2⟩) (fun _ => rfl)
  refine OpensS.cons (B := fun l => ∀ x ∈ l, (B126) x) (B' := fun p : Int × (List Int) => (IsK .u8) p.1 ∧ (fun l => ∀ x ∈ l, (IsK .u8) x) p.2) ?_ ?_
  · exact OpensS.one _ rfl rfl (Opens.slice O126 Tryz.underlying73 (by kernel_rfl))
  refine OpensS.cons (B := IsK .u8) (B' := fun p : (List Int) => (fun l => ∀ x ∈ l, (IsK .u8) x) p) ?_ ?_
  · exact OpensS.one _ rfl rfl O_u8
  exact OpensS.one _ rfl rfl (Opens.slice O_u8 Tryz.underlying74 (by kernel_rfl))
end Go.Proofs.YtlmglnobdcgbeaaGreat.P
namespace Go.Proofs.YtlmglnobdcgbeaaGreat.P
open Go.RowKit Go.Proofs.YtlmglnobdcgbeaaGreatW.PrintWords Go.Proofs.YtlmglnobdcgbeaaGreatW.PrintLast Go.Proofs.YtlmglnobdcgbeaaGreatW.PrintMore
theorem byte_of {x : Int} (h : IsK .u8 x) : 0 ≤ x ∧ x < 256 := by
  unfold IsK at h
  simp [Lit.wf, IntKind.min, IntKind.max, IntKind.signed, IntKind.bits] at h
  omega
theorem V_came {W : World} {A : Option Addr} {c : Nat} {l : List Int} (h : Kd.C (Kd.int .u8) W A l.length l) (hc : l.length ≤ c) : Kd.V (Kd.int .u8) 5 W W.heap.size (fun _ => True) (.slice A l.length c) l :=
  Kd.V_mk hc (fun W' hW => by
    have hs : W.heap.size ≤ W'.heap.size := by
      rcases Nat.eq_zero_or_pos W.heap.size with h0 | h0
      · omega
      · have := heap_lt (hW (W.heap.size - 1) trivial (by omega)) (by omega)
        omega
    have hb : Below W.heap.size W { W' with os := W.os, tape := W.tape, output := W.output } := ⟨rfl, rfl, rfl, hs, fun k hk => hW k trivial hk⟩
    have h2 := Kd.C_below h hb
    exact h2)
theorem by4_of {v : S126} (h : B126 v) : by4 v := ⟨byte_of h.1, byte_of h.2.1, byte_of h.2.2.1, byte_of h.2.2.2⟩
end Go.Proofs.YtlmglnobdcgbeaaGreat.P
