/- Part 8 of what the law's proof needs beyond its base: words, walks of functions and plain facts. -/
import Derived.Test.YtjaapkkpmegkfaaGreatL07
set_option linter.unusedVariables false
set_option linter.unusedSimpArgs false
namespace Go.Proofs.YtjaapkkpmegkfaaGreat.P
open Go.RowKit Go.Shelf Go.Proofs.YtjaapkkpmegkfaaGreatW.PrintWords Go.Proofs.YtjaapkkpmegkfaaGreatW.PrintLast Go.Proofs.YtjaapkkpmegkfaaGreatW.PrintMore
theorem Qbl (n m : Int) {r : Int} (h : Qap.f 1500 n m = some r) : ∀ d : Nat, Qap.f (1500 + d) n m = some r
 | 0 => h
 | d + 1 => Qap.mono _ _ (1500 + d) _ (Qbl n m h d)
theorem Qb6 {k : Nat} (hk : 1500 ≤ k) {n m : Int} (h1 : 1 ≤ n) (h2 : 0 ≤ m) (h3 : n + m ≤ 12) : Qap.f k n m = some (Qa6 n) := by
 obtain ⟨a, rfl⟩ := Int.eq_ofNat_of_zero_le (show 0 ≤ n by omega); obtain ⟨b, rfl⟩ := Int.eq_ofNat_of_zero_le h2; have h := Qb1 ⟨a, by omega⟩ ⟨b, by omega⟩ (by show 1 ≤ a; omega) (by show a + b ≤ 12; omega); obtain ⟨d, rfl⟩ : ∃ d, k = 1500 + d := ⟨k - 1500, by omega⟩
 exact Qbl _ _ h d
theorem wgh0 {n : Int} {ts : List S75} {w : Int} (h : wgh n ts w = 0) : (2 ≤ n ∧ n ≤ 12 ∧ 0 ≤ w ∧ w ≤ 8) ∧ ∀ t ∈ ts, ∀ b, b ∈ t.f0 → b ∉ t.f1 := by
 unfold wgh at h
 split at h
 ·rename_i g
  refine ⟨g, fun t ht b h0 h1 => ?_⟩
  split at h
  ·split at h
   ·rename_i g2
    rw [List.all_eq_true] at g2; have := g2 t ht; unfold okT at this; rw [decide_eq_true_iff] at this; exact (List.nodup_append.1 this.2.2.2.1).2.2 b h0 b h1 rfl
   ·cases h
  ·cases h
 ·cases h
theorem Qbw (ts : List S75) (hts : Qa1 ts) : ∀ (q k i : Nat), i + q = ts.length → q < k → Qav.l0 k ts (ts.take i) (i : Int) = some ts := by
 have h20 := hts.1; intro q
 induction q with
 | zero =>
  intro k i hi hk; obtain ⟨k, rfl⟩ : ∃ z, k = z + 1 := ⟨k - 1, by omega⟩
  simp only [Qav.l0]; rw [if_neg (by omega), List.take_of_length_le (by omega)]
 | succ q ih =>
  intro k i hi hk; obtain ⟨k, rfl⟩ : ∃ z, k = z + 1 := ⟨k - 1, by omega⟩
  have hlt : i < ts.length := by omega
  have hs := hts.2 _ (List.getElem_mem hlt); simp only [Qav.l0]; rw [if_pos (by omega), if_pos (by omega), Qa3 hlt, Qbx _ (by omega), Qbx _ (by omega)]; simp only [Option.bind_some]; rw [if_pos (by rw [List.length_take]; omega), w64 (by omega)]; have := ih k (i + 1) (by omega) (by omega); rw [List.take_succ_eq_append_getElem hlt] at this; exact this
theorem Qbt (n : Int) (ts : List S75) (w : Int) (hts : Qa1 ts) (h : wgh n ts w = 0) {k : Nat} (hk : 2000 < k) : Qar.f k n ts w = some (susp n ts w) := by
 obtain ⟨g1, g2⟩ := wgh0 h; obtain ⟨m, rfl⟩ := Int.eq_ofNat_of_zero_le (show 0 ≤ n by omega); unfold Qar.f; exact Qb7 ts hts g2 w m (by omega) m k 0 (Nat.zero_add _) (by omega)
theorem Qb0 (n many e x14 : Int) (l : List Int) (h : (x14 = 0 ∧ e = 0 ∧ 1 ≤ l.length ∧ (l.length : Int) ≤ n ∧ n ≤ 12 ∧ many = Qa6 l.length) ∨ (x14 ≠ 0 ∧ e = x14 ∧ many = 0)) {k : Nat} (hk : 2000 < k) : Qao.j4 k n many e x14 l = some true := by
 obtain ⟨k, rfl⟩ : ∃ z, k = z + 1 := ⟨k - 1, by omega⟩
 simp only [Qao.j4]
 rcases h with ⟨h1, h2, h3, h4, h5, h6⟩ | ⟨h1, h2, h3⟩
 ·rw [if_pos h1, if_pos h2, w64 (x := n - (l.length : Int)) (by omega), Qb6 (by omega) (by omega) (by omega) (by omega)]
  simp only [Option.bind_some]; rw [if_pos h6, Qd.at (by omega)]; rfl
 ·rw [if_neg h1, if_pos h2, if_pos h3, Qd.at (by omega)]; rfl
theorem ss_j3 (n : Int) (ts : List S75) (hts : Qa1 ts) {k : Nat} (hk : 3000 < k) : ∀ bt : Int × Int, bt = (if wgh n ts 0 = 0 then (if (susp n ts 0).length = 0 then (0, 9) else (Qa6 (susp n ts 0).length, 0)) else (0, wgh n ts 0)) → Qao.j3 k n ts bt.1 bt.2 false = some true := by
 intro bt hbt; obtain ⟨k, rfl⟩ : ∃ z, k = z + 1 := ⟨k - 1, by omega⟩
 simp only [Qao.j3]; rw [if_neg (by simp), Qbj n ts 0 hts (by omega)]; simp only [Option.bind_some]; by_cases h : wgh n ts 0 = 0
 ·obtain ⟨g1, g2⟩ := wgh0 h
  rw [if_pos h] at hbt ⊢; rw [Qbt n ts 0 hts h (by omega)]; simp only [Option.bind_some]; by_cases h0 : (susp n ts 0).length = 0
  ·rw [if_pos h0] at hbt
   rw [if_pos (by omega), hbt]; exact Qb0 _ _ _ _ _ (.inr ⟨by decide, rfl, rfl⟩) (by omega)
  ·rw [if_neg h0] at hbt
   have := Qbi n ts 0 ⟨g1.1, g1.2.1⟩; rw [if_neg (by omega), hbt, h]; exact Qb0 _ _ _ _ _ (.inl ⟨rfl, rfl, by omega, by omega, by omega, rfl⟩) (by omega)
 ·rw [if_neg h] at hbt ⊢
  rw [hbt]; exact Qb0 _ _ _ _ _ (.inr ⟨h, rfl, rfl⟩) (by omega)
theorem ss_l1 (n : Int) (ts : List S75) (w : Int) (hts : Qa1 ts) (can : List Int) (e many f : Int) (R : Option Bool) (hR : ∀ k : Nat, 5000 < k → Qao.l1 (k + 1) n ts w ts can e many f (ts.length : Int) = R) : ∀ (q k i : Nat), i + q = ts.length → 6000 + q < k → Qao.l1 k n ts w ts can e many f (i : Int) = R := by
 have h20 := hts.1; intro q
 induction q with
 | zero =>
  intro k i hi hk; obtain ⟨k, rfl⟩ : ∃ z, k = z + 1 := ⟨k - 1, by omega⟩
  rw [show (i : Int) = (ts.length : Int) by omega]; exact hR k (by omega)
 | succ q ih =>
  intro k i hi hk; obtain ⟨k, rfl⟩ : ∃ z, k = z + 1 := ⟨k - 1, by omega⟩
  have hlt : i < ts.length := by omega
  have hs := hts.2 _ (List.getElem_mem hlt); simp only [Qao.l1]; rw [if_pos (by omega), if_pos trivial, if_pos (by omega), if_pos (by omega), Qa3 hlt, like_eq _ _ (by omega) (by omega), like_eq _ _ (by omega) (by omega), w64 (by omega)]; simp only [Option.bind_some, decide_true, if_true]; exact ih k (i + 1) (by omega) (by omega)
theorem ss_go (n : Int) (ts : List S75) (w : Int) (hts : Qa1 ts) {k : Nat} (hk : 20000 < k) :
  ((Qav.f k ts).bind fun t106 => ((Qs.f k n t106 w).bind fun bt109 => ((QT.f k n t106).bind fun bt113 => (Qao.l1 k n ts w t106 bt109.1 bt109.2 bt113.1 bt113.2 0)))) = some true := by
 have h20 := hts.1
 have hc : Qav.f k ts = some ts := by
  unfold Qav.f; exact Qbw ts hts ts.length k 0 (Nat.zero_add _) (by omega)
 rw [hc]; simp only [Option.bind_some]; rw [Qbg n ts w hts (by omega), Qb5 n ts hts (by omega)]; simp only [Option.bind_some]; have hj3 := fun (k : Nat) (hk : 3000 < k) => ss_j3 n ts hts hk _ rfl
 generalize (if wgh n ts 0 = 0 then (if (susp n ts 0).length = 0 then ((0 : Int), (9 : Int)) else (Qa6 (susp n ts 0).length, 0)) else (0, wgh n ts 0)) = bt at hj3 ⊢; refine ss_l1 n ts w hts _ _ _ _ _ (fun k hk => ?_) ts.length k 0 (Nat.zero_add _) (by omega); obtain ⟨k, rfl⟩ : ∃ z, k = z + 1 := ⟨k - 1, by omega⟩
 simp only [Qao.l1]; rw [if_neg (by omega), Qbj n ts w hts (by omega)]; simp only [Option.bind_some]; by_cases h : wgh n ts w = 0
 ·obtain ⟨g1, g2⟩ := wgh0 h
  have hl := Qbi n ts w ⟨g1.1, g1.2.1⟩; rw [if_pos h, if_pos h, Qbt n ts w hts h (by omega)]; simp only [Option.bind_some]; by_cases h0 : (susp n ts w).length = 0
  ·rw [if_pos h0, if_pos (by omega)]
   simp only [Qao.j2]; rw [if_pos trivial, if_neg (by decide), if_pos (show (([] : List Int).length : Int) = 0 from rfl)]; exact hj3 k (by omega)
  ·rw [if_neg h0, if_neg (by omega), h]
   simp only [Qao.j2]; rw [if_pos trivial, if_pos trivial, like_eq _ _ (by omega) (by omega)]; simp only [Option.bind_some, decide_true, Bool.not_true]; exact hj3 k (by omega)
 ·rw [if_neg h, if_neg h]
  simp only [Qao.j2]; rw [if_pos trivial, if_neg h, if_pos (show (([] : List Int).length : Int) = 0 from rfl)]; exact hj3 k (by omega)
theorem ss_l0 (n : Int) (ts : List S75) (w : Int) (h20 : ts.length ≤ 20) : ∀ (q k i : Nat), i + q = ts.length → (∀ t ∈ ts.take i, t.f0.length ≤ 20 ∧ t.f1.length ≤ 20) → 20001 + q < k → Qao.l0 k n ts w (i : Int) = some true := by
 intro q
 induction q with
 | zero =>
  intro k i hi hs hk; obtain ⟨k, rfl⟩ : ∃ z, k = z + 1 := ⟨k - 1, by omega⟩
  rw [List.take_of_length_le (by omega)] at hs; simp only [Qao.l0]; rw [if_neg (by omega)]; exact ss_go n ts w ⟨h20, hs⟩ (by omega)
 | succ q ih =>
  intro k i hi hs hk; obtain ⟨k, rfl⟩ : ∃ z, k = z + 1 := ⟨k - 1, by omega⟩
  have hlt : i < ts.length := by omega
  have hkn : ((Qd.f k).bind fun t => (some t)) = some true := by rw [Qd.at (by omega)]; rfl
  simp only [Qao.l0]; rw [if_pos (by omega), if_pos (by omega), Qa3 hlt]; by_cases c1 : (ts[i].f0.length : Int) > 20
  ·rw [if_pos c1]; exact hkn
  ·rw [if_neg c1]
   by_cases c2 : (ts[i].f1.length : Int) > 20
   ·rw [if_pos c2]; exact hkn
   ·rw [if_neg c2, w64 (by omega)]
    refine ih k (i + 1) (by omega) (fun t ht => ?_) (by omega); rw [List.take_succ_eq_append_getElem hlt, List.mem_append] at ht
    rcases ht with ht | ht
    ·exact hs t ht
    ·rw [List.mem_singleton.1 ht]; omega
theorem Qbh (n : Int) (ts : List S75) (w : Int) : ∃ k, Qao.f k n ts w = some true := by
 obtain ⟨k, hk⟩ : ∃ k, 30000 < k := ⟨30001, by omega⟩
 refine ⟨k, ?_⟩; unfold Qao.f; by_cases h : (ts.length : Int) > 20
 ·rw [if_pos h, Qd.at (by omega)]; rfl
 ·rw [if_neg h]
  exact ss_l0 n ts w (by omega) ts.length k 0 (Nat.zero_add _) (fun t ht => by simp at ht) (by omega)
end Go.Proofs.YtjaapkkpmegkfaaGreat.P
