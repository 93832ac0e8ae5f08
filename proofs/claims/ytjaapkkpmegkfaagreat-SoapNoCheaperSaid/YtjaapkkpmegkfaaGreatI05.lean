/- Part 5 of what the law's proof needs beyond its base: words, walks of functions and plain facts. -/
import Derived.Test.YtjaapkkpmegkfaaGreatI04
set_option linter.unusedVariables false
set_option linter.unusedSimpArgs false
namespace Go.Proofs.YtjaapkkpmegkfaaGreat.P
open Go.RowKit Go.Proofs.YtjaapkkpmegkfaaGreatW.PrintWords
def IsK (k : IntKind) (n : Int) : Prop := (Lit.int k n).wf = true
theorem O_u8 : Qa3 Tryz.prog (Kd.int .u8) 5 (IsK .u8) := Qa3.int Tryz.underlying5 (by kernel_rfl)
def B24 (x : S24) : Prop := (IsK .i64) x.f0 ∧ (IsK .i64) x.f1
def B89 (x : S89) : Prop := (IsK .u8) x.f0 ∧ (IsK .u8) x.f1 ∧ (IsK .u8) x.f2 ∧ (IsK .u8) x.f3 ∧ (IsK .u8) x.f4
theorem O89 : Qa3 Tryz.prog k89 89 B89 := by
 refine Qa3.array (fs := #[⟨"", 5, 0, false, "", "", 0⟩, ⟨"", 5, 1, false, "", "", 0⟩, ⟨"", 5, 2, false, "", "", 0⟩, ⟨"", 5, 3, false, "", "", 0⟩, ⟨"", 5, 4, false, "", "", 0⟩]) ?_ Tryz.underlying89 (by kernel_rfl) (by kernel_rfl) rfl (by decide); refine Qa1.iso (d := (Kd.pair (Kd.int .u8) (Kd.pair (Kd.int .u8) (Kd.pair (Kd.int .u8) (Kd.pair (Kd.int .u8) (Kd.int .u8)))))) (B := fun p => (IsK .u8) p.1 ∧ (IsK .u8) p.2.1 ∧ (IsK .u8) p.2.2.1 ∧ (IsK .u8) p.2.2.2.1 ∧ (IsK .u8) p.2.2.2.2) ?_ (fun x : S89 => (x.f0, x.f1, x.f2, x.f3, x.f4)) (fun p => ⟨p.1, p.2.1, p.2.2.1, p.2.2.2.1, p.2.2.2.2⟩) (fun _ => rfl); refine Qa1.cons (B := IsK .u8) (B' := fun p : Int × Int × Int × Int => (IsK .u8) p.1 ∧ (IsK .u8) p.2.1 ∧ (IsK .u8) p.2.2.1 ∧ (IsK .u8) p.2.2.2) ?_ ?_
 ·exact Qa1.one _ rfl rfl O_u8
 refine Qa1.cons (B := IsK .u8) (B' := fun p : Int × Int × Int => (IsK .u8) p.1 ∧ (IsK .u8) p.2.1 ∧ (IsK .u8) p.2.2) ?_ ?_
 ·exact Qa1.one _ rfl rfl O_u8
 refine Qa1.cons (B := IsK .u8) (B' := fun p : Int × Int => (IsK .u8) p.1 ∧ (IsK .u8) p.2) ?_ ?_
 ·exact Qa1.one _ rfl rfl O_u8
 refine Qa1.cons (B := IsK .u8) (B' := fun p : Int => (IsK .u8) p) ?_ ?_
 ·exact Qa1.one _ rfl rfl O_u8
 exact Qa1.one _ rfl rfl O_u8
def B91 (x : S91) : Prop := (fun l => ∀ x ∈ l, (B89) x) x.f0 ∧ (B89) x.f1
theorem O91 : Qa3 Tryz.prog k91 91 B91 := by
 refine Qa3.struct ?_ Tryz.underlying91 (by kernel_rfl); refine Qa1.iso (d := (Kd.pair (Kd.slice 89 k89) k89)) (B := fun p => (fun l => ∀ x ∈ l, (B89) x) p.1 ∧ (B89) p.2) ?_ (fun x : S91 => (x.f0, x.f1)) (fun p => ⟨p.1, p.2⟩) (fun _ => rfl); refine Qa1.cons (B := fun l => ∀ x ∈ l, (B89) x) (B' := fun p : S89 => (B89) p) ?_ ?_
 ·exact Qa1.one _ rfl rfl (Qa3.slice O89 Tryz.underlying88 (by kernel_rfl))
 exact Qa1.one _ rfl rfl O89
end Go.Proofs.YtjaapkkpmegkfaaGreat.P
namespace Go.Proofs.YtjaapkkpmegkfaaGreat.P
open Go.RowKit Go.Shelf Go.Proofs.YtjaapkkpmegkfaaGreatW.PrintWords Go.Proofs.YtjaapkkpmegkfaaGreatW.PrintLast Go.Proofs.YtjaapkkpmegkfaaGreatW.PrintMore
def byte (x : Int) : Prop := 0 ≤ x ∧ x ≤ 255
def Qa8 (x : S89) : Prop := byte x.f0 ∧ byte x.f1 ∧ byte x.f2 ∧ byte x.f3 ∧ byte x.f4
theorem rdV_nat {l : List S89} {i : Nat} (h : i < l.length) : Qas l (i : Int) = l[i] := by simp [Qas, List.getD_eq_getElem?_getD, List.getElem?_eq_getElem h]
theorem Qa9 {x c : Int} (h : 0 ≤ x) : Int.tmod x c = x % c := Int.tmod_eq_emod_of_nonneg h
theorem Qbg {x : Int} (h : IsK .u8 x) : byte x := by
 unfold IsK at h
 simp [Lit.wf, IntKind.min, IntKind.max, IntKind.signed, IntKind.bits] at h
 unfold byte; omega
theorem Qb8 {v : S89} (h : B89 v) : Qa8 v := ⟨Qbg h.1, Qbg h.2.1, Qbg h.2.2.1, Qbg h.2.2.2.1, Qbg h.2.2.2.2⟩
def Qbm (v : S89) : S100 := ⟨⟨v.f0 % 40, v.f0 % 40 + v.f1 % 9⟩, v.f2 % 40, v.f3 % 12, v.f4 % 8⟩
def sort0 : S100 := ⟨⟨10, 12⟩, 5, 1, 6⟩
def Qbk (l : List S89) : List S100 := if l.length = 0 then [sort0] else (l.take 4).map Qbm
theorem Qdf {v : S89} (h : Qa8 v) : okS (Qbm v) = true := by
 obtain ⟨h0, h1, h2, h3, h4⟩ := h; unfold byte at *; unfold okS Qbm; rw [decide_eq_true_iff]; simp only; omega
theorem Qc0 {l : List S89} (h : ∀ v ∈ l, Qa8 v) : chk (Qbk l) = 0 := by
 unfold chk Qbk; by_cases h0 : l.length = 0
 ·rw [if_pos h0]; decide
 ·rw [if_neg h0]
  have hl : ((l.take 4).map Qbm).length = min 4 l.length := by simp
  rw [if_neg (by rw [hl]; omega), if_neg (by rw [hl]; omega), if_pos]; rw [List.all_eq_true]; intro s hs; obtain ⟨v, hv, rfl⟩ := List.mem_map.1 hs; exact Qdf (h v (List.mem_of_mem_take hv))
def Qaz (v : S89) : S26 := ⟨⟨1 + 4 * v.f0, 1 + 4 * v.f0 + v.f2 % 30⟩, ⟨v.f1 % 200, v.f1 % 200 + v.f3 % 20⟩, v.f4⟩
theorem Qda {v : S89} (h : Qa8 v) : okK (Qaz v) = true := by
 obtain ⟨h0, h1, h2, h3, h4⟩ := h; unfold byte at *; unfold okK okC Qaz; rw [decide_eq_true_iff]; simp only; omega
theorem Qb1 {v : S89} (hv : Qa8 v) (s : List S100) (i : Int) (l : List S89) (k : Nat) : Qaq.j1 (k + 1) s i false l v.f0 v.f1 v.f2 v.f3 v.f4 = some (s, (Qaz v).f0.f0, (Qaz v).f0.f1, (Qaz v).f1.f0, (Qaz v).f1.f1, (Qaz v).f2) := by
 obtain ⟨h0, h1, h2, h3, h4⟩ := hv; unfold byte at *; simp only [Qaq.j1, QC.f]; rw [if_neg (by simp)]; simp only [Option.bind_some]; rw [w64 (x := v.f0) (by omega), w64 (x := v.f1) (by omega), w64 (x := v.f2) (by omega), w64 (x := v.f3) (by omega), w64 (x := v.f4) (by omega), w64 (x := 4 * v.f0) (by omega), w64 (x := 1 + 4 * v.f0) (by omega), Qa9 h1.1, Qa9 h2.1, Qa9 h3.1, w64 (x := 1 + 4 * v.f0 + v.f2 % 30) (by omega), w64 (x := v.f1 % 200 + v.f3 % 20) (by omega)]; rfl
theorem made_at {v : S89} (hv : Qa8 v) (l : List S89) (hl : ∀ x ∈ l, Qa8 x) (h0 : l.length ≠ 0) : ∀ (q k i : Nat), i + q = min 4 l.length → 2 * q + 2 < k →
  Qaq.l0 k ((l.take i).map Qbm) (i : Int) l v.f0 v.f1 v.f2 v.f3 v.f4 = some (Qbk l, (Qaz v).f0.f0, (Qaz v).f0.f1, (Qaz v).f1.f0, (Qaz v).f1.f1, (Qaz v).f2) := by
 intro q
 induction q with
 | zero =>
  intro k i hi hk; obtain ⟨k, rfl⟩ : ∃ z, k = z + 1 + 1 := ⟨k - 2, by omega⟩
  have e : (l.take i).map Qbm = Qbk l := by
   unfold Qbk; rw [if_neg h0]; by_cases h4 : l.length ≤ 4
   ·rw [List.take_of_length_le (by omega), List.take_of_length_le h4]
   ·rw [show i = 4 by omega]
  simp only [Qaq.l0]; rw [if_neg (by omega)]; by_cases h1 : (i : Int) < (l.length : Int)
  ·rw [if_pos h1, decide_eq_false (by omega), Qb1 hv, e]
  ·rw [if_neg h1, Qb1 hv, e]
 | succ q ih =>
  intro k i hi hk; obtain ⟨k, rfl⟩ : ∃ z, k = z + 1 + 1 := ⟨k - 2, by omega⟩
  have hlt : i < l.length := by omega
  obtain ⟨b0, b1, b2, b3, b4⟩ := hl l[i] (List.getElem_mem hlt); unfold byte at b0 b1 b2 b3 b4
  have hj : Qaq.j1 (k + 1) ((l.take i).map Qbm) (i : Int) true l v.f0 v.f1 v.f2 v.f3 v.f4 = Qaq.l0 k ((l.take (i + 1)).map Qbm) ((i + 1 : Nat) : Int) l v.f0 v.f1 v.f2 v.f3 v.f4 := by
   simp only [Qaq.j1, QC.f]; rw [if_pos trivial, if_pos (by omega), if_pos (by omega), rdV_nat hlt]; simp only [Option.bind_some]; rw [if_pos (by simp; omega), w64 (x := l[i].f0) (by omega), w64 (x := l[i].f1) (by omega), w64 (x := l[i].f2) (by omega), w64 (x := l[i].f3) (by omega), w64 (x := l[i].f4) (by omega), Qa9 b0.1, Qa9 b1.1, Qa9 b2.1, Qa9 b3.1, Qa9 b4.1, w64 (x := l[i].f0 % 40 + l[i].f1 % 9) (by omega), w64 (x := (i : Int) + 1) (by omega), List.take_succ_eq_append_getElem hlt, List.map_append]; rfl
  simp only [Qaq.l0]; by_cases hz : (i : Int) = 0
  ·rw [if_pos hz, hj]
   exact ih k (i + 1) (by omega) (by omega)
  ·rw [if_neg hz, if_pos (by omega), decide_eq_true (by omega), hj]
   exact ih k (i + 1) (by omega) (by omega)
theorem made_eq (l : List S89) (hl : ∀ x ∈ l, Qa8 x) {v : S89} (hv : Qa8 v) {k : Nat} (hk : 100 < k) : Qaq.f k l v.f0 v.f1 v.f2 v.f3 v.f4 = some (Qbk l, (Qaz v).f0.f0, (Qaz v).f0.f1, (Qaz v).f1.f0, (Qaz v).f1.f1, (Qaz v).f2) := by
 unfold Qaq.f; by_cases h0 : l.length = 0
 ·obtain rfl := List.length_eq_zero_iff.1 h0
  obtain ⟨k, rfl⟩ : ∃ z, k = z + 1 + 1 + 1 + 1 := ⟨k - 4, by omega⟩
  simp only [Qaq.l0]; rw [if_pos trivial]
  have hj : Qaq.j1 (k + 1 + 1 + 1) [] 0 true [] v.f0 v.f1 v.f2 v.f3 v.f4 = Qaq.l0 (k + 1 + 1) [sort0] 1 [] v.f0 v.f1 v.f2 v.f3 v.f4 := by
   simp only [Qaq.j1, QC.f]; rw [if_pos trivial, if_neg (by simp)]; simp only [Option.bind_some]; rw [if_pos (by simp), w64 (by omega)]; rfl
  rw [hj]; simp only [Qaq.l0]; rw [if_neg (by decide), if_neg (by simp), Qb1 hv]; rfl
 ·exact made_at hv l hl h0 _ k 0 (Nat.zero_add _) (by omega)
theorem Qbj (l : List S100) (h : l.length ≤ 100) : Qav.f l = some l := by
 unfold Qav.f; simp only [Option.bind_some, List.length_nil, List.nil_append]; rw [if_pos (by omega)]
def byN (t : List Int) (i : Nat) : Int := t.getD (i % t.length) 0
theorem Qcg {t : List Int} (h : ∀ x ∈ t, byte x) (i : Nat) : 0 ≤ byN t i ∧ byN t i ≤ 255 := by
 unfold byN; by_cases hl : t.length = 0
 ·rw [List.length_eq_zero_iff.1 hl]; simp
 ·have hlt : i % t.length < t.length := Nat.mod_lt _ (by omega)
  rw [List.getD_eq_getElem?_getD, List.getElem?_eq_getElem hlt]; exact h _ (List.getElem_mem hlt)
theorem by_eq {t : List Int} (h : ∀ x ∈ t, byte x) (i : Nat) : Qa5.f t (i : Int) = some (byN t i) := by
 have hb := Qcg h i; unfold Qa5.f; by_cases hl : t.length = 0
 ·rw [if_pos (by omega)]
  unfold byN; rw [List.length_eq_zero_iff.1 hl]; rfl
 ·have hlt : i % t.length < t.length := Nat.mod_lt _ (by omega)
  have e : Int.tmod (i : Int) (t.length : Int) = ((i % t.length : Nat) : Int) := by rw [Int.tmod_eq_emod_of_nonneg (by omega)]; rfl
  rw [if_neg (by omega), e, if_pos (by omega), if_pos (by omega)]; have e2 : rd t ((i % t.length : Nat) : Int) = byN t i := rfl; rw [e2, w64 (by omega)]
theorem Qce (l : List Int) (h : l.length ≤ 100) : Qa0.f l = some l := by
 unfold Qa0.f; simp only [Option.bind_some, List.length_nil, List.nil_append]; rw [if_pos (by omega)]
def mixN (l : List S100) (p : List Int) : List Int := (List.range l.length).map fun i : Nat => byN p i % ((Qf l (i : Int)).f3 + 1)
theorem Qdp {l : List S100} {p : List Int} (ok : ∀ s ∈ l, okS s = true) : fit l (mixN l p) = true := by
 refine Qa7.2 ⟨by simp [mixN], fun i h => ?_⟩; have hl : i < l.length := by simpa [mixN] using h
 have h3 := Qb2 (ok l[i] (List.getElem_mem hl)); rw [← Qa6 hl] at h3; have e : (mixN l p)[i] = byN p i % ((Qf l (i : Int)).f3 + 1) := by simp [mixN]
 rw [e]; have h1 := Int.emod_nonneg (byN p i) (show (Qf l (i : Int)).f3 + 1 ≠ 0 by omega); have h2 := Int.emod_lt_of_pos (byN p i) (show 0 < (Qf l (i : Int)).f3 + 1 by omega); omega
theorem Qdh {l : List S100} {p : List Int} (ok : ∀ s ∈ l, okS s = true) (h4 : l.length ≤ 4) (hp : ∀ x ∈ p, byte x) : ∀ (q k i : Nat), i + q = l.length → q < k →
  Qar.l0 k l p ((List.range i).map fun i : Nat => byN p i % ((Qf l (i : Int)).f3 + 1)) (i : Int) = some (mixN l p) := by
 intro q
 induction q with
 | zero =>
  intro k i hi hk; obtain ⟨k, rfl⟩ : ∃ z, k = z + 1 := ⟨k - 1, by omega⟩
  simp only [Qar.l0]; rw [if_neg (by omega), show i = l.length by omega]; rfl
 | succ q ih =>
  intro k i hi hk; obtain ⟨k, rfl⟩ : ∃ z, k = z + 1 := ⟨k - 1, by omega⟩
  have hl : i < l.length := by omega
  have h3 := Qb2 (ok l[i] (List.getElem_mem hl)); rw [← Qa6 hl] at h3; have hb := Qcg hp i; simp only [Qar.l0]; rw [if_pos (by omega), by_eq hp i, w64 (x := (Qf l (i : Int)).f3 + 1) (by omega), w64 (x := (i : Int) + 1) (by omega)]; simp only [Option.bind_some]; rw [if_pos (by omega), if_neg (by omega), if_pos (by simp; omega), Int.tmod_eq_emod_of_nonneg hb.1]; have := ih k (i + 1) (by omega) (by omega); rw [List.range_succ, List.map_append] at this; exact this
theorem Qdm {l : List S100} {p : List Int} (ok : ∀ s ∈ l, okS s = true) (h4 : l.length ≤ 4) (hp : ∀ x ∈ p, byte x) {k : Nat} (hk : 10 < k) : Qar.f k l p = some (mixN l p) := by
 unfold Qar.f; exact Qdh ok h4 hp l.length k 0 (Nat.zero_add _) (by omega)
theorem cost_at (l : List S100) (m : List Int) (h : Mx l m) (hl : m.length = l.length) : ∀ (q k i : Nat) (s t : Int), i + q = m.length → q < k → 0 ≤ s → s ≤ 12 * 500 * (i : Int) → 0 ≤ t → t ≤ 12 * 50 * (i : Int) →
  Qaw.l0 k l m s t (i : Int) = some (s + tot Qax (l.drop i) (m.drop i), t + tot Qay (l.drop i) (m.drop i)) := by
 have h4 := h.l4; intro q
 induction q with
 | zero =>
  intro k i s t hi hk _ _ _ _; obtain ⟨k, rfl⟩ : ∃ z, k = z + 1 := ⟨k - 1, by omega⟩
  simp only [Qaw.l0]; rw [if_neg (by omega), List.drop_of_length_le (l := m) (by omega)]
  simp [tot]
 | succ q ih =>
  intro k i s t hi hk hs0 hs1 ht0 ht1; obtain ⟨k, rfl⟩ : ∃ z, k = z + 1 := ⟨k - 1, by omega⟩
  have h1 : i < m.length := by omega
  have h2 : i < l.length := by omega
  have hf := Qcp (h.ok l[i] (List.getElem_mem h2)); have hg := Qb7 (h.ok l[i] (List.getElem_mem h2)); have hx := h.m12 m[i] (List.getElem_mem h1); have hp := Qba hx.1 hx.2 hf.1 hf.2; have hq := Qba hx.1 hx.2 hg.1 hg.2; simp only [Qaw.l0]; rw [if_pos (by omega), if_pos (by omega), if_pos (by omega), Qa6 h2, YT h1, Qbf h2 h1, Qbf h2 h1]; have e : l[i].f1 = Qax l[i] := rfl; have e' : l[i].f2 = Qay l[i] := rfl; rw [e, e', w64 (x := m[i] * Qax l[i]) (by omega), w64 (x := s + m[i] * Qax l[i]) (by omega), w64 (x := m[i] * Qay l[i]) (by omega), w64 (x := t + m[i] * Qay l[i]) (by omega), w64 (by omega), show ((i : Int) + 1) = ((i + 1 : Nat) : Int) by omega, ih k (i + 1) _ _ (by omega) (by omega) (by omega) (by omega) (by omega) (by omega), Int.add_assoc, Int.add_assoc]
theorem Qct {l : List S100} {m : List Int} (h : Mx l m) (hl : m.length = l.length) {k : Nat} (hk : m.length < k) : Qaw.f k l m = some (tot Qax l m, tot Qay l m) := by
 unfold Qaw.f; have := cost_at l m h hl m.length k 0 0 0 (Nat.zero_add _) hk (by omega) (by omega) (by omega) (by omega)
 simpa using this
theorem fits_at (l : List S100) (m : List Int) (hl : m.length = l.length) (h4 : l.length ≤ 100) (hf : fit l m = true) : ∀ (q k i : Nat), i + q = l.length → q < k → Qau.l0 k l m (i : Int) = some true := by
 obtain ⟨_, hb⟩ := Qa7.1 hf; intro q
 induction q with
 | zero =>
  intro k i hi hk; obtain ⟨k, rfl⟩ : ∃ z, k = z + 1 := ⟨k - 1, by omega⟩
  simp only [Qau.l0]; rw [if_neg (by omega)]
 | succ q ih =>
  intro k i hi hk; obtain ⟨k, rfl⟩ : ∃ z, k = z + 1 := ⟨k - 1, by omega⟩
  have := hb i (by omega); simp only [Qau.l0]; rw [if_pos (by omega), if_pos (by omega), if_pos (by omega), YT (by omega), if_neg (by omega), if_neg (by omega), w64 (by omega)]; exact ih k (i + 1) (by omega) (by omega)
theorem Qbp {l : List S100} {m : List Int} (h4 : l.length ≤ 100) (hf : fit l m = true) {k : Nat} (hk : 200 < k) : Qau.f k l m = some true := by
 have hl := (Qa7.1 hf).1; unfold Qau.f; rw [if_pos (by omega)]; exact fits_at l m hl h4 hf l.length k 0 (Nat.zero_add _) (by omega)
theorem Qc1 (p : Int → Bool) (P : Int → Option Bool) (hP : ∀ x, 0 ≤ x → x < 501 → P x = some (p x)) : ∀ (z k : Nat) (x y : Int), 0 ≤ x → x ≤ y → y ≤ 501 → (y - x).toNat ≤ z → z < k →
  ∃ r, J6 P k x y = some r ∧ x ≤ r ∧ r ≤ y ∧ (x < r → p (r - 1) = false) ∧ (r < y → p r = true) := by
 intro z
 induction z with
 | zero =>
  intro k x y h0 h1 h2 h3 h4; obtain ⟨k, rfl⟩ : ∃ z, k = z + 1 := ⟨k - 1, by omega⟩
  refine ⟨x, ?_, by omega, by omega, fun h => by omega, fun h => by omega⟩; simp only [J6]; rw [if_neg (by omega)]
 | succ z ih =>
  intro k x y h0 h1 h2 h3 h4; obtain ⟨k, rfl⟩ : ∃ z, k = z + 1 := ⟨k - 1, by omega⟩
  simp only [J6]; by_cases hxy : x < y
  ·rw [if_pos hxy, w64 (x := x + y) (by omega)]
   have e : IntKind.u64.wrap (x + y) = x + y := by show (x + y) % 18446744073709551616 = _; omega
   rw [e, w64 (x := (x + y) / 2) (by omega), w64 (x := (x + y) / 2 + 1) (by omega)]; generalize hm : (x + y) / 2 = m; have hm1 : x ≤ m ∧ m < y := by omega
   rw [hP m (by omega) (by omega)]; simp only [Option.bind_some]
   cases hc : p m with
   | true =>
    rw [if_pos rfl]; obtain ⟨r, g1, g2, g3, g4, g5⟩ := ih k x m h0 (by omega) (by omega) (by omega) (by omega); refine ⟨r, g1, g2, by omega, g4, fun _ => ?_⟩; by_cases hr : r < m
    ·exact g5 hr
    ·rw [show r = m by omega]; exact hc
   | false =>
    rw [if_neg (by simp)]; obtain ⟨r, g1, g2, g3, g4, g5⟩ := ih k (m + 1) y (by omega) (by omega) (by omega) (by omega) (by omega); refine ⟨r, g1, by omega, g3, fun _ => ?_, g5⟩; by_cases hr : m + 1 < r
    ·exact g4 hr
    ·rw [show r - 1 = m by omega]; exact hc
  ·rw [if_neg hxy]
   exact ⟨x, rfl, by omega, by omega, fun h => by omega, fun h => by omega⟩
def wo (l : List S100) (n : Int) : List S100 := l.set n.toNat { (Qf l n) with f3 := 0 }
def pr (l : List S100) (n p : Int) : List S100 := l.set n.toNat { (Qf l n) with f1 := p }
theorem Qcv {l : List S100} (hl : chk l = 0) {s : S100} (hs : okS s = true) (n : Nat) : chk (l.set n s) = 0 := by
 obtain ⟨h1, h2, h3⟩ := chk0 hl; unfold chk; rw [List.length_set, if_neg (by omega), if_neg (by omega), if_pos]; rw [List.all_eq_true]; intro x hx
 rcases List.mem_or_eq_of_mem_set hx with h | h
 ·exact h3 x h
 ·rw [h]; exact hs
theorem Qc7 {l : List S100} (hl : chk l = 0) {n : Int} (h0 : 0 ≤ n) (h1 : n < l.length) : okS (Qf l n) = true := by
 obtain ⟨m, rfl⟩ := Int.eq_ofNat_of_zero_le h0; rw [Qa6 (by omega)]; exact (chk0 hl).2.2 _ (List.getElem_mem _)
theorem Qck {l : List S100} (hl : chk l = 0) {n : Int} (h0 : 0 ≤ n) (h1 : n < l.length) : chk (wo l n) = 0 := by
 refine Qcv hl ?_ _; have := Qc7 hl h0 h1; unfold okS at this ⊢; rw [decide_eq_true_iff] at this ⊢; simp only; omega
theorem Qde {l : List S100} (hl : chk l = 0) {n p : Int} (h0 : 0 ≤ n) (h1 : n < l.length) (hp : 0 ≤ p ∧ p ≤ 500) : chk (pr l n p) = 0 := by
 refine Qcv hl ?_ _; have := Qc7 hl h0 h1; unfold okS at this ⊢; rw [decide_eq_true_iff] at this ⊢; simp only; omega
def Qbc (l : List S100) (b d e n p : Int) : Bool :=
 (best (pr l n p) b d e).2 && (!(best (wo l n) b d e).2 || decide (tot Qax (pr l n p) (best (pr l n p) b d e).1 < tot Qax (wo l n) (best (wo l n) b d e).1))
theorem Qdi {l : List S100} {a b c d e n : Int} (hl : chk l = 0) (hc : okC a b c d e = true) (h0 : 0 ≤ n) (h1 : n < l.length) {k : Nat} (hk : 2000 < k) {p : Int} (hp : 0 ≤ p ∧ p ≤ 500) :
  QZ.f k p a b c d e l n (best (wo l n) b d e).2 a b c d e (wo l n) (best (wo l n) b d e).1 = some (Qbc l b d e n p) := by
 have h4 := (chk0 hl).2.1; have hlw := Qck hl h0 h1; have hlp := Qde hl h0 h1 hp; obtain ⟨g1, g2⟩ := Qbl hlp hc hk; obtain ⟨_, g3⟩ := Qbl hlw hc hk; have hlen : (wo l n).length = l.length := by unfold wo; simp
 have hlen2 : (pr l n p).length = l.length := by unfold pr; simp
 unfold QZ.f QQ.f; rw [if_pos ⟨h0, h1, by omega⟩]; simp only [Option.bind_some]; have ep : l.set n.toNat { (Qf l n) with f1 := p } = pr l n p := rfl; rw [ep, g1]; simp only [Option.bind_some]; unfold Qbc; by_cases hb : (best (pr l n p) b d e).2 = true
 ·have hm := g2 hb
  rw [if_pos hb, hb, Bool.true_and]; by_cases hw : (best (wo l n) b d e).2 = true
  ·have hm2 := g3 hw
   rw [if_pos hw, hw, Qbi hm.1 _ _ _ _ _ (by omega), Qbi hm2.1 _ _ _ _ _ (by omega)]
   simp
  ·rw [if_neg hw]
   have : (best (wo l n) b d e).2 = false := by simpa using hw
   rw [this]; rfl
 ·rw [if_neg hb]
  have : (best (pr l n p) b d e).2 = false := by simpa using hb
  rw [this]; rfl
theorem dear_eq {l : List S100} {a b c d e n : Int} (hl : chk l = 0) (hc : okC a b c d e = true) (h0 : 0 ≤ n) (h1 : n < l.length) {k : Nat} (hk : 2000 < k) :
  ∃ r, 0 ≤ r ∧ r ≤ 501 ∧ (0 < r → Qbc l b d e n (r - 1) = true) ∧ (r < 501 → Qbc l b d e n r = false) ∧ Q7.f k l a b c d e n = some (if r = 0 then (0, 9) else (r - 1, 0)) := by
 have h4 := (chk0 hl).2.1; have hlw := Qck hl h0 h1
 obtain ⟨r, g1, g2, g3, g4, g5⟩ := Qc1 (fun x => !Qbc l b d e n x) (fun x => (QZ.f k x a b c d e l n (best (wo l n) b d e).2 a b c d e (wo l n) (best (wo l n) b d e).1).bind fun b => some (!b)) (fun x hx0 hx1 => by
  rw [Qdi hl hc h0 h1 hk ⟨hx0, by omega⟩]; rfl) 501 k 0 501 (by omega) (by omega) (by omega) (by omega) (by omega)
 refine ⟨r, g2, g3, fun h => by simpa using g4 h, fun h => by simpa using g5 h, ?_⟩; have hopn : opn l a b c d e = 0 := by unfold opn; rw [if_pos hl, if_pos hc]
 unfold Q7.f; rw [Qb5]; simp only [Option.bind_some]; rw [if_pos hopn, w64 (x := (l.length : Int) - 1) (by omega), Y1]; simp only [Option.bind_some]; rw [if_pos (by simp; omega)]; unfold Q2.f; rw [if_pos ⟨h0, h1, by omega⟩]; simp only [Option.bind_some]; have e1 : l.set n.toNat { (Qf l n) with f3 := 0 } = wo l n := rfl; rw [e1, (Qbl hlw hc hk).1]; simp only [Option.bind_some]; unfold Q7.tail; rw [g1]; simp only [Option.bind_some]; by_cases hr : r = 0
 ·rw [if_pos hr, if_pos hr]
 ·rw [if_neg hr, if_neg hr, w64 (by omega)]
def Qbo (l : List S100) (b d e : Int) (z : List Int) : Prop := lo l b d z ≥ 0 ∧ tot Qay l z ≤ e
theorem Qbq {β : Type} {g : Nat → List β} {z : β} {p : Nat} : ∀ {n : Nat}, p < n → z ∈ g p → z ∈ catL g n
 | 0, h, _ => by omega
 | n + 1, h, hz => by
  unfold catL; by_cases e : p = n
  ·subst e; exact List.mem_append_right _ hz
  ·exact List.mem_append_left _ (Qbq (by omega) hz)
theorem Qc8 (l : List S100) : ∀ (q : Nat) (m s : List Int), m.length + q + 1 = l.length → s.length = q + 1 → (∀ i (h : i < s.length), 0 ≤ s[i] ∧ s[i] ≤ (Qf l ((m.length + i : Nat) : Int)).f3) → m ++ s ∈ allA l q m := by
 intro q
 induction q with
 | zero =>
  intro m s hl hs hb
  match s, hs with
  | [x], _ =>
   have h := hb 0 (by simp); simp only [List.getElem_cons_zero, Nat.add_zero] at h; unfold allA; refine Qbq (p := x.toNat) (by omega) ?_; rw [show ((x.toNat : Nat) : Int) = x by omega]; exact List.mem_singleton.2 rfl
 | succ q ih =>
  intro m s hl hs hb
  match s, hs with
  | x :: s, hs =>
   have h := hb 0 (by simp); simp only [List.getElem_cons_zero, Nat.add_zero] at h; unfold allA; refine Qbq (p := x.toNat) (by omega) ?_; rw [show ((x.toNat : Nat) : Int) = x by omega]
   have := ih (m ++ [x]) s (by simp; omega) (by simpa using hs) (fun i hi => by
    have := hb (i + 1) (by simp; omega); simp only [List.getElem_cons_succ] at this; rw [List.length_append, show m.length + [x].length + i = m.length + (i + 1) by simp; omega]; exact this)
   rw [List.append_assoc] at this; exact this
theorem Qb0 (l : List S100) (b d e : Int) : ∀ (ms : List (List Int)) (x : List Int × Bool), (x.2 = true → Qbo l b d e x.1) →
  ((ms.foldl (upd l b d e) x).2 = true → Qbo l b d e (ms.foldl (upd l b d e) x).1) ∧ (x.2 = true → (ms.foldl (upd l b d e) x).2 = true ∧ tot Qax l (ms.foldl (upd l b d e) x).1 ≤ tot Qax l x.1) ∧
  ∀ z ∈ ms, Qbo l b d e z → (ms.foldl (upd l b d e) x).2 = true ∧ tot Qax l (ms.foldl (upd l b d e) x).1 ≤ tot Qax l z
 | [], x, hx => ⟨hx, fun h => ⟨h, Int.le_refl _⟩, fun z hz => by cases hz⟩
 | m :: ms, x, hx => by
  have hu : (upd l b d e x m).2 = true → Qbo l b d e (upd l b d e x m).1 := by
   unfold upd
   split
   ·rename_i h; exact fun _ => ⟨h.1, h.2.1⟩
   ·exact hx
  obtain ⟨i1, i2, i3⟩ := Qb0 l b d e ms (upd l b d e x m) hu
  have hx2 : x.2 = true → (upd l b d e x m).2 = true ∧ tot Qax l (upd l b d e x m).1 ≤ tot Qax l x.1 := by
   intro h; unfold upd
   split
   ·rename_i g
    refine ⟨rfl, ?_⟩
    rcases g.2.2 with g | g
    ·rw [g] at h; cases h
    ·simp only; omega
   ·exact ⟨h, Int.le_refl _⟩
  have hm2 : Qbo l b d e m → (upd l b d e x m).2 = true ∧ tot Qax l (upd l b d e x m).1 ≤ tot Qax l m := by
   intro h; unfold upd
   split
   ·exact ⟨rfl, Int.le_refl _⟩
   ·rename_i g
    cases hq : x.2 with
    | false => exact absurd ⟨h.1, h.2, .inl hq⟩ g
    | true =>
     refine ⟨rfl, ?_⟩; by_cases hlt : tot Qax l m < tot Qax l x.1
     ·exact absurd ⟨h.1, h.2, .inr hlt⟩ g
     ·omega
  rw [List.foldl_cons]; refine ⟨i1, fun h => ?_, fun z hz hg => ?_⟩
  ·have h1 := hx2 h
   have h2 := i2 h1.1; exact ⟨h2.1, Int.le_trans h2.2 h1.2⟩
  ·rcases List.mem_cons.1 hz with rfl | hz
   ·have h1 := hm2 hg
    have h2 := i2 h1.1; exact ⟨h2.1, Int.le_trans h2.2 h1.2⟩
   ·exact i3 z hz hg
theorem Qcb {l : List S100} {b d e : Int} (h : (best l b d e).2 = true) : Qbo l b d e (best l b d e).1 :=
 (Qb0 l b d e _ ([], false) (by simp)).1 h
theorem Qcm {l : List S100} {b d e : Int} (hl : l.length ≠ 0) {z : List Int} (hf : fit l z = true) (hg : Qbo l b d e z) : (best l b d e).2 = true ∧ tot Qax l (best l b d e).1 ≤ tot Qax l z := by
 obtain ⟨h1, h2⟩ := Qa7.1 hf; refine (Qb0 l b d e _ ([], false) (by simp)).2.2 z ?_ hg; have := Qc8 l (l.length - 1) [] z (by simp; omega) (by omega) (fun i hi => by simpa using h2 i hi)
 simpa using this
end Go.Proofs.YtjaapkkpmegkfaaGreat.P
namespace Go.Proofs.YtjaapkkpmegkfaaGreat.P
open Go.RowKit Go.Proofs.YtjaapkkpmegkfaaGreatW.PrintWords Go.Proofs.YtjaapkkpmegkfaaGreatW.PrintLast Go.Proofs.YtjaapkkpmegkfaaGreatW.PrintMore
set_option maxRecDepth 100000 in
theorem Qd.eval : Qd.f 60 = some true := by kernel_rfl
theorem Qd.at {k : Nat} (hk : 60 ≤ k) : Qd.f k = some true := Qbs (g := Qd.f) Qd.mono hk Qd.eval
theorem Qd.yes {k : Nat} {r : Bool} (h : Qd.f k = some r) : r = true := by
 have h1 := Qbs (g := Qd.f) Qd.mono (Nat.le_max_left k 60) h; have h2 := Qbs (g := Qd.f) Qd.mono (Nat.le_max_right k 60) Qd.eval; exact Option.some.inj (h1.symm.trans h2)
theorem Qd.calls (k : Nat) (r : Bool) (w : World) (h : Qd.f k = some r) : Calls Tryz.prog 15 #[] w fun e w' => e = .returned (.bool r) ∧ Below w.heap.size w w' :=
 Qd.calls_true k r w (Qd.yes h) h
end Go.Proofs.YtjaapkkpmegkfaaGreat.P
