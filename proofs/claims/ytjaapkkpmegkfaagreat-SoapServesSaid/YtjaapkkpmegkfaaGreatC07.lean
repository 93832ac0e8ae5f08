/- Part 7 of what the law's proof needs beyond its base: words, walks of functions and plain facts. -/
import Derived.Below
import Derived.Deep.Draws
import Derived.Deep.AppendLies
import Derived.Maps.AppendAt
import Derived.OwnWalk
import Derived.Laws.BytesArg
import Derived.Laws.MakeOwn
import Derived.Laws.OwnMore
import Derived.Deep.OwnRows
import Derived.Tactics
import Derived.Lib.ConvBytes
import Derived.Laws.Slices
import Derived.WalkKit
import Derived.KernelRfl
import Derived.RowKit3
import Derived.Deep.LoopGhost
import Derived.Deep.QuietTactic
import Derived.BigQuiet
import Derived.WideLaws
import Derived.Deep.DeepCutAuto
import Derived.Deep.CutBlock
import Derived.Deep.RegionHeld3
import Derived.Laws.Rows
import Derived.Lib.AppendStr
import Derived.ArgAppend
import Derived.Laws.IdiomCopy
import Derived.RowKit
import Derived.OrdersHeld
import Derived.Laws.BitsLemmas
import Derived.Deep.Slices
import Derived.OpenShut
import Derived.ChangeArms
import Derived.Test.YtjaapkkpmegkfaaGreatR01
import Derived.Test.YtjaapkkpmegkfaaGreatR02
import Derived.Test.YtjaapkkpmegkfaaGreatR03
import Derived.Test.YtjaapkkpmegkfaaGreatR04
import Derived.Test.YtjaapkkpmegkfaaGreatR05
import Derived.Test.YtjaapkkpmegkfaaGreatR06
import Derived.Test.YtjaapkkpmegkfaaGreatR07
import Derived.Test.YtjaapkkpmegkfaaGreatR08
import Derived.Test.YtjaapkkpmegkfaaGreatR09
import Derived.Test.YtjaapkkpmegkfaaGreatR10
import Derived.Test.YtjaapkkpmegkfaaGreatR11
import Derived.Test.YtjaapkkpmegkfaaGreatR12
import Derived.Test.YtjaapkkpmegkfaaGreatR13
import Derived.Test.YtjaapkkpmegkfaaGreatC01
import Derived.Test.YtjaapkkpmegkfaaGreatC02
import Derived.Test.YtjaapkkpmegkfaaGreatC03
import Derived.Test.YtjaapkkpmegkfaaGreatC04
import Derived.Test.YtjaapkkpmegkfaaGreatC05
import Derived.Test.YtjaapkkpmegkfaaGreatC06
set_option linter.unusedVariables false
set_option linter.unusedSimpArgs false
namespace Go.Proofs.YtjaapkkpmegkfaaGreat.P
open Go.RowKit Go.Shelf Go.Proofs.YtjaapkkpmegkfaaGreatW.PrintWords Go.Proofs.YtjaapkkpmegkfaaGreatW.PrintLast Go.Proofs.YtjaapkkpmegkfaaGreatW.PrintMore
theorem Qcb {α : Type _} (n a : Nat) (v : α) (f : Nat → α) : ((List.range n).map f).set a v = (List.range n).map (fun i => if i = a then v else f i) := by
 apply List.ext_getElem
 ·simp
 ·intro i h1 h2
  simp only [List.getElem_set, List.getElem_map, List.getElem_range]; by_cases h : a = i
  ·subst h; simp
  ·rw [if_neg h, if_neg (fun e => h e.symm)]
theorem Qbx {β : Type} {g : Nat → List β} {z : β} : ∀ {n : Nat}, z ∈ catL g n → ∃ p, p < n ∧ z ∈ g p
 | 0, h => by cases h
 | n + 1, h => by
  unfold catL at h
  rcases List.mem_append.1 h with h | h
  ·obtain ⟨p, h1, h2⟩ := Qbx h
   exact ⟨p, by omega, h2⟩
  ·exact ⟨n, by omega, h⟩
theorem Qbh {l : List S100} {m : List Int} : fit l m = true ↔ m.length = l.length ∧ ∀ i (h : i < m.length), 0 ≤ m[i] ∧ m[i] ≤ (Qf l (i : Int)).f3 := by
 unfold fit; rw [Bool.and_eq_true, decide_eq_true_iff, List.all_eq_true]
 constructor
 ·rintro ⟨h1, h2⟩
  refine ⟨h1, fun i h => ?_⟩; have := h2 ((l.zip m)[i]'(by simp; omega)) (List.getElem_mem _); rw [List.getElem_zip, decide_eq_true_iff] at this; rw [Qa5 (by omega)]; exact this
 ·rintro ⟨h1, h2⟩
  refine ⟨h1, fun x hx => ?_⟩; obtain ⟨i, hi, rfl⟩ := List.getElem_of_mem hx; rw [List.getElem_zip, decide_eq_true_iff]; have := h2 i (by simp at hi; omega); rw [Qa5 (by simp at hi; omega)] at this; exact this
theorem Qdg (l : List S100) : ∀ (q : Nat) (m : List Int), m.length + q + 1 = l.length → (∀ i (h : i < m.length), 0 ≤ m[i] ∧ m[i] ≤ (Qf l (i : Int)).f3) → ∀ z ∈ allA l q m, fit l z = true := by
 have hsn : ∀ (m : List Int) (p : Nat), m.length < l.length → (∀ i (h : i < m.length), 0 ≤ m[i] ∧ m[i] ≤ (Qf l (i : Int)).f3) → p < ((Qf l m.length).f3 + 1).toNat → ∀ i (h : i < (m ++ [(p : Int)]).length), 0 ≤ (m ++ [(p : Int)])[i] ∧ (m ++ [(p : Int)])[i] ≤ (Qf l (i : Int)).f3 := by
  intro m p hl hm hp i h; simp only [List.length_append, List.length_cons, List.length_nil] at h; by_cases hi : i < m.length
  ·rw [List.getElem_append_left hi]; exact hm i hi
  ·have : i = m.length := by omega
   subst this; rw [List.getElem_append_right (by omega)]; simp only [Nat.sub_self, List.getElem_cons_zero]; omega
 intro q
 induction q with
 | zero =>
  intro m hl hm z hz; unfold allA at hz; obtain ⟨p, h1, h2⟩ := Qbx hz; rw [List.mem_singleton.1 h2]; exact Qbh.2 ⟨by simp; omega, hsn m p (by omega) hm h1⟩
 | succ q ih =>
  intro m hl hm z hz; unfold allA at hz; obtain ⟨p, h1, h2⟩ := Qbx hz; exact ih _ (by simp; omega) (hsn m p (by omega) hm h1) z h2
theorem Qbl (l : List S100) (b d e : Int) : ∀ (ms : List (List Int)) (x : List Int × Bool), (ms.foldl (upd l b d e) x) = x ∨ ((ms.foldl (upd l b d e) x).2 = true ∧ (ms.foldl (upd l b d e) x).1 ∈ ms)
 | [], _ => .inl rfl
 | m :: ms, x => by
  rw [List.foldl_cons]
  rcases Qbl l b d e ms (upd l b d e x m) with h | ⟨h1, h2⟩
  ·rw [h]
   unfold upd
   split
   ·exact .inr ⟨rfl, List.mem_cons_self ..⟩
   ·exact .inl rfl
  ·exact .inr ⟨h1, List.mem_cons_of_mem _ h2⟩
theorem Qbw {l : List S100} {b d e : Int} (hl : l.length ≠ 0) (h : (best l b d e).2 = true) : fit l (best l b d e).1 = true := by
 unfold best at h ⊢
 rcases Qbl l b d e (allA l (l.length - 1) []) ([], false) with g | ⟨_, g⟩
 ·rw [g] at h; cases h
 ·exact Qdg l _ _ (by simp; omega) (by simp) _ g
def Qbp (s : S100) (x : Int) : S100 := ⟨⟨s.f0.f0, s.f0.f1⟩, s.f1, s.f2, s.f3 - x⟩
def less (l : List S100) (m : List Int) : List S100 := (l.zip m).map fun x => Qbp x.1 x.2
def srv (l : List S100) : List S26 → List (List Int)
 | [] => []
 | c :: cs => if (best l c.f0.f1 c.f1.f1 c.f2).2 = true then (best l c.f0.f1 c.f1.f1 c.f2).1 :: srv (less l (best l c.f0.f1 c.f1.f1 c.f2).1) cs else []
theorem Qbt {l : List S100} {m : List Int} (hl : chk l = 0) (hf : fit l m = true) : chk (less l m) = 0 := by
 obtain ⟨h1, h2, h3⟩ := chk0 hl; have hm := (Qbh.1 hf).1; unfold fit at hf; rw [Bool.and_eq_true, decide_eq_true_iff, List.all_eq_true] at hf; have hlen : (less l m).length = l.length := by unfold less; simp; omega
 unfold chk; rw [if_neg (by omega), if_neg (by omega), if_pos]; rw [List.all_eq_true]; intro s hs; unfold less at hs; obtain ⟨x, hx, rfl⟩ := List.mem_map.1 hs; have g1 := hf.2 x hx; have g2 := h3 x.1 (List.of_mem_zip hx).1; rw [decide_eq_true_iff] at g1; unfold okS at g2 ⊢; rw [decide_eq_true_iff] at g2 ⊢; unfold Qbp; simp only; omega
def okK (c : S26) : Bool := okC c.f0.f0 c.f0.f1 c.f1.f0 c.f1.f1 c.f2
theorem Qbo {l : List S26} {i : Nat} (h : i < l.length) : Qy l (i : Int) = l[i] := by simp [Qy, List.getD_eq_getElem?_getD, List.getElem?_eq_getElem h]
theorem rdL_nat {l : List (List Int)} {i : Nat} (h : i < l.length) : Jo l (i : Int) = l[i] := by simp [Jo, List.getD_eq_getElem?_getD, List.getElem?_eq_getElem h]
def Qba (l : List S100) (m : List Int) (j : Nat) : List S100 := (List.range l.length).map fun i : Nat => if i < j then Qbp (Qf l (i : Int)) (rd m (i : Int)) else Qf l (i : Int)
theorem Qcd (l : List S100) (m : List Int) : Qba l m 0 = l := by
 unfold Qba; apply List.ext_getElem
 ·simp
 ·intro i h1 h2
  simp [Qa5 h2]
theorem Qbz {l : List S100} {m : List Int} (h : m.length = l.length) : Qba l m l.length = less l m := by
 unfold Qba less; apply List.ext_getElem
 ·simp; omega
 ·intro i h1 h2
  simp only [List.length_map, List.length_range] at h1
  simp [Qa5 h1, YT (l := m) (i := i) (by omega), h1]
theorem Qb0 {l : List S100} {m : List Int} {j : Nat} (hj : j < l.length) : (Qba l m j).set j (Qbp (Qf l (j : Int)) (rd m (j : Int))) = Qba l m (j + 1) := by
 unfold Qba; rw [Qcb]; apply List.map_congr_left
 intro i _; by_cases h : i = j
 ·subst h; simp
 ·rw [if_neg h]
  by_cases h' : i < j
  ·rw [if_pos h', if_pos (by omega)]
  ·rw [if_neg h', if_neg (by omega)]
theorem Qca {l : List S100} {m : List Int} {j : Nat} (hj : j < l.length) : Qf (Qba l m j) (j : Int) = Qf l (j : Int) := by
 rw [Qa5 (by unfold Qba; simp; omega)]; unfold Qba
 simp
theorem Qbk {l : List S100} {m : List Int} {j : Nat} : (Qba l m j).length = l.length := by unfold Qba; simp
theorem Qc9 {l : List S100} {m : List Int} (ok : ∀ s ∈ l, okS s = true) (h : fit l m = true) {j : Nat} (hj : j < l.length) : 0 ≤ (Qf l (j : Int)).f3 - rd m (j : Int) ∧ (Qf l (j : Int)).f3 - rd m (j : Int) ≤ 12 := by
 obtain ⟨h1, h2⟩ := Qbh.1 h; have := h2 j (by omega); have h3 := Qbj (ok l[j] (List.getElem_mem hj)); rw [YT (by omega)]; rw [Qa5 hj] at this ⊢; omega
theorem Qc5 (acc : List (List Int)) (l : List S100) (m : List Int) (cs : List S26) (n i : Int) (ok : ∀ s ∈ l, okS s = true) (h4 : l.length ≤ 4) (hf : fit l m = true) : ∀ (q k j : Nat), j + q = l.length → q < k → ∃ k', k ≤ k' + q + 1 ∧
  QD.l1 k acc (Qba l m j) cs n i m (m.length : Int) (j : Int) = QD.l0 k' acc (less l m) cs n (wrap64 (i + 1)) := by
 have hml := (Qbh.1 hf).1; intro q
 induction q with
 | zero =>
  intro k j hj hk; obtain ⟨k, rfl⟩ : ∃ z, k = z + 1 := ⟨k - 1, by omega⟩
  refine ⟨k, by omega, ?_⟩; simp only [QD.l1]; rw [if_neg (by omega), show j = l.length by omega, Qbz hml]
 | succ q ih =>
  intro k j hj hk; obtain ⟨k, rfl⟩ : ∃ z, k = z + 1 := ⟨k - 1, by omega⟩
  have hlt : j < l.length := by omega
  have hb := Qc9 ok hf hlt; obtain ⟨k', g1, g2⟩ := ih k (j + 1) (by omega) (by omega); refine ⟨k', by omega, ?_⟩; simp only [QD.l1]; rw [if_pos (by omega), if_pos (by omega), if_pos (by omega), if_pos (by rw [Qbk]; omega), Qca hlt, w64 (x := (Qf l (j : Int)).f3 - rd m (j : Int)) (by omega), w64 (x := (j : Int) + 1) (by omega), Int.toNat_natCast]; have := Qb0 (m := m) hlt; unfold Qbp at this; rw [this]; exact g2
theorem Qdb (cs : List S26) (h6 : cs.length ≤ 6) (hok : ∀ c ∈ cs, okK c = true) : ∀ (q k i : Nat) (acc : List (List Int)) (l : List S100), i + q = cs.length → 3000 + 10 * q < k → acc.length ≤ i → chk l = 0 →
  QD.l0 k acc l cs (cs.length : Int) (i : Int) = some (acc ++ srv l (cs.drop i), 0) := by
 intro q
 induction q with
 | zero =>
  intro k i acc l hi hk ha hl; obtain ⟨k, rfl⟩ : ∃ z, k = z + 1 := ⟨k - 1, by omega⟩
  simp only [QD.l0]; rw [if_neg (by omega), List.drop_of_length_le (by omega)]
  simp [srv]
 | succ q ih =>
  intro k i acc l hi hk ha hl; obtain ⟨k, rfl⟩ : ∃ z, k = z + 1 := ⟨k - 1, by omega⟩
  have hlt : i < cs.length := by omega
  obtain ⟨h1, h2, h3⟩ := chk0 hl; have hc := hok cs[i] (List.getElem_mem hlt); obtain ⟨e1, _⟩ := Qc1 hl hc (k := k) (by omega); simp only [QD.l0]; rw [if_pos (by omega), if_pos (by omega), if_pos (by omega), Qbo hlt, e1, List.drop_eq_getElem_cons hlt]; simp only [Option.bind_some, srv]; by_cases hb : (best l cs[i].f0.f1 cs[i].f1.f1 cs[i].f2).2 = true
  ·have hf := Qbw (l := l) (by omega) hb
   rw [if_pos hb, if_pos (by omega), if_pos hb]; generalize (best l cs[i].f0.f1 cs[i].f1.f1 cs[i].f2).1 = m at hf ⊢; obtain ⟨k', g1, g2⟩ := Qc5 (acc ++ [m]) l m cs (cs.length : Int) (i : Int) h3 h2 hf l.length k 0 (Nat.zero_add _) (by omega); rw [Qcd] at g2; have g2' : QD.l1 k (acc ++ [m]) l cs (cs.length : Int) (i : Int) m (m.length : Int) 0 = _ := g2; rw [g2', w64 (by omega)]; have := ih k' (i + 1) (acc ++ [m]) (less l m) (by omega) (by omega) (by simp; omega) (Qbt hl hf); rw [show ((i : Int) + 1) = ((i + 1 : Nat) : Int) by omega, this, List.append_assoc]; rfl
  ·rw [if_neg hb, if_neg hb]; simp
theorem Qc6 (cs : List S26) : Js.f cs = some (cs.any fun c => !okK c) := by
 unfold Js.f; exact YA fun c _ => by unfold Zd.f; rw [Qcu]; rfl
def chkS (l : List S100) (cs : List S26) : Int := if chk l = 0 then if (cs.length : Int) > 6 then 8 else if cs.all okK = true then 0 else 3 else chk l
theorem Qda (l : List S100) (cs : List S26) {k : Nat} (hk : 4000 < k) : QD.f k l cs = some (if chkS l cs = 0 then (srv l cs, 0) else ([], chkS l cs)) := by
 unfold QD.f chkS; rw [Qdf]; simp only [Option.bind_some]; by_cases h : chk l = 0
 ·have h4 := (chk0 h).2.1
  rw [if_pos h]; simp only [if_pos h]; by_cases h6 : (cs.length : Int) > 6
  ·rw [if_pos h6]; simp only [if_pos h6]; rfl
  ·rw [if_neg h6, Qc6]; simp only [if_neg h6, Option.bind_some]
   by_cases hc : cs.all okK = true
   ·rw [if_neg (by simpa using hc)]; simp only [if_pos hc]
    unfold Q6.f; simp only [Option.bind_some, List.length_nil, List.nil_append]; rw [if_pos (by omega)]; simp only [Option.bind_some]; have := Qdb cs (by omega) (by simpa using hc) cs.length k 0 [] l (Nat.zero_add _) (by omega) (by simp) h
    simpa using this
   ·rw [if_pos (by simpa using hc)]; simp only [if_neg hc]; rfl
 ·rw [if_neg h]; simp only [if_neg h]
theorem Qco (acc : List (List Int)) (l : List S100) (m : List Int) (cs : List S26) (i : Int) (ok : ∀ s ∈ l, okS s = true) (h4 : l.length ≤ 4) (hf : fit l m = true) (ha : acc.length ≤ 100) : ∀ (q k j : Nat), j + q = l.length → q < k → ∃ k', k ≤ k' + q + 1 ∧
  Qar.l1 k cs (Qba l m j) acc i m (j : Int) = Qar.l0 k' cs (less l m) (acc ++ [m]) (wrap64 (i + 1)) := by
 have hml := (Qbh.1 hf).1; intro q
 induction q with
 | zero =>
  intro k j hj hk; obtain ⟨k, rfl⟩ : ∃ z, k = z + 1 := ⟨k - 1, by omega⟩
  refine ⟨k, by omega, ?_⟩; simp only [Qar.l1]; rw [if_neg (by rw [Qbk]; omega), if_pos (by omega), show j = l.length by omega, Qbz hml]
 | succ q ih =>
  intro k j hj hk; obtain ⟨k, rfl⟩ : ∃ z, k = z + 1 := ⟨k - 1, by omega⟩
  have hlt : j < l.length := by omega
  have hb := Qc9 ok hf hlt; obtain ⟨k', g1, g2⟩ := ih k (j + 1) (by omega) (by omega); refine ⟨k', by omega, ?_⟩; simp only [Qar.l1]; rw [if_pos (by rw [Qbk]; omega), if_pos (by omega), if_pos (by omega), Qca hlt, w64 (x := (Qf l (j : Int)).f3 - rd m (j : Int)) (by omega), w64 (x := (j : Int) + 1) (by omega), Int.toNat_natCast]; have := Qb0 (m := m) hlt; unfold Qbp at this; rw [this]; exact g2
theorem Qcp (cs : List S26) (h6 : cs.length ≤ 6) (hok : ∀ c ∈ cs, okK c = true) : ∀ (q k i : Nat) (acc : List (List Int)) (l : List S100), i + q = cs.length → 31000 + 10 * q < k → acc.length ≤ i → chk l = 0 →
  Qar.l0 k cs l acc (i : Int) = some (acc ++ srv l (cs.drop i)) := by
 intro q
 induction q with
 | zero =>
  intro k i acc l hi hk ha hl; obtain ⟨k, rfl⟩ : ∃ z, k = z + 1 := ⟨k - 1, by omega⟩
  simp only [Qar.l0]; rw [if_neg (by omega), List.drop_of_length_le (by omega)]
  simp [srv]
 | succ q ih =>
  intro k i acc l hi hk ha hl; obtain ⟨k, rfl⟩ : ∃ z, k = z + 1 := ⟨k - 1, by omega⟩
  have hlt : i < cs.length := by omega
  obtain ⟨h1, h2, h3⟩ := chk0 hl; have hc := hok cs[i] (List.getElem_mem hlt); simp only [Qar.l0]; rw [if_pos (by omega), if_pos (by omega), Qbo hlt, Qcz hl hc (by omega), List.drop_eq_getElem_cons hlt]; simp only [Option.bind_some, srv]; by_cases hb : (best l cs[i].f0.f1 cs[i].f1.f1 cs[i].f2).2 = true
  ·have hf := Qbw (l := l) (by omega) hb
   rw [if_pos hb, if_pos hb]; generalize (best l cs[i].f0.f1 cs[i].f1.f1 cs[i].f2).1 = m at hf ⊢; obtain ⟨k', g1, g2⟩ := Qco acc l m cs (i : Int) h3 h2 hf (by omega) l.length k 0 (Nat.zero_add _) (by omega); rw [Qcd] at g2; have g2' : Qar.l1 k cs l acc (i : Int) m 0 = _ := g2; rw [g2', w64 (by omega)]; have := ih k' (i + 1) (acc ++ [m]) (less l m) (by omega) (by omega) (by simp; omega) (Qbt hl hf); rw [show ((i : Int) + 1) = ((i + 1 : Nat) : Int) by omega, this, List.append_assoc]; rfl
  ·rw [if_neg hb, if_neg hb]; simp
theorem Qcs {l : List S100} {cs : List S26} (h : chkS l cs = 0) {k : Nat} (hk : 32000 < k) : Qar.f k l cs = some (srv l cs) ∧ (cs.length : Int) ≤ 6 ∧ chk l = 0 ∧ ∀ c ∈ cs, okK c = true := by
 unfold chkS at h
 split at h
 ·rename_i h1
  split at h
  ·cases h
  ·rename_i h2
   split at h
   ·rename_i h3
    have h4 := (chk0 h1).2.1; refine ⟨?_, by omega, h1, by simpa using h3⟩; unfold Qar.f; simp only [Option.bind_some, List.length_nil, List.nil_append]; rw [if_pos (by omega)]; have := Qcp cs (by omega) (by simpa using h3) cs.length k 0 [] l (Nat.zero_add _) (by omega) (by simp) h1
    simpa using this
   ·cases h
 ·rename_i h1; exact absurd h h1
end Go.Proofs.YtjaapkkpmegkfaaGreat.P
namespace Go.Proofs.YtjaapkkpmegkfaaGreat.P
open Go.RowKit Go.Proofs.YtjaapkkpmegkfaaGreatW.PrintWords Go.Proofs.YtjaapkkpmegkfaaGreatW.PrintLast Go.Proofs.YtjaapkkpmegkfaaGreatW.PrintMore
set_option maxRecDepth 100000 in
theorem Qd.eval : Qd.f 60 = some true := by kernel_rfl
theorem Qd.at {k : Nat} (hk : 60 ≤ k) : Qd.f k = some true := Qbm (g := Qd.f) Qd.mono hk Qd.eval
theorem Qd.yes {k : Nat} {r : Bool} (h : Qd.f k = some r) : r = true := by
 have h1 := Qbm (g := Qd.f) Qd.mono (Nat.le_max_left k 60) h; have h2 := Qbm (g := Qd.f) Qd.mono (Nat.le_max_right k 60) Qd.eval; exact Option.some.inj (h1.symm.trans h2)
theorem Qd.calls (k : Nat) (r : Bool) (w : World) (h : Qd.f k = some r) : Calls Tryz.prog 15 #[] w fun e w' => e = .returned (.bool r) ∧ Below w.heap.size w w' :=
 Qd.calls_true k r w (Qd.yes h) h
end Go.Proofs.YtjaapkkpmegkfaaGreat.P
