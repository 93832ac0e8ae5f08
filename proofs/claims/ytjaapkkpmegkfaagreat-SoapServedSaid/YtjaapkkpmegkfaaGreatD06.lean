/- Part 6 of what the law's proof needs beyond its base: words, walks of functions and plain facts. -/
import Derived.Below
import Derived.Deep.Draws
import Derived.Deep.AppendLies
import Derived.Maps.AppendAt
import Derived.OwnWalk
import Derived.Laws.BytesArg
import Derived.Laws.MakeOwn
import Derived.Laws.OwnMore
import Derived.Deep.OwnRows
import Derived.Tactics
import Derived.Lib.ConvBytes
import Derived.Laws.Slices
import Derived.WalkKit
import Derived.KernelRfl
import Derived.RowKit3
import Derived.Deep.LoopGhost
import Derived.Deep.QuietTactic
import Derived.BigQuiet
import Derived.WideLaws
import Derived.Deep.DeepCutAuto
import Derived.Deep.CutBlock
import Derived.Deep.RegionHeld3
import Derived.Laws.Rows
import Derived.Lib.AppendStr
import Derived.ArgAppend
import Derived.Laws.IdiomCopy
import Derived.RowKit
import Derived.OrdersHeld
import Derived.Laws.BitsLemmas
import Derived.Deep.Slices
import Derived.OpenShut
import Derived.ChangeArms
import Derived.Test.YtjaapkkpmegkfaaGreatR01
import Derived.Test.YtjaapkkpmegkfaaGreatR02
import Derived.Test.YtjaapkkpmegkfaaGreatR03
import Derived.Test.YtjaapkkpmegkfaaGreatR04
import Derived.Test.YtjaapkkpmegkfaaGreatR05
import Derived.Test.YtjaapkkpmegkfaaGreatR06
import Derived.Test.YtjaapkkpmegkfaaGreatR07
import Derived.Test.YtjaapkkpmegkfaaGreatR08
import Derived.Test.YtjaapkkpmegkfaaGreatR09
import Derived.Test.YtjaapkkpmegkfaaGreatR10
import Derived.Test.YtjaapkkpmegkfaaGreatR11
import Derived.Test.YtjaapkkpmegkfaaGreatR12
import Derived.Test.YtjaapkkpmegkfaaGreatR13
import Derived.Test.YtjaapkkpmegkfaaGreatD01
import Derived.Test.YtjaapkkpmegkfaaGreatD02
import Derived.Test.YtjaapkkpmegkfaaGreatD03
import Derived.Test.YtjaapkkpmegkfaaGreatD04
import Derived.Test.YtjaapkkpmegkfaaGreatD05
set_option linter.unusedVariables false
set_option linter.unusedSimpArgs false
namespace Go.Proofs.YtjaapkkpmegkfaaGreat.P
open Go.RowKit Go.Shelf Go.Proofs.YtjaapkkpmegkfaaGreatW.PrintWords Go.Proofs.YtjaapkkpmegkfaaGreatW.PrintLast Go.Proofs.YtjaapkkpmegkfaaGreatW.PrintMore
theorem Qbv : ∀ (cs : List S26) (l : List S100), chk l = 0 → (∀ c ∈ cs, okK c = true) → (srv l cs).length ≤ cs.length ∧ ∀ m ∈ srv l cs, m.length ≤ 4
 | [], l, _, _ => by simp [srv]
 | c :: cs, l, hl, hc => by
  unfold srv; by_cases hb : (best l c.f0.f1 c.f1.f1 c.f2).2 = true
  ·rw [if_pos hb]
   have h4 := chk0 hl; have hf := Qbk (l := l) (by omega) hb; have ih := Qbv cs (less l (best l c.f0.f1 c.f1.f1 c.f2).1) (Qbo hl hf) fun x hx => hc x (by simp [hx])
   refine ⟨by simp; exact ih.1, fun m hm => ?_⟩
   rcases List.mem_cons.1 hm with rfl | hm
   ·have := (Qa5.1 hf).1; omega
   ·exact ih.2 m hm
  ·rw [if_neg hb]; simp
theorem fits_at (l : List S100) (m : List Int) (hl : m.length = l.length) (h4 : l.length ≤ 100) (hf : fit l m = true) : ∀ (q k i : Nat), i + q = l.length → q < k → Qat.l0 k l m (i : Int) = some true := by
 obtain ⟨_, hb⟩ := Qa5.1 hf; intro q
 induction q with
 | zero =>
  intro k i hi hk; obtain ⟨k, rfl⟩ : ∃ z, k = z + 1 := ⟨k - 1, by omega⟩
  simp only [Qat.l0]; rw [if_neg (by omega)]
 | succ q ih =>
  intro k i hi hk; obtain ⟨k, rfl⟩ : ∃ z, k = z + 1 := ⟨k - 1, by omega⟩
  have := hb i (by omega); simp only [Qat.l0]; rw [if_pos (by omega), if_pos (by omega), if_pos (by omega), YT (by omega), if_neg (by omega), if_neg (by omega), w64 (by omega)]; exact ih k (i + 1) (by omega) (by omega)
theorem Qcl {l : List S100} {m : List Int} (h4 : l.length ≤ 100) (hf : fit l m = true) {k : Nat} (hk : 200 < k) : Qat.f k l m = some true := by
 have hl := (Qa5.1 hf).1; unfold Qat.f; rw [if_pos (by omega)]; exact fits_at l m hl h4 hf l.length k 0 (Nat.zero_add _) (by omega)
theorem Qcq (cs : List S26) (ms : List (List Int)) (l : List S100) (m : List Int) (i : Nat) (him : i < ms.length) (he : ms[i] = m) (hms : ms.length ≤ 100) (ok : ∀ s ∈ l, okS s = true) (h4 : l.length ≤ 4) (hf : fit l m = true) : ∀ (q k j : Nat), j + q = l.length → q < k → ∃ k', k ≤ k' + q + 1 ∧
  Qao.l2 k cs ms (Qa2 l m j) (i : Int) m (j : Int) = Qao.l1 k' cs ms (less l m) ((i + 1 : Nat) : Int) := by
 have hml := (Qa5.1 hf).1; intro q
 induction q with
 | zero =>
  intro k j hj hk; obtain ⟨k, rfl⟩ : ∃ z, k = z + 1 := ⟨k - 1, by omega⟩
  refine ⟨k, by omega, ?_⟩; simp only [Qao.l2]; rw [if_neg (by rw [Qbc]; omega), show j = l.length by omega, Qbu hml, w64 (by omega)]; rfl
 | succ q ih =>
  intro k j hj hk; obtain ⟨k, rfl⟩ : ∃ z, k = z + 1 := ⟨k - 1, by omega⟩
  have hlt : j < l.length := by omega
  have hb := Qcp ok hf hlt; obtain ⟨k', g1, g2⟩ := ih k (j + 1) (by omega) (by omega); refine ⟨k', by omega, ?_⟩; simp only [Qao.l2]; rw [if_pos (by rw [Qbc]; omega), if_pos (by omega), if_pos (by omega), if_pos (by omega), if_pos (by omega), Qcc him, he, if_pos (by omega), if_pos rfl, Qbz hlt, w64 (x := (Qf l (j : Int)).f3 - rd m (j : Int)) (by omega), w64 (x := (j : Int) + 1) (by omega), Int.toNat_natCast]; have := Qbr (m := m) hlt; unfold Qbg at this; rw [this]; exact g2
theorem Qcu (cs : List S26) (h6 : cs.length ≤ 6) (hok : ∀ c ∈ cs, okK c = true) : ∀ (q k i : Nat) (pre : List (List Int)) (l : List S100), i + q = cs.length → 3000 + 10 * q < k → pre.length = i → chk l = 0 →
  Qao.l1 k cs (pre ++ srv l (cs.drop i)) l (i : Int) = some true := by
 intro q
 induction q with
 | zero =>
  intro k i pre l hi hk hp hl; obtain ⟨k, rfl⟩ : ∃ z, k = z + 1 := ⟨k - 1, by omega⟩
  simp only [Qao.l1]; rw [if_neg (by omega), List.drop_of_length_le (by omega), if_pos (by simp [srv]; omega), Qd.at (by omega)]; rfl
 | succ q ih =>
  intro k i pre l hi hk hp hl; obtain ⟨k, rfl⟩ : ∃ z, k = z + 1 + 1 := ⟨k - 2, by omega⟩
  have hlt : i < cs.length := by omega
  obtain ⟨h1, h2, h3⟩ := chk0 hl; have hc := hok cs[i] (List.getElem_mem hlt)
  have hopn : opn l cs[i].f0.f0 cs[i].f0.f1 cs[i].f1.f0 cs[i].f1.f1 cs[i].f2 = 0 := by
   unfold opn; rw [if_pos hl]; exact if_pos hc
  have hlen := (Qbv (cs.drop i) l hl (fun c h => hok c (List.mem_of_mem_drop h))).1; simp only [List.length_drop] at hlen; simp only [Qao.l1]; rw [if_pos (by omega), Qb1 l (by omega)]; simp only [Option.bind_some]; rw [if_pos (by omega), Qb8 hlt, Qb7 _ _ _ _ _ _ (by omega), if_pos hopn]; simp only [Option.bind_some]
  have hsrv : srv l (cs.drop i) = if (best l cs[i].f0.f1 cs[i].f1.f1 cs[i].f2).2 = true then (best l cs[i].f0.f1 cs[i].f1.f1 cs[i].f2).1 :: srv (less l (best l cs[i].f0.f1 cs[i].f1.f1 cs[i].f2).1) (cs.drop (i + 1)) else [] := by
   rw [List.drop_eq_getElem_cons hlt]; rfl
  by_cases hb : (best l cs[i].f0.f1 cs[i].f1.f1 cs[i].f2).2 = true
  ·have hf := Qbk (l := l) (by omega) hb
   rw [if_pos hb] at hsrv ⊢; generalize hmm : (best l cs[i].f0.f1 cs[i].f1.f1 cs[i].f2).1 = m at hf hsrv ⊢; rw [hsrv] at hlen ⊢; simp only [List.length_cons] at hlen; have him : i < (pre ++ m :: srv (less l m) (cs.drop (i + 1))).length := by simp; omega
   have he : (pre ++ m :: srv (less l m) (cs.drop (i + 1)))[i] = m := by
    simp [← hp]
   rw [if_neg (by simp; omega), if_pos (show (m, tot Qax l m, (0 : Int)).2.2 = 0 from rfl), if_pos (by omega), Qcc him, he, Qcl (by omega) hf (by omega)]; simp only [Option.bind_some, if_true, Qao.j4]; rw [if_neg (by simp)]; obtain ⟨k', g1, g2⟩ := Qcq cs _ l m i him he (by simp; omega) h3 h2 hf l.length k 0 (Nat.zero_add _) (by omega); rw [Qb5] at g2; refine g2.trans ?_; have := ih k' (i + 1) (pre ++ [m]) (less l m) (by omega) (by omega) (by simp; omega) (Qbo hl hf); rw [List.append_assoc] at this; exact this
  ·rw [if_neg hb] at hsrv ⊢
   rw [hsrv, if_pos (by simp; omega), if_pos (show (([] : List Int), (0 : Int), (9 : Int)).2.2 = 9 from rfl), Qd.at (by omega)]; rfl
theorem Qcw (vs : List S89) (hv : ∀ v ∈ vs, Qa3 v) (l : List S100) (hl : chk l = 0) : ∀ (q k i : Nat), i + q = min 6 vs.length → 4100 + 10 * q < k →
  Qao.l0 k vs l ((vs.take i).map Qav) (i : Int) = some true := by
 have h4 := (chk0 hl).2.1; intro q
 induction q with
 | zero =>
  intro k i hi hk; obtain ⟨k, rfl⟩ : ∃ z, k = z + 1 + 1 + 1 := ⟨k - 3, by omega⟩
  have hj : Qao.j1 (k + 1 + 1) l ((vs.take i).map Qav) = some true := by
   have hlen : ((vs.take i).map Qav).length = i := by simp; omega
   have hok : ∀ c ∈ (vs.take i).map Qav, okK c = true := fun c hc => by
    obtain ⟨v, h, rfl⟩ := List.mem_map.1 hc; exact Qci (hv v (List.mem_of_mem_take h))
   generalize (vs.take i).map Qav = cs at hlen hok ⊢
   have hcs : chkS l cs = 0 := by
    unfold chkS; rw [if_pos hl, if_neg (by omega), if_pos (by rw [List.all_eq_true]; exact hok)]
   have hsl := (Qbv cs l hl hok).1; simp only [Qao.j1]; rw [Qb1 l (by omega)]; simp only [Option.bind_some, List.length_nil, List.nil_append]; rw [if_pos (by omega), Qct l cs (by omega), if_pos hcs]; simp only [Option.bind_some, if_true, Qao.j2]; rw [if_neg (by simp; omega), Qb1 l (by omega)]; simp only [Option.bind_some]; exact Qcu cs (by omega) hok cs.length k 0 [] l (Nat.zero_add _) (by omega) rfl hl
  simp only [Qao.l0]; by_cases h1 : (i : Int) < (vs.length : Int)
  ·rw [if_pos h1, if_neg (by omega)]; exact hj
  ·rw [if_neg h1]; exact hj
 | succ q ih =>
  intro k i hi hk; obtain ⟨k, rfl⟩ : ∃ z, k = z + 1 := ⟨k - 1, by omega⟩
  have hlt : i < vs.length := by omega
  have hb := hv vs[i] (List.getElem_mem hlt); simp only [Qao.l0]; rw [if_pos (by omega), if_pos (by omega), if_pos (by omega), Qca hlt, Qb9 [] (by simp) hb (by omega)]; simp only [Option.bind_some]; rw [if_pos (by simp; omega), w64 (by omega)]; have e : (vs.take (i + 1)).map Qav = (vs.take i).map Qav ++ [Qav vs[i]] := by rw [List.take_succ_eq_append_getElem hlt, List.map_append]; rfl
  have := ih k (i + 1) (by omega) (by omega); rw [e] at this; exact this
theorem Qbw (ss : List S89) (hs : ∀ v ∈ ss, Qa3 v) (v : S89) (hv : Qa3 v) (vs : List S89) (hvs : ∀ v ∈ vs, Qa3 v) : ∃ k, Qao.f k ss v.f0 v.f1 v.f2 v.f3 v.f4 vs = some true := by
 obtain ⟨k, hk⟩ : ∃ k, 4500 < k := ⟨5000, by omega⟩
 refine ⟨k, ?_⟩; unfold Qao.f; rw [Qb9 ss hs hv (by omega)]; simp only [Option.bind_some]; exact Qcw vs hvs _ (Qcd hs) _ k 0 (Nat.zero_add _) (by omega)
end Go.Proofs.YtjaapkkpmegkfaaGreat.P
