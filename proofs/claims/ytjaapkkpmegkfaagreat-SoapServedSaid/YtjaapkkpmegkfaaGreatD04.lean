/- Part 4 of what the law's proof needs beyond its base: words, walks of functions and plain facts. -/
import Derived.Below
import Derived.Deep.Draws
import Derived.Deep.AppendLies
import Derived.Maps.AppendAt
import Derived.OwnWalk
import Derived.Laws.BytesArg
import Derived.Laws.MakeOwn
import Derived.Laws.OwnMore
import Derived.Deep.OwnRows
import Derived.Tactics
import Derived.Lib.ConvBytes
import Derived.Laws.Slices
import Derived.WalkKit
import Derived.KernelRfl
import Derived.RowKit3
import Derived.Deep.LoopGhost
import Derived.Deep.QuietTactic
import Derived.BigQuiet
import Derived.WideLaws
import Derived.Deep.DeepCutAuto
import Derived.Deep.CutBlock
import Derived.Deep.RegionHeld3
import Derived.Laws.Rows
import Derived.Lib.AppendStr
import Derived.ArgAppend
import Derived.Laws.IdiomCopy
import Derived.RowKit
import Derived.OrdersHeld
import Derived.Laws.BitsLemmas
import Derived.Deep.Slices
import Derived.OpenShut
import Derived.ChangeArms
import Derived.Test.YtjaapkkpmegkfaaGreatR01
import Derived.Test.YtjaapkkpmegkfaaGreatR02
import Derived.Test.YtjaapkkpmegkfaaGreatR03
import Derived.Test.YtjaapkkpmegkfaaGreatR04
import Derived.Test.YtjaapkkpmegkfaaGreatR05
import Derived.Test.YtjaapkkpmegkfaaGreatR06
import Derived.Test.YtjaapkkpmegkfaaGreatR07
import Derived.Test.YtjaapkkpmegkfaaGreatR08
import Derived.Test.YtjaapkkpmegkfaaGreatR09
import Derived.Test.YtjaapkkpmegkfaaGreatR10
import Derived.Test.YtjaapkkpmegkfaaGreatR11
import Derived.Test.YtjaapkkpmegkfaaGreatR12
import Derived.Test.YtjaapkkpmegkfaaGreatR13
import Derived.Test.YtjaapkkpmegkfaaGreatD01
import Derived.Test.YtjaapkkpmegkfaaGreatD02
import Derived.Test.YtjaapkkpmegkfaaGreatD03
set_option linter.unusedVariables false
set_option linter.unusedSimpArgs false
namespace Go.Proofs.YtjaapkkpmegkfaaGreat.P
open Go.RowKit Go.Proofs.YtjaapkkpmegkfaaGreatW.PrintWords
def IsK (k : IntKind) (n : Int) : Prop := (Lit.int k n).wf = true
theorem O_u8 : Qay Tryz.prog (Kd.int .u8) 5 (IsK .u8) := Qay.int Tryz.underlying5 (by kernel_rfl)
def B89 (x : S89) : Prop := (IsK .u8) x.f0 ∧ (IsK .u8) x.f1 ∧ (IsK .u8) x.f2 ∧ (IsK .u8) x.f3 ∧ (IsK .u8) x.f4
theorem O89 : Qay Tryz.prog k89 89 B89 := by
 refine Qay.array (fs := #[⟨"", 5, 0, false, "", "", 0⟩, ⟨"", 5, 1, false, "", "", 0⟩, ⟨"", 5, 2, false, "", "", 0⟩, ⟨"", 5, 3, false, "", "", 0⟩, ⟨"", 5, 4, false, "", "", 0⟩]) ?_ Tryz.underlying89 (by kernel_rfl) (by kernel_rfl) rfl (by decide); refine Qaw.iso (d := (Kd.pair (Kd.int .u8) (Kd.pair (Kd.int .u8) (Kd.pair (Kd.int .u8) (Kd.pair (Kd.int .u8) (Kd.int .u8)))))) (B := fun p => (IsK .u8) p.1 ∧ (IsK .u8) p.2.1 ∧ (IsK .u8) p.2.2.1 ∧ (IsK .u8) p.2.2.2.1 ∧ (IsK .u8) p.2.2.2.2) ?_ (fun x : S89 => (x.f0, x.f1, x.f2, x.f3, x.f4)) (fun p => ⟨p.1, p.2.1, p.2.2.1, p.2.2.2.1, p.2.2.2.2⟩) (fun _ => rfl); refine Qaw.cons (B := IsK .u8) (B' := fun p : Int × Int × Int × Int => (IsK .u8) p.1 ∧ (IsK .u8) p.2.1 ∧ (IsK .u8) p.2.2.1 ∧ (IsK .u8) p.2.2.2) ?_ ?_
 ·exact Qaw.one _ rfl rfl O_u8
 refine Qaw.cons (B := IsK .u8) (B' := fun p : Int × Int × Int => (IsK .u8) p.1 ∧ (IsK .u8) p.2.1 ∧ (IsK .u8) p.2.2) ?_ ?_
 ·exact Qaw.one _ rfl rfl O_u8
 refine Qaw.cons (B := IsK .u8) (B' := fun p : Int × Int => (IsK .u8) p.1 ∧ (IsK .u8) p.2) ?_ ?_
 ·exact Qaw.one _ rfl rfl O_u8
 refine Qaw.cons (B := IsK .u8) (B' := fun p : Int => (IsK .u8) p) ?_ ?_
 ·exact Qaw.one _ rfl rfl O_u8
 exact Qaw.one _ rfl rfl O_u8
def B91 (x : S91) : Prop := (fun l => ∀ x ∈ l, (B89) x) x.f0 ∧ (B89) x.f1
theorem O91 : Qay Tryz.prog k91 91 B91 := by
 refine Qay.struct ?_ Tryz.underlying91 (by kernel_rfl); refine Qaw.iso (d := (Kd.pair (Kd.slice 89 k89) k89)) (B := fun p => (fun l => ∀ x ∈ l, (B89) x) p.1 ∧ (B89) p.2) ?_ (fun x : S91 => (x.f0, x.f1)) (fun p => ⟨p.1, p.2⟩) (fun _ => rfl); refine Qaw.cons (B := fun l => ∀ x ∈ l, (B89) x) (B' := fun p : S89 => (B89) p) ?_ ?_
 ·exact Qaw.one _ rfl rfl (Qay.slice O89 Tryz.underlying88 (by kernel_rfl))
 exact Qaw.one _ rfl rfl O89
end Go.Proofs.YtjaapkkpmegkfaaGreat.P
namespace Go.Proofs.YtjaapkkpmegkfaaGreat.P
open Go.RowKit Go.Shelf Go.Proofs.YtjaapkkpmegkfaaGreatW.PrintWords Go.Proofs.YtjaapkkpmegkfaaGreatW.PrintLast Go.Proofs.YtjaapkkpmegkfaaGreatW.PrintMore
def byte (x : Int) : Prop := 0 ≤ x ∧ x ≤ 255
def Qa3 (x : S89) : Prop := byte x.f0 ∧ byte x.f1 ∧ byte x.f2 ∧ byte x.f3 ∧ byte x.f4
theorem Qca {l : List S89} {i : Nat} (h : i < l.length) : Qar l (i : Int) = l[i] := by simp [Qar, List.getD_eq_getElem?_getD, List.getElem?_eq_getElem h]
theorem Qa4 {x c : Int} (h : 0 ≤ x) : Int.tmod x c = x % c := Int.tmod_eq_emod_of_nonneg h
theorem Qbb {x : Int} (h : IsK .u8 x) : byte x := by
 unfold IsK at h
 simp [Lit.wf, IntKind.min, IntKind.max, IntKind.signed, IntKind.bits] at h
 unfold byte; omega
theorem Qbf {v : S89} (h : B89 v) : Qa3 v := ⟨Qbb h.1, Qbb h.2.1, Qbb h.2.2.1, Qbb h.2.2.2.1, Qbb h.2.2.2.2⟩
def Qa9 (v : S89) : S100 := ⟨⟨v.f0 % 40, v.f0 % 40 + v.f1 % 9⟩, v.f2 % 40, v.f3 % 12, v.f4 % 8⟩
def sort0 : S100 := ⟨⟨10, 12⟩, 5, 1, 6⟩
def Qba (l : List S89) : List S100 := if l.length = 0 then [sort0] else (l.take 4).map Qa9
theorem Qc5 {v : S89} (h : Qa3 v) : okS (Qa9 v) = true := by
 obtain ⟨h0, h1, h2, h3, h4⟩ := h; unfold byte at *; unfold okS Qa9; rw [decide_eq_true_iff]; simp only; omega
theorem Qcd {l : List S89} (h : ∀ v ∈ l, Qa3 v) : chk (Qba l) = 0 := by
 unfold chk Qba; by_cases h0 : l.length = 0
 ·rw [if_pos h0]; decide
 ·rw [if_neg h0]
  have hl : ((l.take 4).map Qa9).length = min 4 l.length := by simp
  rw [if_neg (by rw [hl]; omega), if_neg (by rw [hl]; omega), if_pos]; rw [List.all_eq_true]; intro s hs; obtain ⟨v, hv, rfl⟩ := List.mem_map.1 hs; exact Qc5 (h v (List.mem_of_mem_take hv))
def Qav (v : S89) : S26 := ⟨⟨1 + 4 * v.f0, 1 + 4 * v.f0 + v.f2 % 30⟩, ⟨v.f1 % 200, v.f1 % 200 + v.f3 % 20⟩, v.f4⟩
theorem Qci {v : S89} (h : Qa3 v) : okK (Qav v) = true := by
 obtain ⟨h0, h1, h2, h3, h4⟩ := h; unfold byte at *; unfold okK okC Qav; rw [decide_eq_true_iff]; simp only; omega
theorem Qbq {v : S89} (hv : Qa3 v) (s : List S100) (i : Int) (l : List S89) (k : Nat) : Qap.j1 (k + 1) s i false l v.f0 v.f1 v.f2 v.f3 v.f4 = some (s, (Qav v).f0.f0, (Qav v).f0.f1, (Qav v).f1.f0, (Qav v).f1.f1, (Qav v).f2) := by
 obtain ⟨h0, h1, h2, h3, h4⟩ := hv; unfold byte at *; simp only [Qap.j1, QC.f]; rw [if_neg (by simp)]; simp only [Option.bind_some]; rw [w64 (x := v.f0) (by omega), w64 (x := v.f1) (by omega), w64 (x := v.f2) (by omega), w64 (x := v.f3) (by omega), w64 (x := v.f4) (by omega), w64 (x := 4 * v.f0) (by omega), w64 (x := 1 + 4 * v.f0) (by omega), Qa4 h1.1, Qa4 h2.1, Qa4 h3.1, w64 (x := 1 + 4 * v.f0 + v.f2 % 30) (by omega), w64 (x := v.f1 % 200 + v.f3 % 20) (by omega)]; rfl
theorem made_at {v : S89} (hv : Qa3 v) (l : List S89) (hl : ∀ x ∈ l, Qa3 x) (h0 : l.length ≠ 0) : ∀ (q k i : Nat), i + q = min 4 l.length → 2 * q + 2 < k →
  Qap.l0 k ((l.take i).map Qa9) (i : Int) l v.f0 v.f1 v.f2 v.f3 v.f4 = some (Qba l, (Qav v).f0.f0, (Qav v).f0.f1, (Qav v).f1.f0, (Qav v).f1.f1, (Qav v).f2) := by
 intro q
 induction q with
 | zero =>
  intro k i hi hk; obtain ⟨k, rfl⟩ : ∃ z, k = z + 1 + 1 := ⟨k - 2, by omega⟩
  have e : (l.take i).map Qa9 = Qba l := by
   unfold Qba; rw [if_neg h0]; by_cases h4 : l.length ≤ 4
   ·rw [List.take_of_length_le (by omega), List.take_of_length_le h4]
   ·rw [show i = 4 by omega]
  simp only [Qap.l0]; rw [if_neg (by omega)]; by_cases h1 : (i : Int) < (l.length : Int)
  ·rw [if_pos h1, decide_eq_false (by omega), Qbq hv, e]
  ·rw [if_neg h1, Qbq hv, e]
 | succ q ih =>
  intro k i hi hk; obtain ⟨k, rfl⟩ : ∃ z, k = z + 1 + 1 := ⟨k - 2, by omega⟩
  have hlt : i < l.length := by omega
  obtain ⟨b0, b1, b2, b3, b4⟩ := hl l[i] (List.getElem_mem hlt); unfold byte at b0 b1 b2 b3 b4
  have hj : Qap.j1 (k + 1) ((l.take i).map Qa9) (i : Int) true l v.f0 v.f1 v.f2 v.f3 v.f4 = Qap.l0 k ((l.take (i + 1)).map Qa9) ((i + 1 : Nat) : Int) l v.f0 v.f1 v.f2 v.f3 v.f4 := by
   simp only [Qap.j1, QC.f]; rw [if_pos trivial, if_pos (by omega), if_pos (by omega), Qca hlt]; simp only [Option.bind_some]; rw [if_pos (by simp; omega), w64 (x := l[i].f0) (by omega), w64 (x := l[i].f1) (by omega), w64 (x := l[i].f2) (by omega), w64 (x := l[i].f3) (by omega), w64 (x := l[i].f4) (by omega), Qa4 b0.1, Qa4 b1.1, Qa4 b2.1, Qa4 b3.1, Qa4 b4.1, w64 (x := l[i].f0 % 40 + l[i].f1 % 9) (by omega), w64 (x := (i : Int) + 1) (by omega), List.take_succ_eq_append_getElem hlt, List.map_append]; rfl
  simp only [Qap.l0]; by_cases hz : (i : Int) = 0
  ·rw [if_pos hz, hj]
   exact ih k (i + 1) (by omega) (by omega)
  ·rw [if_neg hz, if_pos (by omega), decide_eq_true (by omega), hj]
   exact ih k (i + 1) (by omega) (by omega)
theorem Qb9 (l : List S89) (hl : ∀ x ∈ l, Qa3 x) {v : S89} (hv : Qa3 v) {k : Nat} (hk : 100 < k) : Qap.f k l v.f0 v.f1 v.f2 v.f3 v.f4 = some (Qba l, (Qav v).f0.f0, (Qav v).f0.f1, (Qav v).f1.f0, (Qav v).f1.f1, (Qav v).f2) := by
 unfold Qap.f; by_cases h0 : l.length = 0
 ·obtain rfl := List.length_eq_zero_iff.1 h0
  obtain ⟨k, rfl⟩ : ∃ z, k = z + 1 + 1 + 1 + 1 := ⟨k - 4, by omega⟩
  simp only [Qap.l0]; rw [if_pos trivial]
  have hj : Qap.j1 (k + 1 + 1 + 1) [] 0 true [] v.f0 v.f1 v.f2 v.f3 v.f4 = Qap.l0 (k + 1 + 1) [sort0] 1 [] v.f0 v.f1 v.f2 v.f3 v.f4 := by
   simp only [Qap.j1, QC.f]; rw [if_pos trivial, if_neg (by simp)]; simp only [Option.bind_some]; rw [if_pos (by simp), w64 (by omega)]; rfl
  rw [hj]; simp only [Qap.l0]; rw [if_neg (by decide), if_neg (by simp), Qbq hv]; rfl
 ·exact made_at hv l hl h0 _ k 0 (Nat.zero_add _) (by omega)
theorem Qb1 (l : List S100) (h : l.length ≤ 100) : Qau.f l = some l := by
 unfold Qau.f; simp only [Option.bind_some, List.length_nil, List.nil_append]; rw [if_pos (by omega)]
end Go.Proofs.YtjaapkkpmegkfaaGreat.P
namespace Go.Proofs.YtjaapkkpmegkfaaGreat.P
open Go.RowKit Go.Proofs.YtjaapkkpmegkfaaGreatW.PrintWords Go.Proofs.YtjaapkkpmegkfaaGreatW.PrintLast Go.Proofs.YtjaapkkpmegkfaaGreatW.PrintMore
set_option maxRecDepth 100000 in
theorem Qd.eval : Qd.f 60 = some true := by kernel_rfl
theorem Qd.at {k : Nat} (hk : 60 ≤ k) : Qd.f k = some true := Qbe (g := Qd.f) Qd.mono hk Qd.eval
theorem Qd.yes {k : Nat} {r : Bool} (h : Qd.f k = some r) : r = true := by
 have h1 := Qbe (g := Qd.f) Qd.mono (Nat.le_max_left k 60) h; have h2 := Qbe (g := Qd.f) Qd.mono (Nat.le_max_right k 60) Qd.eval; exact Option.some.inj (h1.symm.trans h2)
theorem Qd.calls (k : Nat) (r : Bool) (w : World) (h : Qd.f k = some r) : Calls Tryz.prog 15 #[] w fun e w' => e = .returned (.bool r) ∧ Below w.heap.size w w' :=
 Qd.calls_true k r w (Qd.yes h) h
end Go.Proofs.YtjaapkkpmegkfaaGreat.P
