/- Part 6 of what the law's proof needs beyond its base: words, walks of functions and plain facts. -/
import Derived.Test.YtjaapkkpmegkfaaGreatL05
set_option linter.unusedVariables false
set_option linter.unusedSimpArgs false
namespace Go.Proofs.YtjaapkkpmegkfaaGreat.P
open Go.RowKit Go.Proofs.YtjaapkkpmegkfaaGreatW.PrintWords
def IsK (k : IntKind) (n : Int) : Prop := (Lit.int k n).wf = true
theorem O_i64 : Qa0 Tryz.prog (Kd.int .i64) 3 (IsK .i64) := Qa0.int Tryz.underlying3 (by kernel_rfl)
def B75 (x : S75) : Prop := (fun l => ∀ x ∈ l, (IsK .i64) x) x.f0 ∧ (fun l => ∀ x ∈ l, (IsK .i64) x) x.f1 ∧ (IsK .i64) x.f2
theorem O75 : Qa0 Tryz.prog k75 75 B75 := by
 refine Qa0.struct ?_ Tryz.underlying75 (by kernel_rfl); refine Qaz.iso (d := (Kd.pair (Kd.slice 3 (Kd.int .i64)) (Kd.pair (Kd.slice 3 (Kd.int .i64)) (Kd.int .i64)))) (B := fun p => (fun l => ∀ x ∈ l, (IsK .i64) x) p.1 ∧ (fun l => ∀ x ∈ l, (IsK .i64) x) p.2.1 ∧ (IsK .i64) p.2.2) ?_ (fun x : S75 => (x.f0, x.f1, x.f2)) (fun p => ⟨p.1, p.2.1, p.2.2⟩) (fun _ => rfl); refine Qaz.cons (B := fun l => ∀ x ∈ l, (IsK .i64) x) (B' := fun p : (List Int) × Int => (fun l => ∀ x ∈ l, (IsK .i64) x) p.1 ∧ (IsK .i64) p.2) ?_ ?_
 ·exact Qaz.one _ rfl rfl (Qa0.slice O_i64 Tryz.underlying27 (by kernel_rfl))
 refine Qaz.cons (B := fun l => ∀ x ∈ l, (IsK .i64) x) (B' := fun p : Int => (IsK .i64) p) ?_ ?_
 ·exact Qaz.one _ rfl rfl (Qa0.slice O_i64 Tryz.underlying27 (by kernel_rfl))
 exact Qaz.one _ rfl rfl (Qa0.int Tryz.underlying73 (by kernel_rfl))
end Go.Proofs.YtjaapkkpmegkfaaGreat.P
namespace Go.Proofs.YtjaapkkpmegkfaaGreat.P
open Go.RowKit Go.Proofs.YtjaapkkpmegkfaaGreatW.PrintWords Go.Proofs.YtjaapkkpmegkfaaGreatW.PrintLast Go.Proofs.YtjaapkkpmegkfaaGreatW.PrintMore
set_option maxRecDepth 100000 in
theorem Qd.eval : Qd.f 60 = some true := by kernel_rfl
theorem Qd.at {k : Nat} (hk : 60 ≤ k) : Qd.f k = some true := Qa8 (g := Qd.f) Qd.mono hk Qd.eval
theorem Qd.yes {k : Nat} {r : Bool} (h : Qd.f k = some r) : r = true := by
 have h1 := Qa8 (g := Qd.f) Qd.mono (Nat.le_max_left k 60) h; have h2 := Qa8 (g := Qd.f) Qd.mono (Nat.le_max_right k 60) Qd.eval; exact Option.some.inj (h1.symm.trans h2)
theorem Qd.calls (k : Nat) (r : Bool) (w : World) (h : Qd.f k = some r) : Calls Tryz.prog 15 #[] w fun e w' => e = .returned (.bool r) ∧ Below w.heap.size w w' :=
 Qd.calls_true k r w (Qd.yes h) h
end Go.Proofs.YtjaapkkpmegkfaaGreat.P
