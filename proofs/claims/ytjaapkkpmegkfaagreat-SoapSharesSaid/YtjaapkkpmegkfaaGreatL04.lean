/- SoapShares: the law holds: the row, out of the printed walk and the plain statement. -/
import Derived.Test.YtjaapkkpmegkfaaGreatRows
import Derived.WalkKit
import Derived.ProofKit
import Derived.OpenShut
import Derived.ShutString
import Derived.ChangeOld
import Derived.Below
import Derived.SizedLaws
import Derived.Test.YtjaapkkpmegkfaaGreatK01
import Derived.Test.YtjaapkkpmegkfaaGreatK02
import Derived.Test.YtjaapkkpmegkfaaGreatK03
import Derived.Test.YtjaapkkpmegkfaaGreatK04
import Derived.Test.YtjaapkkpmegkfaaGreatK05
import Derived.Test.YtjaapkkpmegkfaaGreatK06
import Derived.Test.YtjaapkkpmegkfaaGreatK07
import Derived.Test.YtjaapkkpmegkfaaGreatK08
import Derived.Test.YtjaapkkpmegkfaaGreatK09
import Derived.Test.YtjaapkkpmegkfaaGreatK10
import Derived.Test.YtjaapkkpmegkfaaGreatK11
import Derived.Test.YtjaapkkpmegkfaaGreatK12
import Derived.Test.YtjaapkkpmegkfaaGreatK13
import Derived.Test.YtjaapkkpmegkfaaGreatL01
import Derived.Test.YtjaapkkpmegkfaaGreatL02
import Derived.Test.YtjaapkkpmegkfaaGreatL03
namespace Go.Proofs.YtjaapkkpmegkfaaGreat.soapShares
open Go.ChangeShapes Go.WideShapes Go.ChangeAt Go.RowKit Go.Proofs.YtjaapkkpmegkfaaGreat.P
set_option linter.unusedVariables false
theorem own : ownKnob Tryz.prog.godebug = none := by kernel_rfl
theorem laidOut : laidOutB Tryz.prog = true := by kernel_rfl
set_option maxRecDepth 100000 in
theorem lifted (os : Os) (started : os.Started) (H : Type) (enc : TypeId × Value → H) :
    ReturnsInHanded {} Tryz.checked os 9 .any (Rows.soapSharesSpec.pre6 enc Tryz.prog Tryz.f9 Rows.soapSharesRow.domain false) (Rows.soapSharesSpec.post enc Tryz.prog Tryz.f9 false true false false) := by
  refine returnsInHanded_of_change_sized (C := Tryz.checked) own started (by kernel_rfl) Tryz.func9
    (ChangeSpec.witness6 (enc := enc) (C := Tryz.checked) false ⟨#[], #[.slice none 0 0, .int .i64 0], []⟩ 8 (by kernel_rfl) (by kernel_rfl) (by kernel_rfl) (by kernel_rfl)) ?_
  intro W base args ds gs before hval0 hW hcnd hsz0 _
  have hval : ∀ (j : Nat) t v, Tryz.f9.params[j]? = some t → args[j]? = some v → Value.okWide Tryz.prog W .any base t v := hval0
  have hW' := hW
  obtain ⟨p, q, hA0, hV, rfl, hfz, hnd⟩ := hW
  have hA : DataW.TrodAll enc Tryz.prog W 0 (fun _ => true) true Tryz.f9.params.toList args.toList ds p := hA0
  rw [Tryz.params9] at hA hval
  obtain ⟨v0, vs0, d0, ds0, p0, q0, hargs, rfl, rfl, h0, r0⟩ := trodAll_cons hA
  obtain ⟨v1, vs1, d1, ds1, p1, q1, rfl, rfl, rfl, h1, r1⟩ := trodAll_cons r0
  obtain ⟨rfl, rfl, rfl⟩ := trodAll_nil r1
  obtain rfl : args = #[v0, v1] := by cases args; simp_all
  obtain ⟨rfl, rfl⟩ := trodVars_none hV
  have k0 := h0
  have lt0 : ∀ x ∈ p0, x.block < W.heap.size := by obtain ⟨m, hm⟩ := k0; exact DataW.trod_lt m _ _ _ hm
  obtain ⟨a0, len0, cap0, rfl⟩ := okWide_slice Tryz.underlying27 (hval 0 27 v0 rfl rfl)
  obtain ⟨l0, rfl, hc0, hr0, hB0⟩ := Opens.arg_slice (Opens.slice O_i64 Tryz.underlying27 (by kernel_rfl)) rfl h0
  have k1 := h1
  have lt1 : ∀ x ∈ p1, x.block < W.heap.size := by obtain ⟨m, hm⟩ := k1; exact DataW.trod_lt m _ _ _ hm
  obtain ⟨a1, rfl, rfl, rfl, w1⟩ := open_int Tryz.underlying3 (hval 1 3 v1 rfl rfl) h1
  clear hA0 hval0 hsz0
  obtain ⟨k, hk⟩ := SoapShares_yes l0 a1
  refine (walkmilllaw06_SoapShares.calls_true k a0 cap0 l0 a1 true W hr0 hc0 rfl hk).mono fun e W' ⟨he, bel⟩ => ?_
  subst he
  exact ⟨_, rfl, _, _, _, [], _, [], hW', trodAll_mk1 (shut_bool Tryz.underlying4 _), (trodAll_cons_mk (Below.trod laidOut (by kernel_rfl) (of_decide_eq_true (by kernel_rfl)) k0 bel lt0) (trodAll_cons_mk (Below.trod laidOut (by kernel_rfl) (of_decide_eq_true (by kernel_rfl)) k1 bel lt1) trodAll_mk0)), rfl, bel.frame _, fun h => by cases h⟩
theorem over : Rows.soapSharesRow.holds Tryz.pinned (OpenSpec.ofChange Rows.soapSharesSpec) :=
  OpenClaim.holds_of_wide 9 Tryz.f9 rfl rfl rfl rfl rfl rfl rfl ⟨rfl, rfl, rfl, rfl, rfl⟩ rfl rfl rfl rfl rfl (by kernel_rfl) Tryz.func9 (by kernel_rfl)
    (of_decide_eq_true (by kernel_rfl)) (by unfold Func.isWrapper; first | (rw [if_pos (by decide +kernel)]; kernel_rfl) | (rw [if_neg (by decide +kernel)]; exact ⟨rfl, rfl⟩))
    (fun os started H enc _ => lifted os started H enc)
theorem proved : Rows.SoapSharesSaid := over
#print axioms proved
end Go.Proofs.YtjaapkkpmegkfaaGreat.soapShares
namespace Go.Proofs.YtjaapkkpmegkfaaGreat
/-- The row, under a short name, for the claim. -/
theorem soapShares_holds : Rows.SoapSharesSaid := soapShares.proved
end Go.Proofs.YtjaapkkpmegkfaaGreat
