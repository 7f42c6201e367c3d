/- FnExactNaturalLayout: for every input the law returns true, and its input reads as before; no condition. -/
import Derived.Test.YtpfhnhhkfobjnaaGreatRows
import Derived.Test.YtpfhnhhkfobjnaaGreatFnExactNaturalLayout3
import Derived.WalkKit
import Derived.OpenShut
import Derived.ShutString
import Derived.ChangeOld
import Derived.SizedLaws
namespace Go.Proofs.YtpfhnhhkfobjnaaGreat.fnExactNaturalLayout
open Go.ChangeShapes Go.WideShapes Go.ChangeAt Go.RowKit Go.Fw
set_option linter.unusedVariables false
theorem own : ownKnob Tryz.prog.godebug = none := by kernel_rfl
theorem laidOut : laidOutB Tryz.prog = true := by kernel_rfl
set_option maxRecDepth 100000 in
theorem lifted (os : Os) (started : os.Started) (H : Type) (enc : TypeId × Value → H) :
    ReturnsInHanded {} Tryz.checked os 9 .any (Rows.fnExactNaturalLayoutSpec.pre6 enc Tryz.prog Tryz.f9 Rows.fnExactNaturalLayoutRow.domain false) (Rows.fnExactNaturalLayoutSpec.post enc Tryz.prog Tryz.f9 false true false false) := by
  refine returnsInHanded_of_change_sized (C := Tryz.checked) own started (by kernel_rfl) Tryz.func9
    (ChangeSpec.witness6 (enc := enc) (C := Tryz.checked) false ⟨#[], #[.agg #[.slice none 0 0]], []⟩ 8 (by kernel_rfl) (by kernel_rfl) (by kernel_rfl) (by kernel_rfl)) ?_
  intro W base args ds gs before hval0 hW hcnd hsz0 _
  have hval : ∀ (j : Nat) t v, Tryz.f9.params[j]? = some t → args[j]? = some v → Value.okWide Tryz.prog W .any base t v := hval0
  have hW' := hW
  obtain ⟨p, q, hA0, hV, rfl, hfz, hnd⟩ := hW
  have hA : DataW.TrodAll enc Tryz.prog W 0 (fun _ => true) true Tryz.f9.params.toList args.toList ds p := hA0
  rw [Tryz.params9] at hA hval
  obtain ⟨v0, vs0, d0, ds0, p0, q0, hargs, rfl, rfl, h0, r0⟩ := trodAll_cons hA
  obtain ⟨rfl, rfl, rfl⟩ := trodAll_nil r0
  obtain rfl : args = #[v0] := by cases args; simp_all
  obtain ⟨rfl, rfl⟩ := trodVars_none hV
  have k0 := h0
  have lt0 : ∀ x ∈ p0, x.block < W.heap.size := by obtain ⟨m, hm⟩ := k0; exact DataW.trod_lt m _ _ _ hm
  obtain ⟨xs0, ok0, hx0⟩ : ∃ p : Tree, okTree p ∧ ∀ ρ, VRep W (· < W.heap.size) ρ (vTree p) v0 := by
    obtain ⟨fuel, hf⟩ := h0
    obtain ⟨cs, rfl, hcs⟩ := okWide_struct Tryz.underlying24 (hval 0 24 v0 rfl rfl)
    exact open_rec (fun p => (show (encTree p).length = 1 from rfl).trans ((show 1 = Tryz.prog.cellsOf 24 by kernel_rfl).trans hcs.symm)) (decTree _ _ _ hf)
  clear hA0 hval0 hsz0
  refine (bridge (vs := #[v0]) (c_FnExactNaturalLayout xs0 ok0) rfl (by
    intro i u hu
    match i with
    | 0 => simp at hu; subst hu; exact hx0 _
    | n + 1 => simp at hu)).mono fun e W' ⟨he, bel⟩ => ?_
  subst he
  exact ⟨_, rfl, _, _, _, [], _, [], hW', trodAll_mk1 (shut_bool Tryz.underlying4 _), (trodAll_cons_mk (Below.trod laidOut (by kernel_rfl) (of_decide_eq_true (by kernel_rfl)) k0 bel lt0) trodAll_mk0), rfl, bel.frame _, fun h => by cases h⟩
theorem o1 : Tryz.pinned.checked.prog.funcNamed Rows.fnExactNaturalLayoutRow.func = some 9 := by kernel_rfl
theorem o3 : joinedFacts Tryz.pinned.checked.prog 9 Tryz.f9 Rows.fnExactNaturalLayoutSpec Rows.fnExactNaturalLayoutRow = true := by kernel_rfl
theorem o4 : Func.isInstance Tryz.pinned.checked.prog Tryz.f9 Rows.fnExactNaturalLayoutRow.origin Rows.fnExactNaturalLayoutRow.targs := of_decide_eq_true (by kernel_rfl)
theorem o5 : Func.isWrapper Tryz.pinned.checked.prog Tryz.f9 Rows.fnExactNaturalLayoutRow.wrapper Rows.fnExactNaturalLayoutRow.mainSum := by unfold Func.isWrapper; first | (rw [if_pos (by decide +kernel)]; kernel_rfl) | (rw [if_neg (by decide +kernel)]; exact ⟨rfl, rfl⟩)
theorem over : Rows.fnExactNaturalLayoutRow.holds Tryz.pinned (OpenSpec.ofChange Rows.fnExactNaturalLayoutSpec) :=
  OpenClaim.holds_of_wide 9 Tryz.f9 rfl rfl rfl rfl rfl rfl rfl ⟨rfl, rfl, rfl, rfl, rfl⟩ rfl rfl rfl rfl rfl o1 Tryz.func9 o3 o4 o5
    (fun os started H enc _ => lifted os started H enc)
theorem proved : Rows.FnExactNaturalLayoutSaid := over
#print axioms proved
end Go.Proofs.YtpfhnhhkfobjnaaGreat.fnExactNaturalLayout
namespace Go.Proofs.YtpfhnhhkfobjnaaGreat
/-- The row, under a short name, for the claim. -/
theorem fnExactNaturalLayout_holds : Rows.FnExactNaturalLayoutSaid := fnExactNaturalLayout.proved
end Go.Proofs.YtpfhnhhkfobjnaaGreat
