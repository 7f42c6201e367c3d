/- FnExactAskFor: for every input the law returns true, and its input reads as before; no condition. -/
import Derived.Test.YtagbfbamhfjbaaaRows
import Derived.Test.YtagbfbamhfjbaaaFnExactAskFor2
import Derived.WalkKit
import Derived.OpenShut
import Derived.ShutString
import Derived.ChangeOld
import Derived.SizedLaws
namespace Go.Proofs.Ytagbfbamhfjbaaa.fnExactAskFor
open Go.ChangeShapes Go.WideShapes Go.ChangeAt Go.RowKit Go.Fw
set_option linter.unusedVariables false
theorem own : ownKnob Try.prog.godebug = none := by kernel_rfl
theorem laidOut : laidOutB Try.prog = true := by kernel_rfl
set_option maxRecDepth 100000 in
theorem lifted (os : Os) (started : os.Started) (H : Type) (enc : TypeId × Value → H) :
    ReturnsInHanded {} Try.checked os 3 .any (Rows.fnExactAskForSpec.pre6 enc Try.prog Try.f3 Rows.fnExactAskForRow.domain false) (Rows.fnExactAskForSpec.post enc Try.prog Try.f3 false true false false) := by
  refine returnsInHanded_of_change_sized (C := Try.checked) own started (by kernel_rfl) Try.func3
    (ChangeSpec.witness6 (enc := enc) (C := Try.checked) false ⟨#[], #[.agg #[.slice none 0 0], .int .i64 0, .int .i64 0, .int .i64 0], []⟩ 8 (by kernel_rfl) (by kernel_rfl) (by kernel_rfl) (by kernel_rfl)) ?_
  intro W base args ds gs before hval0 hW hcnd hsz0 _
  have hval : ∀ (j : Nat) t v, Try.f3.params[j]? = some t → args[j]? = some v → Value.okWide Try.prog W .any base t v := hval0
  have hW' := hW
  obtain ⟨p, q, hA0, hV, rfl, hfz, hnd⟩ := hW
  have hA : DataW.TrodAll enc Try.prog W 0 (fun _ => true) true Try.f3.params.toList args.toList ds p := hA0
  rw [Try.params3] at hA hval
  obtain ⟨v0, vs0, d0, ds0, p0, q0, hargs, rfl, rfl, h0, r0⟩ := trodAll_cons hA
  obtain ⟨v1, vs1, d1, ds1, p1, q1, rfl, rfl, rfl, h1, r1⟩ := trodAll_cons r0
  obtain ⟨v2, vs2, d2, ds2, p2, q2, rfl, rfl, rfl, h2, r2⟩ := trodAll_cons r1
  obtain ⟨v3, vs3, d3, ds3, p3, q3, rfl, rfl, rfl, h3, r3⟩ := trodAll_cons r2
  obtain ⟨rfl, rfl, rfl⟩ := trodAll_nil r3
  obtain rfl : args = #[v0, v1, v2, v3] := by cases args; simp_all
  obtain ⟨rfl, rfl⟩ := trodVars_none hV
  have k0 := h0
  have lt0 : ∀ x ∈ p0, x.block < W.heap.size := by obtain ⟨m, hm⟩ := k0; exact DataW.trod_lt m _ _ _ hm
  obtain ⟨xs0, ok0, hx0⟩ : ∃ p : Tree, okTree p ∧ ∀ ρ, VRep W (· < W.heap.size) ρ (vTree p) v0 := by
    obtain ⟨fuel, hf⟩ := h0
    obtain ⟨cs, rfl, hcs⟩ := okWide_struct Try.underlying24 (hval 0 24 v0 rfl rfl)
    exact open_rec (fun p => (show (encTree p).length = 1 from rfl).trans ((show 1 = Try.prog.cellsOf 24 by kernel_rfl).trans hcs.symm)) (decTree _ _ _ hf)
  obtain ⟨a1, rfl, rfl, rfl, w1⟩ := open_int Try.underlying3 (hval 1 3 v1 rfl rfl) h1
  obtain ⟨a2, rfl, rfl, rfl, w2⟩ := open_int Try.underlying3 (hval 2 3 v2 rfl rfl) h2
  obtain ⟨a3, rfl, rfl, rfl, w3⟩ := open_int Try.underlying3 (hval 3 3 v3 rfl rfl) h3
  clear hA0 hval0 hsz0
  refine (bridge (vs := #[v0, .int .i64 a1, .int .i64 a2, .int .i64 a3]) (c_FnExactAskFor xs0 a1 a2 a3 ok0) rfl (by
    intro i u hu
    match i with
    | 0 => simp at hu; subst hu; exact hx0 _
    | 1 => simp at hu; subst hu; exact .d .int
    | 2 => simp at hu; subst hu; exact .d .int
    | 3 => simp at hu; subst hu; exact .d .int
    | n + 4 => simp at hu)).mono fun e W' ⟨he, bel⟩ => ?_
  subst he
  exact ⟨_, rfl, _, _, _, [], _, [], hW', trodAll_mk1 (shut_bool Try.underlying4 _), (trodAll_cons_mk (Below.trod laidOut (by kernel_rfl) (of_decide_eq_true (by kernel_rfl)) k0 bel lt0) (trodAll_cons_mk (shut_int Try.underlying3 w1) (trodAll_cons_mk (shut_int Try.underlying3 w2) (trodAll_cons_mk (shut_int Try.underlying3 w3) trodAll_mk0)))), rfl, bel.frame _, fun h => by cases h⟩
theorem o1 : Try.pinned.checked.prog.funcNamed Rows.fnExactAskForRow.func = some 3 := by kernel_rfl
theorem o3 : joinedFacts Try.pinned.checked.prog 3 Try.f3 Rows.fnExactAskForSpec Rows.fnExactAskForRow = true := by kernel_rfl
theorem o4 : Func.isInstance Try.pinned.checked.prog Try.f3 Rows.fnExactAskForRow.origin Rows.fnExactAskForRow.targs := of_decide_eq_true (by kernel_rfl)
theorem o5 : Func.isWrapper Try.pinned.checked.prog Try.f3 Rows.fnExactAskForRow.wrapper Rows.fnExactAskForRow.mainSum := by unfold Func.isWrapper; first | (rw [if_pos (by decide +kernel)]; kernel_rfl) | (rw [if_neg (by decide +kernel)]; exact ⟨rfl, rfl⟩)
theorem over : Rows.fnExactAskForRow.holds Try.pinned (OpenSpec.ofChange Rows.fnExactAskForSpec) :=
  OpenClaim.holds_of_wide 3 Try.f3 rfl rfl rfl rfl rfl rfl rfl ⟨rfl, rfl, rfl, rfl, rfl⟩ rfl rfl rfl rfl rfl o1 Try.func3 o3 o4 o5
    (fun os started H enc _ => lifted os started H enc)
theorem proved : Rows.FnExactAskForSaid := over
#print axioms proved
end Go.Proofs.Ytagbfbamhfjbaaa.fnExactAskFor
namespace Go.Proofs.Ytagbfbamhfjbaaa
/-- The row, under a short name, for the claim. -/
theorem fnExactAskFor_holds : Rows.FnExactAskForSaid := fnExactAskFor.proved
end Go.Proofs.Ytagbfbamhfjbaaa
