/- FnExactWayUp: for every input the law returns true, and its input reads as before; no condition. -/
import Derived.Test.YtpfhnhhkfobjnaaRows
import Derived.Test.YtpfhnhhkfobjnaaFnExactWayUp1
import Derived.WalkKit
import Derived.OpenShut
import Derived.ShutString
import Derived.ChangeOld
import Derived.SizedLaws
namespace Go.Proofs.Ytpfhnhhkfobjnaa.fnExactWayUp
open Go.ChangeShapes Go.WideShapes Go.ChangeAt Go.RowKit Go.Fw
set_option linter.unusedVariables false
theorem own : ownKnob Try.prog.godebug = none := by kernel_rfl
theorem laidOut : laidOutB Try.prog = true := by kernel_rfl
set_option maxRecDepth 100000 in
theorem lifted (os : Os) (started : os.Started) (H : Type) (enc : TypeId × Value → H) :
    ReturnsInHanded {} Try.checked os 4 .any (Rows.fnExactWayUpSpec.pre6 enc Try.prog Try.f4 Rows.fnExactWayUpRow.domain false) (Rows.fnExactWayUpSpec.post enc Try.prog Try.f4 false true false false) := by
  refine returnsInHanded_of_change_sized (C := Try.checked) own started (by kernel_rfl) Try.func4
    (ChangeSpec.witness6 (enc := enc) (C := Try.checked) false ⟨#[], #[.agg #[.slice none 0 0], .int .i64 0], []⟩ 8 (by kernel_rfl) (by kernel_rfl) (by kernel_rfl) (by kernel_rfl)) ?_
  intro W base args ds gs before hval0 hW hcnd hsz0 _
  have hval : ∀ (j : Nat) t v, Try.f4.params[j]? = some t → args[j]? = some v → Value.okWide Try.prog W .any base t v := hval0
  have hW' := hW
  obtain ⟨p, q, hA0, hV, rfl, hfz, hnd⟩ := hW
  have hA : DataW.TrodAll enc Try.prog W 0 (fun _ => true) true Try.f4.params.toList args.toList ds p := hA0
  rw [Try.params4] at hA hval
  obtain ⟨v0, vs0, d0, ds0, p0, q0, hargs, rfl, rfl, h0, r0⟩ := trodAll_cons hA
  obtain ⟨v1, vs1, d1, ds1, p1, q1, rfl, rfl, rfl, h1, r1⟩ := trodAll_cons r0
  obtain ⟨rfl, rfl, rfl⟩ := trodAll_nil r1
  obtain rfl : args = #[v0, v1] := by cases args; simp_all
  obtain ⟨rfl, rfl⟩ := trodVars_none hV
  have k0 := h0
  have lt0 : ∀ x ∈ p0, x.block < W.heap.size := by obtain ⟨m, hm⟩ := k0; exact DataW.trod_lt m _ _ _ hm
  obtain ⟨xs0, ok0, hx0⟩ : ∃ p : Tree, okTree p ∧ ∀ ρ, VRep W (· < W.heap.size) ρ (vTree p) v0 := by
    obtain ⟨fuel, hf⟩ := h0
    obtain ⟨cs, rfl, hcs⟩ := okWide_struct Try.underlying24 (hval 0 24 v0 rfl rfl)
    exact open_rec (fun p => (show (encTree p).length = 1 from rfl).trans ((show 1 = Try.prog.cellsOf 24 by kernel_rfl).trans hcs.symm)) (decTree _ _ _ hf)
  obtain ⟨a1, rfl, rfl, rfl, w1⟩ := open_int Try.underlying3 (hval 1 3 v1 rfl rfl) h1
  clear hA0 hval0 hsz0
  refine (bridge (vs := #[v0, .int .i64 a1]) (c_FnExactWayUp xs0 a1 ok0) rfl (by
    intro i u hu
    match i with
    | 0 => simp at hu; subst hu; exact hx0 _
    | 1 => simp at hu; subst hu; exact .d .int
    | n + 2 => simp at hu)).mono fun e W' ⟨he, bel⟩ => ?_
  subst he
  exact ⟨_, rfl, _, _, _, [], _, [], hW', trodAll_mk1 (shut_bool Try.underlying4 _), (trodAll_cons_mk (Below.trod laidOut (by kernel_rfl) (of_decide_eq_true (by kernel_rfl)) k0 bel lt0) (trodAll_cons_mk (shut_int Try.underlying3 w1) trodAll_mk0)), rfl, bel.frame _, fun h => by cases h⟩
theorem o1 : Try.pinned.checked.prog.funcNamed Rows.fnExactWayUpRow.func = some 4 := by kernel_rfl
theorem o3 : joinedFacts Try.pinned.checked.prog 4 Try.f4 Rows.fnExactWayUpSpec Rows.fnExactWayUpRow = true := by kernel_rfl
theorem o4 : Func.isInstance Try.pinned.checked.prog Try.f4 Rows.fnExactWayUpRow.origin Rows.fnExactWayUpRow.targs := of_decide_eq_true (by kernel_rfl)
theorem o5 : Func.isWrapper Try.pinned.checked.prog Try.f4 Rows.fnExactWayUpRow.wrapper Rows.fnExactWayUpRow.mainSum := by unfold Func.isWrapper; first | (rw [if_pos (by decide +kernel)]; kernel_rfl) | (rw [if_neg (by decide +kernel)]; exact ⟨rfl, rfl⟩)
theorem over : Rows.fnExactWayUpRow.holds Try.pinned (OpenSpec.ofChange Rows.fnExactWayUpSpec) :=
  OpenClaim.holds_of_wide 4 Try.f4 rfl rfl rfl rfl rfl rfl rfl ⟨rfl, rfl, rfl, rfl, rfl⟩ rfl rfl rfl rfl rfl o1 Try.func4 o3 o4 o5
    (fun os started H enc _ => lifted os started H enc)
theorem proved : Rows.FnExactWayUpSaid := over
#print axioms proved
end Go.Proofs.Ytpfhnhhkfobjnaa.fnExactWayUp
namespace Go.Proofs.Ytpfhnhhkfobjnaa
/-- The row, under a short name, for the claim. -/
theorem fnExactWayUp_holds : Rows.FnExactWayUpSaid := fnExactWayUp.proved
end Go.Proofs.Ytpfhnhhkfobjnaa
