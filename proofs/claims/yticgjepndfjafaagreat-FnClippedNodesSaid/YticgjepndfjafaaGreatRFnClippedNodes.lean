/- FnClippedNodes: for every input the law returns true, and its input reads as before; no condition. -/
import Derived.Test.YticgjepndfjafaaGreatRows
import Derived.Test.YticgjepndfjafaaGreatFnClippedNodes4
import Derived.WalkKit
import Derived.OpenShut
import Derived.ShutString
import Derived.ChangeOld
import Derived.SizedLaws
namespace Go.Proofs.YticgjepndfjafaaGreat.fnClippedNodes
open Go.ChangeShapes Go.WideShapes Go.ChangeAt Go.RowKit Go.Fw
set_option linter.unusedVariables false
theorem own : ownKnob Tryz.prog.godebug = none := by kernel_rfl
theorem laidOut : laidOutB Tryz.prog = true := by kernel_rfl
set_option maxRecDepth 100000 in
theorem lifted (os : Os) (started : os.Started) (H : Type) (enc : TypeId × Value → H) :
    ReturnsInHanded {} Tryz.checked os 4 .any (Rows.fnClippedNodesSpec.pre6 enc Tryz.prog Tryz.f4 Rows.fnClippedNodesRow.domain false) (Rows.fnClippedNodesSpec.post enc Tryz.prog Tryz.f4 false true false false) := by
  refine returnsInHanded_of_change_sized (C := Tryz.checked) own started (by kernel_rfl) Tryz.func4
    (ChangeSpec.witness6 (enc := enc) (C := Tryz.checked) false ⟨#[], #[.slice none 0 0], []⟩ 8 (by kernel_rfl) (by kernel_rfl) (by kernel_rfl) (by kernel_rfl)) ?_
  intro W base args ds gs before hval0 hW hcnd hsz0 _
  have hval : ∀ (j : Nat) t v, Tryz.f4.params[j]? = some t → args[j]? = some v → Value.okWide Tryz.prog W .any base t v := hval0
  have hW' := hW
  obtain ⟨p, q, hA0, hV, rfl, hfz, hnd⟩ := hW
  have hA : DataW.TrodAll enc Tryz.prog W 0 (fun _ => true) true Tryz.f4.params.toList args.toList ds p := hA0
  rw [Tryz.params4] at hA hval
  obtain ⟨v0, vs0, d0, ds0, p0, q0, hargs, rfl, rfl, h0, r0⟩ := trodAll_cons hA
  obtain ⟨rfl, rfl, rfl⟩ := trodAll_nil r0
  obtain rfl : args = #[v0] := by cases args; simp_all
  obtain ⟨rfl, rfl⟩ := trodVars_none hV
  have k0 := h0
  have lt0 : ∀ x ∈ p0, x.block < W.heap.size := by obtain ⟨m, hm⟩ := k0; exact DataW.trod_lt m _ _ _ hm
  obtain ⟨xs0, hx0, hlen0⟩ : ∃ xs : List Byte, DRep W (· < W.heap.size) (.lst (xs.map encByte)) v0 ∧ xs.length ≤ maxLen := by
    obtain ⟨fuel, hf⟩ := h0
    have hok := hval 0 22 v0 rfl rfl
    obtain ⟨a, len, cap, rfl⟩ := okWide_slice Tryz.underlying22 hok
    exact open_recs (nf := 1) Tryz.underlying22 (by kernel_rfl) (by omega) (fun _ => rfl) (fun n cs y hy => by obtain ⟨p, _, hp⟩ := decByte n cs y hy; exact ⟨p, hp⟩) hf
  clear hA0 hval0 hsz0
  refine (bridge (vs := #[v0]) (c_FnClippedNodes xs0 (Nat.lt_of_le_of_lt hlen0 (by decide))) rfl (by
    intro i u hu
    match i with
    | 0 => simp at hu; subst hu; exact .d hx0
    | n + 1 => simp at hu)).mono fun e W' ⟨he, bel⟩ => ?_
  subst he
  exact ⟨_, rfl, _, _, _, [], _, [], hW', trodAll_mk1 (shut_bool Tryz.underlying4 _), (trodAll_cons_mk (Below.trod laidOut (by kernel_rfl) (of_decide_eq_true (by kernel_rfl)) k0 bel lt0) trodAll_mk0), rfl, bel.frame _, fun h => by cases h⟩
theorem o1 : Tryz.pinned.checked.prog.funcNamed Rows.fnClippedNodesRow.func = some 4 := by kernel_rfl
theorem o3 : joinedFacts Tryz.pinned.checked.prog 4 Tryz.f4 Rows.fnClippedNodesSpec Rows.fnClippedNodesRow = true := by kernel_rfl
theorem o4 : Func.isInstance Tryz.pinned.checked.prog Tryz.f4 Rows.fnClippedNodesRow.origin Rows.fnClippedNodesRow.targs := of_decide_eq_true (by kernel_rfl)
theorem o5 : Func.isWrapper Tryz.pinned.checked.prog Tryz.f4 Rows.fnClippedNodesRow.wrapper Rows.fnClippedNodesRow.mainSum := by unfold Func.isWrapper; first | (rw [if_pos (by decide +kernel)]; kernel_rfl) | (rw [if_neg (by decide +kernel)]; exact ⟨rfl, rfl⟩)
theorem over : Rows.fnClippedNodesRow.holds Tryz.pinned (OpenSpec.ofChange Rows.fnClippedNodesSpec) :=
  OpenClaim.holds_of_wide 4 Tryz.f4 rfl rfl rfl rfl rfl rfl rfl ⟨rfl, rfl, rfl, rfl, rfl⟩ rfl rfl rfl rfl rfl o1 Tryz.func4 o3 o4 o5
    (fun os started H enc _ => lifted os started H enc)
theorem proved : Rows.FnClippedNodesSaid := over
#print axioms proved
end Go.Proofs.YticgjepndfjafaaGreat.fnClippedNodes
namespace Go.Proofs.YticgjepndfjafaaGreat
/-- The row, under a short name, for the claim. -/
theorem fnClippedNodes_holds : Rows.FnClippedNodesSaid := fnClippedNodes.proved
end Go.Proofs.YticgjepndfjafaaGreat
