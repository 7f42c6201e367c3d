/- FnExactLayoutTree: for every input the law returns true, and its input reads as before; no condition. -/
import Derived.Test.YtpfhnhhkfobjnaaGreatRows
import Derived.Test.YtpfhnhhkfobjnaaGreatFnExactLayoutTree3
import Derived.WalkKit
import Derived.OpenShut
import Derived.ShutString
import Derived.ChangeOld
import Derived.SizedLaws
namespace Go.Proofs.YtpfhnhhkfobjnaaGreat.fnExactLayoutTree
open Go.ChangeShapes Go.WideShapes Go.ChangeAt Go.RowKit Go.Fw
set_option linter.unusedVariables false
theorem own : ownKnob Tryz.prog.godebug = none := by kernel_rfl
theorem laidOut : laidOutB Tryz.prog = true := by kernel_rfl
set_option maxRecDepth 100000 in
theorem lifted (os : Os) (started : os.Started) (H : Type) (enc : TypeId × Value → H) :
    ReturnsInHanded {} Tryz.checked os 8 .any (Rows.fnExactLayoutTreeSpec.pre6 enc Tryz.prog Tryz.f8 Rows.fnExactLayoutTreeRow.domain false) (Rows.fnExactLayoutTreeSpec.post enc Tryz.prog Tryz.f8 false true false false) := by
  refine returnsInHanded_of_change_sized (C := Tryz.checked) own started (by kernel_rfl) Tryz.func8
    (ChangeSpec.witness6 (enc := enc) (C := Tryz.checked) false ⟨#[], #[.agg #[.slice none 0 0], .int .i64 0, .int .i64 0], []⟩ 8 (by kernel_rfl) (by kernel_rfl) (by kernel_rfl) (by kernel_rfl)) ?_
  intro W base args ds gs before hval0 hW hcnd hsz0 _
  have hval : ∀ (j : Nat) t v, Tryz.f8.params[j]? = some t → args[j]? = some v → Value.okWide Tryz.prog W .any base t v := hval0
  have hW' := hW
  obtain ⟨p, q, hA0, hV, rfl, hfz, hnd⟩ := hW
  have hA : DataW.TrodAll enc Tryz.prog W 0 (fun _ => true) true Tryz.f8.params.toList args.toList ds p := hA0
  rw [Tryz.params8] at hA hval
  obtain ⟨v0, vs0, d0, ds0, p0, q0, hargs, rfl, rfl, h0, r0⟩ := trodAll_cons hA
  obtain ⟨v1, vs1, d1, ds1, p1, q1, rfl, rfl, rfl, h1, r1⟩ := trodAll_cons r0
  obtain ⟨v2, vs2, d2, ds2, p2, q2, rfl, rfl, rfl, h2, r2⟩ := trodAll_cons r1
  obtain ⟨rfl, rfl, rfl⟩ := trodAll_nil r2
  obtain rfl : args = #[v0, v1, v2] := by cases args; simp_all
  obtain ⟨rfl, rfl⟩ := trodVars_none hV
  have k0 := h0
  have lt0 : ∀ x ∈ p0, x.block < W.heap.size := by obtain ⟨m, hm⟩ := k0; exact DataW.trod_lt m _ _ _ hm
  obtain ⟨xs0, ok0, hx0⟩ : ∃ p : Tree, okTree p ∧ ∀ ρ, VRep W (· < W.heap.size) ρ (vTree p) v0 := by
    obtain ⟨fuel, hf⟩ := h0
    obtain ⟨cs, rfl, hcs⟩ := okWide_struct Tryz.underlying24 (hval 0 24 v0 rfl rfl)
    exact open_rec (fun p => (show (encTree p).length = 1 from rfl).trans ((show 1 = Tryz.prog.cellsOf 24 by kernel_rfl).trans hcs.symm)) (decTree _ _ _ hf)
  obtain ⟨a1, rfl, rfl, rfl, w1⟩ := open_int Tryz.underlying3 (hval 1 3 v1 rfl rfl) h1
  obtain ⟨a2, rfl, rfl, rfl, w2⟩ := open_int Tryz.underlying3 (hval 2 3 v2 rfl rfl) h2
  clear hA0 hval0 hsz0
  refine (bridge (vs := #[v0, .int .i64 a1, .int .i64 a2]) (c_FnExactLayoutTree xs0 a1 a2 ok0) rfl (by
    intro i u hu
    match i with
    | 0 => simp at hu; subst hu; exact hx0 _
    | 1 => simp at hu; subst hu; exact .d .int
    | 2 => simp at hu; subst hu; exact .d .int
    | n + 3 => simp at hu)).mono fun e W' ⟨he, bel⟩ => ?_
  subst he
  exact ⟨_, rfl, _, _, _, [], _, [], hW', trodAll_mk1 (shut_bool Tryz.underlying4 _), (trodAll_cons_mk (Below.trod laidOut (by kernel_rfl) (of_decide_eq_true (by kernel_rfl)) k0 bel lt0) (trodAll_cons_mk (shut_int Tryz.underlying3 w1) (trodAll_cons_mk (shut_int Tryz.underlying3 w2) trodAll_mk0))), rfl, bel.frame _, fun h => by cases h⟩
theorem o1 : Tryz.pinned.checked.prog.funcNamed Rows.fnExactLayoutTreeRow.func = some 8 := by kernel_rfl
theorem o3 : joinedFacts Tryz.pinned.checked.prog 8 Tryz.f8 Rows.fnExactLayoutTreeSpec Rows.fnExactLayoutTreeRow = true := by kernel_rfl
theorem o4 : Func.isInstance Tryz.pinned.checked.prog Tryz.f8 Rows.fnExactLayoutTreeRow.origin Rows.fnExactLayoutTreeRow.targs := of_decide_eq_true (by kernel_rfl)
theorem o5 : Func.isWrapper Tryz.pinned.checked.prog Tryz.f8 Rows.fnExactLayoutTreeRow.wrapper Rows.fnExactLayoutTreeRow.mainSum := by unfold Func.isWrapper; first | (rw [if_pos (by decide +kernel)]; kernel_rfl) | (rw [if_neg (by decide +kernel)]; exact ⟨rfl, rfl⟩)
theorem over : Rows.fnExactLayoutTreeRow.holds Tryz.pinned (OpenSpec.ofChange Rows.fnExactLayoutTreeSpec) :=
  OpenClaim.holds_of_wide 8 Tryz.f8 rfl rfl rfl rfl rfl rfl rfl ⟨rfl, rfl, rfl, rfl, rfl⟩ rfl rfl rfl rfl rfl o1 Tryz.func8 o3 o4 o5
    (fun os started H enc _ => lifted os started H enc)
theorem proved : Rows.FnExactLayoutTreeSaid := over
#print axioms proved
end Go.Proofs.YtpfhnhhkfobjnaaGreat.fnExactLayoutTree
namespace Go.Proofs.YtpfhnhhkfobjnaaGreat
/-- The row, under a short name, for the claim. -/
theorem fnExactLayoutTree_holds : Rows.FnExactLayoutTreeSaid := fnExactLayoutTree.proved
end Go.Proofs.YtpfhnhhkfobjnaaGreat
