/- FnExactLineSizes: for every input the law returns true, and its input reads as before; no condition. -/
import Derived.Test.YtemihgpcodcjgaaRows
import Derived.Test.YtemihgpcodcjgaaG22
import Derived.WalkKit
import Derived.OpenShut
import Derived.ShutString
import Derived.ChangeOld
import Derived.SizedLaws
namespace Go.Proofs.Ytemihgpcodcjgaa.fnExactLineSizes
open Go.ChangeShapes Go.WideShapes Go.ChangeAt Go.RowKit Go.Fw
set_option linter.unusedVariables false
theorem own : ownKnob Try.prog.godebug = none := by kernel_rfl
theorem laidOut : laidOutB Try.prog = true := by kernel_rfl
set_option maxRecDepth 100000 in
theorem lifted (os : Os) (started : os.Started) (H : Type) (enc : TypeId × Value → H) :
    ReturnsInHanded {} Try.checked os 11 .any (Rows.fnExactLineSizesSpec.pre6 enc Try.prog Try.f11 Rows.fnExactLineSizesRow.domain false) (Rows.fnExactLineSizesSpec.post enc Try.prog Try.f11 false true false false) := by
  refine returnsInHanded_of_change_sized (C := Try.checked) own started (by kernel_rfl) Try.func11
    (ChangeSpec.witness6 (enc := enc) (C := Try.checked) false ⟨#[], #[.slice none 0 0, .slice none 0 0, .int .i64 0], []⟩ 8 (by kernel_rfl) (by kernel_rfl) (by kernel_rfl) (by kernel_rfl)) ?_
  intro W base args ds gs before hval0 hW hcnd hsz0 _
  have hval : ∀ (j : Nat) t v, Try.f11.params[j]? = some t → args[j]? = some v → Value.okWide Try.prog W .any base t v := hval0
  have hW' := hW
  obtain ⟨p, q, hA0, hV, rfl, hfz, hnd⟩ := hW
  have hA : DataW.TrodAll enc Try.prog W 0 (fun _ => true) true Try.f11.params.toList args.toList ds p := hA0
  rw [Try.params11] at hA hval
  obtain ⟨v0, vs0, d0, ds0, p0, q0, hargs, rfl, rfl, h0, r0⟩ := trodAll_cons hA
  obtain ⟨v1, vs1, d1, ds1, p1, q1, rfl, rfl, rfl, h1, r1⟩ := trodAll_cons r0
  obtain ⟨v2, vs2, d2, ds2, p2, q2, rfl, rfl, rfl, h2, r2⟩ := trodAll_cons r1
  obtain ⟨rfl, rfl, rfl⟩ := trodAll_nil r2
  obtain rfl : args = #[v0, v1, v2] := by cases args; simp_all
  obtain ⟨rfl, rfl⟩ := trodVars_none hV
  have k0 := h0
  have lt0 : ∀ x ∈ p0, x.block < W.heap.size := by obtain ⟨m, hm⟩ := k0; exact DataW.trod_lt m _ _ _ hm
  have k1 := h1
  have lt1 : ∀ x ∈ p1, x.block < W.heap.size := by obtain ⟨m, hm⟩ := k1; exact DataW.trod_lt m _ _ _ hm
  obtain ⟨xs0, hx0, hlen0⟩ : ∃ xs : List Line, DRep W (· < W.heap.size) (.lst (xs.map encLine)) v0 ∧ xs.length ≤ maxLen := by
    obtain ⟨fuel, hf⟩ := h0
    have hok := hval 0 22 v0 rfl rfl
    obtain ⟨a, len, cap, rfl⟩ := okWide_slice Try.underlying22 hok
    exact open_recs (nf := 2) Try.underlying22 (by kernel_rfl) (by omega) (fun _ => rfl) (fun n cs y hy => by obtain ⟨p, _, hp⟩ := decLine n cs y hy; exact ⟨p, hp⟩) hf
  obtain ⟨xs1, hx1, hlen1⟩ : ∃ xs : List Span, DRep W (· < W.heap.size) (.lst (xs.map encSpan)) v1 ∧ xs.length ≤ maxLen := by
    obtain ⟨fuel, hf⟩ := h1
    have hok := hval 1 53 v1 rfl rfl
    obtain ⟨a, len, cap, rfl⟩ := okWide_slice Try.underlying53 hok
    exact open_recs (nf := 3) Try.underlying53 (by kernel_rfl) (by omega) (fun _ => rfl) (fun n cs y hy => by obtain ⟨p, _, hp⟩ := decSpan n cs y hy; exact ⟨p, hp⟩) hf
  obtain ⟨a2, rfl, rfl, rfl, w2⟩ := open_int Try.underlying3 (hval 2 3 v2 rfl rfl) h2
  clear hA0 hval0 hsz0
  refine (bridge (vs := #[v0, v1, .int .i64 a2]) (c_FnExactLineSizes xs0 xs1 a2 (Nat.lt_of_le_of_lt hlen0 (by decide)) (Nat.lt_of_le_of_lt hlen1 (by decide))) rfl (by
    intro i u hu
    match i with
    | 0 => simp at hu; subst hu; exact .d hx0
    | 1 => simp at hu; subst hu; exact .d hx1
    | 2 => simp at hu; subst hu; exact .d .int
    | n + 3 => simp at hu)).mono fun e W' ⟨he, bel⟩ => ?_
  subst he
  exact ⟨_, rfl, _, _, _, [], _, [], hW', trodAll_mk1 (shut_bool Try.underlying4 _), (trodAll_cons_mk (Below.trod laidOut (by kernel_rfl) (of_decide_eq_true (by kernel_rfl)) k0 bel lt0) (trodAll_cons_mk (Below.trod laidOut (by kernel_rfl) (of_decide_eq_true (by kernel_rfl)) k1 bel lt1) (trodAll_cons_mk (shut_int Try.underlying3 w2) trodAll_mk0))), rfl, bel.frame _, fun h => by cases h⟩
theorem o1 : Try.pinned.checked.prog.funcNamed Rows.fnExactLineSizesRow.func = some 11 := by kernel_rfl
theorem o3 : joinedFacts Try.pinned.checked.prog 11 Try.f11 Rows.fnExactLineSizesSpec Rows.fnExactLineSizesRow = true := by kernel_rfl
theorem o4 : Func.isInstance Try.pinned.checked.prog Try.f11 Rows.fnExactLineSizesRow.origin Rows.fnExactLineSizesRow.targs := of_decide_eq_true (by kernel_rfl)
theorem o5 : Func.isWrapper Try.pinned.checked.prog Try.f11 Rows.fnExactLineSizesRow.wrapper Rows.fnExactLineSizesRow.mainSum := by unfold Func.isWrapper; first | (rw [if_pos (by decide +kernel)]; kernel_rfl) | (rw [if_neg (by decide +kernel)]; exact ⟨rfl, rfl⟩)
theorem over : Rows.fnExactLineSizesRow.holds Try.pinned (OpenSpec.ofChange Rows.fnExactLineSizesSpec) :=
  OpenClaim.holds_of_wide 11 Try.f11 rfl rfl rfl rfl rfl rfl rfl ⟨rfl, rfl, rfl, rfl, rfl⟩ rfl rfl rfl rfl rfl o1 Try.func11 o3 o4 o5
    (fun os started H enc _ => lifted os started H enc)
theorem proved : Rows.FnExactLineSizesSaid := over
#print axioms proved
end Go.Proofs.Ytemihgpcodcjgaa.fnExactLineSizes
namespace Go.Proofs.Ytemihgpcodcjgaa
/-- The row, under a short name, for the claim. -/
theorem fnExactLineSizes_holds : Rows.FnExactLineSizesSaid := fnExactLineSizes.proved
end Go.Proofs.Ytemihgpcodcjgaa
