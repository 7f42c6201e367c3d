/- Contracts of the functions and the plain law behind them, as far as FnOverlapsIn needs them; joined out of the texts T17 R3 K8 T18 T21 T32 L0 T22 L6. -/
import Derived.Deep.Slices
import Derived.Deep.Fields
import Derived.ChangeSame
import Derived.Below
import Derived.ProofKit
import Derived.Test.YticgjepndfjafaaFnOverlapsIn3
set_option linter.unusedSimpArgs false
set_option linter.unusedVariables false
namespace Go.Proofs.Yticgjepndfjafaa
open Go.Fw
attribute [local irreducible] Go.Fw.aops Go.Fw.arun

/-- A node, and all at or below some of its kids. -/
def belTo (t : List Node) (i m : Nat) (j : Nat) : Bool := decide (j = i) || ((kids t i).take m).any fun k => bel t k j
section
variable {t : List Node} {w h : Int} {out : List Rect}
theorem belTo_zero {i : Nat} : out.set i (rectAt t w h i) = lay t w h (belTo t i 0) out := by
  have e := lay_set (t := t) (w := w) (h := h) (A := fun _ => false) (out := out) (k := i)
  rw [lay_none fun _ _ => rfl] at e
  rw [e]
  exact lay_congr fun j _ => by simp [belTo]
theorem belTo_step {i m : Nat} (hm : m < (kids t i).length) : lay t w h (bel t (kids t i)[m]) (lay t w h (belTo t i m) out) = lay t w h (belTo t i (m + 1)) out := by
  rw [lay_lay]
  refine lay_congr fun j _ => ?_
  unfold belTo
  rw [List.take_succ_eq_append_getElem hm, List.any_append, Bool.or_assoc]
  congr 2
  simp only [List.any_cons, List.any_nil, Bool.or_false]
theorem belTo_all (hk : TreeK t) {i : Nat} (hi : i < t.length) : lay t w h (belTo t i (kids t i).length) out = lay t w h (bel t i) out := by
  refine lay_congr fun j _ => ?_
  rw [belTo, List.take_length, bel_eq hk hi]
end

set_option maxRecDepth 8000 in
set_option maxHeartbeats 8000000 in
theorem c_laid (t : List Node) (hk : TreeK t) (w h : Int) (hw : 0 ≤ w ∧ w ≤ 400) (hh : 0 ≤ h ∧ h ≤ 400) : ∀ m i : Nat, t.length - i ≤ m → i < t.length → ∀ out : List Rect, out.length = t.length →
    ACon Try.prog 103 [vTree t, .d (.int .i64 (i : Int)), vRect (rectAt t w h i), .msl 0 4 0 t.length] [.arr 4 (out.map encRect)] (Own (.tup []) [.arr 4 ((lay t w h (bel t i) out).map encRect)]) := by
  intro m
  induction m with
  | zero => intro i h1 h2; omega
  | succ m ih =>
    intro i h1 hlt out hol
    have hlo := hk.lo; have hhi := hk.hi
    have hb := rect_bd hk hw hh i hlt
    have hrm := fun m (hm : m < (kids t i).length) => rectAt_kid hk (w := w) (v := h) hm
    have hz := belTo_zero (t := t) (w := w) (h := h) (out := out) (i := i)
    have hset0 : (out.map encRect).set i (encRect (rectAt t w h i)) = (lay t w h (belTo t i 0) out).map encRect := by rw [← List.map_set, hz]
    generalize hr : rectAt t w h i = r at *
    have hin := hb.in (by omega)
    obtain ⟨b1, b2, b3, b4⟩ := hb
    have hrow := at_map (f := encNode) hlt
    have hcell := at_map (f := encRect) (xs := out) (k := i) (by omega)
    generalize out[i]'(by omega) = z0 at hcell
    have hkl : (kids t i).length ≤ 10 := by have := kids_len t i t.length; unfold kids; omega
    have hks : ∀ k ∈ kids t i, k < t.length := fun k hk' => (hk.kid hk').1
    have c1 := c_kidsS t hk i
    have c2 := ORows.data (c_packsS t hk _ hks hkl fun k hk' => c_sizeOf t hk k (hks k hk'))
    have c3 := c_gridS t hk i hlt _ hks hkl fun k hk' => c_sizeOf t hk k (hks k hk')
    have c4 := ORows.data (c_packed (itemsOf t (kids t i)) r hin (items_ok hk i).1 (items_ok hk i).2)
    have hkd := (nodeOk_iff (hk.ok i hlt)).1
    have hkr : kidRects t i r = if t[i].kind = 0 then packed (itemsOf t (kids t i)) r else if t[i].kind = 1 then gridRectsIn (gridOf t i (kids t i)) r else (kids t i).map fun k => placed (nodeAt t k).place r := by
      rw [← nodeAt_eq hlt]; rfl
    simp only [encRect] at hset0
    refine ACon.introW tok (nt := 78) Try.func103 rfl rfl rfl (by kernel_rfl) rfl ?_
    repeat' ((fail_if_success (with_reducible first | apply xnoblock | apply xnoblockT)); first | ((with_reducible apply xsim); (first | ((with_reducible apply xo); exact rfl) | with_reducible apply xend | ((with_reducible apply xbox); exact rfl; simp only [backV, backVs, backVs_mapd, backId, backO, List.map_cons, List.map_nil, List.getElem?_nil, List.length_cons, List.length_nil, Nat.reduceAdd, Nat.reduceSub, List.cons_append, List.nil_append, List.append_nil]) | ((with_reducible apply xbuild); exact rfl; exact rfl; exact rfl; exact rfl; exact rfl; simp only [backV, backVs, backVs_mapd, backId, backO, List.map_cons, List.map_nil, List.getElem?_nil, List.length_cons, List.length_nil, Nat.reduceAdd, Nat.reduceSub, List.cons_append, List.nil_append, List.append_nil]) | ((with_reducible apply xidxL); exact rfl; exact rfl; exact rfl; (first | exact hcell | exact hrow); omega; first | exact rfl | simp only [hsz]) | ((with_reducible apply xidxM); exact rfl; exact rfl; exact rfl; omega; omega; exact rfl) | ((with_reducible apply xstA); exact rfl; exact rfl; exact rfl; exact rfl; (first | exact hcell | exact hrow); exact rfl; exact rfl; exact rfl; exact rfl; (try simp only [List.set_cons_zero, List.set_cons_succ, List.length_map])) | ((with_reducible apply xcallIs); exact rfl; exact rfl; exact c1; exact rfl))) | ((with_reducible apply xaw); (first | ((with_reducible apply xstepS); refine AW.step tok rfl ?_) | with_reducible refine AW.seq ?_)) | with_reducible exact trivial | exact Eq.refl true)
    refine AW.cutBT (S := fun _ : Unit => ⟨[(3, .msl 0 4 0 t.length), (4, .oref 1 0), (8, .d (.lst ((kids t i).map encK))), (9, .d (.lst ((kidRects t i r).map encRect)))],
      [.arr 4 ((lay t w h (belTo t i 0) out).map encRect), .box [.d (.lst (t.map encNode))]], 78, 1⟩) (Pre := fun _ => True) ?_ ?_
    · by_cases hk0 : t[i].kind = 0
      · rw [if_pos hk0] at hkr
        repeat' (first | ((with_reducible apply xsim); (first | ((with_reducible apply xo); exact rfl) | with_reducible apply xend)) | ((with_reducible apply xaw); (first | ((with_reducible apply xstepS); refine AW.step tok rfl ?_) | ((with_reducible apply xcond); exact rfl) | ((with_reducible apply xdraw (id := 10)); refine AW.draw (id := 10) (.q 0 (.q 1 (.q 2 (.q 3 (.q 4 (.q 5 (.fin))))))) tok (by kernel_rfl) rfl (by kernel_rfl) ?_))) | ((with_reducible apply xarun); (first | ((with_reducible apply xrun_q); exact rfl; exact rfl; exact rfl) | ((with_reducible apply xrun_c); exact rfl; exact rfl; exact rfl; exact rfl; exact rfl; exact rfl; (first | exact c2 | exact c4); exact rfl) | with_reducible apply xrun_f)) | with_reducible refine xblock ?_ | (with_reducible intro hc; (try simp only [decide_eq_true_eq, decide_eq_false_iff_not, Bool.not_true, Bool.not_false, Bool.not_eq_true', Bool.not_eq_false', ne_eq, not_true, reduceCtorEq, List.length_map] at hc); (try (exfalso; omega))) | with_reducible (first | exact trivial | refine And.intro ?_ ?_ | exact rfl) | exact Eq.refl true)
        refine cut_end () trivial (by (refine xwk (π := [0, 1]) (by decide) rfl ?_ ?_; (first | simp -implicitDefEqProofs only [go_sem, Int.reduceEq, Int.reduceLT, Int.reduceLE, Nat.reduceAdd, Nat.reduceSub, Nat.reduceMul, Nat.reduceEqDiff, Nat.reduceLeDiff, Nat.reducePow, ↓reduceIte, reduceCtorEq, hkr, hset0]); repeat' (first | exact renE_n | ((with_reducible apply renE_c); exact rfl; focus (first | (simp -implicitDefEqProofs only [go_sem, Int.reduceEq, Int.reduceLT, Int.reduceLE, Nat.reduceAdd, Nat.reduceSub, Nat.reduceMul, Nat.reduceEqDiff, Nat.reduceLeDiff, Nat.reducePow, ↓reduceIte, reduceCtorEq, hkr, hset0]; done))))))
      · rw [if_neg hk0] at hkr
        by_cases hk1 : t[i].kind = 1
        · rw [if_pos hk1] at hkr
          have c5 := ORows.data (c_gridded (gridOf t i (kids t i)) r (grid_ok hk hlt (by rw [nodeAt_eq hlt]; exact hk1)) (by omega) (by omega) (by omega) (by omega))
          repeat' (first | ((with_reducible apply xsim); (first | ((with_reducible apply xo); exact rfl) | with_reducible apply xend)) | ((with_reducible apply xaw); (first | ((with_reducible apply xstepS); refine AW.step tok rfl ?_) | ((with_reducible apply xcond); exact rfl) | ((with_reducible apply xdraw (id := 12)); refine AW.draw (id := 12) (.q 0 (.q 1 (.q 2 (.q 3 (.q 4 (.q 5 (.q 6 (.fin)))))))) tok (by kernel_rfl) rfl (by kernel_rfl) ?_))) | ((with_reducible apply xarun); (first | ((with_reducible apply xrun_q); exact rfl; exact rfl; exact rfl) | ((with_reducible apply xrun_c); exact rfl; exact rfl; exact rfl; exact rfl; exact rfl; exact rfl; (first | exact c3 | exact c5); exact rfl) | with_reducible apply xrun_f)) | with_reducible refine xblock ?_ | (with_reducible intro hc; (try simp only [decide_eq_true_eq, decide_eq_false_iff_not, Bool.not_true, Bool.not_false, Bool.not_eq_true', Bool.not_eq_false', ne_eq, not_true, reduceCtorEq, List.length_map] at hc); (try (exfalso; omega))) | with_reducible (first | exact trivial | refine And.intro ?_ ?_ | exact rfl) | exact Eq.refl true)
          refine cut_end () trivial (by (refine xwk (π := [0, 1]) (by decide) rfl ?_ ?_; (first | simp -implicitDefEqProofs only [go_sem, Int.reduceEq, Int.reduceLT, Int.reduceLE, Nat.reduceAdd, Nat.reduceSub, Nat.reduceMul, Nat.reduceEqDiff, Nat.reduceLeDiff, Nat.reducePow, ↓reduceIte, reduceCtorEq, hkr, hset0]); repeat' (first | exact renE_n | ((with_reducible apply renE_c); exact rfl; focus (first | (simp -implicitDefEqProofs only [go_sem, Int.reduceEq, Int.reduceLT, Int.reduceLE, Nat.reduceAdd, Nat.reduceSub, Nat.reduceMul, Nat.reduceEqDiff, Nat.reduceLeDiff, Nat.reducePow, ↓reduceIte, reduceCtorEq, hkr, hset0]; done))))))
        · rw [if_neg hk1] at hkr
          repeat' (first | ((with_reducible apply xsim); (first | ((with_reducible apply xo); exact rfl) | with_reducible apply xend)) | ((with_reducible apply xaw); (first | ((with_reducible apply xstepS); refine AW.step tok rfl ?_) | with_reducible refine AW.block ?_ | ((with_reducible apply xcond); exact rfl))) | (with_reducible intro hc; (try simp only [decide_eq_true_eq, decide_eq_false_iff_not, Bool.not_true, Bool.not_false, Bool.not_eq_true', Bool.not_eq_false', ne_eq, not_true, reduceCtorEq, List.length_map] at hc); (try (exfalso; omega))) | with_reducible (first | exact trivial | refine And.intro ?_ ?_ | exact rfl))
          refine AW.loop (S := fun m : Nat => ⟨[(3, .msl 0 4 0 t.length), (4, .oref 1 0), (6, .oref 2 0), (8, .d (.lst ((kids t i).map encK))), (9, .msl 3 4 0 m), (10, .d (.int .i64 m))],
              [.arr 4 ((lay t w h (belTo t i 0) out).map encRect), .box [.d (.lst (t.map encNode))], .box ((encRect r).map .d), .arr 4 (((kids t i).map fun k => placed (nodeAt t k).place r).take m |>.map encRect)], 78, 1⟩)
            (Pre := fun m => m ≤ (kids t i).length) (μ := fun m => (kids t i).length - m) 0 (Nat.zero_le _) ?_ ?_
          · (refine xwk (π := [0, 1, 2, 3]) (by decide) rfl ?_ ?_; (first | simp -implicitDefEqProofs only [go_sem, Int.reduceEq, Int.reduceLT, Int.reduceLE, Nat.reduceAdd, Nat.reduceSub, Nat.reduceMul, Nat.reduceEqDiff, Nat.reduceLeDiff, Nat.reducePow, ↓reduceIte, reduceCtorEq, List.take_zero, hset0]); repeat' (first | exact renE_n | ((with_reducible apply renE_c); exact rfl; focus (first | (simp -implicitDefEqProofs only [go_sem, Int.reduceEq, Int.reduceLT, Int.reduceLE, Nat.reduceAdd, Nat.reduceSub, Nat.reduceMul, Nat.reduceEqDiff, Nat.reduceLeDiff, Nat.reducePow, ↓reduceIte, reduceCtorEq, List.take_zero, hset0]; done)))))
          intro m hm
          have hml : (((kids t i).map fun k => placed (nodeAt t k).place r).take m).length = m := by simp; omega
          by_cases hmt : m < (kids t i).length
          · have hrk := at_map (f := encK) hmt
            have hkm := hks _ (List.getElem_mem hmt)
            have hrn := at_map (f := encNode) hkm
            have hs := placed_take (t := t) (r := r) hmt
            rw [nodeAt_eq hkm] at hs
            have c6 := c_placeS t[(kids t i)[m]].place r (nodeOk_iff (hk.ok _ hkm)).2.2.2.1 hin
            generalize placed t[(kids t i)[m]].place r = q at hs c6
            repeat' (first | ((with_reducible apply xsim); (first | ((with_reducible apply xlenM); exact rfl; exact rfl) | ((with_reducible apply xo); exact rfl) | with_reducible apply xend | ((with_reducible apply xbuild); exact rfl; exact rfl; exact rfl; exact rfl; exact rfl; simp only [backV, backVs, backVs_mapd, backId, backO, List.map_cons, List.map_nil, List.getElem?_nil, List.length_cons, List.length_nil, Nat.reduceAdd, Nat.reduceSub, List.cons_append, List.nil_append, List.append_nil]) | ((with_reducible apply xidxL); exact rfl; exact rfl; exact rfl; (first | exact hrk | exact hrn); omega; first | exact rfl | simp only [hsz]) | simp -implicitDefEqProofs only [go_sem, Int.reduceEq, Int.reduceLT, Int.reduceLE, Nat.reduceAdd, Nat.reduceSub, Nat.reduceMul, Nat.reduceEqDiff, Nat.reduceLeDiff, Nat.reducePow, ↓reduceIte, reduceCtorEq, List.length_map, hml])) | ((with_reducible apply xaw); (first | ((with_reducible apply xstepS); refine AW.step tok rfl ?_) | ((with_reducible apply xstep); refine AW.region tok rfl ?_) | with_reducible (first | refine AW.seq ?_ | refine AW.block ?_ | refine AW.skip ?_) | ((with_reducible apply xcond); exact rfl) | ((with_reducible apply xdraw (id := 8)); refine AW.draw (id := 8) (.q 0 (.q 1 (.q 2 (.q 3 (.q 4 (.q 5 (.q 6 (.q 7 (.q 8 (.q 9 (.q 10 (.q 11 (.e 12 (.e 13 (.q 14 (.fin)))))))))))))))) tok (by kernel_rfl) rfl (by kernel_rfl) ?_))) | ((with_reducible apply xarun); (first | ((with_reducible apply xrun_q); exact rfl; exact rfl; exact rfl) | ((with_reducible apply xrun_c); exact rfl; exact rfl; exact rfl; exact rfl; exact rfl; exact rfl; exact c6; exact rfl) | ((with_reducible apply xrun_e); exact rfl))) | with_reducible refine xthen ?_ | (with_reducible intro hc; (try simp only [decide_eq_true_eq, decide_eq_false_iff_not, Bool.not_true, Bool.not_false, Bool.not_eq_true', Bool.not_eq_false', ne_eq, not_true, reduceCtorEq, List.length_map, hml] at hc); (try (exfalso; omega))) | with_reducible (first | exact trivial | refine And.intro ?_ ?_ | exact rfl) | exact Eq.refl true | (refine inR_i64.mpr ?_; first | omega | (simp only [List.length_map, List.length_map, hml]; omega)) | omega)
            refine round_end (m+1) hmt (by omega) (by (refine xwk (π := [0, 1, 2, 5]) (by decide) rfl ?_ ?_; (first | simp -implicitDefEqProofs only [go_sem, Int.reduceEq, Int.reduceLT, Int.reduceLE, Nat.reduceAdd, Nat.reduceSub, Nat.reduceMul, Nat.reduceEqDiff, Nat.reduceLeDiff, Nat.reducePow, ↓reduceIte, reduceCtorEq, hs, List.map_append]); repeat' (first | exact renE_n | ((with_reducible apply renE_c); exact rfl; focus (first | (simp -implicitDefEqProofs only [go_sem, Int.reduceEq, Int.reduceLT, Int.reduceLE, Nat.reduceAdd, Nat.reduceSub, Nat.reduceMul, Nat.reduceEqDiff, Nat.reduceLeDiff, Nat.reducePow, ↓reduceIte, reduceCtorEq, hs, List.map_append]; done))))))
          have hm' : m = (kids t i).length := by omega
          subst hm'
          have hta : ((kids t i).map fun k => placed (nodeAt t k).place r).take (kids t i).length = (kids t i).map fun k => placed (nodeAt t k).place r := List.take_of_length_le (by simp)
          rw [hta, ← hkr]
          repeat' (first | ((with_reducible apply xsim); (first | ((with_reducible apply xlenM); exact rfl; exact rfl) | ((with_reducible apply xo); exact rfl) | with_reducible apply xend)) | ((with_reducible apply xaw); (first | ((with_reducible apply xstepS); refine AW.step tok rfl ?_) | with_reducible (first | refine AW.seq ?_ | refine AW.exit ?_) | ((with_reducible apply xcond); exact rfl))) | with_reducible (first | refine xthen_e ?_ | refine xblock ?_ | refine xblock_e ?_ | refine xround_e ?_) | (with_reducible intro hc; (try simp only [decide_eq_true_eq, decide_eq_false_iff_not, Bool.not_true, Bool.not_false, Bool.not_eq_true', Bool.not_eq_false', ne_eq, not_true, reduceCtorEq, List.length_map] at hc); (try (exfalso; omega))) | with_reducible (first | exact trivial | refine And.intro ?_ ?_ | exact rfl))
          refine cutW (Weak.freezeA 9 3 4 rfl rfl (by rw [List.length_map, kidRects_len hk])) ?_
          refine cut_end () trivial (by (refine xwk (π := [0, 1]) (by decide) rfl ?_ ?_; (first | simp -implicitDefEqProofs only [go_sem, Int.reduceEq, Int.reduceLT, Int.reduceLE, Nat.reduceAdd, Nat.reduceSub, Nat.reduceMul, Nat.reduceEqDiff, Nat.reduceLeDiff, Nat.reducePow, ↓reduceIte, reduceCtorEq]); repeat' (first | exact renE_n | ((with_reducible apply renE_c); exact rfl; focus (first | (simp -implicitDefEqProofs only [go_sem, Int.reduceEq, Int.reduceLT, Int.reduceLE, Nat.reduceAdd, Nat.reduceSub, Nat.reduceMul, Nat.reduceEqDiff, Nat.reduceLeDiff, Nat.reducePow, ↓reduceIte, reduceCtorEq]; done))))))
    rintro ⟨⟩ -
    have hql := kidRects_len hk (i := i) r
    repeat' (first | ((with_reducible apply xsim); (first | ((with_reducible apply xo); exact rfl) | with_reducible apply xend)) | ((with_reducible apply xaw); (first | ((with_reducible apply xstepS); refine AW.step tok rfl ?_) | with_reducible refine AW.block ?_)) | with_reducible exact trivial)
    refine AW.loop (S := fun m : Nat => ⟨[(3, .msl 0 4 0 t.length), (4, .oref 1 0), (8, .d (.lst ((kids t i).map encK))), (9, .d (.lst ((kidRects t i r).map encRect))), (11, .d (.int .i64 m))],
      [.arr 4 ((lay t w h (belTo t i m) out).map encRect), .box [.d (.lst (t.map encNode))]], 78, 1⟩)
      (Pre := fun m => m ≤ (kids t i).length) (μ := fun m => (kids t i).length - m) 0 (Nat.zero_le _) ?_ ?_
    · (refine xwk (π := [0, 1]) (by decide) rfl ?_ ?_; (first | simp -implicitDefEqProofs only [go_sem, Int.reduceEq, Int.reduceLT, Int.reduceLE, Nat.reduceAdd, Nat.reduceSub, Nat.reduceMul, Nat.reduceEqDiff, Nat.reduceLeDiff, Nat.reducePow, ↓reduceIte, reduceCtorEq]); repeat' (first | exact renE_n | ((with_reducible apply renE_c); exact rfl; focus (first | (simp -implicitDefEqProofs only [go_sem, Int.reduceEq, Int.reduceLT, Int.reduceLE, Nat.reduceAdd, Nat.reduceSub, Nat.reduceMul, Nat.reduceEqDiff, Nat.reduceLeDiff, Nat.reducePow, ↓reduceIte, reduceCtorEq]; done)))))
    intro m hm
    by_cases hmt : m < (kids t i).length
    · have hrk := at_map (f := encK) hmt
      obtain ⟨hkm, hik, _⟩ := hk.kid (List.getElem_mem hmt)
      have hrq : ((kidRects t i r).map encRect)[m]? = some (encRect (rectAt t w h (kids t i)[m])) := by
        rw [at_map (f := encRect) (xs := kidRects t i r) (k := m) (by omega), hrm m hmt]
      have cl := ih (kids t i)[m] (by omega) hkm (lay t w h (belTo t i m) out) (by rw [lay_len]; exact hol)
      rw [belTo_step hmt] at cl
      repeat' (first | ((with_reducible apply xsim); (first | ((with_reducible apply xlenM); exact rfl; exact rfl) | ((with_reducible apply xo); exact rfl) | with_reducible apply xend | ((with_reducible apply xidxL); exact rfl; exact rfl; exact rfl; (first | exact hrk | exact hrq); omega; first | exact rfl | simp only [hsz]) | ((with_reducible apply xcallHand 0); exact rfl; exact rfl; exact cl; (focus (first | exact rfl | (simp -implicitDefEqProofs only [go_sem, ↓reduceIte, Nat.reduceEqDiff, List.length_map]; done))); exact rfl; (first | exact .inl rfl | exact .inr ⟨_, _, rfl⟩); (try simp only [List.set_cons_zero, List.set_cons_succ])))) | ((with_reducible apply xaw); (first | ((with_reducible apply xstepS); refine AW.step tok rfl ?_) | ((with_reducible apply xstep); refine AW.region tok rfl ?_) | with_reducible (first | refine AW.seq ?_ | refine AW.block ?_ | refine AW.skip ?_) | ((with_reducible apply xcond); exact rfl) | ((with_reducible apply xdraw (id := 16)); refine AW.draw (id := 16) (.q 0 (.q 1 (.q 2 (.q 3 (.q 4 (.q 5 (.q 6 (.q 7 (.q 8 (.q 9 (.e 10 (.fin)))))))))))) tok (by kernel_rfl) rfl (by kernel_rfl) ?_))) | ((with_reducible apply xarun); (first | ((with_reducible apply xrun_q); exact rfl; exact rfl; exact rfl) | ((with_reducible apply xrun_e); exact rfl) | with_reducible apply xrun_f)) | with_reducible (first | refine xthen ?_ | refine xblock ?_) | (with_reducible intro hc; (try simp only [decide_eq_true_eq, decide_eq_false_iff_not, Bool.not_true, Bool.not_false, Bool.not_eq_true', Bool.not_eq_false', ne_eq, not_true, reduceCtorEq, List.length_map] at hc); (try (exfalso; omega))) | with_reducible (first | exact trivial | refine And.intro ?_ ?_ | exact rfl) | exact Eq.refl true | (refine inR_i64.mpr ?_; first | omega | (simp only [List.length_map, List.length_map]; omega)))
      refine round_end (m+1) hmt (by omega) (by (refine xwk (π := [0, 1]) (by decide) rfl ?_ ?_; (first | simp -implicitDefEqProofs only [go_sem, Int.reduceEq, Int.reduceLT, Int.reduceLE, Nat.reduceAdd, Nat.reduceSub, Nat.reduceMul, Nat.reduceEqDiff, Nat.reduceLeDiff, Nat.reducePow, ↓reduceIte, reduceCtorEq]); repeat' (first | exact renE_n | ((with_reducible apply renE_c); exact rfl; focus (first | (simp -implicitDefEqProofs only [go_sem, Int.reduceEq, Int.reduceLT, Int.reduceLE, Nat.reduceAdd, Nat.reduceSub, Nat.reduceMul, Nat.reduceEqDiff, Nat.reduceLeDiff, Nat.reducePow, ↓reduceIte, reduceCtorEq]; done))))))
    have hm' : m = (kids t i).length := by omega
    subst hm'
    rw [belTo_all hk hlt]
    repeat' (first | ((with_reducible apply xsim); (first | ((with_reducible apply xlenM); exact rfl; exact rfl) | ((with_reducible apply xo); exact rfl) | with_reducible apply xend)) | ((with_reducible apply xaw); (first | ((with_reducible apply xstepS); refine AW.step tok rfl ?_) | with_reducible (first | refine AW.seq ?_ | refine AW.exit ?_) | ((with_reducible apply xcond); exact rfl))) | with_reducible (first | refine xthen_e ?_ | refine xblock_e ?_ | refine xround_e ?_) | (with_reducible intro hc; (try simp only [decide_eq_true_eq, decide_eq_false_iff_not, Bool.not_true, Bool.not_false, Bool.not_eq_true', Bool.not_eq_false', ne_eq, not_true, reduceCtorEq, List.length_map] at hc); (try (exfalso; omega))) | with_reducible (first | exact trivial | refine And.intro ?_ ?_ | exact rfl))
    (refine xfinOwn [0] (by first | exact .inl rfl | exact .inr rfl) rfl (by repeat' (first | exact trivial | exact rfl | refine And.intro ?_ ?_)) (by decide) rfl ?_ ?_ <;> simp -implicitDefEqProofs only [go_sem, Int.reduceEq, Int.reduceLT, Int.reduceLE, Nat.reduceAdd, Nat.reduceSub, Nat.reduceMul, Nat.reduceEqDiff, Nat.reduceLeDiff, Nat.reducePow, ↓reduceIte, reduceCtorEq])

theorem c_AlayoutS (t : List Node) (hk : TreeK t) (w h : Int) (hw : 0 ≤ w ∧ w ≤ 400) (hh : 0 ≤ h ∧ h ≤ 400) : ACon Try.prog 73 [vTree t, .d (.int .i64 w), .d (.int .i64 h)] [] (ORows encRect 4 (layoutOf t w h)) := by
  have hlo := hk.lo; have hhi := hk.hi
  have hrep : List.replicate t.length [D.int .i64 0, D.int .i64 0, D.int .i64 0, D.int .i64 0] = (List.replicate t.length zeroR).map encRect := by rw [List.map_replicate]; rfl
  have cl := c_laid t hk w h hw hh _ 0 (Nat.le_refl _) hlo (List.replicate t.length zeroR) (by rw [List.length_replicate])
  have hall := lay_all (t := t) (w := w) (h := h) (A := bel t 0) (out := List.replicate t.length zeroR) (by rw [List.length_replicate]) (bel_root hk)
  have hll : (layoutOf t w h).length = t.length := by simp [layoutOf]
  rw [hall, ← hrep, rectAt_zero] at cl
  refine ACon.introW tok (nt := 19) Try.func73 rfl rfl rfl (by kernel_rfl) rfl ?_
  repeat' (first | ((with_reducible apply xsim); (first | ((with_reducible apply xlenM); exact rfl; exact rfl) | ((with_reducible apply xo); exact rfl) | with_reducible apply xend | ((with_reducible apply xbox); exact rfl; simp only [backV, backVs, backVs_mapd, backId, backO, List.map_cons, List.map_nil, List.getElem?_nil, List.length_cons, List.length_nil, Nat.reduceAdd, Nat.reduceSub, List.cons_append, List.nil_append, List.append_nil]) | ((with_reducible apply xcallHand 1); exact rfl; exact rfl; exact cl; (focus (first | exact rfl | (simp -implicitDefEqProofs only [go_sem, ↓reduceIte, Nat.reduceEqDiff, List.length_map]; done))); exact rfl; (first | exact .inl rfl | exact .inr ⟨_, _, rfl⟩); (try simp only [List.set_cons_zero, List.set_cons_succ])) | simp -implicitDefEqProofs only [go_sem, Int.reduceEq, Int.reduceLT, Int.reduceLE, Nat.reduceAdd, Nat.reduceSub, Nat.reduceMul, Nat.reduceEqDiff, Nat.reduceLeDiff, Nat.reducePow, ↓reduceIte, reduceCtorEq, List.length_map])) | ((with_reducible apply xaw); (first | ((with_reducible apply xstepS); refine AW.step tok rfl ?_) | with_reducible refine AW.ret ?_)) | with_reducible (first | exact trivial | refine And.intro ?_ ?_) | exact Eq.refl true | omega)
  (refine xfinOwn [1] (by first | exact .inl rfl | exact .inr rfl) rfl (by repeat' (first | exact trivial | exact rfl | refine And.intro ?_ ?_)) (by decide) rfl ?_ ?_ <;> simp -implicitDefEqProofs only [go_sem, Int.reduceEq, Int.reduceLT, Int.reduceLE, Nat.reduceAdd, Nat.reduceSub, Nat.reduceMul, Nat.reduceEqDiff, Nat.reduceLeDiff, Nat.reducePow, ↓reduceIte, reduceCtorEq, hll])

/-- Rectangles of all nodes, if the tree and the room are good. -/
def layoutT (t : List Node) (w h : Int) : List Rect := if (treeOk t && roomOk w h) = true then layoutOf t w h else []
theorem c_LayoutI (t : List Node) (hL : TreeL t) (w h : Int) : ACon Try.prog 34 [vTree t, .d (.int .i64 w), .d (.int .i64 h)] [] (ORows encRect 4 (layoutT t w h)) := by
  have c1 := c_ValidTree t hL
  have c2 := c_sizeOk w h
  cases ht : treeOk t
  · rw [ht] at c1
    refine ACon.introW tok (nt := 20) Try.func34 rfl rfl rfl (by kernel_rfl) rfl ?_
    repeat' (first | ((with_reducible apply xsim); (first | ((with_reducible apply xo); exact rfl) | with_reducible apply xend | ((with_reducible apply xguardS); exact rfl; exact rfl) | ((with_reducible apply xbox); exact rfl; simp only [backV, backVs, backVs_mapd, backId, backO, List.map_cons, List.map_nil, List.getElem?_nil, List.length_cons, List.length_nil, Nat.reduceAdd, Nat.reduceSub, List.cons_append, List.nil_append, List.append_nil]) | ((with_reducible apply xcallIs); exact rfl; exact rfl; exact c1; exact rfl))) | ((with_reducible apply xaw); (first | ((with_reducible apply xstepS); refine AW.step tok rfl ?_) | with_reducible (first | refine AW.seq ?_ | refine AW.ret ?_) | ((with_reducible apply xcond); exact rfl))) | with_reducible refine xthen_r ?_ | (with_reducible intro hc; (try simp only [decide_eq_true_eq, decide_eq_false_iff_not, Bool.not_true, Bool.not_false, Bool.not_eq_true', Bool.not_eq_false', ne_eq, not_true, reduceCtorEq] at hc); (try (exfalso; omega))) | with_reducible exact trivial | exact Eq.refl true)
    refine xfinW (Weak.own 6 4 rfl) ?_
    rw [show layoutT t w h = [] by rw [layoutT, ht]; rfl]
    (refine xfinOwn [1] (by first | exact .inl rfl | exact .inr rfl) rfl (by repeat' (first | exact trivial | exact rfl | refine And.intro ?_ ?_)) (by decide) rfl ?_ ?_ <;> simp -implicitDefEqProofs only [go_sem, Int.reduceEq, Int.reduceLT, Int.reduceLE, Nat.reduceAdd, Nat.reduceSub, Nat.reduceMul, Nat.reduceEqDiff, Nat.reduceLeDiff, Nat.reducePow, ↓reduceIte, reduceCtorEq])
  · rw [ht] at c1
    cases hr : roomOk w h
    · rw [hr] at c2
      refine ACon.introW tok (nt := 20) Try.func34 rfl rfl rfl (by kernel_rfl) rfl ?_
      repeat' (first | ((with_reducible apply xsim); (first | ((with_reducible apply xo); exact rfl) | with_reducible apply xend | ((with_reducible apply xguardS); exact rfl; exact rfl) | ((with_reducible apply xbox); exact rfl; simp only [backV, backVs, backVs_mapd, backId, backO, List.map_cons, List.map_nil, List.getElem?_nil, List.length_cons, List.length_nil, Nat.reduceAdd, Nat.reduceSub, List.cons_append, List.nil_append, List.append_nil]) | ((with_reducible apply xcallIs); exact rfl; exact rfl; (first | exact c1 | exact c2); exact rfl))) | ((with_reducible apply xaw); (first | ((with_reducible apply xstepS); refine AW.step tok rfl ?_) | with_reducible (first | refine AW.seq ?_ | refine AW.ret ?_) | ((with_reducible apply xcond); exact rfl))) | with_reducible refine xthen_r ?_ | (with_reducible intro hc; (try simp only [decide_eq_true_eq, decide_eq_false_iff_not, Bool.not_true, Bool.not_false, Bool.not_eq_true', Bool.not_eq_false', ne_eq, not_true, reduceCtorEq] at hc); (try (exfalso; omega))) | with_reducible exact trivial | exact Eq.refl true)
      refine xfinW (Weak.own 6 4 rfl) ?_
      rw [show layoutT t w h = [] by rw [layoutT, hr, Bool.and_false]; rfl]
      (refine xfinOwn [1] (by first | exact .inl rfl | exact .inr rfl) rfl (by repeat' (first | exact trivial | exact rfl | refine And.intro ?_ ?_)) (by decide) rfl ?_ ?_ <;> simp -implicitDefEqProofs only [go_sem, Int.reduceEq, Int.reduceLT, Int.reduceLE, Nat.reduceAdd, Nat.reduceSub, Nat.reduceMul, Nat.reduceEqDiff, Nat.reduceLeDiff, Nat.reducePow, ↓reduceIte, reduceCtorEq])
    · rw [hr] at c2
      have hb := roomOk_iff hr
      have c3 := c_Alayout t (treeK ht) w h (by omega) (by omega)
      rw [show layoutT t w h = layoutOf t w h by rw [layoutT, ht, hr]; rfl]
      refine ACon.introW tok (nt := 20) Try.func34 rfl rfl rfl (by kernel_rfl) rfl ?_
      repeat' (first | ((with_reducible apply xsim); (first | ((with_reducible apply xo); exact rfl) | with_reducible apply xend | ((with_reducible apply xguardS); exact rfl; exact rfl) | ((with_reducible apply xbox); exact rfl; simp only [backV, backVs, backVs_mapd, backId, backO, List.map_cons, List.map_nil, List.getElem?_nil, List.length_cons, List.length_nil, Nat.reduceAdd, Nat.reduceSub, List.cons_append, List.nil_append, List.append_nil]) | ((with_reducible apply xcallIs); exact rfl; exact rfl; (first | exact c1 | exact c2); exact rfl) | ((with_reducible apply xcallOwn); exact rfl; exact rfl; exact c3; simp only [backV, backVs, backVs_mapd, backId, backO, List.map_cons, List.map_nil, List.getElem?_nil, List.length_cons, List.length_nil, Nat.reduceAdd, Nat.reduceSub, List.cons_append, List.nil_append, List.append_nil]))) | ((with_reducible apply xaw); (first | ((with_reducible apply xstepS); refine AW.step tok rfl ?_) | with_reducible (first | refine AW.seq ?_ | refine AW.skip ?_ | refine AW.ret ?_) | ((with_reducible apply xcond); exact rfl))) | with_reducible refine xthen ?_ | (with_reducible intro hc; (try simp only [decide_eq_true_eq, decide_eq_false_iff_not, Bool.not_true, Bool.not_false, Bool.not_eq_true', Bool.not_eq_false', ne_eq, not_true, reduceCtorEq] at hc); (try (exfalso; omega))) | with_reducible exact trivial | exact Eq.refl true)
      all_goals (refine xfinOwn [1] (by first | exact .inl rfl | exact .inr rfl) rfl (by repeat' (first | exact trivial | exact rfl | refine And.intro ?_ ?_)) (by decide) rfl ?_ ?_ <;> simp -implicitDefEqProofs only [go_sem, Int.reduceEq, Int.reduceLT, Int.reduceLE, Nat.reduceAdd, Nat.reduceSub, Nat.reduceMul, Nat.reduceEqDiff, Nat.reduceLeDiff, Nat.reducePow, ↓reduceIte, reduceCtorEq])
end Go.Proofs.Yticgjepndfjafaa

namespace Go.Proofs.Yticgjepndfjafaa
open Go.Fw
attribute [local irreducible] Go.Fw.aops Go.Fw.arun

/-- Two rectangles have no points in common. -/
def Apart (a b : Rect) : Prop := min (a.x + a.w) (b.x + b.w) - max a.x b.x ≤ 0 ∨ min (a.y + a.h) (b.y + b.h) - max a.y b.y ≤ 0
def meetR (a b : Rect) : Rect := ⟨max a.x b.x, max a.y b.y, min (a.x + a.w) (b.x + b.w) - max a.x b.x, min (a.y + a.h) (b.y + b.h) - max a.y b.y⟩
def meets (a b : Rect) : Bool := decide (1 ≤ (meetR a b).w ∧ 1 ≤ (meetR a b).h)
def meetOr (a b : Rect) : Rect := if meets a b then meetR a b else ⟨0, 0, 0, 0⟩
theorem Apart.meets {a b : Rect} (h : Apart a b) : meets a b = false := by
  unfold Apart at h
  refine decide_eq_false fun hc => ?_
  simp only [meetR] at hc
  omega
end Go.Proofs.Yticgjepndfjafaa

namespace Go.Proofs.Yticgjepndfjafaa
open Go.Fw
def Ins (a b : Rect) : Prop := a.x ≤ b.x ∧ a.y ≤ b.y ∧ b.x + b.w ≤ a.x + a.w ∧ b.y + b.h ≤ a.y + a.h
theorem Ins.rfl' {a : Rect} : Ins a a := by unfold Ins; omega
theorem Ins.tr {a b c : Rect} (h : Ins a b) (h' : Ins b c) : Ins a c := by unfold Ins at *; omega

theorem Apart.mono {a b c : Rect} (h : Apart a b) (hi : Ins b c) : Apart a c := by unfold Apart Ins at *; omega
def areaR (r : Rect) : Int := r.w * r.h
def sumA : List Rect → Int
  | [] => 0
  | r :: rs => areaR r + sumA rs
theorem sumA_app (a b : List Rect) : sumA (a ++ b) = sumA a + sumA b := by
  induction a with
  | nil => simp [sumA]
  | cons x a ih => simp only [List.cons_append, sumA, ih]; omega
theorem cut_parts {r : Rect} {side n : Int} (h : RectIn r) (hn : 0 ≤ n) : Ins r (cut r side n).1 ∧ Ins r (cut r side n).2 ∧ Apart (cut r side n).1 (cut r side n).2 ∧ areaR (cut r side n).1 + areaR (cut r side n).2 = areaR r := by
  obtain ⟨h1, h2, h3, h4, h5, h6⟩ := h
  have e1 : r.w * (r.h - min n r.h) = r.w * r.h - r.w * min n r.h := Int.mul_sub ..
  have e2 : (r.w - min n r.w) * r.h = r.w * r.h - min n r.w * r.h := Int.sub_mul ..
  unfold cut areaR
  split
  · refine ⟨?_, ?_, ?_, ?_⟩ <;> (try unfold Ins) <;> (try unfold Apart) <;> simp only <;> omega
  · split
    · refine ⟨?_, ?_, ?_, ?_⟩ <;> (try unfold Ins) <;> (try unfold Apart) <;> simp only <;> omega
    · split
      · refine ⟨?_, ?_, ?_, ?_⟩ <;> (try unfold Ins) <;> (try unfold Apart) <;> simp only <;> omega
      · refine ⟨?_, ?_, ?_, ?_⟩ <;> (try unfold Ins) <;> (try unfold Apart) <;> simp only <;> omega

def allOf (xs : List Pack) (r : Rect) (k : Nat) : List Rect := (parTo xs r k).1 ++ [(parTo xs r k).2]

theorem allOf_inv {xs : List Pack} {r : Rect} (hl : xs.length ≤ 10) (hv : xs.all packB = true) (hr : RectIn r) : ∀ k, k ≤ xs.length → (allOf xs r k).Pairwise Apart ∧ (∀ q ∈ allOf xs r k, Ins r q) ∧ sumA (allOf xs r k) = areaR r := by
  intro k
  induction k with
  | zero => intro _; refine ⟨by simp [allOf, parTo], fun q hq => ?_, by simp [allOf, parTo, sumA]⟩; simp [allOf, parTo] at hq; subst hq; exact Ins.rfl'
  | succ k ih =>
    intro hk
    obtain ⟨h1, h2, h3⟩ := ih (by omega)
    have hi := (parTo_inv hl hv hr k (by omega)).2.1
    obtain ⟨p1, p2, p3, p4⟩ := cut_parts (side := xs[k].side) hi (parNeed_bd (k := k) hl hv (by omega) hi).1
    have hrest : Ins r (parTo xs r k).2 := h2 _ (by simp [allOf])
    unfold allOf at *
    rw [parTo_succ (by omega)]
    generalize hc : cut (parTo xs r k).2 xs[k].side (parNeed xs k xs[k] (parTo xs r k).2) = c at *
    rw [List.pairwise_append] at h1
    obtain ⟨g1, _, g2⟩ := h1
    refine ⟨?_, fun q hq => ?_, ?_⟩
    · simp only [List.append_assoc, List.pairwise_append, List.mem_append, List.mem_singleton, List.pairwise_cons, List.cons_append, List.nil_append, List.mem_cons, List.not_mem_nil, or_false]
      refine ⟨g1, ⟨fun b hb => ?_, fun b hb => hb.elim, .nil⟩, fun a ha b hb => ?_⟩
      · rw [hb]; exact p3
      · have := g2 a ha _ (List.mem_singleton.2 rfl)
        rcases hb with rfl | rfl
        · exact this.mono p1
        · exact this.mono p2
    · simp only [List.mem_append, List.mem_singleton] at hq
      rcases hq with (hq | hq) | hq
      · exact h2 q (by simp [hq])
      · subst hq; exact hrest.tr p1
      · subst hq; exact hrest.tr p2
    · simp only [sumA_app, sumA] at h3 ⊢
      omega

theorem Apart.symm {a b : Rect} (h : Apart a b) : Apart b a := by unfold Apart at *; omega
theorem settled_ins {p : Pack} {q : Rect} (hp : packB p = true) (hq : RectIn q) : Ins q (settled p q) := by
  have hv := packB_iff.1 hp
  have hi := inset_in (px := p.padX) (py := p.padY) hq (by omega) (by omega)
  have h' := hi.1
  obtain ⟨h1, h2, h3, h4, h5, h6⟩ := h'
  unfold settled
  have := (anchored_in (r := inset q p.padX p.padY) (w := if p.fillX then (inset q p.padX p.padY).w else p.w) (h := if p.fillY then (inset q p.padX p.padY).h else p.h) (a := p.anchor) hi.1 (by split <;> omega) (by split <;> omega) (by omega)).2
  unfold Ins
  omega
/-- Packed rectangles lie apart. -/
theorem packed_apart {xs : List Pack} {r : Rect} (hl : xs.length ≤ 10) (hv : xs.all packB = true) (hr : RectIn r) {i j : Nat} (hij : i < j) (hj : j < (packed xs r).length) : Apart ((packed xs r)[i]'(by omega)) (packed xs r)[j] := by
  have g := parcels_inv hl hv hr
  have hpl := packed_len g.1
  have hap := (allOf_inv hl hv hr xs.length (Nat.le_refl _)).1
  unfold allOf at hap
  rw [List.pairwise_append] at hap
  have := List.pairwise_iff_getElem.1 hap.1 i j (show i < (parcels xs r).1.length by omega) (show j < (parcels xs r).1.length by omega) hij
  rw [packed_at (by omega) (by omega) (by omega), packed_at (by omega) (by omega) hj]
  have a1 := settled_ins (all_at hv (show i < xs.length by omega)) (g.2.2 _ (List.getElem_mem (show i < (parcels xs r).1.length by omega)))
  have a2 := settled_ins (all_at hv (show j < xs.length by omega)) (g.2.2 _ (List.getElem_mem (show j < (parcels xs r).1.length by omega)))
  exact ((this.mono a2).symm.mono a1).symm
end Go.Proofs.Yticgjepndfjafaa

namespace Go.Proofs.Yticgjepndfjafaa
open Go.Fw
attribute [local irreducible] Go.Fw.aops Go.Fw.arun

theorem c_meetI (a b : Rect) (ha : RectIn a) (hb : RectIn b) : ACon Try.prog 76 [vRect a, vRect b] [] (Is (.tup [vRect (meetOr a b), .d (.bool (meets a b))])) := by
  obtain ⟨h1, h2, h3, h4, h5, h6⟩ := ha
  obtain ⟨g1, g2, g3, g4, g5, g6⟩ := hb
  by_cases hm : 1 ≤ (meetR a b).w ∧ 1 ≤ (meetR a b).h
  · have e : meets a b = true := decide_eq_true hm
    have e2 : meetOr a b = meetR a b := by rw [meetOr, if_pos e]
    rw [e, e2]
    simp only [meetR] at hm
    refine ACon.introW tok (nt := 58) Try.func76 rfl rfl rfl (by kernel_rfl) rfl ?_
    repeat' (first | ((with_reducible apply xsim); (first | ((with_reducible apply xbld); exact rfl; exact rfl; exact rfl; (try simp only [List.set_cons_zero, List.set_cons_succ])) | ((with_reducible apply xo); exact rfl) | ((with_reducible apply xst); exact rfl) | with_reducible apply xend | ((with_reducible apply xguardS); exact rfl; exact rfl) | ((with_reducible apply xalloc); exact rfl; simp only [backV, backVs, backVs_mapd, backId, backO, List.map_cons, List.map_nil, List.getElem?_nil, List.length_cons, List.length_nil, Nat.reduceAdd, Nat.reduceSub, List.cons_append, List.nil_append, List.append_nil]) | ((with_reducible apply xbox); exact rfl; simp only [backV, backVs, backVs_mapd, backId, backO, List.map_cons, List.map_nil, List.getElem?_nil, List.length_cons, List.length_nil, Nat.reduceAdd, Nat.reduceSub, List.cons_append, List.nil_append, List.append_nil]))) | ((with_reducible apply xaw); (first | ((with_reducible apply xstepS); refine AW.step tok rfl ?_) | with_reducible (first | refine AW.seq ?_ | refine AW.skip ?_ | refine AW.ret ?_) | ((with_reducible apply xcond); exact rfl) | ((with_reducible apply xdraw (id := 1)); refine AW.draw (id := 1) (.q 0 (.q 1 (.q 2 (.q 3 (.q 4 (.q 5 (.q 6 (.q 7 (.q 8 (.q 9 (.q 10 (.q 11 (.fin))))))))))))) tok (by kernel_rfl) rfl (by kernel_rfl) ?_))) | ((with_reducible apply xarun); (first | ((with_reducible apply xrun_q); exact rfl; exact rfl; exact rfl) | with_reducible apply xrun_f)) | with_reducible refine xthen ?_ | (with_reducible intro hc; (try simp only [decide_eq_true_eq, decide_eq_false_iff_not, Bool.not_true, Bool.not_false, Bool.not_eq_true', Bool.not_eq_false', ne_eq, not_true, reduceCtorEq] at hc); (try (exfalso; omega))) | with_reducible (first | exact trivial | refine And.intro ?_ ?_ | exact rfl) | exact Eq.refl true | (refine inR_i64.mpr ?_; first | omega | (simp only [List.length_map]; omega)))
    all_goals (refine xfinIs (by first | exact .inl rfl | exact .inr rfl) rfl (by repeat' (first | exact trivial | exact rfl | refine And.intro ?_ ?_)) rfl ?_ rfl; first | (simp -implicitDefEqProofs only [go_sem, Int.reduceEq, Int.reduceLT, Int.reduceLE, Nat.reduceAdd, Nat.reduceSub, Nat.reduceMul, Nat.reduceEqDiff, Nat.reduceLeDiff, Nat.reducePow, ↓reduceIte, reduceCtorEq, meetR] <;> (first | rfl | omega | exact decide_eq_decide.2 (by omega) | exact decide_eq_false (by omega) | exact decide_eq_true (by omega) | (symm; first | exact decide_eq_false (by omega) | exact decide_eq_true (by omega)) | (rw [Bool.eq_iff_iff]; simp only [Bool.not_eq_true', Bool.not_eq_false', Bool.and_eq_true, Bool.or_eq_true, decide_eq_true_eq, decide_eq_false_iff_not, reduceCtorEq, true_iff, iff_true, false_iff, iff_false]; omega))))
  · have e : meets a b = false := decide_eq_false hm
    have e2 : meetOr a b = ⟨0, 0, 0, 0⟩ := by rw [meetOr, e]; rfl
    rw [e, e2]
    simp only [meetR] at hm
    refine ACon.introW tok (nt := 58) Try.func76 rfl rfl rfl (by kernel_rfl) rfl ?_
    repeat' (first | ((with_reducible apply xsim); (first | ((with_reducible apply xbld); exact rfl; exact rfl; exact rfl; (try simp only [List.set_cons_zero, List.set_cons_succ])) | ((with_reducible apply xo); exact rfl) | ((with_reducible apply xst); exact rfl) | with_reducible apply xend | ((with_reducible apply xguardS); exact rfl; exact rfl) | ((with_reducible apply xalloc); exact rfl; simp only [backV, backVs, backVs_mapd, backId, backO, List.map_cons, List.map_nil, List.getElem?_nil, List.length_cons, List.length_nil, Nat.reduceAdd, Nat.reduceSub, List.cons_append, List.nil_append, List.append_nil]) | ((with_reducible apply xbox); exact rfl; simp only [backV, backVs, backVs_mapd, backId, backO, List.map_cons, List.map_nil, List.getElem?_nil, List.length_cons, List.length_nil, Nat.reduceAdd, Nat.reduceSub, List.cons_append, List.nil_append, List.append_nil]))) | ((with_reducible apply xaw); (first | ((with_reducible apply xstepS); refine AW.step tok rfl ?_) | with_reducible (first | refine AW.seq ?_ | refine AW.ret ?_) | ((with_reducible apply xcond); exact rfl) | ((with_reducible apply xdraw (id := 1)); refine AW.draw (id := 1) (.q 0 (.q 1 (.q 2 (.q 3 (.q 4 (.q 5 (.q 6 (.q 7 (.q 8 (.q 9 (.q 10 (.q 11 (.fin))))))))))))) tok (by kernel_rfl) rfl (by kernel_rfl) ?_))) | ((with_reducible apply xarun); (first | ((with_reducible apply xrun_q); exact rfl; exact rfl; exact rfl) | with_reducible apply xrun_f)) | with_reducible (first | refine xthen ?_ | refine xthen_r ?_) | (with_reducible intro hc; (try simp only [decide_eq_true_eq, decide_eq_false_iff_not, Bool.not_true, Bool.not_false, Bool.not_eq_true', Bool.not_eq_false', ne_eq, not_true, reduceCtorEq] at hc); (try (exfalso; omega))) | with_reducible (first | exact trivial | refine And.intro ?_ ?_ | exact rfl) | exact Eq.refl true | (refine inR_i64.mpr ?_; first | omega | (simp only [List.length_map]; omega)))
    all_goals (refine xfinIs (by first | exact .inl rfl | exact .inr rfl) rfl (by repeat' (first | exact trivial | exact rfl | refine And.intro ?_ ?_)) rfl ?_ rfl; first | (simp -implicitDefEqProofs only [go_sem, Int.reduceEq, Int.reduceLT, Int.reduceLE, Nat.reduceAdd, Nat.reduceSub, Nat.reduceMul, Nat.reduceEqDiff, Nat.reduceLeDiff, Nat.reducePow, ↓reduceIte, reduceCtorEq] <;> (first | rfl | omega | exact decide_eq_decide.2 (by omega) | exact decide_eq_false (by omega) | exact decide_eq_true (by omega) | (symm; first | exact decide_eq_false (by omega) | exact decide_eq_true (by omega)) | (rw [Bool.eq_iff_iff]; simp only [Bool.not_eq_true', Bool.not_eq_false', Bool.and_eq_true, Bool.or_eq_true, decide_eq_true_eq, decide_eq_false_iff_not, reduceCtorEq, true_iff, iff_true, false_iff, iff_false]; omega))))
theorem c_meetS (a b : Rect) (ha : RectIn a) (hb : RectIn b) : ACon Try.prog 78 [vRect a, vRect b] [] (Is (.tup [vRect (meetOr a b), .d (.bool (meets a b))])) := by
  obtain ⟨h1, h2, h3, h4, h5, h6⟩ := ha
  obtain ⟨g1, g2, g3, g4, g5, g6⟩ := hb
  by_cases hm : 1 ≤ (meetR a b).w ∧ 1 ≤ (meetR a b).h
  · have e : meets a b = true := decide_eq_true hm
    have e2 : meetOr a b = meetR a b := by rw [meetOr, if_pos e]
    rw [e, e2]
    simp only [meetR] at hm
    refine ACon.introW tok (nt := 58) Try.func78 rfl rfl rfl (by kernel_rfl) rfl ?_
    repeat' (first | ((with_reducible apply xsim); (first | ((with_reducible apply xbld); exact rfl; exact rfl; exact rfl; (try simp only [List.set_cons_zero, List.set_cons_succ])) | ((with_reducible apply xo); exact rfl) | ((with_reducible apply xst); exact rfl) | with_reducible apply xend | ((with_reducible apply xguardS); exact rfl; exact rfl) | ((with_reducible apply xalloc); exact rfl; simp only [backV, backVs, backVs_mapd, backId, backO, List.map_cons, List.map_nil, List.getElem?_nil, List.length_cons, List.length_nil, Nat.reduceAdd, Nat.reduceSub, List.cons_append, List.nil_append, List.append_nil]) | ((with_reducible apply xbox); exact rfl; simp only [backV, backVs, backVs_mapd, backId, backO, List.map_cons, List.map_nil, List.getElem?_nil, List.length_cons, List.length_nil, Nat.reduceAdd, Nat.reduceSub, List.cons_append, List.nil_append, List.append_nil]))) | ((with_reducible apply xaw); (first | ((with_reducible apply xstepS); refine AW.step tok rfl ?_) | with_reducible (first | refine AW.seq ?_ | refine AW.skip ?_ | refine AW.ret ?_) | ((with_reducible apply xcond); exact rfl))) | with_reducible refine xthen ?_ | (with_reducible intro hc; (try simp only [decide_eq_true_eq, decide_eq_false_iff_not, Bool.not_true, Bool.not_false, Bool.not_eq_true', Bool.not_eq_false', ne_eq, not_true, reduceCtorEq] at hc); (try (exfalso; omega))) | with_reducible (first | exact trivial | refine And.intro ?_ ?_ | exact rfl) | exact Eq.refl true | (refine inR_i64.mpr ?_; first | omega | (simp only [List.length_map]; omega)))
    all_goals (refine xfinIs (by first | exact .inl rfl | exact .inr rfl) rfl (by repeat' (first | exact trivial | exact rfl | refine And.intro ?_ ?_)) rfl ?_ rfl; first | (simp -implicitDefEqProofs only [go_sem, Int.reduceEq, Int.reduceLT, Int.reduceLE, Nat.reduceAdd, Nat.reduceSub, Nat.reduceMul, Nat.reduceEqDiff, Nat.reduceLeDiff, Nat.reducePow, ↓reduceIte, reduceCtorEq, meetR] <;> (first | rfl | omega | exact decide_eq_decide.2 (by omega) | exact decide_eq_false (by omega) | exact decide_eq_true (by omega) | (symm; first | exact decide_eq_false (by omega) | exact decide_eq_true (by omega)) | (rw [Bool.eq_iff_iff]; simp only [Bool.not_eq_true', Bool.not_eq_false', Bool.and_eq_true, Bool.or_eq_true, decide_eq_true_eq, decide_eq_false_iff_not, reduceCtorEq, true_iff, iff_true, false_iff, iff_false]; omega))))
  · have e : meets a b = false := decide_eq_false hm
    have e2 : meetOr a b = ⟨0, 0, 0, 0⟩ := by rw [meetOr, e]; rfl
    rw [e, e2]
    simp only [meetR] at hm
    refine ACon.introW tok (nt := 58) Try.func78 rfl rfl rfl (by kernel_rfl) rfl ?_
    repeat' (first | ((with_reducible apply xsim); (first | ((with_reducible apply xbld); exact rfl; exact rfl; exact rfl; (try simp only [List.set_cons_zero, List.set_cons_succ])) | ((with_reducible apply xo); exact rfl) | ((with_reducible apply xst); exact rfl) | with_reducible apply xend | ((with_reducible apply xguardS); exact rfl; exact rfl) | ((with_reducible apply xalloc); exact rfl; simp only [backV, backVs, backVs_mapd, backId, backO, List.map_cons, List.map_nil, List.getElem?_nil, List.length_cons, List.length_nil, Nat.reduceAdd, Nat.reduceSub, List.cons_append, List.nil_append, List.append_nil]) | ((with_reducible apply xbox); exact rfl; simp only [backV, backVs, backVs_mapd, backId, backO, List.map_cons, List.map_nil, List.getElem?_nil, List.length_cons, List.length_nil, Nat.reduceAdd, Nat.reduceSub, List.cons_append, List.nil_append, List.append_nil]))) | ((with_reducible apply xaw); (first | ((with_reducible apply xstepS); refine AW.step tok rfl ?_) | with_reducible (first | refine AW.seq ?_ | refine AW.ret ?_) | ((with_reducible apply xcond); exact rfl))) | with_reducible refine xthen_r ?_ | (with_reducible intro hc; (try simp only [decide_eq_true_eq, decide_eq_false_iff_not, Bool.not_true, Bool.not_false, Bool.not_eq_true', Bool.not_eq_false', ne_eq, not_true, reduceCtorEq] at hc); (try (exfalso; omega))) | with_reducible (first | exact trivial | refine And.intro ?_ ?_ | exact rfl) | exact Eq.refl true | (refine inR_i64.mpr ?_; first | omega | (simp only [List.length_map]; omega)))
    all_goals (refine xfinIs (by first | exact .inl rfl | exact .inr rfl) rfl (by repeat' (first | exact trivial | exact rfl | refine And.intro ?_ ?_)) rfl ?_ rfl; first | (simp -implicitDefEqProofs only [go_sem, Int.reduceEq, Int.reduceLT, Int.reduceLE, Nat.reduceAdd, Nat.reduceSub, Nat.reduceMul, Nat.reduceEqDiff, Nat.reduceLeDiff, Nat.reducePow, ↓reduceIte, reduceCtorEq] <;> (first | rfl | omega | exact decide_eq_decide.2 (by omega) | exact decide_eq_false (by omega) | exact decide_eq_true (by omega) | (symm; first | exact decide_eq_false (by omega) | exact decide_eq_true (by omega)) | (rw [Bool.eq_iff_iff]; simp only [Bool.not_eq_true', Bool.not_eq_false', Bool.and_eq_true, Bool.or_eq_true, decide_eq_true_eq, decide_eq_false_iff_not, reduceCtorEq, true_iff, iff_true, false_iff, iff_false]; omega))))
section
variable {t : List Node} {R : Nat → Rect} {i : Nat}
end

theorem lay_get {t : List Node} {w h : Int} {k : Nat} (hk : k < t.length) : ((layoutOf t w h).map encRect)[k]? = some (encRect (rectAt t w h k)) := by
  rw [List.getElem?_map, layoutOf, List.getElem?_map, List.getElem?_range hk]; rfl
theorem layoutOf_len {t : List Node} {w h : Int} : (layoutOf t w h).length = t.length := by simp [layoutOf]
theorem rects_in {t : List Node} (hk : TreeK t) {w h : Int} (hw : 0 ≤ w ∧ w ≤ 400) (hh : 0 ≤ h ∧ h ≤ 400) : ∀ k, k < t.length → RectIn (rectAt t w h k) := fun k hkl => (rect_bd hk hw hh k hkl).in (by have := hk.hi; omega)

end Go.Proofs.Yticgjepndfjafaa

namespace Go.Proofs.Yticgjepndfjafaa
open Go.Fw
attribute [local irreducible] Go.Fw.aops Go.Fw.arun
theorem TreeB.L {t : List Node} (h : TreeB t) : TreeL t := ⟨by have := h.2.1; omega, fun i hi => by have := h.2.2 _ (List.getElem_mem hi); omega⟩
/-- A tree that was drawn, and a room. -/
def ARoom (r : V) : Prop := ∃ (t : List Node) (w h : Int), r = .tup [vTree t, .d (.int .i64 w), .d (.int .i64 h)] ∧ TreeB t ∧ -1 ≤ w ∧ w ≤ 2000 ∧ -1 ≤ h ∧ h ≤ 2000
set_option maxHeartbeats 4000000 in
theorem c_treeRoom (bs : List Byte) (p : Int) (hb : bs.length ≤ 2000) (hp : 0 ≤ p ∧ p < 2^26) :
    ACon Try.prog 69 [.oref 0 0] [.box [.d (.lst (bs.map encByte)), .d (.int .i64 p)]] (Rd (.lst (bs.map encByte)) p (p + 1320) ARoom) := by
  refine ACon.introW tok (nt := 35) Try.func69 rfl rfl rfl (by kernel_rfl) rfl ?_
  repeat' ((fail_if_success (with_reducible apply xnocond)); first | ((with_reducible apply xsim); (first | ((with_reducible apply xo); exact rfl) | ((with_reducible apply xst); exact rfl) | with_reducible apply xend | ((with_reducible apply xalloc); exact rfl; simp only [backV, backVs, backVs_mapd, backId, backO, List.map_cons, List.map_nil, List.getElem?_nil, List.length_cons, List.length_nil, Nat.reduceAdd, Nat.reduceSub, List.cons_append, List.nil_append, List.append_nil]) | ((with_reducible apply xbuild); exact rfl; exact rfl; exact rfl; exact rfl; exact rfl; simp only [backV, backVs, backVs_mapd, backId, backO, List.map_cons, List.map_nil, List.getElem?_nil, List.length_cons, List.length_nil, Nat.reduceAdd, Nat.reduceSub, List.cons_append, List.nil_append, List.append_nil]) | ((with_reducible apply xcallRd); exact rfl; exact rfl; exact rfl; exact c_someTree bs _ hb (by omega); rintro _ p' _ _ ⟨t, rfl, ht⟩; (try simp only [List.set_cons_zero, List.set_cons_succ])) | ((with_reducible apply xcallOne); exact rfl; exact rfl; exact rfl; exact rfl; exact c_one rfl rfl hb (by omega) rfl rfl; rintro _ p' _ _ ⟨v, rfl, h1⟩; (try simp only [List.set_cons_zero, List.set_cons_succ])))) | ((with_reducible apply xaw); ((with_reducible apply xstepS); refine AW.step tok rfl ?_)) | with_reducible (first | exact trivial | refine And.intro ?_ ?_) | exact Eq.refl true)
  refine AW.seq ?_
  rename_i w h0 _ _
  have hL := ht.L
  have c1 := c_validTree t hL
  simp only [List.mem_cons, List.not_mem_nil, or_false] at h0 h1
  cases hv : treeOk t
  · rw [hv] at c1
    repeat' (first | ((with_reducible apply xsim); (first | ((with_reducible apply xo); exact rfl) | ((with_reducible apply xst); exact rfl) | with_reducible apply xend | ((with_reducible apply xguardS); exact rfl; exact rfl) | ((with_reducible apply xcallIs); exact rfl; exact rfl; exact c1; exact rfl))) | ((with_reducible apply xaw); (first | ((with_reducible apply xstepS); refine AW.step tok rfl ?_) | with_reducible (first | refine AW.skip ?_ | refine AW.ret ?_) | ((with_reducible apply xcond); exact rfl))) | with_reducible refine xthen ?_ | (with_reducible intro hc; (try simp only [decide_eq_true_eq, decide_eq_false_iff_not, Bool.not_true, Bool.not_false, Bool.not_eq_true', Bool.not_eq_false', ne_eq, not_true, reduceCtorEq, List.length_map] at hc); (try (exfalso; omega))) | with_reducible (first | exact trivial | refine And.intro ?_ ?_) | exact Eq.refl true)
    all_goals refine xfinRd (by first | exact .inl rfl | exact .inr rfl) rfl (by repeat' (first | exact trivial | exact rfl | refine And.intro ?_ ?_)) rfl (by omega) (by omega) ?_
    all_goals exact ⟨t, _, _, rfl, ht, by omega, by omega, by omega, by omega⟩
  · rw [hv] at c1
    have hk := treeK hv
    have c2 := c_sizeOf t hk 0 hk.lo
    have hw := wish_le hk (i := 0) hk.lo
    repeat' (first | ((with_reducible apply xsim); (first | ((with_reducible apply xo); exact rfl) | ((with_reducible apply xst); exact rfl) | with_reducible apply xend | ((with_reducible apply xguardS); exact rfl; exact rfl) | ((with_reducible apply xcallIs); exact rfl; exact rfl; (first | exact c1 | exact c2); exact rfl) | ((with_reducible apply xcallRd); exact rfl; exact rfl; exact rfl; exact c_pick bs _ _ hb (by omega) (by omega); rintro _ p' _ _ ⟨v, rfl, h1, h2, h3⟩; (try simp only [List.set_cons_zero, List.set_cons_succ])))) | ((with_reducible apply xaw); (first | ((with_reducible apply xstepS); refine AW.step tok rfl ?_) | ((with_reducible apply xstep); refine AW.region tok rfl ?_) | with_reducible (first | refine AW.skip ?_ | refine AW.ret ?_) | ((with_reducible apply xcond); exact rfl))) | with_reducible refine xthen ?_ | (with_reducible intro hc; (try simp only [decide_eq_true_eq, decide_eq_false_iff_not, Bool.not_true, Bool.not_false, Bool.not_eq_true', Bool.not_eq_false', ne_eq, not_true, reduceCtorEq, List.length_map] at hc); (try (exfalso; omega))) | with_reducible (first | exact trivial | refine And.intro ?_ ?_ | exact rfl) | exact Eq.refl true)
    all_goals refine xfinRd (by first | exact .inl rfl | exact .inr rfl) rfl (by repeat' (first | exact trivial | exact rfl | refine And.intro ?_ ?_)) rfl (by omega) (by omega) ?_
    all_goals exact ⟨t, _, _, rfl, ht, by omega, by omega, by omega, by omega⟩
/-- A tree that was drawn, a room, and a number. -/
def ASeen (r : V) : Prop := ∃ (t : List Node) (w h i : Int), r = .tup [vTree t, .d (.int .i64 w), .d (.int .i64 h), .d (.int .i64 i)] ∧ TreeB t ∧ -1 ≤ w ∧ w ≤ 2000 ∧ -1 ≤ h ∧ h ≤ 2000
set_option maxHeartbeats 4000000 in
theorem c_seenNode (bs : List Byte) (p : Int) (hb : bs.length ≤ 2000) (hp : 0 ≤ p ∧ p < 2^26) :
    ACon Try.prog 74 [.oref 0 0] [.box [.d (.lst (bs.map encByte)), .d (.int .i64 p)]] (Rd (.lst (bs.map encByte)) p (p + 1330) ASeen) := by
  refine ACon.introW tok (nt := 31) Try.func74 rfl rfl rfl (by kernel_rfl) rfl ?_
  repeat' ((fail_if_success (with_reducible apply xnocond)); first | ((with_reducible apply xsim); (first | ((with_reducible apply xo); exact rfl) | ((with_reducible apply xst); exact rfl) | with_reducible apply xend | ((with_reducible apply xalloc); exact rfl; simp only [backV, backVs, backVs_mapd, backId, backO, List.map_cons, List.map_nil, List.getElem?_nil, List.length_cons, List.length_nil, Nat.reduceAdd, Nat.reduceSub, List.cons_append, List.nil_append, List.append_nil]) | ((with_reducible apply xcallRd); exact rfl; exact rfl; exact rfl; exact c_treeRoom bs _ hb (by omega); rintro _ p' _ _ ⟨t, w, h, rfl, ht, hr⟩; (try simp only [List.set_cons_zero, List.set_cons_succ])))) | ((with_reducible apply xaw); (first | ((with_reducible apply xstepS); refine AW.step tok rfl ?_) | with_reducible refine AW.seq ?_)) | with_reducible (first | exact trivial | refine And.intro ?_ ?_) | exact Eq.refl true)
  have ht' := ht
  obtain ⟨hx1, hx2, hx3⟩ := ht'
  refine AW.weak (Weak.freezeBox 6 2 (cells := [.lst (t.map encNode)]) rfl rfl) ?_
  repeat' (first | ((with_reducible apply xsim); (first | ((with_reducible apply xlenM); exact rfl; exact rfl) | ((with_reducible apply xo); exact rfl) | ((with_reducible apply xst); exact rfl) | with_reducible apply xend | ((with_reducible apply xcallRd); exact rfl; exact rfl; exact rfl; exact c_pick bs _ _ hb (by omega) (by omega); rintro _ p' _ _ ⟨v, rfl, h1, h2, h3⟩; (try simp only [List.set_cons_zero, List.set_cons_succ])) | ((with_reducible apply xcallRd); exact rfl; exact rfl; exact rfl; exact c_dOne rfl hb (by omega) rfl rfl; rintro _ p' _ _ ⟨v, rfl, h1⟩; (try simp only [List.set_cons_zero, List.set_cons_succ])))) | ((with_reducible apply xaw); (first | with_reducible refine AW.ret ?_ | ((with_reducible apply xdraw (id := 2)); refine AW.draw (id := 2) (.l 0 (.q 1 (.q 2 (.q 3 (.q 4 (.q 5 (.l 6 (.q 7 (.q 9 (.q 10 (.l 11 (.q 12 (.e 8 (.e 13 (.b 14 (.e 15 (.e 16 (.q 17 (.q 18 (.q 19 (.fin))))))))))))))))))))) tok (by kernel_rfl) rfl (by kernel_rfl) ?_))) | ((with_reducible apply xarun); (first | ((with_reducible apply xrun_q); exact rfl; exact rfl; exact rfl) | ((with_reducible apply xrun_l); exact rfl; exact rfl; exact rfl; exact rfl; exact rfl; exact rfl; focus (repeat (first | exact trivial | exact rfl | refine And.intro ?_ ?_))) | ((with_reducible apply xrun_b); exact rfl; exact rfl; exact rfl; exact rfl; exact rfl; exact rfl; exact rfl; exact rfl; exact rfl) | ((with_reducible apply xrun_e); exact rfl) | with_reducible apply xrun_f)) | with_reducible refine xthen ?_ | with_reducible (first | exact trivial | refine And.intro ?_ ?_) | exact Eq.refl true)
  all_goals refine xfinRd (by first | exact .inl rfl | exact .inr rfl) rfl (by repeat' (first | exact trivial | exact rfl | refine And.intro ?_ ?_)) rfl (by omega) (by omega) ?_
  all_goals exact ⟨t, _, _, _, rfl, ht, hr⟩

theorem c_DrawOverlapsIn (cs : List Byte) (hl : cs.length < 2^63) : ACon Try.prog 45 [.d (.lst (cs.map encByte))] [] (Sm ASeen) := by
  have hb : (cs.take 2000).length ≤ 2000 := by rw [List.length_take]; omega
  refine ACon.introW tok (nt := 13) Try.func45 rfl rfl rfl (by kernel_rfl) rfl ?_
  repeat' (first | ((with_reducible apply xsim); (first | ((with_reducible apply xo); exact rfl) | ((with_reducible apply xst); exact rfl) | with_reducible apply xend | ((with_reducible apply xalloc); exact rfl; simp only [backV, backVs, backVs_mapd, backId, backO, List.map_cons, List.map_nil, List.getElem?_nil, List.length_cons, List.length_nil, Nat.reduceAdd, Nat.reduceSub, List.cons_append, List.nil_append, List.append_nil]) | ((with_reducible apply xcallOwn); exact rfl; exact rfl; exact c_newReader cs hl; simp only [backV, backVs, backVs_mapd, backId, backO, List.map_cons, List.map_nil, List.getElem?_nil, List.length_cons, List.length_nil, Nat.reduceAdd, Nat.reduceSub, List.cons_append, List.nil_append, List.append_nil]) | ((with_reducible apply xcallRd); exact rfl; exact rfl; exact rfl; exact c_seenNode _ _ hb (by omega); rintro _ p' _ _ ⟨t, w, h, i, rfl, ht, hr⟩; (try simp only [List.set_cons_zero, List.set_cons_succ])))) | ((with_reducible apply xaw); (first | ((with_reducible apply xstepS); refine AW.step tok rfl ?_) | with_reducible refine AW.ret ?_)) | with_reducible (first | exact trivial | refine And.intro ?_ ?_) | exact Eq.refl true)
  refine xfinSm (by first | exact .inl rfl | exact .inr rfl) rfl (by repeat' (first | exact trivial | exact rfl | refine And.intro ?_ ?_)) rfl ?_
  exact ⟨t, w, h, i, rfl, ht, hr⟩
end Go.Proofs.Yticgjepndfjafaa

namespace Go.Proofs.Yticgjepndfjafaa
open Go.Fw

/-- Packed kids do not meet. -/
theorem pack_apart {t : List Node} (hk : TreeK t) {w h : Int} (hw : 0 ≤ w ∧ w ≤ 400) (hh : 0 ≤ h ∧ h ≤ 400) {i : Nat} (hi : i < t.length) (h0 : (nodeAt t i).kind = 0) {a b : Nat} (hab : a < b) (hb : b < (kids t i).length) :
    meets (rectAt t w h ((kids t i)[a]'(by omega))) (rectAt t w h (kids t i)[b]) = false := by
  have hhi := hk.hi
  rw [rectAt_kid hk (show a < (kids t i).length by omega), rectAt_kid hk hb]
  obtain ⟨c, d⟩ := items_ok hk i
  have e : kidRects t i (rectAt t w h i) = packed (itemsOf t (kids t i)) (rectAt t w h i) := by unfold kidRects; rw [if_pos h0]
  have hl := kidRects_len hk (i := i) (rectAt t w h i)
  have := packed_apart (xs := itemsOf t (kids t i)) (r := rectAt t w h i) (by omega) d ((rect_bd hk hw hh i hi).in (by omega)) hab (by rw [← e, hl]; exact hb)
  simp only [e]
  exact this.meets
end Go.Proofs.Yticgjepndfjafaa

namespace Go.Proofs.Yticgjepndfjafaa
open Go.Fw
attribute [local irreducible] Go.Fw.aops Go.Fw.arun

theorem c_equalK (ks : List Nat) (hl : ks.length < 2^40) : ACon Try.prog 19 [.d (.lst (ks.map encK)), .d (.lst (ks.map encK))] [] (Is (.d (.bool true))) := by
  rw [encK_map]
  exact c_laws.equalInts _ (by rw [List.length_map]; omega)

end Go.Proofs.Yticgjepndfjafaa

namespace Go.Proofs.Yticgjepndfjafaa
open Go.Fw
attribute [local irreducible] Go.Fw.aops Go.Fw.arun

/-! Kids that overlap. -/
def pairsIn (R : Nat → Rect) (x : Nat) (ys : List Nat) : List (Nat × Nat) := (ys.filter fun y => meets (R x) (R y)).map fun y => (x, y)
def pairsTo (R : Nat → Rect) (ks : List Nat) (m : Nat) : List (Nat × Nat) := (List.range m).flatMap fun a => pairsIn R (ks.getD a 0) (ks.drop (a + 1))
def flat (ps : List (Nat × Nat)) : List Nat := ps.flatMap fun p => [p.1, p.2]
theorem flat_app (a b : List (Nat × Nat)) : flat (a ++ b) = flat a ++ flat b := by simp [flat]
theorem flat_len : ∀ ps : List (Nat × Nat), (flat ps).length = 2 * ps.length
  | [] => rfl
  | p :: ps => by
    have := flat_len ps
    simp only [flat, List.flatMap_cons, List.length_append, List.length_cons, List.length_nil] at this ⊢
    omega
theorem flat_get : ∀ (ps : List (Nat × Nat)) (k : Nat) (h : k < ps.length), (flat ps)[2 * k]? = some ps[k].1 ∧ (flat ps)[2 * k + 1]? = some ps[k].2
  | p :: ps, 0, _ => ⟨rfl, rfl⟩
  | p :: ps, k + 1, h => by
    have := flat_get ps k (by simpa using h)
    simp only [flat, List.flatMap_cons, List.getElem_cons_succ] at this ⊢
    rw [show 2 * (k + 1) = 2 * k + 2 by omega, show 2 * k + 2 + 1 = 2 * k + 1 + 2 by omega]
    exact this
theorem pairsIn_step {R : Nat → Rect} {x : Nat} {ys : List Nat} {j : Nat} (h : j < ys.length) : pairsIn R x (ys.take (j + 1)) = pairsIn R x (ys.take j) ++ if meets (R x) (R ys[j]) = true then [(x, ys[j])] else [] := by
  unfold pairsIn
  rw [List.take_succ_eq_append_getElem h, List.filter_append, List.map_append, List.filter_cons]
  split <;> simp
theorem pairsTo_step {R : Nat → Rect} {ks : List Nat} {m : Nat} (h : m < ks.length) : pairsTo R ks (m + 1) = pairsTo R ks m ++ pairsIn R ks[m] (ks.drop (m + 1)) := by
  unfold pairsTo
  rw [List.range_succ, List.flatMap_append]
  simp [List.getD_eq_getElem?_getD, h]
theorem pairsIn_len {R : Nat → Rect} {x : Nat} {ys : List Nat} : (pairsIn R x ys).length ≤ ys.length := by
  unfold pairsIn
  rw [List.length_map]
  exact List.length_filter_le _ _
theorem pairsTo_len {R : Nat → Rect} {ks : List Nat} (hl : ks.length ≤ 10) : ∀ m, m ≤ ks.length → (pairsTo R ks m).length ≤ 10 * m := by
  intro m
  induction m with
  | zero => intro _; simp [pairsTo]
  | succ m ih =>
    intro h
    rw [pairsTo_step (by omega), List.length_append]
    have := ih (by omega)
    have h2 := pairsIn_len (R := R) (x := ks[m]) (ys := ks.drop (m + 1))
    rw [List.length_drop] at h2
    omega
def overOf (t : List Node) (w h i : Int) : List Nat := if (goodN t i && roomOk w h) = true then flat (pairsTo (rectAt t w h) (kids t i.toNat) (kids t i.toNat).length) else []

set_option maxRecDepth 8000 in
set_option maxHeartbeats 4000000 in
theorem c_OverI (t : List Node) (hL : TreeL t) (w h i : Int) : ACon Try.prog 46 [vTree t, .d (.int .i64 w), .d (.int .i64 h), .d (.int .i64 i)] [] (ORows encK 1 (overOf t w h i)) := by
  have c1 := ORows.data (c_LayoutI t hL w h)
  cases hb : (treeOk t && roomOk w h)
  · have e : layoutT t w h = [] := by rw [layoutT, hb]; rfl
    rw [e] at c1
    have e2 : (goodN t i && roomOk w h) = false := by
      rw [goodN]
      cases h1 : treeOk t
      · rfl
      · rw [h1, Bool.true_and] at hb
        rw [hb, Bool.and_false]
    rw [show overOf t w h i = [] by rw [overOf, e2]; rfl]
    refine ACon.introW tok (nt := 68) Try.func46 rfl rfl rfl (by kernel_rfl) rfl ?_
    repeat' (first | ((with_reducible apply xsim); (first | ((with_reducible apply xlenM); exact rfl; exact rfl) | ((with_reducible apply xo); exact rfl) | with_reducible apply xend | ((with_reducible apply xbox); exact rfl; simp only [backV, backVs, backVs_mapd, backId, backO, List.map_cons, List.map_nil, List.getElem?_nil, List.length_cons, List.length_nil, Nat.reduceAdd, Nat.reduceSub, List.cons_append, List.nil_append, List.append_nil]) | ((with_reducible apply xcallIs); exact rfl; exact rfl; (first | exact c1 | exact c_within _ _ _); exact rfl))) | ((with_reducible apply xaw); (first | ((with_reducible apply xstepS); refine AW.step tok rfl ?_) | with_reducible (first | refine AW.seq ?_ | refine AW.ret ?_) | ((with_reducible apply xcond); exact rfl))) | with_reducible refine xthen_r ?_ | (with_reducible intro hc; (try simp only [decide_eq_true_eq, decide_eq_false_iff_not, Bool.not_true, Bool.not_false, Bool.not_eq_true', Bool.not_eq_false', ne_eq, not_true, reduceCtorEq, List.length_map, List.length_nil] at hc); (try (exfalso; omega))) | with_reducible (first | exact trivial | refine And.intro ?_ ?_ | exact rfl) | exact Eq.refl true | (refine inR_i64.mpr ?_; first | omega | (simp only [List.length_map, List.length_map, List.length_nil]; omega)))
    refine xfinW (Weak.own 8 1 rfl) ?_
    (refine xfinOwn [1] (by first | exact .inl rfl | exact .inr rfl) rfl (by repeat' (first | exact trivial | exact rfl | refine And.intro ?_ ?_)) (by decide) rfl ?_ ?_ <;> simp -implicitDefEqProofs only [go_sem, Int.reduceEq, Int.reduceLT, Int.reduceLE, Nat.reduceAdd, Nat.reduceSub, Nat.reduceMul, Nat.reduceEqDiff, Nat.reduceLeDiff, Nat.reducePow, ↓reduceIte, reduceCtorEq])
  have hb' := hb
  rw [Bool.and_eq_true] at hb'
  have hk := treeK hb'.1
  have hrm := roomOk_iff hb'.2
  have hlo := hk.lo; have hhi := hk.hi
  have hll := layoutOf_len (t := t) (w := w) (h := h)
  rw [show layoutT t w h = layoutOf t w h by rw [layoutT, if_pos hb]] at c1
  by_cases hi : 0 ≤ i ∧ i ≤ (t.length : Int) - 1
  · have e2 : (goodN t i && roomOk w h) = true := by rw [goodN, hb'.1, hb'.2, decide_eq_true hi]; rfl
    rw [show overOf t w h i = flat (pairsTo (rectAt t w h) (kids t i.toNat) (kids t i.toNat).length) by rw [overOf, if_pos e2]]
    have c2 := c_kidsI t hk i.toNat
    rw [Int.toNat_of_nonneg hi.1] at c2
    have hkl : (kids t i.toNat).length ≤ 10 := by have := kids_len t i.toNat t.length; unfold kids; omega
    have hks : ∀ k ∈ kids t i.toNat, k < t.length := fun k hk' => (hk.kid hk').1
    have hR := rects_in hk (w := w) (h := h) (by omega) (by omega)
    have hget := fun k (hkk : k < t.length) => lay_get (t := t) (w := w) (h := h) hkk
    generalize kids t i.toNat = ks at *
    generalize rectAt t w h = R at *
    refine ACon.introW tok (nt := 68) Try.func46 rfl rfl rfl (by kernel_rfl) rfl ?_
    repeat' (first | ((with_reducible apply xsim); (first | ((with_reducible apply xlenM); exact rfl; exact rfl) | ((with_reducible apply xo); exact rfl) | with_reducible apply xend | ((with_reducible apply xbox); exact rfl; simp only [backV, backVs, backVs_mapd, backId, backO, List.map_cons, List.map_nil, List.getElem?_nil, List.length_cons, List.length_nil, Nat.reduceAdd, Nat.reduceSub, List.cons_append, List.nil_append, List.append_nil]) | ((with_reducible apply xcallIs); exact rfl; exact rfl; (first | exact c1 | exact c_within _ _ _ | exact c2); exact rfl))) | ((with_reducible apply xaw); (first | ((with_reducible apply xstepS); refine AW.step tok rfl ?_) | with_reducible (first | refine AW.seq ?_ | refine AW.block ?_ | refine AW.skip ?_) | ((with_reducible apply xcond); exact rfl))) | with_reducible refine xthen ?_ | (with_reducible intro hc; (try simp only [decide_eq_true_eq, decide_eq_false_iff_not, Bool.not_true, Bool.not_false, Bool.not_eq_true', Bool.not_eq_false', ne_eq, not_true, reduceCtorEq, List.length_map, hll] at hc); (try (exfalso; omega))) | with_reducible (first | exact trivial | refine And.intro ?_ ?_ | exact rfl) | exact Eq.refl true | (refine inR_i64.mpr ?_; first | omega | (simp only [List.length_map, List.length_map, hll]; omega)))
    refine AW.own 11 1 rfl ?_
    refine AW.loop (S := fun m : Nat => ⟨[(9, .d (.lst ((layoutOf t w h).map encRect))), (10, .d (.lst (ks.map encK))), (11, .msl 0 1 0 (flat (pairsTo R ks m)).length), (31, .d (.lst (ks.map encK))), (32, .d (.int .i64 ks.length)), (33, .d (.int .i64 m))], [.arr 1 ((flat (pairsTo R ks m)).map encK)], 68, 0⟩)
      (Pre := fun m => m ≤ ks.length) (μ := fun m => ks.length - m) 0 (Nat.zero_le _) ?_ ?_
    · (refine xwk (π := [1]) (by decide) rfl ?_ ?_; (first | simp -implicitDefEqProofs only [go_sem, Int.reduceEq, Int.reduceLT, Int.reduceLE, Nat.reduceAdd, Nat.reduceSub, Nat.reduceMul, Nat.reduceEqDiff, Nat.reduceLeDiff, Nat.reducePow, ↓reduceIte, reduceCtorEq, pairsTo, flat, List.range_zero, List.flatMap_nil]); repeat' (first | exact renE_n | ((with_reducible apply renE_c); exact rfl; focus (first | (simp -implicitDefEqProofs only [go_sem, Int.reduceEq, Int.reduceLT, Int.reduceLE, Nat.reduceAdd, Nat.reduceSub, Nat.reduceMul, Nat.reduceEqDiff, Nat.reduceLeDiff, Nat.reducePow, ↓reduceIte, reduceCtorEq, pairsTo, flat, List.range_zero, List.flatMap_nil]; done)))))
    intro m hm
    by_cases hmt : m < ks.length
    · have hrk := at_map (f := encK) hmt
      have hst := pairsTo_step (R := R) hmt
      have hpl := pairsTo_len (R := R) hkl m (by omega)
      have hxl := hks _ (List.getElem_mem hmt)
      have hrx := hget _ hxl
      have e1 : ((m : Int) + 1).toNat = m + 1 := by omega
      have hyl : (ks.drop (m + 1)).length = ks.length - (m + 1) := by simp
      have hym : ∀ y ∈ ks.drop (m + 1), y < t.length := fun y hy => hks y (List.mem_of_mem_drop hy)
      repeat' (first | ((with_reducible apply xsim); (first | ((with_reducible apply xlenM); exact rfl; exact rfl) | ((with_reducible apply xo); exact rfl) | with_reducible apply xend | ((with_reducible apply xidxL); exact rfl; exact rfl; exact rfl; (first | exact hrk); omega; first | exact rfl | simp only [hsz]) | ((with_reducible apply xslcLo); exact rfl; exact rfl; exact rfl; exact (fun r hr => by obtain ⟨a, _, rfl⟩ := List.mem_map.1 hr; rfl); first | omega | (simp only [List.length_cons, List.length_nil]; omega)))) | ((with_reducible apply xaw); (first | ((with_reducible apply xstepS); refine AW.step tok rfl ?_) | with_reducible (first | refine AW.seq ?_ | refine AW.block ?_ | refine AW.skip ?_) | ((with_reducible apply xcond); exact rfl))) | with_reducible refine xthen ?_ | (with_reducible intro hc; (try simp only [decide_eq_true_eq, decide_eq_false_iff_not, Bool.not_true, Bool.not_false, Bool.not_eq_true', Bool.not_eq_false', ne_eq, not_true, reduceCtorEq, List.length_map] at hc); (try (exfalso; omega))) | with_reducible (first | exact trivial | refine And.intro ?_ ?_ | exact rfl) | (refine inR_i64.mpr ?_; first | omega | (simp only [List.length_map, List.length_map]; omega)))
      rw [e1]
      generalize hx : ks[m] = x at *
      generalize hysd : ks.drop (m + 1) = ys at *
      refine AW.loop (S := fun j : Nat => ⟨[(9, .d (.lst ((layoutOf t w h).map encRect))), (10, .d (.lst (ks.map encK))), (11, .msl 0 1 0 (flat (pairsTo R ks m ++ pairsIn R x (ys.take j))).length), (13, .d (.int .i64 (x : Int))), (31, .d (.lst (ks.map encK))), (32, .d (.int .i64 ks.length)), (33, .d (.int .i64 m)), (41, .d (.lst (ys.map encK))), (42, .d (.int .i64 ys.length)), (43, .d (.int .i64 j))], [.arr 1 ((flat (pairsTo R ks m ++ pairsIn R x (ys.take j))).map encK)], 68, 0⟩)
        (Pre := fun j => j ≤ ys.length) (μ := fun j => ys.length - j) 0 (Nat.zero_le _) ?_ ?_
      · (refine xwk (π := [0]) (by decide) rfl ?_ ?_; (first | simp -implicitDefEqProofs only [go_sem, Int.reduceEq, Int.reduceLT, Int.reduceLE, Nat.reduceAdd, Nat.reduceSub, Nat.reduceMul, Nat.reduceEqDiff, Nat.reduceLeDiff, Nat.reducePow, ↓reduceIte, reduceCtorEq, List.take_zero, pairsIn, List.filter_nil, List.map_nil, List.append_nil, List.length_map]); repeat' (first | exact renE_n | ((with_reducible apply renE_c); exact rfl; focus (first | (simp -implicitDefEqProofs only [go_sem, Int.reduceEq, Int.reduceLT, Int.reduceLE, Nat.reduceAdd, Nat.reduceSub, Nat.reduceMul, Nat.reduceEqDiff, Nat.reduceLeDiff, Nat.reducePow, ↓reduceIte, reduceCtorEq, List.take_zero, pairsIn, List.filter_nil, List.map_nil, List.append_nil, List.length_map]; done)))))
      intro j hj
      by_cases hjt : j < ys.length
      · have hrj := at_map (f := encK) hjt
        have hjl := hym _ (List.getElem_mem hjt)
        have hry := hget _ hjl
        have hs := pairsIn_step (R := R) (x := x) hjt
        have hfl := flat_len (pairsTo R ks m ++ pairsIn R x (ys.take j))
        have hpi := pairsIn_len (R := R) (x := x) (ys := ys.take j)
        rw [List.length_take] at hpi
        rw [List.length_append] at hfl
        have cm := c_meetI _ _ (hR x hxl) (hR _ hjl)
        cases hme : meets (R x) (R ys[j])
        · rw [hme] at cm hs
          simp only [Bool.false_eq_true, if_false, List.append_nil] at hs
          repeat' (first | ((with_reducible apply xsim); (first | ((with_reducible apply xo); exact rfl) | ((with_reducible apply xst); exact rfl) | with_reducible apply xend | ((with_reducible apply xalloc); exact rfl; simp only [backV, backVs, backVs_mapd, backId, backO, List.map_cons, List.map_nil, List.getElem?_nil, List.length_cons, List.length_nil, Nat.reduceAdd, Nat.reduceSub, List.cons_append, List.nil_append, List.append_nil]) | ((with_reducible apply xidxL); exact rfl; exact rfl; exact rfl; (first | exact hrj | exact hrx | exact hry); omega; first | exact rfl | simp only [hsz]))) | ((with_reducible apply xaw); (first | ((with_reducible apply xstepS); refine AW.step tok rfl ?_) | ((with_reducible apply xstep); refine AW.region tok rfl ?_) | with_reducible (first | refine AW.seq ?_ | refine AW.block ?_ | refine AW.skip ?_) | ((with_reducible apply xcond); exact rfl) | ((with_reducible apply xdraw (id := 12)); refine AW.draw (id := 12) (.q 0 (.q 1 (.q 2 (.q 3 (.q 4 (.q 5 (.q 6 (.q 7 (.q 8 (.q 9 (.q 10 (.q 11 (.e 12 (.e 13 (.q 14 (.fin)))))))))))))))) tok (by kernel_rfl) rfl (by kernel_rfl) ?_))) | ((with_reducible apply xarun); (first | ((with_reducible apply xrun_q); exact rfl; exact rfl; exact rfl) | ((with_reducible apply xrun_c); exact rfl; exact rfl; exact rfl; exact rfl; exact rfl; exact rfl; exact cm; exact rfl) | ((with_reducible apply xrun_e); exact rfl) | with_reducible apply xrun_f)) | with_reducible (first | refine xthen ?_ | refine xblock ?_) | (with_reducible intro hc; (try simp only [decide_eq_true_eq, decide_eq_false_iff_not, Bool.not_true, Bool.not_false, Bool.not_eq_true', Bool.not_eq_false', ne_eq, not_true, reduceCtorEq, List.length_map] at hc); (try (exfalso; omega))) | with_reducible (first | exact trivial | refine And.intro ?_ ?_ | exact rfl) | exact Eq.refl true | (refine inR_i64.mpr ?_; first | omega | (simp only [List.length_map, List.length_map]; omega)))
          refine round_end (j+1) hjt (by omega) (by (refine xwk (π := [0]) (by decide) rfl ?_ ?_; (first | simp -implicitDefEqProofs only [go_sem, Int.reduceEq, Int.reduceLT, Int.reduceLE, Nat.reduceAdd, Nat.reduceSub, Nat.reduceMul, Nat.reduceEqDiff, Nat.reduceLeDiff, Nat.reducePow, ↓reduceIte, reduceCtorEq, hs]); repeat' (first | exact renE_n | ((with_reducible apply renE_c); exact rfl; focus (first | (simp -implicitDefEqProofs only [go_sem, Int.reduceEq, Int.reduceLT, Int.reduceLE, Nat.reduceAdd, Nat.reduceSub, Nat.reduceMul, Nat.reduceEqDiff, Nat.reduceLeDiff, Nat.reducePow, ↓reduceIte, reduceCtorEq, hs]; done))))))
        · rw [hme] at cm hs
          simp only [if_true] at hs
          have hs2 : flat (pairsTo R ks m ++ pairsIn R x (ys.take (j + 1))) = flat (pairsTo R ks m ++ pairsIn R x (ys.take j)) ++ [x, ys[j]] := by
            rw [hs, ← List.append_assoc, flat_app (pairsTo R ks m ++ pairsIn R x (ys.take j))]; rfl
          repeat' (first | ((with_reducible apply xsim); (first | ((with_reducible apply xo); exact rfl) | ((with_reducible apply xst); exact rfl) | with_reducible apply xend | ((with_reducible apply xalloc); exact rfl; simp only [backV, backVs, backVs_mapd, backId, backO, List.map_cons, List.map_nil, List.getElem?_nil, List.length_cons, List.length_nil, Nat.reduceAdd, Nat.reduceSub, List.cons_append, List.nil_append, List.append_nil]) | ((with_reducible apply xbuild); exact rfl; exact rfl; exact rfl; exact rfl; exact rfl; simp only [backV, backVs, backVs_mapd, backId, backO, List.map_cons, List.map_nil, List.getElem?_nil, List.length_cons, List.length_nil, Nat.reduceAdd, Nat.reduceSub, List.cons_append, List.nil_append, List.append_nil]) | ((with_reducible apply xidxL); exact rfl; exact rfl; exact rfl; (first | exact hrj | exact hrx | exact hry); omega; first | exact rfl | simp only [hsz]) | simp -implicitDefEqProofs only [go_sem, Int.reduceEq, Int.reduceLT, Int.reduceLE, Nat.reduceAdd, Nat.reduceSub, Nat.reduceMul, Nat.reduceEqDiff, Nat.reduceLeDiff, Nat.reducePow, ↓reduceIte, reduceCtorEq, List.length_map])) | ((with_reducible apply xaw); (first | ((with_reducible apply xstepS); refine AW.step tok rfl ?_) | ((with_reducible apply xstep); refine AW.region tok rfl ?_) | with_reducible (first | refine AW.seq ?_ | refine AW.block ?_ | refine AW.skip ?_) | ((with_reducible apply xcond); exact rfl) | ((with_reducible apply xdraw (id := 12)); refine AW.draw (id := 12) (.q 0 (.q 1 (.q 2 (.q 3 (.q 4 (.q 5 (.q 6 (.q 7 (.q 8 (.q 9 (.q 10 (.q 11 (.e 12 (.e 13 (.q 14 (.fin)))))))))))))))) tok (by kernel_rfl) rfl (by kernel_rfl) ?_))) | ((with_reducible apply xarun); (first | ((with_reducible apply xrun_q); exact rfl; exact rfl; exact rfl) | ((with_reducible apply xrun_c); exact rfl; exact rfl; exact rfl; exact rfl; exact rfl; exact rfl; exact cm; exact rfl) | ((with_reducible apply xrun_e); exact rfl) | with_reducible apply xrun_f)) | with_reducible refine xthen ?_ | (with_reducible intro hc; (try simp only [decide_eq_true_eq, decide_eq_false_iff_not, Bool.not_true, Bool.not_false, Bool.not_eq_true', Bool.not_eq_false', ne_eq, not_true, reduceCtorEq, List.length_map] at hc); (try (exfalso; omega))) | with_reducible (first | exact trivial | refine And.intro ?_ ?_ | exact rfl) | exact Eq.refl true | (refine inR_i64.mpr ?_; first | omega | (simp only [List.length_map, List.length_map]; omega)) | omega | ((rcases hc with rfl | rfl <;> rfl)))
          refine round_end (j+1) hjt (by omega) (by (refine xwk (π := [3]) (by decide) rfl ?_ ?_; (first | simp -implicitDefEqProofs only [go_sem, Int.reduceEq, Int.reduceLT, Int.reduceLE, Nat.reduceAdd, Nat.reduceSub, Nat.reduceMul, Nat.reduceEqDiff, Nat.reduceLeDiff, Nat.reducePow, ↓reduceIte, reduceCtorEq, hs2, List.map_append, List.length_append]); repeat' (first | exact renE_n | ((with_reducible apply renE_c); exact rfl; focus (first | (simp -implicitDefEqProofs only [go_sem, Int.reduceEq, Int.reduceLT, Int.reduceLE, Nat.reduceAdd, Nat.reduceSub, Nat.reduceMul, Nat.reduceEqDiff, Nat.reduceLeDiff, Nat.reducePow, ↓reduceIte, reduceCtorEq, hs2, List.map_append, List.length_append]; done))))))
      have hj' : j = ys.length := by omega
      subst hj'
      rw [List.take_length, ← hst]
      repeat' (first | ((with_reducible apply xsim); (first | ((with_reducible apply xo); exact rfl) | with_reducible apply xend)) | ((with_reducible apply xaw); (first | ((with_reducible apply xstepS); refine AW.step tok rfl ?_) | ((with_reducible apply xstep); refine AW.region tok rfl ?_) | with_reducible (first | refine AW.seq ?_ | refine AW.exit ?_) | ((with_reducible apply xcond); exact rfl))) | with_reducible (first | refine xthen ?_ | refine xthen_e ?_ | refine xblock ?_ | refine xblock_e ?_ | refine xround_e ?_) | (with_reducible intro hc; (try simp only [decide_eq_true_eq, decide_eq_false_iff_not, Bool.not_true, Bool.not_false, Bool.not_eq_true', Bool.not_eq_false', ne_eq, not_true, reduceCtorEq, List.length_map] at hc); (try (exfalso; omega))) | with_reducible (first | exact trivial | refine And.intro ?_ ?_ | exact rfl) | (refine inR_i64.mpr ?_; first | omega | (simp only [List.length_map, List.length_map]; omega)))
      refine round_end (m+1) hmt (by omega) (by (refine xwk (π := [0]) (by decide) rfl ?_ ?_; (first | simp -implicitDefEqProofs only [go_sem, Int.reduceEq, Int.reduceLT, Int.reduceLE, Nat.reduceAdd, Nat.reduceSub, Nat.reduceMul, Nat.reduceEqDiff, Nat.reduceLeDiff, Nat.reducePow, ↓reduceIte, reduceCtorEq]); repeat' (first | exact renE_n | ((with_reducible apply renE_c); exact rfl; focus (first | (simp -implicitDefEqProofs only [go_sem, Int.reduceEq, Int.reduceLT, Int.reduceLE, Nat.reduceAdd, Nat.reduceSub, Nat.reduceMul, Nat.reduceEqDiff, Nat.reduceLeDiff, Nat.reducePow, ↓reduceIte, reduceCtorEq]; done))))))
    have hm' : m = ks.length := by omega
    subst hm'
    repeat' (first | ((with_reducible apply xsim); (first | ((with_reducible apply xo); exact rfl) | with_reducible apply xend)) | ((with_reducible apply xaw); (first | ((with_reducible apply xstepS); refine AW.step tok rfl ?_) | with_reducible (first | refine AW.seq ?_ | refine AW.ret ?_ | refine AW.exit ?_) | ((with_reducible apply xcond); exact rfl))) | with_reducible (first | refine xthen ?_ | refine xthen_e ?_ | refine xblock_e ?_ | refine xround_e ?_) | (with_reducible intro hc; (try simp only [decide_eq_true_eq, decide_eq_false_iff_not, Bool.not_true, Bool.not_false, Bool.not_eq_true', Bool.not_eq_false', ne_eq, not_true, reduceCtorEq, List.length_map] at hc); (try (exfalso; omega))) | with_reducible (first | exact trivial | refine And.intro ?_ ?_ | exact rfl))
    (refine xfinOwn [0] (by first | exact .inl rfl | exact .inr rfl) rfl (by repeat' (first | exact trivial | exact rfl | refine And.intro ?_ ?_)) (by decide) rfl ?_ ?_ <;> simp -implicitDefEqProofs only [go_sem, Int.reduceEq, Int.reduceLT, Int.reduceLE, Nat.reduceAdd, Nat.reduceSub, Nat.reduceMul, Nat.reduceEqDiff, Nat.reduceLeDiff, Nat.reducePow, ↓reduceIte, reduceCtorEq])
  · have e2 : (goodN t i && roomOk w h) = false := by rw [goodN, decide_eq_false hi, Bool.and_false, Bool.false_and]
    rw [show overOf t w h i = [] by rw [overOf, e2]; rfl]
    refine ACon.introW tok (nt := 68) Try.func46 rfl rfl rfl (by kernel_rfl) rfl ?_
    repeat' (first | ((with_reducible apply xsim); (first | ((with_reducible apply xlenM); exact rfl; exact rfl) | ((with_reducible apply xo); exact rfl) | with_reducible apply xend | ((with_reducible apply xbox); exact rfl; simp only [backV, backVs, backVs_mapd, backId, backO, List.map_cons, List.map_nil, List.getElem?_nil, List.length_cons, List.length_nil, Nat.reduceAdd, Nat.reduceSub, List.cons_append, List.nil_append, List.append_nil]) | ((with_reducible apply xcallIs); exact rfl; exact rfl; (first | exact c1 | exact c_within _ _ _); exact rfl))) | ((with_reducible apply xaw); (first | ((with_reducible apply xstepS); refine AW.step tok rfl ?_) | with_reducible (first | refine AW.seq ?_ | refine AW.ret ?_) | ((with_reducible apply xcond); exact rfl))) | with_reducible refine xthen_r ?_ | (with_reducible intro hc; (try simp only [decide_eq_true_eq, decide_eq_false_iff_not, Bool.not_true, Bool.not_false, Bool.not_eq_true', Bool.not_eq_false', ne_eq, not_true, reduceCtorEq, List.length_map, hll] at hc); (try (exfalso; omega))) | with_reducible (first | exact trivial | refine And.intro ?_ ?_ | exact rfl) | exact Eq.refl true | (refine inR_i64.mpr ?_; first | omega | (simp only [List.length_map, List.length_map, hll]; omega)))
    refine xfinW (Weak.own 8 1 rfl) ?_
    (refine xfinOwn [1] (by first | exact .inl rfl | exact .inr rfl) rfl (by repeat' (first | exact trivial | exact rfl | refine And.intro ?_ ?_)) (by decide) rfl ?_ ?_ <;> simp -implicitDefEqProofs only [go_sem, Int.reduceEq, Int.reduceLT, Int.reduceLE, Nat.reduceAdd, Nat.reduceSub, Nat.reduceMul, Nat.reduceEqDiff, Nat.reduceLeDiff, Nat.reducePow, ↓reduceIte, reduceCtorEq])

set_option maxRecDepth 8000 in
set_option maxHeartbeats 4000000 in
theorem c_OverS (t : List Node) (hL : TreeL t) (w h i : Int) : ACon Try.prog 47 [vTree t, .d (.int .i64 w), .d (.int .i64 h), .d (.int .i64 i)] [] (ORows encK 1 (overOf t w h i)) := by
  have c1 := c_goodNode t hL i
  have c2 := c_goodRoom w h
  cases hb : (goodN t i && roomOk w h)
  · rw [show overOf t w h i = [] by rw [overOf, hb]; rfl]
    cases hg : goodN t i
    · rw [hg] at c1
      refine ACon.introW tok (nt := 79) Try.func47 rfl rfl rfl (by kernel_rfl) rfl ?_
      repeat' (first | ((with_reducible apply xsim); (first | ((with_reducible apply xo); exact rfl) | with_reducible apply xend | ((with_reducible apply xguardS); exact rfl; exact rfl) | ((with_reducible apply xbox); exact rfl; simp only [backV, backVs, backVs_mapd, backId, backO, List.map_cons, List.map_nil, List.getElem?_nil, List.length_cons, List.length_nil, Nat.reduceAdd, Nat.reduceSub, List.cons_append, List.nil_append, List.append_nil]) | ((with_reducible apply xcallIs); exact rfl; exact rfl; exact c1; exact rfl))) | ((with_reducible apply xaw); (first | ((with_reducible apply xstepS); refine AW.step tok rfl ?_) | with_reducible (first | refine AW.seq ?_ | refine AW.ret ?_) | ((with_reducible apply xcond); exact rfl))) | with_reducible refine xthen_r ?_ | (with_reducible intro hc; (try simp only [decide_eq_true_eq, decide_eq_false_iff_not, Bool.not_true, Bool.not_false, Bool.not_eq_true', Bool.not_eq_false', ne_eq, not_true, reduceCtorEq] at hc); (try (exfalso; omega))) | with_reducible exact trivial | exact Eq.refl true)
      refine xfinW (Weak.own 8 1 rfl) ?_
      (refine xfinOwn [1] (by first | exact .inl rfl | exact .inr rfl) rfl (by repeat' (first | exact trivial | exact rfl | refine And.intro ?_ ?_)) (by decide) rfl ?_ ?_ <;> simp -implicitDefEqProofs only [go_sem, Int.reduceEq, Int.reduceLT, Int.reduceLE, Nat.reduceAdd, Nat.reduceSub, Nat.reduceMul, Nat.reduceEqDiff, Nat.reduceLeDiff, Nat.reducePow, ↓reduceIte, reduceCtorEq])
    · rw [hg] at c1 hb
      rw [Bool.true_and] at hb
      rw [hb] at c2
      refine ACon.introW tok (nt := 79) Try.func47 rfl rfl rfl (by kernel_rfl) rfl ?_
      repeat' (first | ((with_reducible apply xsim); (first | ((with_reducible apply xo); exact rfl) | with_reducible apply xend | ((with_reducible apply xguardS); exact rfl; exact rfl) | ((with_reducible apply xbox); exact rfl; simp only [backV, backVs, backVs_mapd, backId, backO, List.map_cons, List.map_nil, List.getElem?_nil, List.length_cons, List.length_nil, Nat.reduceAdd, Nat.reduceSub, List.cons_append, List.nil_append, List.append_nil]) | ((with_reducible apply xcallIs); exact rfl; exact rfl; (first | exact c1 | exact c2); exact rfl))) | ((with_reducible apply xaw); (first | ((with_reducible apply xstepS); refine AW.step tok rfl ?_) | with_reducible (first | refine AW.seq ?_ | refine AW.ret ?_) | ((with_reducible apply xcond); exact rfl))) | with_reducible refine xthen_r ?_ | (with_reducible intro hc; (try simp only [decide_eq_true_eq, decide_eq_false_iff_not, Bool.not_true, Bool.not_false, Bool.not_eq_true', Bool.not_eq_false', ne_eq, not_true, reduceCtorEq] at hc); (try (exfalso; omega))) | with_reducible exact trivial | exact Eq.refl true)
      refine xfinW (Weak.own 8 1 rfl) ?_
      (refine xfinOwn [1] (by first | exact .inl rfl | exact .inr rfl) rfl (by repeat' (first | exact trivial | exact rfl | refine And.intro ?_ ?_)) (by decide) rfl ?_ ?_ <;> simp -implicitDefEqProofs only [go_sem, Int.reduceEq, Int.reduceLT, Int.reduceLE, Nat.reduceAdd, Nat.reduceSub, Nat.reduceMul, Nat.reduceEqDiff, Nat.reduceLeDiff, Nat.reducePow, ↓reduceIte, reduceCtorEq])
  rw [show overOf t w h i = flat (pairsTo (rectAt t w h) (kids t i.toNat) (kids t i.toNat).length) by rw [overOf, if_pos hb]]
  rw [Bool.and_eq_true] at hb
  rw [hb.1] at c1
  rw [hb.2] at c2
  obtain ⟨htr, h0, hi⟩ := goodN_iff.1 hb.1
  have hk := treeK htr
  have hrm := roomOk_iff hb.2
  have hlo := hk.lo; have hhi := hk.hi
  have hll := layoutOf_len (t := t) (w := w) (h := h)
  have c3 := ORows.data (c_AlayoutS t hk w h (by omega) (by omega))
  have c4 := c_kidsS t hk i.toNat
  rw [Int.toNat_of_nonneg h0] at c4
  have hkl : (kids t i.toNat).length ≤ 10 := by have := kids_len t i.toNat t.length; unfold kids; omega
  have hks : ∀ k ∈ kids t i.toNat, k < t.length := fun k hk' => (hk.kid hk').1
  have hR := rects_in hk (w := w) (h := h) (by omega) (by omega)
  have hget := fun k (hkk : k < t.length) => lay_get (t := t) (w := w) (h := h) hkk
  generalize kids t i.toNat = ks at *
  generalize rectAt t w h = R at *
  refine ACon.introW tok (nt := 79) Try.func47 rfl rfl rfl (by kernel_rfl) rfl ?_
  repeat' (first | ((with_reducible apply xsim); (first | ((with_reducible apply xo); exact rfl) | with_reducible apply xend | ((with_reducible apply xguardS); exact rfl; exact rfl) | ((with_reducible apply xbox); exact rfl; simp only [backV, backVs, backVs_mapd, backId, backO, List.map_cons, List.map_nil, List.getElem?_nil, List.length_cons, List.length_nil, Nat.reduceAdd, Nat.reduceSub, List.cons_append, List.nil_append, List.append_nil]) | ((with_reducible apply xbuild); exact rfl; exact rfl; exact rfl; exact rfl; exact rfl; simp only [backV, backVs, backVs_mapd, backId, backO, List.map_cons, List.map_nil, List.getElem?_nil, List.length_cons, List.length_nil, Nat.reduceAdd, Nat.reduceSub, List.cons_append, List.nil_append, List.append_nil]) | ((with_reducible apply xcallIs); exact rfl; exact rfl; (first | exact c1 | exact c2 | exact c3 | exact c4); exact rfl))) | ((with_reducible apply xaw); (first | ((with_reducible apply xstepS); refine AW.step tok rfl ?_) | with_reducible (first | refine AW.seq ?_ | refine AW.block ?_ | refine AW.skip ?_) | ((with_reducible apply xcond); exact rfl))) | with_reducible refine xthen ?_ | (with_reducible intro hc; (try simp only [decide_eq_true_eq, decide_eq_false_iff_not, Bool.not_true, Bool.not_false, Bool.not_eq_true', Bool.not_eq_false', ne_eq, not_true, reduceCtorEq, List.length_map, hll] at hc); (try (exfalso; omega))) | with_reducible exact trivial | exact Eq.refl true)
  refine AW.loop (S := fun m : Nat => ⟨[(9, .d (.lst ((layoutOf t w h).map encRect))), (10, .d (.lst (ks.map encK))), (11, .msl 0 1 0 (flat (pairsTo R ks m)).length), (12, .d (.int .i64 m))], [.arr 1 ((flat (pairsTo R ks m)).map encK)], 79, 0⟩)
    (Pre := fun m => m ≤ ks.length) (μ := fun m => ks.length - m) 0 (Nat.zero_le _) ?_ ?_
  · (refine xwk (π := [1]) (by decide) rfl ?_ ?_; (first | simp -implicitDefEqProofs only [go_sem, Int.reduceEq, Int.reduceLT, Int.reduceLE, Nat.reduceAdd, Nat.reduceSub, Nat.reduceMul, Nat.reduceEqDiff, Nat.reduceLeDiff, Nat.reducePow, ↓reduceIte, reduceCtorEq, pairsTo, flat, List.range_zero, List.flatMap_nil]); repeat' (first | exact renE_n | ((with_reducible apply renE_c); exact rfl; focus (first | (simp -implicitDefEqProofs only [go_sem, Int.reduceEq, Int.reduceLT, Int.reduceLE, Nat.reduceAdd, Nat.reduceSub, Nat.reduceMul, Nat.reduceEqDiff, Nat.reduceLeDiff, Nat.reducePow, ↓reduceIte, reduceCtorEq, pairsTo, flat, List.range_zero, List.flatMap_nil]; done)))))
  intro m hm
  by_cases hmt : m < ks.length
  · have hrk := at_map (f := encK) hmt
    have hst := pairsTo_step (R := R) hmt
    have hpl := pairsTo_len (R := R) hkl m (by omega)
    have hxl := hks _ (List.getElem_mem hmt)
    have hrx := hget _ hxl
    have hyl : (ks.drop (m + 1)).length = ks.length - (m + 1) := by simp
    have hym : ∀ y ∈ ks.drop (m + 1), y < t.length := fun y hy => hks y (List.mem_of_mem_drop hy)
    have hyg : ∀ j (hj : j < (ks.drop (m + 1)).length), (ks.map encK)[((m : Int) + 1 + (j : Int)).toNat]? = some (encK (ks.drop (m + 1))[j]) := fun j hj => by
      rw [show ((m : Int) + 1 + (j : Int)).toNat = m + 1 + j by omega, List.getElem?_map, ← List.getElem?_drop, List.getElem?_eq_getElem hj]; rfl
    repeat' (first | ((with_reducible apply xsim); (first | ((with_reducible apply xlenM); exact rfl; exact rfl) | ((with_reducible apply xo); exact rfl) | with_reducible apply xend)) | ((with_reducible apply xaw); (first | ((with_reducible apply xstepS); refine AW.step tok rfl ?_) | with_reducible (first | refine AW.seq ?_ | refine AW.block ?_ | refine AW.skip ?_) | ((with_reducible apply xcond); exact rfl))) | with_reducible refine xthen ?_ | (with_reducible intro hc; (try simp only [decide_eq_true_eq, decide_eq_false_iff_not, Bool.not_true, Bool.not_false, Bool.not_eq_true', Bool.not_eq_false', ne_eq, not_true, reduceCtorEq, List.length_map] at hc); (try (exfalso; omega))) | with_reducible (first | exact trivial | refine And.intro ?_ ?_ | exact rfl) | (refine inR_i64.mpr ?_; first | omega | (simp only [List.length_map, List.length_map]; omega)))
    generalize hx : ks[m] = x at *
    generalize hysd : ks.drop (m + 1) = ys at *
    refine AW.loop (S := fun j : Nat => ⟨[(9, .d (.lst ((layoutOf t w h).map encRect))), (10, .d (.lst (ks.map encK))), (11, .msl 0 1 0 (flat (pairsTo R ks m ++ pairsIn R x (ys.take j))).length), (12, .d (.int .i64 m)), (13, .d (.int .i64 ((m : Int) + 1 + (j : Int))))], [.arr 1 ((flat (pairsTo R ks m ++ pairsIn R x (ys.take j))).map encK)], 79, 0⟩)
      (Pre := fun j => j ≤ ys.length) (μ := fun j => ys.length - j) 0 (Nat.zero_le _) ?_ ?_
    · (refine xwk (π := [0]) (by decide) rfl ?_ ?_; (first | simp -implicitDefEqProofs only [go_sem, Int.reduceEq, Int.reduceLT, Int.reduceLE, Nat.reduceAdd, Nat.reduceSub, Nat.reduceMul, Nat.reduceEqDiff, Nat.reduceLeDiff, Nat.reducePow, ↓reduceIte, reduceCtorEq, List.take_zero, pairsIn, List.filter_nil, List.map_nil, List.append_nil, Int.natCast_zero, Int.add_zero]); repeat' (first | exact renE_n | ((with_reducible apply renE_c); exact rfl; focus (first | (simp -implicitDefEqProofs only [go_sem, Int.reduceEq, Int.reduceLT, Int.reduceLE, Nat.reduceAdd, Nat.reduceSub, Nat.reduceMul, Nat.reduceEqDiff, Nat.reduceLeDiff, Nat.reducePow, ↓reduceIte, reduceCtorEq, List.take_zero, pairsIn, List.filter_nil, List.map_nil, List.append_nil, Int.natCast_zero, Int.add_zero]; done)))))
    intro j hj
    by_cases hjt : j < ys.length
    · have hrj := hyg j hjt
      have hjl := hym _ (List.getElem_mem hjt)
      have hry := hget _ hjl
      have hs := pairsIn_step (R := R) (x := x) hjt
      have hfl := flat_len (pairsTo R ks m ++ pairsIn R x (ys.take j))
      have hpi := pairsIn_len (R := R) (x := x) (ys := ys.take j)
      rw [List.length_take] at hpi
      rw [List.length_append] at hfl
      have cm := c_meetS _ _ (hR x hxl) (hR _ hjl)
      cases hme : meets (R x) (R ys[j])
      · rw [hme] at cm hs
        simp only [Bool.false_eq_true, if_false, List.append_nil] at hs
        repeat' (first | ((with_reducible apply xsim); (first | ((with_reducible apply xlenM); exact rfl; exact rfl) | ((with_reducible apply xo); exact rfl) | ((with_reducible apply xst); exact rfl) | with_reducible apply xend | ((with_reducible apply xalloc); exact rfl; simp only [backV, backVs, backVs_mapd, backId, backO, List.map_cons, List.map_nil, List.getElem?_nil, List.length_cons, List.length_nil, Nat.reduceAdd, Nat.reduceSub, List.cons_append, List.nil_append, List.append_nil]) | ((with_reducible apply xidxL); exact rfl; exact rfl; exact rfl; (first | exact hrk | exact hrj | exact hrx | exact hry); omega; first | exact rfl | simp only [hsz]))) | ((with_reducible apply xaw); (first | ((with_reducible apply xstepS); refine AW.step tok rfl ?_) | ((with_reducible apply xstep); refine AW.region tok rfl ?_) | with_reducible (first | refine AW.seq ?_ | refine AW.block ?_ | refine AW.skip ?_) | ((with_reducible apply xcond); exact rfl) | ((with_reducible apply xdraw (id := 12)); refine AW.draw (id := 12) (.q 0 (.q 1 (.q 2 (.q 3 (.q 4 (.q 5 (.q 6 (.q 7 (.q 8 (.q 9 (.q 10 (.q 11 (.q 12 (.q 13 (.q 14 (.q 15 (.q 16 (.q 17 (.e 18 (.e 19 (.q 20 (.fin)))))))))))))))))))))) tok (by kernel_rfl) rfl (by kernel_rfl) ?_))) | ((with_reducible apply xarun); (first | ((with_reducible apply xrun_q); exact rfl; exact rfl; exact rfl) | ((with_reducible apply xrun_c); exact rfl; exact rfl; exact rfl; exact rfl; exact rfl; exact rfl; exact cm; exact rfl) | ((with_reducible apply xrun_e); exact rfl) | with_reducible apply xrun_f)) | with_reducible (first | refine xthen ?_ | refine xblock ?_) | (with_reducible intro hc; (try simp only [decide_eq_true_eq, decide_eq_false_iff_not, Bool.not_true, Bool.not_false, Bool.not_eq_true', Bool.not_eq_false', ne_eq, not_true, reduceCtorEq, List.length_map] at hc); (try (exfalso; omega))) | with_reducible (first | exact trivial | refine And.intro ?_ ?_ | exact rfl) | exact Eq.refl true | (refine inR_i64.mpr ?_; first | omega | (simp only [List.length_map, List.length_map]; omega)))
        refine round_end (j+1) hjt (by omega) (by (refine xwk (π := [0]) (by decide) rfl ?_ ?_; (first | simp -implicitDefEqProofs only [go_sem, Int.reduceEq, Int.reduceLT, Int.reduceLE, Nat.reduceAdd, Nat.reduceSub, Nat.reduceMul, Nat.reduceEqDiff, Nat.reduceLeDiff, Nat.reducePow, ↓reduceIte, reduceCtorEq, hs, Int.natCast_add, Int.natCast_one, Int.add_assoc]); repeat' (first | exact renE_n | ((with_reducible apply renE_c); exact rfl; focus (first | (simp -implicitDefEqProofs only [go_sem, Int.reduceEq, Int.reduceLT, Int.reduceLE, Nat.reduceAdd, Nat.reduceSub, Nat.reduceMul, Nat.reduceEqDiff, Nat.reduceLeDiff, Nat.reducePow, ↓reduceIte, reduceCtorEq, hs, Int.natCast_add, Int.natCast_one, Int.add_assoc]; done))))))
      · rw [hme] at cm hs
        simp only [if_true] at hs
        have hs2 : flat (pairsTo R ks m ++ pairsIn R x (ys.take (j + 1))) = flat (pairsTo R ks m ++ pairsIn R x (ys.take j)) ++ [x, ys[j]] := by
          rw [hs, ← List.append_assoc, flat_app (pairsTo R ks m ++ pairsIn R x (ys.take j))]; rfl
        repeat' (first | ((with_reducible apply xsim); (first | ((with_reducible apply xlenM); exact rfl; exact rfl) | ((with_reducible apply xo); exact rfl) | ((with_reducible apply xst); exact rfl) | with_reducible apply xend | ((with_reducible apply xalloc); exact rfl; simp only [backV, backVs, backVs_mapd, backId, backO, List.map_cons, List.map_nil, List.getElem?_nil, List.length_cons, List.length_nil, Nat.reduceAdd, Nat.reduceSub, List.cons_append, List.nil_append, List.append_nil]) | ((with_reducible apply xbuild); exact rfl; exact rfl; exact rfl; exact rfl; exact rfl; simp only [backV, backVs, backVs_mapd, backId, backO, List.map_cons, List.map_nil, List.getElem?_nil, List.length_cons, List.length_nil, Nat.reduceAdd, Nat.reduceSub, List.cons_append, List.nil_append, List.append_nil]) | ((with_reducible apply xidxL); exact rfl; exact rfl; exact rfl; (first | exact hrk | exact hrj | exact hrx | exact hry); omega; first | exact rfl | simp only [hsz]) | simp -implicitDefEqProofs only [go_sem, Int.reduceEq, Int.reduceLT, Int.reduceLE, Nat.reduceAdd, Nat.reduceSub, Nat.reduceMul, Nat.reduceEqDiff, Nat.reduceLeDiff, Nat.reducePow, ↓reduceIte, reduceCtorEq, List.length_map])) | ((with_reducible apply xaw); (first | ((with_reducible apply xstepS); refine AW.step tok rfl ?_) | ((with_reducible apply xstep); refine AW.region tok rfl ?_) | with_reducible (first | refine AW.seq ?_ | refine AW.block ?_ | refine AW.skip ?_) | ((with_reducible apply xcond); exact rfl) | ((with_reducible apply xdraw (id := 12)); refine AW.draw (id := 12) (.q 0 (.q 1 (.q 2 (.q 3 (.q 4 (.q 5 (.q 6 (.q 7 (.q 8 (.q 9 (.q 10 (.q 11 (.q 12 (.q 13 (.q 14 (.q 15 (.q 16 (.q 17 (.e 18 (.e 19 (.q 20 (.fin)))))))))))))))))))))) tok (by kernel_rfl) rfl (by kernel_rfl) ?_) | ((with_reducible apply xdraw (id := 14)); refine AW.draw (id := 14) (.q 0 (.q 1 (.q 2 (.q 3 (.q 4 (.q 5 (.q 6 (.q 7 (.q 8 (.e 9 (.e 10 (.q 11 (.fin))))))))))))) tok (by kernel_rfl) rfl (by kernel_rfl) ?_))) | ((with_reducible apply xarun); (first | ((with_reducible apply xrun_q); exact rfl; exact rfl; exact rfl) | ((with_reducible apply xrun_c); exact rfl; exact rfl; exact rfl; exact rfl; exact rfl; exact rfl; exact cm; exact rfl) | ((with_reducible apply xrun_e); exact rfl) | with_reducible apply xrun_f)) | with_reducible refine xthen ?_ | (with_reducible intro hc; (try simp only [decide_eq_true_eq, decide_eq_false_iff_not, Bool.not_true, Bool.not_false, Bool.not_eq_true', Bool.not_eq_false', ne_eq, not_true, reduceCtorEq, List.length_map] at hc); (try (exfalso; omega))) | with_reducible (first | exact trivial | refine And.intro ?_ ?_ | exact rfl) | exact Eq.refl true | (refine inR_i64.mpr ?_; first | omega | (simp only [List.length_map, List.length_map]; omega)) | omega | ((rcases hc with rfl | rfl <;> rfl)))
        refine round_end (j+1) hjt (by omega) (by (refine xwk (π := [3]) (by decide) rfl ?_ ?_; (first | simp -implicitDefEqProofs only [go_sem, Int.reduceEq, Int.reduceLT, Int.reduceLE, Nat.reduceAdd, Nat.reduceSub, Nat.reduceMul, Nat.reduceEqDiff, Nat.reduceLeDiff, Nat.reducePow, ↓reduceIte, reduceCtorEq, hs2, List.map_append, List.length_append, Int.natCast_add, Int.natCast_one, Int.add_assoc]); repeat' (first | exact renE_n | ((with_reducible apply renE_c); exact rfl; focus (first | (simp -implicitDefEqProofs only [go_sem, Int.reduceEq, Int.reduceLT, Int.reduceLE, Nat.reduceAdd, Nat.reduceSub, Nat.reduceMul, Nat.reduceEqDiff, Nat.reduceLeDiff, Nat.reducePow, ↓reduceIte, reduceCtorEq, hs2, List.map_append, List.length_append, Int.natCast_add, Int.natCast_one, Int.add_assoc]; done))))))
    have hj' : j = ys.length := by omega
    subst hj'
    rw [List.take_length, ← hst]
    repeat' (first | ((with_reducible apply xsim); (first | ((with_reducible apply xlenM); exact rfl; exact rfl) | ((with_reducible apply xo); exact rfl) | with_reducible apply xend)) | ((with_reducible apply xaw); (first | ((with_reducible apply xstepS); refine AW.step tok rfl ?_) | ((with_reducible apply xstep); refine AW.region tok rfl ?_) | with_reducible (first | refine AW.seq ?_ | refine AW.exit ?_) | ((with_reducible apply xcond); exact rfl))) | with_reducible (first | refine xthen ?_ | refine xthen_e ?_ | refine xblock ?_ | refine xblock_e ?_ | refine xround_e ?_) | (with_reducible intro hc; (try simp only [decide_eq_true_eq, decide_eq_false_iff_not, Bool.not_true, Bool.not_false, Bool.not_eq_true', Bool.not_eq_false', ne_eq, not_true, reduceCtorEq, List.length_map] at hc); (try (exfalso; omega))) | with_reducible (first | exact trivial | refine And.intro ?_ ?_ | exact rfl) | (refine inR_i64.mpr ?_; first | omega | (simp only [List.length_map, List.length_map]; omega)))
    refine round_end (m+1) hmt (by omega) (by (refine xwk (π := [0]) (by decide) rfl ?_ ?_; (first | simp -implicitDefEqProofs only [go_sem, Int.reduceEq, Int.reduceLT, Int.reduceLE, Nat.reduceAdd, Nat.reduceSub, Nat.reduceMul, Nat.reduceEqDiff, Nat.reduceLeDiff, Nat.reducePow, ↓reduceIte, reduceCtorEq, Int.natCast_add, Int.natCast_one]); repeat' (first | exact renE_n | ((with_reducible apply renE_c); exact rfl; focus (first | (simp -implicitDefEqProofs only [go_sem, Int.reduceEq, Int.reduceLT, Int.reduceLE, Nat.reduceAdd, Nat.reduceSub, Nat.reduceMul, Nat.reduceEqDiff, Nat.reduceLeDiff, Nat.reducePow, ↓reduceIte, reduceCtorEq, Int.natCast_add, Int.natCast_one]; done))))))
  have hm' : m = ks.length := by omega
  subst hm'
  repeat' (first | ((with_reducible apply xsim); (first | ((with_reducible apply xlenM); exact rfl; exact rfl) | ((with_reducible apply xo); exact rfl) | with_reducible apply xend)) | ((with_reducible apply xaw); (first | ((with_reducible apply xstepS); refine AW.step tok rfl ?_) | with_reducible (first | refine AW.seq ?_ | refine AW.ret ?_ | refine AW.exit ?_) | ((with_reducible apply xcond); exact rfl))) | with_reducible (first | refine xthen ?_ | refine xthen_e ?_ | refine xblock_e ?_ | refine xround_e ?_) | (with_reducible intro hc; (try simp only [decide_eq_true_eq, decide_eq_false_iff_not, Bool.not_true, Bool.not_false, Bool.not_eq_true', Bool.not_eq_false', ne_eq, not_true, reduceCtorEq, List.length_map] at hc); (try (exfalso; omega))) | with_reducible (first | exact trivial | refine And.intro ?_ ?_ | exact rfl))
  (refine xfinOwn [0] (by first | exact .inl rfl | exact .inr rfl) rfl (by repeat' (first | exact trivial | exact rfl | refine And.intro ?_ ?_)) (by decide) rfl ?_ ?_ <;> simp -implicitDefEqProofs only [go_sem, Int.reduceEq, Int.reduceLT, Int.reduceLE, Nat.reduceAdd, Nat.reduceSub, Nat.reduceMul, Nat.reduceEqDiff, Nat.reduceLeDiff, Nat.reducePow, ↓reduceIte, reduceCtorEq])

theorem pairs_ok {t : List Node} {R : Nat → Rect} {i : Nat} : ∀ m, m ≤ (kids t i).length → ∀ p ∈ pairsTo R (kids t i) m, p.1 ∈ kids t i ∧ p.2 ∈ kids t i ∧ p.1 < p.2 ∧ ∃ a b, ∃ (hab : a < b) (hb : b < (kids t i).length), (kids t i)[a]'(by omega) = p.1 ∧ (kids t i)[b] = p.2 ∧ meets (R p.1) (R p.2) = true := by
  intro m
  induction m with
  | zero => intro _ p hp; simp [pairsTo] at hp
  | succ m ih =>
    intro hm p hp
    rw [pairsTo_step (by omega)] at hp
    rcases List.mem_append.1 hp with hp | hp
    · exact ih (by omega) p hp
    · unfold pairsIn at hp
      obtain ⟨y, hy, rfl⟩ := List.mem_map.1 hp
      obtain ⟨hy1, hy2⟩ := List.mem_filter.1 hy
      obtain ⟨j, hj, rfl⟩ := List.mem_iff_getElem.1 hy1
      rw [List.length_drop] at hj
      simp only [List.getElem_drop] at hy2 ⊢
      have hs : (kids t i).Pairwise (· < ·) := List.Pairwise.filter _ List.pairwise_lt_range
      refine ⟨List.getElem_mem _, List.getElem_mem _, List.pairwise_iff_getElem.1 hs m (m + 1 + j) (by omega) (by omega) (by omega), m, m + 1 + j, by omega, by omega, rfl, rfl, hy2⟩
theorem pairs_pack {t : List Node} (hk : TreeK t) {w h : Int} (hw : 0 ≤ w ∧ w ≤ 400) (hh : 0 ≤ h ∧ h ≤ 400) {i : Nat} (hi : i < t.length) (h0 : (nodeAt t i).kind = 0) : pairsTo (rectAt t w h) (kids t i) (kids t i).length = [] := by
  refine List.eq_nil_iff_forall_not_mem.2 fun p hp => ?_
  obtain ⟨_, _, _, a, b, hab, hb, e1, e2, hm⟩ := pairs_ok _ (Nat.le_refl _) p hp
  have := pack_apart hk hw hh hi h0 hab hb
  rw [e1, e2, hm] at this
  cases this
end Go.Proofs.Yticgjepndfjafaa

namespace Go.Proofs.Yticgjepndfjafaa
open Go.Fw
attribute [local irreducible] Go.Fw.aops Go.Fw.arun

theorem overOf_len {t : List Node} {w h i : Int} : (overOf t w h i).length ≤ 200 := by
  unfold overOf
  split
  · rename_i hb
    rw [Bool.and_eq_true] at hb
    obtain ⟨htr, h0, hi⟩ := goodN_iff.1 hb.1
    have hk := treeK htr
    have hhi := hk.hi
    have hkl : (kids t i.toNat).length ≤ 10 := by have := kids_len t i.toNat t.length; unfold kids; omega
    have := pairsTo_len (R := rectAt t w h) hkl _ (Nat.le_refl _)
    rw [flat_len]; omega
  · simp
theorem over_good {t : List Node} {w h i : Int} (h0 : ¬ (overOf t w h i).length = 0) : (goodN t i && roomOk w h) = true := by
  unfold overOf at h0
  split at h0
  · assumption
  · exact absurd rfl h0
set_option maxRecDepth 8000 in
set_option maxHeartbeats 4000000 in
theorem c_FnOverlapsIn (cs : List Byte) (hl : cs.length < 2^63) : ACon Try.prog 12 [.d (.lst (cs.map encByte))] [] (Is (.d (.bool true))) := by
  refine ACon.introW tok (nt := 101) Try.func12 rfl rfl rfl (by kernel_rfl) rfl ?_
  repeat' (first | ((with_reducible apply xsim); (first | ((with_reducible apply xlenM); exact rfl; exact rfl) | ((with_reducible apply xo); exact rfl) | with_reducible apply xend)) | ((with_reducible apply xaw); (first | ((with_reducible apply xstepS); refine AW.step tok rfl ?_) | with_reducible (first | refine AW.seq ?_ | refine AW.skip ?_ | refine AW.ret ?_) | ((with_reducible apply xcond); exact rfl))) | with_reducible (first | refine xthen ?_ | refine xthen_r ?_) | (with_reducible intro hc; (try simp only [decide_eq_true_eq, decide_eq_false_iff_not, Bool.not_true, Bool.not_false, Bool.not_eq_true', Bool.not_eq_false', ne_eq, not_true, reduceCtorEq, List.length_map] at hc); (try (exfalso; omega))) | with_reducible (first | exact trivial | refine And.intro ?_ ?_ | exact rfl))
  · (refine xfinIs (by first | exact .inl rfl | exact .inr rfl) rfl (by repeat' (first | exact trivial | exact rfl | refine And.intro ?_ ?_)) rfl ?_ rfl; first | with_reducible exact rfl)
  repeat' ((fail_if_success (with_reducible apply xnocond)); first | ((with_reducible apply xsim); (first | ((with_reducible apply xo); exact rfl) | ((with_reducible apply xst); exact rfl) | with_reducible apply xend | ((with_reducible apply xalloc); exact rfl; simp only [backV, backVs, backVs_mapd, backId, backO, List.map_cons, List.map_nil, List.getElem?_nil, List.length_cons, List.length_nil, Nat.reduceAdd, Nat.reduceSub, List.cons_append, List.nil_append, List.append_nil]) | ((with_reducible apply xcallIs); exact rfl; exact rfl; exact ORows.data (c_OverI _ (TreeB.L (by assumption)) _ _ _); exact rfl) | ((with_reducible apply xcallSm); exact rfl; exact rfl; exact c_DrawOverlapsIn cs hl; rintro _ ⟨t, w, h, i, rfl, ht, hr1, hr2, hr3, hr4⟩))) | ((with_reducible apply xaw); ((with_reducible apply xstepS); refine AW.step tok rfl ?_)) | with_reducible (first | exact trivial | refine And.intro ?_ ?_) | exact Eq.refl true)
  have hL := ht.L
  have cS := ORows.data (c_OverS t hL w h i)
  have hol := overOf_len (t := t) (w := w) (h := h) (i := i)
  have cq := c_equalK (overOf t w h i) (by omega)
  refine AW.seq ?_
  by_cases hz : (overOf t w h i).length = 0
  · rw [List.length_eq_zero_iff] at hz
    rw [hz] at cS cq
    rw [hz]
    repeat' (first | ((with_reducible apply xsim); (first | ((with_reducible apply xlenM); exact rfl; exact rfl) | ((with_reducible apply xo); exact rfl) | with_reducible apply xend | ((with_reducible apply xguardS); exact rfl; exact rfl) | ((with_reducible apply xcallIs); exact rfl; exact rfl; (first | exact cS | exact cq); exact rfl))) | ((with_reducible apply xaw); (first | ((with_reducible apply xstepS); refine AW.step tok rfl ?_) | with_reducible refine AW.ret ?_ | ((with_reducible apply xcond); exact rfl))) | with_reducible refine xthen_r ?_ | (with_reducible intro hc; (try simp only [decide_eq_true_eq, decide_eq_false_iff_not, Bool.not_true, Bool.not_false, Bool.not_eq_true', Bool.not_eq_false', ne_eq, not_true, reduceCtorEq, List.length_map, List.length_nil] at hc); (try (exfalso; omega))) | with_reducible (first | exact trivial | refine And.intro ?_ ?_ | exact rfl) | exact Eq.refl true)
    all_goals (refine xfinIs (by first | exact .inl rfl | exact .inr rfl) rfl (by repeat' (first | exact trivial | exact rfl | refine And.intro ?_ ?_)) rfl ?_ rfl; first | with_reducible exact rfl)
  have hb := over_good hz
  have e : overOf t w h i = flat (pairsTo (rectAt t w h) (kids t i.toNat) (kids t i.toNat).length) := by rw [overOf, if_pos hb]
  rw [Bool.and_eq_true] at hb
  obtain ⟨htr, h0, hi⟩ := goodN_iff.1 hb.1
  have hk := treeK htr
  have hrm := roomOk_iff hb.2
  have hlo := hk.lo; have hhi := hk.hi
  have hok := pairs_ok (t := t) (R := rectAt t w h) (i := i.toNat) _ (Nat.le_refl _)
  have hrow := at_map (f := encNode) hi
  have hrow1 : (t.map encNode)[i.toNat]? = some (encNode t[i.toNat]) := hrow
  have hkd : t[i.toNat].kind ≠ 0 := fun h0' => by
    have := pairs_pack hk (w := w) (h := h) (by omega) (by omega) hi (by rw [nodeAt_eq hi]; exact h0')
    rw [e, this] at hz
    exact hz rfl
  rw [e] at cS cq hz hol
  rw [e]
  generalize pairsTo (rectAt t w h) (kids t i.toNat) (kids t i.toNat).length = ps at *
  have hfl := flat_len ps
  have hmod : ((flat ps).length : Int).tmod 2 = 0 := by
    rw [Int.tmod_eq_emod_of_nonneg (by omega)]; omega
  repeat' (first | ((with_reducible apply xsim); (first | ((with_reducible apply xlenM); exact rfl; exact rfl) | ((with_reducible apply xo); exact rfl) | with_reducible apply xend | ((with_reducible apply xguardS); exact rfl; exact rfl) | ((with_reducible apply xcallIs); exact rfl; exact rfl; (first | exact cS | exact cq); exact rfl))) | ((with_reducible apply xaw); (first | ((with_reducible apply xstepS); refine AW.step tok rfl ?_) | with_reducible (first | refine AW.seq ?_ | refine AW.block ?_ | refine AW.skip ?_) | ((with_reducible apply xcond); exact rfl))) | with_reducible refine xthen ?_ | (with_reducible intro hc; (try simp only [decide_eq_true_eq, decide_eq_false_iff_not, Bool.not_true, Bool.not_false, Bool.not_eq_true', Bool.not_eq_false', ne_eq, not_true, reduceCtorEq, List.length_map] at hc); (try (exfalso; omega))) | with_reducible (first | exact trivial | refine And.intro ?_ ?_ | exact rfl) | exact Eq.refl true)
  refine AW.loop (S := fun k : Nat => ⟨[(3, .oref 0 0), (6, .d (.int .i64 i)), (7, .d (.lst ((flat ps).map encK))), (8, .d (.int .i64 (2 * (k : Int))))], [.box [.d (.lst (t.map encNode))]], 101, 0⟩)
    (Pre := fun k => k ≤ ps.length) (μ := fun k => ps.length - k) 0 (Nat.zero_le _) ?_ ?_
  · (refine xwk (π := [0]) (by decide) rfl ?_ ?_; (first | simp -implicitDefEqProofs only [go_sem, Int.reduceEq, Int.reduceLT, Int.reduceLE, Nat.reduceAdd, Nat.reduceSub, Nat.reduceMul, Nat.reduceEqDiff, Nat.reduceLeDiff, Nat.reducePow, ↓reduceIte, reduceCtorEq]); repeat' (first | exact renE_n | ((with_reducible apply renE_c); exact rfl; focus (first | (simp -implicitDefEqProofs only [go_sem, Int.reduceEq, Int.reduceLT, Int.reduceLE, Nat.reduceAdd, Nat.reduceSub, Nat.reduceMul, Nat.reduceEqDiff, Nat.reduceLeDiff, Nat.reducePow, ↓reduceIte, reduceCtorEq]; done) | (simp -implicitDefEqProofs only [go_sem, Int.reduceEq, Int.reduceLT, Int.reduceLE, Nat.reduceAdd, Nat.reduceSub, Nat.reduceMul, Nat.reduceEqDiff, Nat.reduceLeDiff, Nat.reducePow, ↓reduceIte, reduceCtorEq]; omega)))))
  intro k hkk
  by_cases hlt : k < ps.length
  · obtain ⟨g1, g2⟩ := flat_get ps k hlt
    have h1 : ((flat ps).map encK)[((2 : Int) * (k : Int)).toNat]? = some (encK ps[k].1) := by rw [show ((2 : Int) * (k : Int)).toNat = 2 * k by omega, List.getElem?_map, g1]; rfl
    have h2 : ((flat ps).map encK)[((2 : Int) * (k : Int) + 1).toNat]? = some (encK ps[k].2) := by rw [show ((2 : Int) * (k : Int) + 1).toNat = 2 * k + 1 by omega, List.getElem?_map, g2]; rfl
    obtain ⟨a1, a2, a3, _⟩ := hok _ (List.getElem_mem hlt)
    obtain ⟨b1, b2, b3⟩ := hk.kid a1
    obtain ⟨d1, d2, d3⟩ := hk.kid a2
    have hn1 := at_map (f := encNode) b1
    have hn2 := at_map (f := encNode) d1
    repeat' (first | ((with_reducible apply xsim); (first | ((with_reducible apply xlenM); exact rfl; exact rfl) | ((with_reducible apply xo); exact rfl) | with_reducible apply xend | ((with_reducible apply xguardS); exact rfl; exact rfl) | ((with_reducible apply xidxL); exact rfl; exact rfl; exact rfl; (first | exact h1 | exact h2 | exact hn1 | exact hn2); omega; first | exact rfl | simp only [hsz]))) | ((with_reducible apply xaw); (first | ((with_reducible apply xstepS); refine AW.step tok rfl ?_) | ((with_reducible apply xstep); refine AW.region tok rfl ?_) | with_reducible (first | refine AW.seq ?_ | refine AW.block ?_ | refine AW.skip ?_) | ((with_reducible apply xcond); exact rfl) | ((with_reducible apply xdraw (id := 10)); refine AW.draw (id := 10) (.q 0 (.q 1 (.q 2 (.q 3 (.q 4 (.q 5 (.q 6 (.q 7 (.q 8 (.q 9 (.q 10 (.q 11 (.q 12 (.q 13 (.q 14 (.q 15 (.q 16 (.q 17 (.q 18 (.q 19 (.q 20 (.q 21 (.q 22 (.q 23 (.q 24 (.q 25 (.q 26 (.q 27 (.q 28 (.q 29 (.q 30 (.q 31 (.q 32 (.q 33 (.q 34 (.q 35 (.q 36 (.fin)))))))))))))))))))))))))))))))))))))) tok (by kernel_rfl) rfl (by kernel_rfl) ?_))) | ((with_reducible apply xarun); (first | ((with_reducible apply xrun_q); exact rfl; exact rfl; exact rfl) | with_reducible apply xrun_f)) | with_reducible (first | refine xthen ?_ | refine xblock ?_) | (with_reducible intro hc; (try simp only [decide_eq_true_eq, decide_eq_false_iff_not, Bool.not_true, Bool.not_false, Bool.not_eq_true', Bool.not_eq_false', ne_eq, not_true, reduceCtorEq, List.length_map, hfl] at hc); (try (exfalso; omega))) | with_reducible (first | exact trivial | refine And.intro ?_ ?_ | exact rfl) | (refine inR_i64.mpr ?_; first | omega | (simp only [List.length_map, List.length_map, hfl]; omega)))
    all_goals refine round_end (k+1) hlt (by omega) (by (refine xwk (π := [0]) (by decide) rfl ?_ ?_; (first | simp -implicitDefEqProofs only [go_sem, Int.reduceEq, Int.reduceLT, Int.reduceLE, Nat.reduceAdd, Nat.reduceSub, Nat.reduceMul, Nat.reduceEqDiff, Nat.reduceLeDiff, Nat.reducePow, ↓reduceIte, reduceCtorEq, Int.natCast_add, Int.natCast_one, Int.mul_add]); repeat' (first | exact renE_n | ((with_reducible apply renE_c); exact rfl; focus (first | (simp -implicitDefEqProofs only [go_sem, Int.reduceEq, Int.reduceLT, Int.reduceLE, Nat.reduceAdd, Nat.reduceSub, Nat.reduceMul, Nat.reduceEqDiff, Nat.reduceLeDiff, Nat.reducePow, ↓reduceIte, reduceCtorEq, Int.natCast_add, Int.natCast_one, Int.mul_add]; done) | (simp -implicitDefEqProofs only [go_sem, Int.reduceEq, Int.reduceLT, Int.reduceLE, Nat.reduceAdd, Nat.reduceSub, Nat.reduceMul, Nat.reduceEqDiff, Nat.reduceLeDiff, Nat.reducePow, ↓reduceIte, reduceCtorEq, Int.natCast_add, Int.natCast_one, Int.mul_add]; omega))))))
  have hk' : k = ps.length := by omega
  subst hk'
  repeat' (first | ((with_reducible apply xsim); (first | ((with_reducible apply xlenM); exact rfl; exact rfl) | ((with_reducible apply xo); exact rfl) | with_reducible apply xend | ((with_reducible apply xguardS); exact rfl; exact rfl) | ((with_reducible apply xidxL); exact rfl; exact rfl; exact rfl; (first | exact hrow1); omega; first | exact rfl | simp only [hsz]))) | ((with_reducible apply xaw); (first | ((with_reducible apply xstepS); refine AW.step tok rfl ?_) | with_reducible (first | refine AW.seq ?_ | refine AW.ret ?_ | refine AW.exit ?_) | ((with_reducible apply xcond); exact rfl))) | with_reducible (first | refine xthen ?_ | refine xthen_e ?_ | refine xblock_e ?_ | refine xround_e ?_) | (with_reducible intro hc; (try simp only [decide_eq_true_eq, decide_eq_false_iff_not, Bool.not_true, Bool.not_false, Bool.not_eq_true', Bool.not_eq_false', ne_eq, not_true, reduceCtorEq, List.length_map, hfl] at hc); (try (exfalso; omega))) | with_reducible (first | exact trivial | refine And.intro ?_ ?_ | exact rfl) | (refine inR_i64.mpr ?_; first | omega | (simp only [List.length_map, List.length_map, hfl]; omega)) | omega)
  all_goals (refine xfinIs (by first | exact .inl rfl | exact .inr rfl) rfl (by repeat' (first | exact trivial | exact rfl | refine And.intro ?_ ?_)) rfl ?_ rfl; first | (simp -implicitDefEqProofs only [go_sem, Int.reduceEq, Int.reduceLT, Int.reduceLE, Nat.reduceAdd, Nat.reduceSub, Nat.reduceMul, Nat.reduceEqDiff, Nat.reduceLeDiff, Nat.reducePow, ↓reduceIte, reduceCtorEq] <;> (first | rfl | omega | exact decide_eq_decide.2 (by omega) | exact decide_eq_false (by omega) | exact decide_eq_true (by omega) | (symm; first | exact decide_eq_false (by omega) | exact decide_eq_true (by omega)) | (rw [Bool.eq_iff_iff]; simp only [Bool.not_eq_true', Bool.not_eq_false', Bool.and_eq_true, Bool.or_eq_true, decide_eq_true_eq, decide_eq_false_iff_not, reduceCtorEq, true_iff, iff_true, false_iff, iff_false]; omega))))
end Go.Proofs.Yticgjepndfjafaa

