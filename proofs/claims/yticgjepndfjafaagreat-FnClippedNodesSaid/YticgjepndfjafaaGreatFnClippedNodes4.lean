/- Contracts of the functions and the plain law behind them, as far as FnClippedNodes needs them; joined out of the texts T17 R3 K8 T31 T18 T19 T21 T20 T32 L0 T25 L8 L9. -/
import Derived.Deep.Slices
import Derived.Deep.Fields
import Derived.ChangeSame
import Derived.Below
import Derived.ProofKit
import Derived.Test.YticgjepndfjafaaGreatFnClippedNodes3
set_option linter.unusedSimpArgs false
set_option linter.unusedVariables false
namespace Go.Proofs.YticgjepndfjafaaGreat
open Go.Fw
attribute [local irreducible] Go.Fw.aops Go.Fw.arun

/-- A node, and all at or below some of its kids. -/
def belTo (t : List Node) (i m : Nat) (j : Nat) : Bool := decide (j = i) || ((kids t i).take m).any fun k => bel t k j
section
variable {t : List Node} {w h : Int} {out : List Rect}
theorem belTo_zero {i : Nat} : out.set i (rectAt t w h i) = lay t w h (belTo t i 0) out := by
  have e := lay_set (t := t) (w := w) (h := h) (A := fun _ => false) (out := out) (k := i)
  rw [lay_none fun _ _ => rfl] at e
  rw [e]
  exact lay_congr fun j _ => by simp [belTo]
theorem belTo_step {i m : Nat} (hm : m < (kids t i).length) : lay t w h (bel t (kids t i)[m]) (lay t w h (belTo t i m) out) = lay t w h (belTo t i (m + 1)) out := by
  rw [lay_lay]
  refine lay_congr fun j _ => ?_
  unfold belTo
  rw [List.take_succ_eq_append_getElem hm, List.any_append, Bool.or_assoc]
  congr 2
  simp only [List.any_cons, List.any_nil, Bool.or_false]
theorem belTo_all (hk : TreeK t) {i : Nat} (hi : i < t.length) : lay t w h (belTo t i (kids t i).length) out = lay t w h (bel t i) out := by
  refine lay_congr fun j _ => ?_
  rw [belTo, List.take_length, bel_eq hk hi]
end

set_option maxRecDepth 8000 in
set_option maxHeartbeats 8000000 in
theorem c_laid (t : List Node) (hk : TreeK t) (w h : Int) (hw : 0 ≤ w ∧ w ≤ 400) (hh : 0 ≤ h ∧ h ≤ 400) : ∀ m i : Nat, t.length - i ≤ m → i < t.length → ∀ out : List Rect, out.length = t.length →
    ACon Tryz.prog 54 [vTree t, .d (.int .i64 (i : Int)), vRect (rectAt t w h i), .msl 0 4 0 t.length] [.arr 4 (out.map encRect)] (Own (.tup []) [.arr 4 ((lay t w h (bel t i) out).map encRect)]) := by
  intro m
  induction m with
  | zero => intro i h1 h2; omega
  | succ m ih =>
    intro i h1 hlt out hol
    have hlo := hk.lo; have hhi := hk.hi
    have hb := rect_bd hk hw hh i hlt
    have hrm := fun m (hm : m < (kids t i).length) => rectAt_kid hk (w := w) (v := h) hm
    have hz := belTo_zero (t := t) (w := w) (h := h) (out := out) (i := i)
    have hset0 : (out.map encRect).set i (encRect (rectAt t w h i)) = (lay t w h (belTo t i 0) out).map encRect := by rw [← List.map_set, hz]
    generalize hr : rectAt t w h i = r at *
    have hin := hb.in (by omega)
    obtain ⟨b1, b2, b3, b4⟩ := hb
    have hrow := at_map (f := encNode) hlt
    have hcell := at_map (f := encRect) (xs := out) (k := i) (by omega)
    generalize out[i]'(by omega) = z0 at hcell
    have hkl : (kids t i).length ≤ 10 := by have := kids_len t i t.length; unfold kids; omega
    have hks : ∀ k ∈ kids t i, k < t.length := fun k hk' => (hk.kid hk').1
    have c1 := c_kidsS t hk i
    have c2 := ORows.data (c_packsS t hk _ hks hkl fun k hk' => c_sizeOf t hk k (hks k hk'))
    have c3 := c_gridS t hk i hlt _ hks hkl fun k hk' => c_sizeOf t hk k (hks k hk')
    have c4 := ORows.data (c_packed (itemsOf t (kids t i)) r hin (items_ok hk i).1 (items_ok hk i).2)
    have hkd := (nodeOk_iff (hk.ok i hlt)).1
    have hkr : kidRects t i r = if t[i].kind = 0 then packed (itemsOf t (kids t i)) r else if t[i].kind = 1 then gridRectsIn (gridOf t i (kids t i)) r else (kids t i).map fun k => placed (nodeAt t k).place r := by
      rw [← nodeAt_eq hlt]; rfl
    simp only [encRect] at hset0
    refine ACon.introW tok (nt := 78) Tryz.func54 rfl rfl rfl (by kernel_rfl) rfl ?_
    repeat' ((fail_if_success (with_reducible first | apply xnoblock | apply xnoblockT)); first | ((with_reducible apply xsim); (first | ((with_reducible apply xo); exact rfl) | with_reducible apply xend | ((with_reducible apply xbox); exact rfl; simp only [backV, backVs, backVs_mapd, backId, backO, List.map_cons, List.map_nil, List.getElem?_nil, List.length_cons, List.length_nil, Nat.reduceAdd, Nat.reduceSub, List.cons_append, List.nil_append, List.append_nil]) | ((with_reducible apply xbuild); exact rfl; exact rfl; exact rfl; exact rfl; exact rfl; simp only [backV, backVs, backVs_mapd, backId, backO, List.map_cons, List.map_nil, List.getElem?_nil, List.length_cons, List.length_nil, Nat.reduceAdd, Nat.reduceSub, List.cons_append, List.nil_append, List.append_nil]) | ((with_reducible apply xidxL); exact rfl; exact rfl; exact rfl; (first | exact hcell | exact hrow); omega; first | exact rfl | simp only [hsz]) | ((with_reducible apply xidxM); exact rfl; exact rfl; exact rfl; omega; omega; exact rfl) | ((with_reducible apply xstA); exact rfl; exact rfl; exact rfl; exact rfl; (first | exact hcell | exact hrow); exact rfl; exact rfl; exact rfl; exact rfl; (try simp only [List.set_cons_zero, List.set_cons_succ, List.length_map])) | ((with_reducible apply xcallIs); exact rfl; exact rfl; exact c1; exact rfl))) | ((with_reducible apply xaw); (first | ((with_reducible apply xstepS); refine AW.step tok rfl ?_) | with_reducible refine AW.seq ?_)) | with_reducible exact trivial | exact Eq.refl true)
    refine AW.cutBT (S := fun _ : Unit => ⟨[(3, .msl 0 4 0 t.length), (4, .oref 1 0), (8, .d (.lst ((kids t i).map encK))), (9, .d (.lst ((kidRects t i r).map encRect)))],
      [.arr 4 ((lay t w h (belTo t i 0) out).map encRect), .box [.d (.lst (t.map encNode))]], 78, 1⟩) (Pre := fun _ => True) ?_ ?_
    · by_cases hk0 : t[i].kind = 0
      · rw [if_pos hk0] at hkr
        repeat' (first | ((with_reducible apply xsim); (first | ((with_reducible apply xo); exact rfl) | with_reducible apply xend)) | ((with_reducible apply xaw); (first | ((with_reducible apply xstepS); refine AW.step tok rfl ?_) | ((with_reducible apply xcond); exact rfl) | ((with_reducible apply xdraw (id := 10)); refine AW.draw (id := 10) (.q 0 (.q 1 (.q 2 (.q 3 (.q 4 (.q 5 (.fin))))))) tok (by kernel_rfl) rfl (by kernel_rfl) ?_))) | ((with_reducible apply xarun); (first | ((with_reducible apply xrun_q); exact rfl; exact rfl; exact rfl) | ((with_reducible apply xrun_c); exact rfl; exact rfl; exact rfl; exact rfl; exact rfl; exact rfl; (first | exact c2 | exact c4); exact rfl) | with_reducible apply xrun_f)) | with_reducible refine xblock ?_ | (with_reducible intro hc; (try simp only [decide_eq_true_eq, decide_eq_false_iff_not, Bool.not_true, Bool.not_false, Bool.not_eq_true', Bool.not_eq_false', ne_eq, not_true, reduceCtorEq, List.length_map] at hc); (try (exfalso; omega))) | with_reducible (first | exact trivial | refine And.intro ?_ ?_ | exact rfl) | exact Eq.refl true)
        refine cut_end () trivial (by (refine xwk (π := [0, 1]) (by decide) rfl ?_ ?_; (first | simp -implicitDefEqProofs only [go_sem, Int.reduceEq, Int.reduceLT, Int.reduceLE, Nat.reduceAdd, Nat.reduceSub, Nat.reduceMul, Nat.reduceEqDiff, Nat.reduceLeDiff, Nat.reducePow, ↓reduceIte, reduceCtorEq, hkr, hset0]); repeat' (first | exact renE_n | ((with_reducible apply renE_c); exact rfl; focus (first | (simp -implicitDefEqProofs only [go_sem, Int.reduceEq, Int.reduceLT, Int.reduceLE, Nat.reduceAdd, Nat.reduceSub, Nat.reduceMul, Nat.reduceEqDiff, Nat.reduceLeDiff, Nat.reducePow, ↓reduceIte, reduceCtorEq, hkr, hset0]; done))))))
      · rw [if_neg hk0] at hkr
        by_cases hk1 : t[i].kind = 1
        · rw [if_pos hk1] at hkr
          have c5 := ORows.data (c_gridded (gridOf t i (kids t i)) r (grid_ok hk hlt (by rw [nodeAt_eq hlt]; exact hk1)) (by omega) (by omega) (by omega) (by omega))
          repeat' (first | ((with_reducible apply xsim); (first | ((with_reducible apply xo); exact rfl) | with_reducible apply xend)) | ((with_reducible apply xaw); (first | ((with_reducible apply xstepS); refine AW.step tok rfl ?_) | ((with_reducible apply xcond); exact rfl) | ((with_reducible apply xdraw (id := 12)); refine AW.draw (id := 12) (.q 0 (.q 1 (.q 2 (.q 3 (.q 4 (.q 5 (.q 6 (.fin)))))))) tok (by kernel_rfl) rfl (by kernel_rfl) ?_))) | ((with_reducible apply xarun); (first | ((with_reducible apply xrun_q); exact rfl; exact rfl; exact rfl) | ((with_reducible apply xrun_c); exact rfl; exact rfl; exact rfl; exact rfl; exact rfl; exact rfl; (first | exact c3 | exact c5); exact rfl) | with_reducible apply xrun_f)) | with_reducible refine xblock ?_ | (with_reducible intro hc; (try simp only [decide_eq_true_eq, decide_eq_false_iff_not, Bool.not_true, Bool.not_false, Bool.not_eq_true', Bool.not_eq_false', ne_eq, not_true, reduceCtorEq, List.length_map] at hc); (try (exfalso; omega))) | with_reducible (first | exact trivial | refine And.intro ?_ ?_ | exact rfl) | exact Eq.refl true)
          refine cut_end () trivial (by (refine xwk (π := [0, 1]) (by decide) rfl ?_ ?_; (first | simp -implicitDefEqProofs only [go_sem, Int.reduceEq, Int.reduceLT, Int.reduceLE, Nat.reduceAdd, Nat.reduceSub, Nat.reduceMul, Nat.reduceEqDiff, Nat.reduceLeDiff, Nat.reducePow, ↓reduceIte, reduceCtorEq, hkr, hset0]); repeat' (first | exact renE_n | ((with_reducible apply renE_c); exact rfl; focus (first | (simp -implicitDefEqProofs only [go_sem, Int.reduceEq, Int.reduceLT, Int.reduceLE, Nat.reduceAdd, Nat.reduceSub, Nat.reduceMul, Nat.reduceEqDiff, Nat.reduceLeDiff, Nat.reducePow, ↓reduceIte, reduceCtorEq, hkr, hset0]; done))))))
        · rw [if_neg hk1] at hkr
          repeat' (first | ((with_reducible apply xsim); (first | ((with_reducible apply xo); exact rfl) | with_reducible apply xend)) | ((with_reducible apply xaw); (first | ((with_reducible apply xstepS); refine AW.step tok rfl ?_) | with_reducible refine AW.block ?_ | ((with_reducible apply xcond); exact rfl))) | (with_reducible intro hc; (try simp only [decide_eq_true_eq, decide_eq_false_iff_not, Bool.not_true, Bool.not_false, Bool.not_eq_true', Bool.not_eq_false', ne_eq, not_true, reduceCtorEq, List.length_map] at hc); (try (exfalso; omega))) | with_reducible (first | exact trivial | refine And.intro ?_ ?_ | exact rfl))
          refine AW.loop (S := fun m : Nat => ⟨[(3, .msl 0 4 0 t.length), (4, .oref 1 0), (6, .oref 2 0), (8, .d (.lst ((kids t i).map encK))), (9, .msl 3 4 0 m), (10, .d (.int .i64 m))],
              [.arr 4 ((lay t w h (belTo t i 0) out).map encRect), .box [.d (.lst (t.map encNode))], .box ((encRect r).map .d), .arr 4 (((kids t i).map fun k => placed (nodeAt t k).place r).take m |>.map encRect)], 78, 1⟩)
            (Pre := fun m => m ≤ (kids t i).length) (μ := fun m => (kids t i).length - m) 0 (Nat.zero_le _) ?_ ?_
          · (refine xwk (π := [0, 1, 2, 3]) (by decide) rfl ?_ ?_; (first | simp -implicitDefEqProofs only [go_sem, Int.reduceEq, Int.reduceLT, Int.reduceLE, Nat.reduceAdd, Nat.reduceSub, Nat.reduceMul, Nat.reduceEqDiff, Nat.reduceLeDiff, Nat.reducePow, ↓reduceIte, reduceCtorEq, List.take_zero, hset0]); repeat' (first | exact renE_n | ((with_reducible apply renE_c); exact rfl; focus (first | (simp -implicitDefEqProofs only [go_sem, Int.reduceEq, Int.reduceLT, Int.reduceLE, Nat.reduceAdd, Nat.reduceSub, Nat.reduceMul, Nat.reduceEqDiff, Nat.reduceLeDiff, Nat.reducePow, ↓reduceIte, reduceCtorEq, List.take_zero, hset0]; done)))))
          intro m hm
          have hml : (((kids t i).map fun k => placed (nodeAt t k).place r).take m).length = m := by simp; omega
          by_cases hmt : m < (kids t i).length
          · have hrk := at_map (f := encK) hmt
            have hkm := hks _ (List.getElem_mem hmt)
            have hrn := at_map (f := encNode) hkm
            have hs := placed_take (t := t) (r := r) hmt
            rw [nodeAt_eq hkm] at hs
            have c6 := c_placeS t[(kids t i)[m]].place r (nodeOk_iff (hk.ok _ hkm)).2.2.2.1 hin
            generalize placed t[(kids t i)[m]].place r = q at hs c6
            repeat' (first | ((with_reducible apply xsim); (first | ((with_reducible apply xlenM); exact rfl; exact rfl) | ((with_reducible apply xo); exact rfl) | with_reducible apply xend | ((with_reducible apply xbuild); exact rfl; exact rfl; exact rfl; exact rfl; exact rfl; simp only [backV, backVs, backVs_mapd, backId, backO, List.map_cons, List.map_nil, List.getElem?_nil, List.length_cons, List.length_nil, Nat.reduceAdd, Nat.reduceSub, List.cons_append, List.nil_append, List.append_nil]) | ((with_reducible apply xidxL); exact rfl; exact rfl; exact rfl; (first | exact hrk | exact hrn); omega; first | exact rfl | simp only [hsz]) | simp -implicitDefEqProofs only [go_sem, Int.reduceEq, Int.reduceLT, Int.reduceLE, Nat.reduceAdd, Nat.reduceSub, Nat.reduceMul, Nat.reduceEqDiff, Nat.reduceLeDiff, Nat.reducePow, ↓reduceIte, reduceCtorEq, List.length_map, hml])) | ((with_reducible apply xaw); (first | ((with_reducible apply xstepS); refine AW.step tok rfl ?_) | ((with_reducible apply xstep); refine AW.region tok rfl ?_) | with_reducible (first | refine AW.seq ?_ | refine AW.block ?_ | refine AW.skip ?_) | ((with_reducible apply xcond); exact rfl) | ((with_reducible apply xdraw (id := 8)); refine AW.draw (id := 8) (.q 0 (.q 1 (.q 2 (.q 3 (.q 4 (.q 5 (.q 6 (.q 7 (.q 8 (.q 9 (.q 10 (.q 11 (.e 12 (.e 13 (.q 14 (.fin)))))))))))))))) tok (by kernel_rfl) rfl (by kernel_rfl) ?_))) | ((with_reducible apply xarun); (first | ((with_reducible apply xrun_q); exact rfl; exact rfl; exact rfl) | ((with_reducible apply xrun_c); exact rfl; exact rfl; exact rfl; exact rfl; exact rfl; exact rfl; exact c6; exact rfl) | ((with_reducible apply xrun_e); exact rfl))) | with_reducible refine xthen ?_ | (with_reducible intro hc; (try simp only [decide_eq_true_eq, decide_eq_false_iff_not, Bool.not_true, Bool.not_false, Bool.not_eq_true', Bool.not_eq_false', ne_eq, not_true, reduceCtorEq, List.length_map, hml] at hc); (try (exfalso; omega))) | with_reducible (first | exact trivial | refine And.intro ?_ ?_ | exact rfl) | exact Eq.refl true | (refine inR_i64.mpr ?_; first | omega | (simp only [List.length_map, List.length_map, hml]; omega)) | omega)
            refine round_end (m+1) hmt (by omega) (by (refine xwk (π := [0, 1, 2, 5]) (by decide) rfl ?_ ?_; (first | simp -implicitDefEqProofs only [go_sem, Int.reduceEq, Int.reduceLT, Int.reduceLE, Nat.reduceAdd, Nat.reduceSub, Nat.reduceMul, Nat.reduceEqDiff, Nat.reduceLeDiff, Nat.reducePow, ↓reduceIte, reduceCtorEq, hs, List.map_append]); repeat' (first | exact renE_n | ((with_reducible apply renE_c); exact rfl; focus (first | (simp -implicitDefEqProofs only [go_sem, Int.reduceEq, Int.reduceLT, Int.reduceLE, Nat.reduceAdd, Nat.reduceSub, Nat.reduceMul, Nat.reduceEqDiff, Nat.reduceLeDiff, Nat.reducePow, ↓reduceIte, reduceCtorEq, hs, List.map_append]; done))))))
          have hm' : m = (kids t i).length := by omega
          subst hm'
          have hta : ((kids t i).map fun k => placed (nodeAt t k).place r).take (kids t i).length = (kids t i).map fun k => placed (nodeAt t k).place r := List.take_of_length_le (by simp)
          rw [hta, ← hkr]
          repeat' (first | ((with_reducible apply xsim); (first | ((with_reducible apply xlenM); exact rfl; exact rfl) | ((with_reducible apply xo); exact rfl) | with_reducible apply xend)) | ((with_reducible apply xaw); (first | ((with_reducible apply xstepS); refine AW.step tok rfl ?_) | with_reducible (first | refine AW.seq ?_ | refine AW.exit ?_) | ((with_reducible apply xcond); exact rfl))) | with_reducible (first | refine xthen_e ?_ | refine xblock ?_ | refine xblock_e ?_ | refine xround_e ?_) | (with_reducible intro hc; (try simp only [decide_eq_true_eq, decide_eq_false_iff_not, Bool.not_true, Bool.not_false, Bool.not_eq_true', Bool.not_eq_false', ne_eq, not_true, reduceCtorEq, List.length_map] at hc); (try (exfalso; omega))) | with_reducible (first | exact trivial | refine And.intro ?_ ?_ | exact rfl))
          refine cutW (Weak.freezeA 9 3 4 rfl rfl (by rw [List.length_map, kidRects_len hk])) ?_
          refine cut_end () trivial (by (refine xwk (π := [0, 1]) (by decide) rfl ?_ ?_; (first | simp -implicitDefEqProofs only [go_sem, Int.reduceEq, Int.reduceLT, Int.reduceLE, Nat.reduceAdd, Nat.reduceSub, Nat.reduceMul, Nat.reduceEqDiff, Nat.reduceLeDiff, Nat.reducePow, ↓reduceIte, reduceCtorEq]); repeat' (first | exact renE_n | ((with_reducible apply renE_c); exact rfl; focus (first | (simp -implicitDefEqProofs only [go_sem, Int.reduceEq, Int.reduceLT, Int.reduceLE, Nat.reduceAdd, Nat.reduceSub, Nat.reduceMul, Nat.reduceEqDiff, Nat.reduceLeDiff, Nat.reducePow, ↓reduceIte, reduceCtorEq]; done))))))
    rintro ⟨⟩ -
    have hql := kidRects_len hk (i := i) r
    repeat' (first | ((with_reducible apply xsim); (first | ((with_reducible apply xo); exact rfl) | with_reducible apply xend)) | ((with_reducible apply xaw); (first | ((with_reducible apply xstepS); refine AW.step tok rfl ?_) | with_reducible refine AW.block ?_)) | with_reducible exact trivial)
    refine AW.loop (S := fun m : Nat => ⟨[(3, .msl 0 4 0 t.length), (4, .oref 1 0), (8, .d (.lst ((kids t i).map encK))), (9, .d (.lst ((kidRects t i r).map encRect))), (11, .d (.int .i64 m))],
      [.arr 4 ((lay t w h (belTo t i m) out).map encRect), .box [.d (.lst (t.map encNode))]], 78, 1⟩)
      (Pre := fun m => m ≤ (kids t i).length) (μ := fun m => (kids t i).length - m) 0 (Nat.zero_le _) ?_ ?_
    · (refine xwk (π := [0, 1]) (by decide) rfl ?_ ?_; (first | simp -implicitDefEqProofs only [go_sem, Int.reduceEq, Int.reduceLT, Int.reduceLE, Nat.reduceAdd, Nat.reduceSub, Nat.reduceMul, Nat.reduceEqDiff, Nat.reduceLeDiff, Nat.reducePow, ↓reduceIte, reduceCtorEq]); repeat' (first | exact renE_n | ((with_reducible apply renE_c); exact rfl; focus (first | (simp -implicitDefEqProofs only [go_sem, Int.reduceEq, Int.reduceLT, Int.reduceLE, Nat.reduceAdd, Nat.reduceSub, Nat.reduceMul, Nat.reduceEqDiff, Nat.reduceLeDiff, Nat.reducePow, ↓reduceIte, reduceCtorEq]; done)))))
    intro m hm
    by_cases hmt : m < (kids t i).length
    · have hrk := at_map (f := encK) hmt
      obtain ⟨hkm, hik, _⟩ := hk.kid (List.getElem_mem hmt)
      have hrq : ((kidRects t i r).map encRect)[m]? = some (encRect (rectAt t w h (kids t i)[m])) := by
        rw [at_map (f := encRect) (xs := kidRects t i r) (k := m) (by omega), hrm m hmt]
      have cl := ih (kids t i)[m] (by omega) hkm (lay t w h (belTo t i m) out) (by rw [lay_len]; exact hol)
      rw [belTo_step hmt] at cl
      repeat' (first | ((with_reducible apply xsim); (first | ((with_reducible apply xlenM); exact rfl; exact rfl) | ((with_reducible apply xo); exact rfl) | with_reducible apply xend | ((with_reducible apply xidxL); exact rfl; exact rfl; exact rfl; (first | exact hrk | exact hrq); omega; first | exact rfl | simp only [hsz]) | ((with_reducible apply xcallHand 0); exact rfl; exact rfl; exact cl; (focus (first | exact rfl | (simp -implicitDefEqProofs only [go_sem, ↓reduceIte, Nat.reduceEqDiff, List.length_map]; done))); exact rfl; (first | exact .inl rfl | exact .inr ⟨_, _, rfl⟩); (try simp only [List.set_cons_zero, List.set_cons_succ])))) | ((with_reducible apply xaw); (first | ((with_reducible apply xstepS); refine AW.step tok rfl ?_) | ((with_reducible apply xstep); refine AW.region tok rfl ?_) | with_reducible (first | refine AW.seq ?_ | refine AW.block ?_ | refine AW.skip ?_) | ((with_reducible apply xcond); exact rfl) | ((with_reducible apply xdraw (id := 16)); refine AW.draw (id := 16) (.q 0 (.q 1 (.q 2 (.q 3 (.q 4 (.q 5 (.q 6 (.q 7 (.q 8 (.q 9 (.e 10 (.fin)))))))))))) tok (by kernel_rfl) rfl (by kernel_rfl) ?_))) | ((with_reducible apply xarun); (first | ((with_reducible apply xrun_q); exact rfl; exact rfl; exact rfl) | ((with_reducible apply xrun_e); exact rfl) | with_reducible apply xrun_f)) | with_reducible (first | refine xthen ?_ | refine xblock ?_) | (with_reducible intro hc; (try simp only [decide_eq_true_eq, decide_eq_false_iff_not, Bool.not_true, Bool.not_false, Bool.not_eq_true', Bool.not_eq_false', ne_eq, not_true, reduceCtorEq, List.length_map] at hc); (try (exfalso; omega))) | with_reducible (first | exact trivial | refine And.intro ?_ ?_ | exact rfl) | exact Eq.refl true | (refine inR_i64.mpr ?_; first | omega | (simp only [List.length_map, List.length_map]; omega)))
      refine round_end (m+1) hmt (by omega) (by (refine xwk (π := [0, 1]) (by decide) rfl ?_ ?_; (first | simp -implicitDefEqProofs only [go_sem, Int.reduceEq, Int.reduceLT, Int.reduceLE, Nat.reduceAdd, Nat.reduceSub, Nat.reduceMul, Nat.reduceEqDiff, Nat.reduceLeDiff, Nat.reducePow, ↓reduceIte, reduceCtorEq]); repeat' (first | exact renE_n | ((with_reducible apply renE_c); exact rfl; focus (first | (simp -implicitDefEqProofs only [go_sem, Int.reduceEq, Int.reduceLT, Int.reduceLE, Nat.reduceAdd, Nat.reduceSub, Nat.reduceMul, Nat.reduceEqDiff, Nat.reduceLeDiff, Nat.reducePow, ↓reduceIte, reduceCtorEq]; done))))))
    have hm' : m = (kids t i).length := by omega
    subst hm'
    rw [belTo_all hk hlt]
    repeat' (first | ((with_reducible apply xsim); (first | ((with_reducible apply xlenM); exact rfl; exact rfl) | ((with_reducible apply xo); exact rfl) | with_reducible apply xend)) | ((with_reducible apply xaw); (first | ((with_reducible apply xstepS); refine AW.step tok rfl ?_) | with_reducible (first | refine AW.seq ?_ | refine AW.exit ?_) | ((with_reducible apply xcond); exact rfl))) | with_reducible (first | refine xthen_e ?_ | refine xblock_e ?_ | refine xround_e ?_) | (with_reducible intro hc; (try simp only [decide_eq_true_eq, decide_eq_false_iff_not, Bool.not_true, Bool.not_false, Bool.not_eq_true', Bool.not_eq_false', ne_eq, not_true, reduceCtorEq, List.length_map] at hc); (try (exfalso; omega))) | with_reducible (first | exact trivial | refine And.intro ?_ ?_ | exact rfl))
    (refine xfinOwn [0] (by first | exact .inl rfl | exact .inr rfl) rfl (by repeat' (first | exact trivial | exact rfl | refine And.intro ?_ ?_)) (by decide) rfl ?_ ?_ <;> simp -implicitDefEqProofs only [go_sem, Int.reduceEq, Int.reduceLT, Int.reduceLE, Nat.reduceAdd, Nat.reduceSub, Nat.reduceMul, Nat.reduceEqDiff, Nat.reduceLeDiff, Nat.reducePow, ↓reduceIte, reduceCtorEq])

theorem c_AlayoutS (t : List Node) (hk : TreeK t) (w h : Int) (hw : 0 ≤ w ∧ w ≤ 400) (hh : 0 ≤ h ∧ h ≤ 400) : ACon Tryz.prog 36 [vTree t, .d (.int .i64 w), .d (.int .i64 h)] [] (ORows encRect 4 (layoutOf t w h)) := by
  have hlo := hk.lo; have hhi := hk.hi
  have hrep : List.replicate t.length [D.int .i64 0, D.int .i64 0, D.int .i64 0, D.int .i64 0] = (List.replicate t.length zeroR).map encRect := by rw [List.map_replicate]; rfl
  have cl := c_laid t hk w h hw hh _ 0 (Nat.le_refl _) hlo (List.replicate t.length zeroR) (by rw [List.length_replicate])
  have hall := lay_all (t := t) (w := w) (h := h) (A := bel t 0) (out := List.replicate t.length zeroR) (by rw [List.length_replicate]) (bel_root hk)
  have hll : (layoutOf t w h).length = t.length := by simp [layoutOf]
  rw [hall, ← hrep, rectAt_zero] at cl
  refine ACon.introW tok (nt := 19) Tryz.func36 rfl rfl rfl (by kernel_rfl) rfl ?_
  repeat' (first | ((with_reducible apply xsim); (first | ((with_reducible apply xlenM); exact rfl; exact rfl) | ((with_reducible apply xo); exact rfl) | with_reducible apply xend | ((with_reducible apply xbox); exact rfl; simp only [backV, backVs, backVs_mapd, backId, backO, List.map_cons, List.map_nil, List.getElem?_nil, List.length_cons, List.length_nil, Nat.reduceAdd, Nat.reduceSub, List.cons_append, List.nil_append, List.append_nil]) | ((with_reducible apply xcallHand 1); exact rfl; exact rfl; exact cl; (focus (first | exact rfl | (simp -implicitDefEqProofs only [go_sem, ↓reduceIte, Nat.reduceEqDiff, List.length_map]; done))); exact rfl; (first | exact .inl rfl | exact .inr ⟨_, _, rfl⟩); (try simp only [List.set_cons_zero, List.set_cons_succ])) | simp -implicitDefEqProofs only [go_sem, Int.reduceEq, Int.reduceLT, Int.reduceLE, Nat.reduceAdd, Nat.reduceSub, Nat.reduceMul, Nat.reduceEqDiff, Nat.reduceLeDiff, Nat.reducePow, ↓reduceIte, reduceCtorEq, List.length_map])) | ((with_reducible apply xaw); (first | ((with_reducible apply xstepS); refine AW.step tok rfl ?_) | with_reducible refine AW.ret ?_)) | with_reducible (first | exact trivial | refine And.intro ?_ ?_) | exact Eq.refl true | omega)
  (refine xfinOwn [1] (by first | exact .inl rfl | exact .inr rfl) rfl (by repeat' (first | exact trivial | exact rfl | refine And.intro ?_ ?_)) (by decide) rfl ?_ ?_ <;> simp -implicitDefEqProofs only [go_sem, Int.reduceEq, Int.reduceLT, Int.reduceLE, Nat.reduceAdd, Nat.reduceSub, Nat.reduceMul, Nat.reduceEqDiff, Nat.reduceLeDiff, Nat.reducePow, ↓reduceIte, reduceCtorEq, hll])

/-- Rectangles of all nodes, if the tree and the room are good. -/
def layoutT (t : List Node) (w h : Int) : List Rect := if (treeOk t && roomOk w h) = true then layoutOf t w h else []
theorem layoutT_small {t : List Node} {w h : Int} : (layoutT t w h).length ≤ 10 := by
  unfold layoutT
  split
  · rename_i hc
    rw [Bool.and_eq_true] at hc
    have := (treeK hc.1).hi
    simpa [layoutOf] using this
  · simp
theorem c_LayoutI (t : List Node) (hL : TreeL t) (w h : Int) : ACon Tryz.prog 11 [vTree t, .d (.int .i64 w), .d (.int .i64 h)] [] (ORows encRect 4 (layoutT t w h)) := by
  have c1 := c_ValidTree t hL
  have c2 := c_sizeOk w h
  cases ht : treeOk t
  · rw [ht] at c1
    refine ACon.introW tok (nt := 20) Tryz.func11 rfl rfl rfl (by kernel_rfl) rfl ?_
    repeat' (first | ((with_reducible apply xsim); (first | ((with_reducible apply xo); exact rfl) | with_reducible apply xend | ((with_reducible apply xguardS); exact rfl; exact rfl) | ((with_reducible apply xbox); exact rfl; simp only [backV, backVs, backVs_mapd, backId, backO, List.map_cons, List.map_nil, List.getElem?_nil, List.length_cons, List.length_nil, Nat.reduceAdd, Nat.reduceSub, List.cons_append, List.nil_append, List.append_nil]) | ((with_reducible apply xcallIs); exact rfl; exact rfl; exact c1; exact rfl))) | ((with_reducible apply xaw); (first | ((with_reducible apply xstepS); refine AW.step tok rfl ?_) | with_reducible (first | refine AW.seq ?_ | refine AW.ret ?_) | ((with_reducible apply xcond); exact rfl))) | with_reducible refine xthen_r ?_ | (with_reducible intro hc; (try simp only [decide_eq_true_eq, decide_eq_false_iff_not, Bool.not_true, Bool.not_false, Bool.not_eq_true', Bool.not_eq_false', ne_eq, not_true, reduceCtorEq] at hc); (try (exfalso; omega))) | with_reducible exact trivial | exact Eq.refl true)
    refine xfinW (Weak.own 6 4 rfl) ?_
    rw [show layoutT t w h = [] by rw [layoutT, ht]; rfl]
    (refine xfinOwn [1] (by first | exact .inl rfl | exact .inr rfl) rfl (by repeat' (first | exact trivial | exact rfl | refine And.intro ?_ ?_)) (by decide) rfl ?_ ?_ <;> simp -implicitDefEqProofs only [go_sem, Int.reduceEq, Int.reduceLT, Int.reduceLE, Nat.reduceAdd, Nat.reduceSub, Nat.reduceMul, Nat.reduceEqDiff, Nat.reduceLeDiff, Nat.reducePow, ↓reduceIte, reduceCtorEq])
  · rw [ht] at c1
    cases hr : roomOk w h
    · rw [hr] at c2
      refine ACon.introW tok (nt := 20) Tryz.func11 rfl rfl rfl (by kernel_rfl) rfl ?_
      repeat' (first | ((with_reducible apply xsim); (first | ((with_reducible apply xo); exact rfl) | with_reducible apply xend | ((with_reducible apply xguardS); exact rfl; exact rfl) | ((with_reducible apply xbox); exact rfl; simp only [backV, backVs, backVs_mapd, backId, backO, List.map_cons, List.map_nil, List.getElem?_nil, List.length_cons, List.length_nil, Nat.reduceAdd, Nat.reduceSub, List.cons_append, List.nil_append, List.append_nil]) | ((with_reducible apply xcallIs); exact rfl; exact rfl; (first | exact c1 | exact c2); exact rfl))) | ((with_reducible apply xaw); (first | ((with_reducible apply xstepS); refine AW.step tok rfl ?_) | with_reducible (first | refine AW.seq ?_ | refine AW.ret ?_) | ((with_reducible apply xcond); exact rfl))) | with_reducible refine xthen_r ?_ | (with_reducible intro hc; (try simp only [decide_eq_true_eq, decide_eq_false_iff_not, Bool.not_true, Bool.not_false, Bool.not_eq_true', Bool.not_eq_false', ne_eq, not_true, reduceCtorEq] at hc); (try (exfalso; omega))) | with_reducible exact trivial | exact Eq.refl true)
      refine xfinW (Weak.own 6 4 rfl) ?_
      rw [show layoutT t w h = [] by rw [layoutT, hr, Bool.and_false]; rfl]
      (refine xfinOwn [1] (by first | exact .inl rfl | exact .inr rfl) rfl (by repeat' (first | exact trivial | exact rfl | refine And.intro ?_ ?_)) (by decide) rfl ?_ ?_ <;> simp -implicitDefEqProofs only [go_sem, Int.reduceEq, Int.reduceLT, Int.reduceLE, Nat.reduceAdd, Nat.reduceSub, Nat.reduceMul, Nat.reduceEqDiff, Nat.reduceLeDiff, Nat.reducePow, ↓reduceIte, reduceCtorEq])
    · rw [hr] at c2
      have hb := roomOk_iff hr
      have c3 := c_Alayout t (treeK ht) w h (by omega) (by omega)
      rw [show layoutT t w h = layoutOf t w h by rw [layoutT, ht, hr]; rfl]
      refine ACon.introW tok (nt := 20) Tryz.func11 rfl rfl rfl (by kernel_rfl) rfl ?_
      repeat' (first | ((with_reducible apply xsim); (first | ((with_reducible apply xo); exact rfl) | with_reducible apply xend | ((with_reducible apply xguardS); exact rfl; exact rfl) | ((with_reducible apply xbox); exact rfl; simp only [backV, backVs, backVs_mapd, backId, backO, List.map_cons, List.map_nil, List.getElem?_nil, List.length_cons, List.length_nil, Nat.reduceAdd, Nat.reduceSub, List.cons_append, List.nil_append, List.append_nil]) | ((with_reducible apply xcallIs); exact rfl; exact rfl; (first | exact c1 | exact c2); exact rfl) | ((with_reducible apply xcallOwn); exact rfl; exact rfl; exact c3; simp only [backV, backVs, backVs_mapd, backId, backO, List.map_cons, List.map_nil, List.getElem?_nil, List.length_cons, List.length_nil, Nat.reduceAdd, Nat.reduceSub, List.cons_append, List.nil_append, List.append_nil]))) | ((with_reducible apply xaw); (first | ((with_reducible apply xstepS); refine AW.step tok rfl ?_) | with_reducible (first | refine AW.seq ?_ | refine AW.skip ?_ | refine AW.ret ?_) | ((with_reducible apply xcond); exact rfl))) | with_reducible refine xthen ?_ | (with_reducible intro hc; (try simp only [decide_eq_true_eq, decide_eq_false_iff_not, Bool.not_true, Bool.not_false, Bool.not_eq_true', Bool.not_eq_false', ne_eq, not_true, reduceCtorEq] at hc); (try (exfalso; omega))) | with_reducible exact trivial | exact Eq.refl true)
      all_goals (refine xfinOwn [1] (by first | exact .inl rfl | exact .inr rfl) rfl (by repeat' (first | exact trivial | exact rfl | refine And.intro ?_ ?_)) (by decide) rfl ?_ ?_ <;> simp -implicitDefEqProofs only [go_sem, Int.reduceEq, Int.reduceLT, Int.reduceLE, Nat.reduceAdd, Nat.reduceSub, Nat.reduceMul, Nat.reduceEqDiff, Nat.reduceLeDiff, Nat.reducePow, ↓reduceIte, reduceCtorEq])
end Go.Proofs.YticgjepndfjafaaGreat

namespace Go.Proofs.YticgjepndfjafaaGreat
open Go.Fw
attribute [local irreducible] Go.Fw.aops Go.Fw.arun

/-- Two rectangles have no points in common. -/
def Apart (a b : Rect) : Prop := min (a.x + a.w) (b.x + b.w) - max a.x b.x ≤ 0 ∨ min (a.y + a.h) (b.y + b.h) - max a.y b.y ≤ 0
def meetR (a b : Rect) : Rect := ⟨max a.x b.x, max a.y b.y, min (a.x + a.w) (b.x + b.w) - max a.x b.x, min (a.y + a.h) (b.y + b.h) - max a.y b.y⟩
def meets (a b : Rect) : Bool := decide (1 ≤ (meetR a b).w ∧ 1 ≤ (meetR a b).h)
def meetOr (a b : Rect) : Rect := if meets a b then meetR a b else ⟨0, 0, 0, 0⟩
theorem Apart.meets {a b : Rect} (h : Apart a b) : meets a b = false := by
  unfold Apart at h
  refine decide_eq_false fun hc => ?_
  simp only [meetR] at hc
  omega
end Go.Proofs.YticgjepndfjafaaGreat

namespace Go.Proofs.YticgjepndfjafaaGreat
open Go.Fw
def Ins (a b : Rect) : Prop := a.x ≤ b.x ∧ a.y ≤ b.y ∧ b.x + b.w ≤ a.x + a.w ∧ b.y + b.h ≤ a.y + a.h
theorem Ins.rfl' {a : Rect} : Ins a a := by unfold Ins; omega
theorem Ins.tr {a b c : Rect} (h : Ins a b) (h' : Ins b c) : Ins a c := by unfold Ins at *; omega

theorem Apart.mono {a b c : Rect} (h : Apart a b) (hi : Ins b c) : Apart a c := by unfold Apart Ins at *; omega
theorem Apart.symm {a b : Rect} (h : Apart a b) : Apart b a := by unfold Apart at *; omega
end Go.Proofs.YticgjepndfjafaaGreat

namespace Go.Proofs.YticgjepndfjafaaGreat
open Go.Fw

/-! What is seen, and what is hit. -/
def hasP (r : Rect) (x y : Int) : Prop := r.x ≤ x ∧ x < r.x + r.w ∧ r.y ≤ y ∧ y < r.y + r.h
instance (r : Rect) (x y : Int) : Decidable (hasP r x y) := by unfold hasP; infer_instance
theorem meet_self (a : Rect) : meetR a a = a := rect_ext (by simp only [meetR]; omega) (by simp only [meetR]; omega) (by simp only [meetR]; omega) (by simp only [meetR]; omega)
theorem meet_in {a b : Rect} (h : Ins b a) : meetR a b = a := by
  unfold Ins at h
  exact rect_ext (by simp only [meetR]; omega) (by simp only [meetR]; omega) (by simp only [meetR]; omega) (by simp only [meetR]; omega)

/-- What a rectangle has in common with those of some nodes. -/
def seenL (R : Nat → Rect) : List Nat → Rect → Rect × Bool
  | [], r => (r, true)
  | k :: ks, r => if meets r (R k) = true then seenL R ks (meetR r (R k)) else (⟨0, 0, 0, 0⟩, false)
def seenOf (t : List Node) (R : Nat → Rect) (i : Nat) : Rect × Bool := seenL R (way t i) (R i)
theorem seenL_all {R : Nat → Rect} : ∀ {ks : List Nat} {r : Rect}, meets r r = true → (∀ k ∈ ks, Ins (R k) r) → seenL R ks r = (r, true)
  | [], r, _, _ => rfl
  | k :: ks, r, h, hk => by
    have h1 := hk k (by simp)
    have hm : meets r (R k) = true := by
      have e := meet_in h1
      have h' := of_decide_eq_true h
      rw [meet_self] at h'
      refine decide_eq_true ?_
      rw [e]; exact h'
    simp only [seenL]
    rw [if_pos hm, meet_in h1]
    exact seenL_all h fun m hm' => hk m (by simp [hm'])
theorem seenL_no {R : Nat → Rect} : ∀ {ks : List Nat} {r : Rect}, (seenL R ks r).2 = false → (seenL R ks r).1 = ⟨0, 0, 0, 0⟩
  | [], r, h => by cases h
  | k :: ks, r, h => by
    simp only [seenL] at h ⊢
    by_cases hm : meets r (R k) = true
    · rw [if_pos hm] at h ⊢
      exact seenL_no h
    · rw [if_neg hm]

section
variable {t : List Node} {R : Nat → Rect} {i : Nat}
theorem seen_first (h : TreeK t) (hi : i < t.length) (hs : (seenOf t R i).2 = true) : meets (R i) (R i) = true := by
  unfold seenOf at hs
  obtain ⟨r, hr⟩ := way_head h hi
  rw [hr] at hs
  simp only [seenL] at hs
  refine Decidable.byContradiction fun hc => ?_
  rw [if_neg hc] at hs
  cases hs
theorem seen_all (h : TreeK t) (hi : i < t.length) (hs : (seenOf t R i).2 = true) (hin : ∀ k ∈ way t i, Ins (R k) (R i)) : (seenOf t R i).1 = R i := by
  unfold seenOf
  rw [seenL_all (seen_first h hi hs) hin]
end

section
variable {t : List Node} {R : Nat → Rect} {x y : Int}
end
end Go.Proofs.YticgjepndfjafaaGreat

namespace Go.Proofs.YticgjepndfjafaaGreat
open Go.Fw
attribute [local irreducible] Go.Fw.aops Go.Fw.arun

theorem c_meetI (a b : Rect) (ha : RectIn a) (hb : RectIn b) : ACon Tryz.prog 51 [vRect a, vRect b] [] (Is (.tup [vRect (meetOr a b), .d (.bool (meets a b))])) := by
  obtain ⟨h1, h2, h3, h4, h5, h6⟩ := ha
  obtain ⟨g1, g2, g3, g4, g5, g6⟩ := hb
  by_cases hm : 1 ≤ (meetR a b).w ∧ 1 ≤ (meetR a b).h
  · have e : meets a b = true := decide_eq_true hm
    have e2 : meetOr a b = meetR a b := by rw [meetOr, if_pos e]
    rw [e, e2]
    simp only [meetR] at hm
    refine ACon.introW tok (nt := 58) Tryz.func51 rfl rfl rfl (by kernel_rfl) rfl ?_
    repeat' (first | ((with_reducible apply xsim); (first | ((with_reducible apply xbld); exact rfl; exact rfl; exact rfl; (try simp only [List.set_cons_zero, List.set_cons_succ])) | ((with_reducible apply xo); exact rfl) | ((with_reducible apply xst); exact rfl) | with_reducible apply xend | ((with_reducible apply xguardS); exact rfl; exact rfl) | ((with_reducible apply xalloc); exact rfl; simp only [backV, backVs, backVs_mapd, backId, backO, List.map_cons, List.map_nil, List.getElem?_nil, List.length_cons, List.length_nil, Nat.reduceAdd, Nat.reduceSub, List.cons_append, List.nil_append, List.append_nil]) | ((with_reducible apply xbox); exact rfl; simp only [backV, backVs, backVs_mapd, backId, backO, List.map_cons, List.map_nil, List.getElem?_nil, List.length_cons, List.length_nil, Nat.reduceAdd, Nat.reduceSub, List.cons_append, List.nil_append, List.append_nil]))) | ((with_reducible apply xaw); (first | ((with_reducible apply xstepS); refine AW.step tok rfl ?_) | with_reducible (first | refine AW.seq ?_ | refine AW.skip ?_ | refine AW.ret ?_) | ((with_reducible apply xcond); exact rfl) | ((with_reducible apply xdraw (id := 1)); refine AW.draw (id := 1) (.q 0 (.q 1 (.q 2 (.q 3 (.q 4 (.q 5 (.q 6 (.q 7 (.q 8 (.q 9 (.q 10 (.q 11 (.fin))))))))))))) tok (by kernel_rfl) rfl (by kernel_rfl) ?_))) | ((with_reducible apply xarun); (first | ((with_reducible apply xrun_q); exact rfl; exact rfl; exact rfl) | with_reducible apply xrun_f)) | with_reducible refine xthen ?_ | (with_reducible intro hc; (try simp only [decide_eq_true_eq, decide_eq_false_iff_not, Bool.not_true, Bool.not_false, Bool.not_eq_true', Bool.not_eq_false', ne_eq, not_true, reduceCtorEq] at hc); (try (exfalso; omega))) | with_reducible (first | exact trivial | refine And.intro ?_ ?_ | exact rfl) | exact Eq.refl true | (refine inR_i64.mpr ?_; first | omega | (simp only [List.length_map]; omega)))
    all_goals (refine xfinIs (by first | exact .inl rfl | exact .inr rfl) rfl (by repeat' (first | exact trivial | exact rfl | refine And.intro ?_ ?_)) rfl ?_ rfl; first | (simp -implicitDefEqProofs only [go_sem, Int.reduceEq, Int.reduceLT, Int.reduceLE, Nat.reduceAdd, Nat.reduceSub, Nat.reduceMul, Nat.reduceEqDiff, Nat.reduceLeDiff, Nat.reducePow, ↓reduceIte, reduceCtorEq, meetR] <;> (first | rfl | omega | exact decide_eq_decide.2 (by omega) | exact decide_eq_false (by omega) | exact decide_eq_true (by omega) | (symm; first | exact decide_eq_false (by omega) | exact decide_eq_true (by omega)) | (rw [Bool.eq_iff_iff]; simp only [Bool.not_eq_true', Bool.not_eq_false', Bool.and_eq_true, Bool.or_eq_true, decide_eq_true_eq, decide_eq_false_iff_not, reduceCtorEq, true_iff, iff_true, false_iff, iff_false]; omega))))
  · have e : meets a b = false := decide_eq_false hm
    have e2 : meetOr a b = ⟨0, 0, 0, 0⟩ := by rw [meetOr, e]; rfl
    rw [e, e2]
    simp only [meetR] at hm
    refine ACon.introW tok (nt := 58) Tryz.func51 rfl rfl rfl (by kernel_rfl) rfl ?_
    repeat' (first | ((with_reducible apply xsim); (first | ((with_reducible apply xbld); exact rfl; exact rfl; exact rfl; (try simp only [List.set_cons_zero, List.set_cons_succ])) | ((with_reducible apply xo); exact rfl) | ((with_reducible apply xst); exact rfl) | with_reducible apply xend | ((with_reducible apply xguardS); exact rfl; exact rfl) | ((with_reducible apply xalloc); exact rfl; simp only [backV, backVs, backVs_mapd, backId, backO, List.map_cons, List.map_nil, List.getElem?_nil, List.length_cons, List.length_nil, Nat.reduceAdd, Nat.reduceSub, List.cons_append, List.nil_append, List.append_nil]) | ((with_reducible apply xbox); exact rfl; simp only [backV, backVs, backVs_mapd, backId, backO, List.map_cons, List.map_nil, List.getElem?_nil, List.length_cons, List.length_nil, Nat.reduceAdd, Nat.reduceSub, List.cons_append, List.nil_append, List.append_nil]))) | ((with_reducible apply xaw); (first | ((with_reducible apply xstepS); refine AW.step tok rfl ?_) | with_reducible (first | refine AW.seq ?_ | refine AW.ret ?_) | ((with_reducible apply xcond); exact rfl) | ((with_reducible apply xdraw (id := 1)); refine AW.draw (id := 1) (.q 0 (.q 1 (.q 2 (.q 3 (.q 4 (.q 5 (.q 6 (.q 7 (.q 8 (.q 9 (.q 10 (.q 11 (.fin))))))))))))) tok (by kernel_rfl) rfl (by kernel_rfl) ?_))) | ((with_reducible apply xarun); (first | ((with_reducible apply xrun_q); exact rfl; exact rfl; exact rfl) | with_reducible apply xrun_f)) | with_reducible (first | refine xthen ?_ | refine xthen_r ?_) | (with_reducible intro hc; (try simp only [decide_eq_true_eq, decide_eq_false_iff_not, Bool.not_true, Bool.not_false, Bool.not_eq_true', Bool.not_eq_false', ne_eq, not_true, reduceCtorEq] at hc); (try (exfalso; omega))) | with_reducible (first | exact trivial | refine And.intro ?_ ?_ | exact rfl) | exact Eq.refl true | (refine inR_i64.mpr ?_; first | omega | (simp only [List.length_map]; omega)))
    all_goals (refine xfinIs (by first | exact .inl rfl | exact .inr rfl) rfl (by repeat' (first | exact trivial | exact rfl | refine And.intro ?_ ?_)) rfl ?_ rfl; first | (simp -implicitDefEqProofs only [go_sem, Int.reduceEq, Int.reduceLT, Int.reduceLE, Nat.reduceAdd, Nat.reduceSub, Nat.reduceMul, Nat.reduceEqDiff, Nat.reduceLeDiff, Nat.reducePow, ↓reduceIte, reduceCtorEq] <;> (first | rfl | omega | exact decide_eq_decide.2 (by omega) | exact decide_eq_false (by omega) | exact decide_eq_true (by omega) | (symm; first | exact decide_eq_false (by omega) | exact decide_eq_true (by omega)) | (rw [Bool.eq_iff_iff]; simp only [Bool.not_eq_true', Bool.not_eq_false', Bool.and_eq_true, Bool.or_eq_true, decide_eq_true_eq, decide_eq_false_iff_not, reduceCtorEq, true_iff, iff_true, false_iff, iff_false]; omega))))
theorem zero_in : RectIn ⟨0, 0, 0, 0⟩ := by constructor <;> dsimp only <;> omega
theorem meetOr_in {a b : Rect} (ha : RectIn a) (hb : RectIn b) : RectIn (meetOr a b) := by
  unfold meetOr
  split
  · rename_i h
    have h := of_decide_eq_true h
    obtain ⟨h1, h2, h3, h4, h5, h6⟩ := ha
    obtain ⟨g1, g2, g3, g4, g5, g6⟩ := hb
    simp only [meetR] at h ⊢
    constructor <;> dsimp only <;> omega
  · exact zero_in
theorem seenL_app {R : Nat → Rect} : ∀ {a b : List Nat} {r : Rect}, seenL R (a ++ b) r = if (seenL R a r).2 = true then seenL R b (seenL R a r).1 else (⟨0, 0, 0, 0⟩, false)
  | [], b, r => by simp [seenL]
  | k :: a, b, r => by
    by_cases hm : meets r (R k) = true
    · have e : ∀ xs, seenL R (k :: xs) r = seenL R xs (meetR r (R k)) := fun xs => by simp only [seenL]; rw [if_pos hm]
      simp only [List.cons_append, e]
      exact seenL_app
    · have e : ∀ xs, seenL R (k :: xs) r = (⟨0, 0, 0, 0⟩, false) := fun xs => by simp only [seenL]; rw [if_neg hm]
      simp only [List.cons_append, e]
      simp
/-- What is seen as far as the first ones on the way. -/
def seenT (t : List Node) (R : Nat → Rect) (i j : Nat) : Rect × Bool := seenL R ((way t i).take j) (R i)
section
variable {t : List Node} {R : Nat → Rect} {i : Nat}
theorem seenT_all : seenT t R i (way t i).length = seenOf t R i := by rw [seenT, List.take_length]; rfl
theorem seenT_no {j : Nat} (h : (seenT t R i j).2 = false) : seenOf t R i = (⟨0, 0, 0, 0⟩, false) := by
  unfold seenOf
  rw [← List.take_append_drop j (way t i), seenL_app, if_neg (by rw [show seenL R ((way t i).take j) (R i) = seenT t R i j from rfl, h]; simp)]
theorem seenT_zero {j : Nat} (h : (seenT t R i j).2 = false) : (seenT t R i j).1 = ⟨0, 0, 0, 0⟩ := seenL_no h
theorem seenT_step {j : Nat} (hj : j < (way t i).length) (h : (seenT t R i j).2 = true) : seenT t R i (j + 1) = (meetOr (seenT t R i j).1 (R (way t i)[j]), meets (seenT t R i j).1 (R (way t i)[j])) := by
  have e : seenT t R i (j + 1) = seenL R ([(way t i)[j]]) (seenT t R i j).1 := by
    unfold seenT at h ⊢
    rw [way_take hj, seenL_app, if_pos h]
  rw [e]
  simp only [seenL, meetOr]
  split <;> simp_all
theorem seenT_one (h : TreeK t) (hi : i < t.length) : seenT t R i 1 = (meetOr (R i) (R i), meets (R i) (R i)) := by
  obtain ⟨r, hr⟩ := way_head h hi
  have e := seenT_step (t := t) (R := R) (i := i) (j := 0) (by rw [hr]; simp) rfl
  rw [e]
  have e0 : (way t i)[0]'(by rw [hr]; simp) = i := by simp [hr]
  simp only [e0]
  rfl
theorem seenT_in (hR : ∀ k, k < t.length → RectIn (R k)) (h : TreeK t) (hi : i < t.length) : ∀ j, j ≤ (way t i).length → RectIn (seenT t R i j).1 := by
  intro j
  induction j with
  | zero => intro _; exact hR i hi
  | succ j ih =>
    intro hj
    have h1 := ih (by omega)
    by_cases ho : (seenT t R i j).2 = true
    · rw [seenT_step (by omega) ho]
      have := way_le h i hi _ (List.getElem_mem (show j < (way t i).length by omega))
      exact meetOr_in h1 (hR _ (by omega))
    · have ho : (seenT t R i j).2 = false := by simpa using ho
      have e : (seenT t R i (j + 1)).1 = ⟨0, 0, 0, 0⟩ := by
        unfold seenT at ho ⊢
        rw [way_take (by omega), seenL_app, if_neg (by rw [ho]; simp)]
      rw [e]; exact zero_in
end

theorem lay_get {t : List Node} {w h : Int} {k : Nat} (hk : k < t.length) : ((layoutOf t w h).map encRect)[k]? = some (encRect (rectAt t w h k)) := by
  rw [List.getElem?_map, layoutOf, List.getElem?_map, List.getElem?_range hk]; rfl
theorem layoutOf_len {t : List Node} {w h : Int} : (layoutOf t w h).length = t.length := by simp [layoutOf]
theorem rects_in {t : List Node} (hk : TreeK t) {w h : Int} (hw : 0 ≤ w ∧ w ≤ 400) (hh : 0 ≤ h ∧ h ≤ 400) : ∀ k, k < t.length → RectIn (rectAt t w h k) := fun k hkl => (rect_bd hk hw hh k hkl).in (by have := hk.hi; omega)

def seenV (s : Rect × Bool) : V := .tup [vRect s.1, .d (.bool s.2)]
set_option maxRecDepth 8000 in
set_option maxHeartbeats 4000000 in
theorem c_seenI (t : List Node) (hk : TreeK t) (w h : Int) (hw : 0 ≤ w ∧ w ≤ 400) (hh : 0 ≤ h ∧ h ≤ 400) (i : Nat) (hi : i < t.length) :
    ACon Tryz.prog 32 [vTree t, .d (.lst ((layoutOf t w h).map encRect)), .d (.int .i64 (i : Int))] [] (Is (seenV (seenOf t (rectAt t w h) i))) := by
  have hhi := hk.hi
  have hR := rects_in hk hw hh
  have hri := lay_get (w := w) (h := h) hi
  have hrow := at_map (f := encNode) hi
  have hone := seenT_one (R := rectAt t w h) hk hi
  have hwl := way_len hk i hi
  have hpar : t[i].parent = cur (way t i) 1 := by
    obtain ⟨r, hr⟩ := way_head hk hi
    obtain ⟨_, e⟩ := way_cur hk hi (k := 0) (by rw [hr]; simp)
    have e0 : (way t i)[0]'(by rw [hr]; simp) = i := by simp [hr]
    simp only [e0] at e
    exact e
  have hpos : 1 ≤ (way t i).length := by
    obtain ⟨r, hr⟩ := way_head hk hi
    rw [hr]; simp
  generalize hRg : rectAt t w h = R at *
  refine ACon.introW tok (nt := 51) Tryz.func32 rfl rfl rfl (by kernel_rfl) rfl ?_
  repeat' (first | ((with_reducible apply xsim); (first | ((with_reducible apply xo); exact rfl) | ((with_reducible apply xst); exact rfl) | with_reducible apply xend | ((with_reducible apply xalloc); exact rfl; simp only [backV, backVs, backVs_mapd, backId, backO, List.map_cons, List.map_nil, List.getElem?_nil, List.length_cons, List.length_nil, Nat.reduceAdd, Nat.reduceSub, List.cons_append, List.nil_append, List.append_nil]) | ((with_reducible apply xbox); exact rfl; simp only [backV, backVs, backVs_mapd, backId, backO, List.map_cons, List.map_nil, List.getElem?_nil, List.length_cons, List.length_nil, Nat.reduceAdd, Nat.reduceSub, List.cons_append, List.nil_append, List.append_nil]) | ((with_reducible apply xidxL); exact rfl; exact rfl; exact rfl; (first | exact hri | exact hrow); omega; first | exact rfl | simp only [hsz]))) | ((with_reducible apply xaw); (first | ((with_reducible apply xstepS); refine AW.step tok rfl ?_) | with_reducible (first | refine AW.seq ?_ | refine AW.block ?_) | ((with_reducible apply xdraw (id := 1)); refine AW.draw (id := 1) (.q 0 (.q 1 (.q 2 (.q 3 (.q 4 (.q 5 (.q 6 (.q 7 (.q 8 (.q 9 (.q 10 (.q 11 (.e 12 (.e 13 (.q 14 (.fin)))))))))))))))) tok (by kernel_rfl) rfl (by kernel_rfl) ?_))) | ((with_reducible apply xarun); (first | ((with_reducible apply xrun_q); exact rfl; exact rfl; exact rfl) | ((with_reducible apply xrun_c); exact rfl; exact rfl; exact rfl; exact rfl; exact rfl; exact rfl; exact c_meetI _ _ (hR i hi) (hR i hi); exact rfl) | ((with_reducible apply xrun_e); exact rfl) | with_reducible apply xrun_f)) | with_reducible refine xthen ?_ | with_reducible (first | exact trivial | refine And.intro ?_ ?_) | exact Eq.refl true)
  refine AW.loop (S := fun j : Nat => ⟨[(1, .d (.lst ((layoutOf t w h).map encRect))), (3, .oref 0 0), (6, .oref 1 0), (8, .oref 2 0), (9, .d (.bool (seenT t R i j).2)), (10, .d (.int .i64 (cur (way t i) j)))],
      [.box [.d (.lst (t.map encNode))], .box [.d (.int .i64 0), .d (.int .i64 0), .d (.int .i64 0), .d (.int .i64 0)], .box ((encRect (seenT t R i j).1).map .d)], 51, 0⟩)
    (Pre := fun j => 1 ≤ j ∧ j ≤ (way t i).length) (μ := fun j => (way t i).length - j) 1 ⟨Nat.le_refl _, hpos⟩ ?_ ?_
  · (refine xwk (π := [0, 1, 2]) (by decide) rfl ?_ ?_; (first | simp -implicitDefEqProofs only [go_sem, Int.reduceEq, Int.reduceLT, Int.reduceLE, Nat.reduceAdd, Nat.reduceSub, Nat.reduceMul, Nat.reduceEqDiff, Nat.reduceLeDiff, Nat.reducePow, ↓reduceIte, reduceCtorEq, hone, hpar]); repeat' (first | exact renE_n | ((with_reducible apply renE_c); exact rfl; focus (first | (simp -implicitDefEqProofs only [go_sem, Int.reduceEq, Int.reduceLT, Int.reduceLE, Nat.reduceAdd, Nat.reduceSub, Nat.reduceMul, Nat.reduceEqDiff, Nat.reduceLeDiff, Nat.reducePow, ↓reduceIte, reduceCtorEq, hone, hpar]; done)))))
  rintro j ⟨hj1, hj⟩
  have hin := seenT_in hR hk hi j hj
  by_cases hok : (seenT t R i j).2 = true
  · rw [hok]
    by_cases hlt : j < (way t i).length
    · obtain ⟨hm, hn⟩ := way_cur hk hi hlt
      have hrj := lay_get (w := w) (h := h) hm
      rw [hRg] at hrj
      have hrn := at_map (f := encNode) hm
      have hst := seenT_step (R := R) hlt hok
      rw [cur_at hlt]
      have cm := c_meetI _ _ hin (hR _ hm)
      generalize (seenT t R i j).1 = q at *
      repeat' (first | ((with_reducible apply xsim); (first | ((with_reducible apply xo); exact rfl) | ((with_reducible apply xst); exact rfl) | with_reducible apply xend | ((with_reducible apply xguardS); exact rfl; exact rfl) | ((with_reducible apply xidxL); exact rfl; exact rfl; exact rfl; (first | exact hrj | exact hrn); omega; first | exact rfl | simp only [hsz]))) | ((with_reducible apply xaw); (first | ((with_reducible apply xstepS); refine AW.step tok rfl ?_) | ((with_reducible apply xstep); refine AW.region tok rfl ?_) | with_reducible (first | refine AW.seq ?_ | refine AW.block ?_ | refine AW.skip ?_) | ((with_reducible apply xcond); exact rfl) | ((with_reducible apply xdraw (id := 5)); refine AW.draw (id := 5) (.q 0 (.q 1 (.q 2 (.q 3 (.q 4 (.q 5 (.q 6 (.q 7 (.q 8 (.e 9 (.q 10 (.fin)))))))))))) tok (by kernel_rfl) rfl (by kernel_rfl) ?_))) | ((with_reducible apply xarun); (first | ((with_reducible apply xrun_q); exact rfl; exact rfl; exact rfl) | ((with_reducible apply xrun_c); exact rfl; exact rfl; exact rfl; exact rfl; exact rfl; exact rfl; exact cm; exact rfl) | ((with_reducible apply xrun_e); exact rfl) | with_reducible apply xrun_f)) | with_reducible (first | refine xthen ?_ | refine xblock ?_) | (with_reducible intro hc; (try simp only [decide_eq_true_eq, decide_eq_false_iff_not, Bool.not_true, Bool.not_false, Bool.not_eq_true', Bool.not_eq_false', ne_eq, not_true, reduceCtorEq, List.length_map] at hc); (try (exfalso; omega))) | with_reducible (first | exact trivial | refine And.intro ?_ ?_ | exact rfl) | exact Eq.refl true)
      refine round_end (j+1) ⟨by omega, hlt⟩ (by omega) (by (refine xwk (π := [0, 1, 2]) (by decide) rfl ?_ ?_; (first | simp -implicitDefEqProofs only [go_sem, Int.reduceEq, Int.reduceLT, Int.reduceLE, Nat.reduceAdd, Nat.reduceSub, Nat.reduceMul, Nat.reduceEqDiff, Nat.reduceLeDiff, Nat.reducePow, ↓reduceIte, reduceCtorEq, hst, hn]); repeat' (first | exact renE_n | ((with_reducible apply renE_c); exact rfl; focus (first | (simp -implicitDefEqProofs only [go_sem, Int.reduceEq, Int.reduceLT, Int.reduceLE, Nat.reduceAdd, Nat.reduceSub, Nat.reduceMul, Nat.reduceEqDiff, Nat.reduceLeDiff, Nat.reducePow, ↓reduceIte, reduceCtorEq, hst, hn]; done))))))
    · have hj' : j = (way t i).length := by omega
      subst hj'
      rw [cur_end]
      have hall := seenT_all (t := t) (R := R) (i := i)
      have e2 : (seenOf t R i).2 = true := by rw [← hall]; exact hok
      rw [hall]
      repeat' (first | ((with_reducible apply xsim); (first | ((with_reducible apply xo); exact rfl) | ((with_reducible apply xst); exact rfl) | with_reducible apply xend | ((with_reducible apply xguardS); exact rfl; exact rfl))) | ((with_reducible apply xaw); (first | ((with_reducible apply xstepS); refine AW.step tok rfl ?_) | with_reducible (first | refine AW.seq ?_ | refine AW.ret ?_ | refine AW.exit ?_) | ((with_reducible apply xcond); exact rfl))) | with_reducible (first | refine xthen ?_ | refine xthen_e ?_ | refine xblock_e ?_ | refine xround_e ?_) | (with_reducible intro hc; (try simp only [decide_eq_true_eq, decide_eq_false_iff_not, Bool.not_true, Bool.not_false, Bool.not_eq_true', Bool.not_eq_false', ne_eq, not_true, reduceCtorEq, List.length_map] at hc); (try (exfalso; omega))) | with_reducible (first | exact trivial | refine And.intro ?_ ?_ | exact rfl) | exact Eq.refl true)
      (refine xfinIs (by first | exact .inl rfl | exact .inr rfl) rfl (by repeat' (first | exact trivial | exact rfl | refine And.intro ?_ ?_)) rfl ?_ rfl; first | (simp -implicitDefEqProofs only [go_sem, Int.reduceEq, Int.reduceLT, Int.reduceLE, Nat.reduceAdd, Nat.reduceSub, Nat.reduceMul, Nat.reduceEqDiff, Nat.reduceLeDiff, Nat.reducePow, ↓reduceIte, reduceCtorEq, seenV, e2] <;> (first | rfl | omega | exact decide_eq_decide.2 (by omega) | exact decide_eq_false (by omega) | exact decide_eq_true (by omega) | (symm; first | exact decide_eq_false (by omega) | exact decide_eq_true (by omega)) | (rw [Bool.eq_iff_iff]; simp only [Bool.not_eq_true', Bool.not_eq_false', Bool.and_eq_true, Bool.or_eq_true, decide_eq_true_eq, decide_eq_false_iff_not, reduceCtorEq, true_iff, iff_true, false_iff, iff_false]; omega))))
  · have hok : (seenT t R i j).2 = false := by simpa using hok
    have hno := seenT_no hok
    rw [hno, hok, seenT_zero hok]
    repeat' (first | ((with_reducible apply xsim); (first | ((with_reducible apply xo); exact rfl) | ((with_reducible apply xst); exact rfl) | with_reducible apply xend | ((with_reducible apply xguardS); exact rfl; exact rfl))) | ((with_reducible apply xaw); (first | ((with_reducible apply xstepS); refine AW.step tok rfl ?_) | with_reducible (first | refine AW.seq ?_ | refine AW.ret ?_ | refine AW.exit ?_) | ((with_reducible apply xcond); exact rfl))) | with_reducible (first | refine xthen ?_ | refine xthen_e ?_ | refine xblock_e ?_ | refine xround_e ?_) | (with_reducible intro hc; (try simp only [decide_eq_true_eq, decide_eq_false_iff_not, Bool.not_true, Bool.not_false, Bool.not_eq_true', Bool.not_eq_false', ne_eq, not_true, reduceCtorEq, List.length_map] at hc); (try (exfalso; omega))) | with_reducible (first | exact trivial | refine And.intro ?_ ?_) | exact Eq.refl true)
    (refine xfinIs (by first | exact .inl rfl | exact .inr rfl) rfl (by repeat' (first | exact trivial | exact rfl | refine And.intro ?_ ?_)) rfl ?_ rfl; first | (simp -implicitDefEqProofs only [go_sem, Int.reduceEq, Int.reduceLT, Int.reduceLE, Nat.reduceAdd, Nat.reduceSub, Nat.reduceMul, Nat.reduceEqDiff, Nat.reduceLeDiff, Nat.reducePow, ↓reduceIte, reduceCtorEq, seenV] <;> (first | rfl | omega | exact decide_eq_decide.2 (by omega) | exact decide_eq_false (by omega) | exact decide_eq_true (by omega) | (symm; first | exact decide_eq_false (by omega) | exact decide_eq_true (by omega)) | (rw [Bool.eq_iff_iff]; simp only [Bool.not_eq_true', Bool.not_eq_false', Bool.and_eq_true, Bool.or_eq_true, decide_eq_true_eq, decide_eq_false_iff_not, reduceCtorEq, true_iff, iff_true, false_iff, iff_false]; omega))))

end Go.Proofs.YticgjepndfjafaaGreat

namespace Go.Proofs.YticgjepndfjafaaGreat
open Go.Fw
attribute [local irreducible] Go.Fw.aops Go.Fw.arun

/-- The part of a node that is seen. -/
def seenP (t : List Node) (w h i : Int) : Rect × Bool := if (goodN t i && roomOk w h) = true then seenOf t (rectAt t w h) i.toNat else (⟨0, 0, 0, 0⟩, false)
theorem c_SeenPartI (t : List Node) (hL : TreeL t) (w h i : Int) : ACon Tryz.prog 8 [vTree t, .d (.int .i64 w), .d (.int .i64 h), .d (.int .i64 i)] [] (Is (seenV (seenP t w h i))) := by
  have c1 := ORows.data (c_LayoutI t hL w h)
  have hsm := layoutT_small (t := t) (w := w) (h := h)
  cases hb : (treeOk t && roomOk w h)
  · have e : layoutT t w h = [] := by rw [layoutT, hb]; rfl
    rw [e] at c1
    have e2 : (goodN t i && roomOk w h) = false := by
      rw [goodN]
      cases h1 : treeOk t
      · rfl
      · rw [h1, Bool.true_and] at hb
        rw [hb, Bool.and_false]
    rw [show seenP t w h i = (⟨0, 0, 0, 0⟩, false) by rw [seenP, e2]; rfl]
    refine ACon.introW tok (nt := 28) Tryz.func8 rfl rfl rfl (by kernel_rfl) rfl ?_
    repeat' (first | ((with_reducible apply xsim); (first | ((with_reducible apply xlenM); exact rfl; exact rfl) | ((with_reducible apply xo); exact rfl) | ((with_reducible apply xst); exact rfl) | with_reducible apply xend | ((with_reducible apply xalloc); exact rfl; simp only [backV, backVs, backVs_mapd, backId, backO, List.map_cons, List.map_nil, List.getElem?_nil, List.length_cons, List.length_nil, Nat.reduceAdd, Nat.reduceSub, List.cons_append, List.nil_append, List.append_nil]) | ((with_reducible apply xbox); exact rfl; simp only [backV, backVs, backVs_mapd, backId, backO, List.map_cons, List.map_nil, List.getElem?_nil, List.length_cons, List.length_nil, Nat.reduceAdd, Nat.reduceSub, List.cons_append, List.nil_append, List.append_nil]) | ((with_reducible apply xcallIs); exact rfl; exact rfl; (first | exact c1 | exact c_within _ _ _); exact rfl))) | ((with_reducible apply xaw); (first | ((with_reducible apply xstepS); refine AW.step tok rfl ?_) | with_reducible (first | refine AW.seq ?_ | refine AW.ret ?_) | ((with_reducible apply xcond); exact rfl))) | with_reducible refine xthen_r ?_ | (with_reducible intro hc; (try simp only [decide_eq_true_eq, decide_eq_false_iff_not, Bool.not_true, Bool.not_false, Bool.not_eq_true', Bool.not_eq_false', ne_eq, not_true, reduceCtorEq, List.length_map, List.length_nil] at hc); (try (exfalso; omega))) | with_reducible (first | exact trivial | refine And.intro ?_ ?_ | exact rfl) | exact Eq.refl true | (refine inR_i64.mpr ?_; first | omega | (simp only [List.length_map, List.length_map, List.length_nil]; omega)))
    all_goals (refine xfinIs (by first | exact .inl rfl | exact .inr rfl) rfl (by repeat' (first | exact trivial | exact rfl | refine And.intro ?_ ?_)) rfl ?_ rfl; first | (simp -implicitDefEqProofs only [go_sem, Int.reduceEq, Int.reduceLT, Int.reduceLE, Nat.reduceAdd, Nat.reduceSub, Nat.reduceMul, Nat.reduceEqDiff, Nat.reduceLeDiff, Nat.reducePow, ↓reduceIte, reduceCtorEq, seenV] <;> (first | rfl | omega | exact decide_eq_decide.2 (by omega) | exact decide_eq_false (by omega) | exact decide_eq_true (by omega) | (symm; first | exact decide_eq_false (by omega) | exact decide_eq_true (by omega)) | (rw [Bool.eq_iff_iff]; simp only [Bool.not_eq_true', Bool.not_eq_false', Bool.and_eq_true, Bool.or_eq_true, decide_eq_true_eq, decide_eq_false_iff_not, reduceCtorEq, true_iff, iff_true, false_iff, iff_false]; omega))))
  · have hb' := hb
    rw [Bool.and_eq_true] at hb'
    have hk := treeK hb'.1
    have hrm := roomOk_iff hb'.2
    have hhi := hk.hi
    have hll := layoutOf_len (t := t) (w := w) (h := h)
    rw [show layoutT t w h = layoutOf t w h by rw [layoutT, if_pos hb]] at c1
    by_cases hi : 0 ≤ i ∧ i ≤ (t.length : Int) - 1
    · have e2 : (goodN t i && roomOk w h) = true := by rw [goodN, hb'.1, hb'.2, decide_eq_true hi]; rfl
      have c2 := c_seenI t hk w h (by omega) (by omega) i.toNat (by omega)
      rw [Int.toNat_of_nonneg hi.1] at c2
      rw [show seenP t w h i = seenOf t (rectAt t w h) i.toNat by rw [seenP, if_pos e2]]
      refine ACon.introW tok (nt := 28) Tryz.func8 rfl rfl rfl (by kernel_rfl) rfl ?_
      repeat' (first | ((with_reducible apply xsim); (first | ((with_reducible apply xlenM); exact rfl; exact rfl) | ((with_reducible apply xo); exact rfl) | ((with_reducible apply xst); exact rfl) | with_reducible apply xend | ((with_reducible apply xalloc); exact rfl; simp only [backV, backVs, backVs_mapd, backId, backO, List.map_cons, List.map_nil, List.getElem?_nil, List.length_cons, List.length_nil, Nat.reduceAdd, Nat.reduceSub, List.cons_append, List.nil_append, List.append_nil]) | ((with_reducible apply xbox); exact rfl; simp only [backV, backVs, backVs_mapd, backId, backO, List.map_cons, List.map_nil, List.getElem?_nil, List.length_cons, List.length_nil, Nat.reduceAdd, Nat.reduceSub, List.cons_append, List.nil_append, List.append_nil]) | ((with_reducible apply xcallIs); exact rfl; exact rfl; (first | exact c1 | exact c_within _ _ _ | exact c2); exact rfl))) | ((with_reducible apply xaw); (first | ((with_reducible apply xstepS); refine AW.step tok rfl ?_) | with_reducible (first | refine AW.seq ?_ | refine AW.skip ?_ | refine AW.ret ?_) | ((with_reducible apply xcond); exact rfl))) | with_reducible refine xthen ?_ | (with_reducible intro hc; (try simp only [decide_eq_true_eq, decide_eq_false_iff_not, Bool.not_true, Bool.not_false, Bool.not_eq_true', Bool.not_eq_false', ne_eq, not_true, reduceCtorEq, List.length_map, hll] at hc); (try (exfalso; omega))) | with_reducible (first | exact trivial | refine And.intro ?_ ?_ | exact rfl) | exact Eq.refl true | (refine inR_i64.mpr ?_; first | omega | (simp only [List.length_map, List.length_map, hll]; omega)))
      all_goals (refine xfinIs (by first | exact .inl rfl | exact .inr rfl) rfl (by repeat' (first | exact trivial | exact rfl | refine And.intro ?_ ?_)) rfl ?_ rfl; first | (simp -implicitDefEqProofs only [go_sem, Int.reduceEq, Int.reduceLT, Int.reduceLE, Nat.reduceAdd, Nat.reduceSub, Nat.reduceMul, Nat.reduceEqDiff, Nat.reduceLeDiff, Nat.reducePow, ↓reduceIte, reduceCtorEq, seenV] <;> (first | rfl | omega | exact decide_eq_decide.2 (by omega) | exact decide_eq_false (by omega) | exact decide_eq_true (by omega) | (symm; first | exact decide_eq_false (by omega) | exact decide_eq_true (by omega)) | (rw [Bool.eq_iff_iff]; simp only [Bool.not_eq_true', Bool.not_eq_false', Bool.and_eq_true, Bool.or_eq_true, decide_eq_true_eq, decide_eq_false_iff_not, reduceCtorEq, true_iff, iff_true, false_iff, iff_false]; omega))))
    · have e2 : (goodN t i && roomOk w h) = false := by rw [goodN, decide_eq_false hi, Bool.and_false, Bool.false_and]
      rw [show seenP t w h i = (⟨0, 0, 0, 0⟩, false) by rw [seenP, e2]; rfl]
      refine ACon.introW tok (nt := 28) Tryz.func8 rfl rfl rfl (by kernel_rfl) rfl ?_
      repeat' (first | ((with_reducible apply xsim); (first | ((with_reducible apply xlenM); exact rfl; exact rfl) | ((with_reducible apply xo); exact rfl) | ((with_reducible apply xst); exact rfl) | with_reducible apply xend | ((with_reducible apply xalloc); exact rfl; simp only [backV, backVs, backVs_mapd, backId, backO, List.map_cons, List.map_nil, List.getElem?_nil, List.length_cons, List.length_nil, Nat.reduceAdd, Nat.reduceSub, List.cons_append, List.nil_append, List.append_nil]) | ((with_reducible apply xbox); exact rfl; simp only [backV, backVs, backVs_mapd, backId, backO, List.map_cons, List.map_nil, List.getElem?_nil, List.length_cons, List.length_nil, Nat.reduceAdd, Nat.reduceSub, List.cons_append, List.nil_append, List.append_nil]) | ((with_reducible apply xcallIs); exact rfl; exact rfl; (first | exact c1 | exact c_within _ _ _); exact rfl))) | ((with_reducible apply xaw); (first | ((with_reducible apply xstepS); refine AW.step tok rfl ?_) | with_reducible (first | refine AW.seq ?_ | refine AW.ret ?_) | ((with_reducible apply xcond); exact rfl))) | with_reducible refine xthen_r ?_ | (with_reducible intro hc; (try simp only [decide_eq_true_eq, decide_eq_false_iff_not, Bool.not_true, Bool.not_false, Bool.not_eq_true', Bool.not_eq_false', ne_eq, not_true, reduceCtorEq, List.length_map, hll] at hc); (try (exfalso; omega))) | with_reducible (first | exact trivial | refine And.intro ?_ ?_ | exact rfl) | exact Eq.refl true | (refine inR_i64.mpr ?_; first | omega | (simp only [List.length_map, List.length_map, hll]; omega)))
      all_goals (refine xfinIs (by first | exact .inl rfl | exact .inr rfl) rfl (by repeat' (first | exact trivial | exact rfl | refine And.intro ?_ ?_)) rfl ?_ rfl; first | (simp -implicitDefEqProofs only [go_sem, Int.reduceEq, Int.reduceLT, Int.reduceLE, Nat.reduceAdd, Nat.reduceSub, Nat.reduceMul, Nat.reduceEqDiff, Nat.reduceLeDiff, Nat.reducePow, ↓reduceIte, reduceCtorEq, seenV] <;> (first | rfl | omega | exact decide_eq_decide.2 (by omega) | exact decide_eq_false (by omega) | exact decide_eq_true (by omega) | (symm; first | exact decide_eq_false (by omega) | exact decide_eq_true (by omega)) | (rw [Bool.eq_iff_iff]; simp only [Bool.not_eq_true', Bool.not_eq_false', Bool.and_eq_true, Bool.or_eq_true, decide_eq_true_eq, decide_eq_false_iff_not, reduceCtorEq, true_iff, iff_true, false_iff, iff_false]; omega))))

end Go.Proofs.YticgjepndfjafaaGreat

namespace Go.Proofs.YticgjepndfjafaaGreat
open Go.Fw
attribute [local irreducible] Go.Fw.aops Go.Fw.arun
theorem TreeB.L {t : List Node} (h : TreeB t) : TreeL t := ⟨by have := h.2.1; omega, fun i hi => by have := h.2.2 _ (List.getElem_mem hi); omega⟩
/-- A tree that was drawn, and a room. -/
def ARoom (r : V) : Prop := ∃ (t : List Node) (w h : Int), r = .tup [vTree t, .d (.int .i64 w), .d (.int .i64 h)] ∧ TreeB t ∧ -1 ≤ w ∧ w ≤ 2000 ∧ -1 ≤ h ∧ h ≤ 2000
set_option maxHeartbeats 4000000 in
theorem c_treeRoom (bs : List Byte) (p : Int) (hb : bs.length ≤ 2000) (hp : 0 ≤ p ∧ p < 2^26) :
    ACon Tryz.prog 40 [.oref 0 0] [.box [.d (.lst (bs.map encByte)), .d (.int .i64 p)]] (Rd (.lst (bs.map encByte)) p (p + 1320) ARoom) := by
  refine ACon.introW tok (nt := 35) Tryz.func40 rfl rfl rfl (by kernel_rfl) rfl ?_
  repeat' ((fail_if_success (with_reducible apply xnocond)); first | ((with_reducible apply xsim); (first | ((with_reducible apply xo); exact rfl) | ((with_reducible apply xst); exact rfl) | with_reducible apply xend | ((with_reducible apply xalloc); exact rfl; simp only [backV, backVs, backVs_mapd, backId, backO, List.map_cons, List.map_nil, List.getElem?_nil, List.length_cons, List.length_nil, Nat.reduceAdd, Nat.reduceSub, List.cons_append, List.nil_append, List.append_nil]) | ((with_reducible apply xbuild); exact rfl; exact rfl; exact rfl; exact rfl; exact rfl; simp only [backV, backVs, backVs_mapd, backId, backO, List.map_cons, List.map_nil, List.getElem?_nil, List.length_cons, List.length_nil, Nat.reduceAdd, Nat.reduceSub, List.cons_append, List.nil_append, List.append_nil]) | ((with_reducible apply xcallRd); exact rfl; exact rfl; exact rfl; exact c_someTree bs _ hb (by omega); rintro _ p' _ _ ⟨t, rfl, ht⟩; (try simp only [List.set_cons_zero, List.set_cons_succ])) | ((with_reducible apply xcallOne); exact rfl; exact rfl; exact rfl; exact rfl; exact c_one rfl rfl hb (by omega) rfl rfl; rintro _ p' _ _ ⟨v, rfl, h1⟩; (try simp only [List.set_cons_zero, List.set_cons_succ])))) | ((with_reducible apply xaw); ((with_reducible apply xstepS); refine AW.step tok rfl ?_)) | with_reducible (first | exact trivial | refine And.intro ?_ ?_) | exact Eq.refl true)
  refine AW.seq ?_
  rename_i w h0 _ _
  have hL := ht.L
  have c1 := c_validTree t hL
  simp only [List.mem_cons, List.not_mem_nil, or_false] at h0 h1
  cases hv : treeOk t
  · rw [hv] at c1
    repeat' (first | ((with_reducible apply xsim); (first | ((with_reducible apply xo); exact rfl) | ((with_reducible apply xst); exact rfl) | with_reducible apply xend | ((with_reducible apply xguardS); exact rfl; exact rfl) | ((with_reducible apply xcallIs); exact rfl; exact rfl; exact c1; exact rfl))) | ((with_reducible apply xaw); (first | ((with_reducible apply xstepS); refine AW.step tok rfl ?_) | with_reducible (first | refine AW.skip ?_ | refine AW.ret ?_) | ((with_reducible apply xcond); exact rfl))) | with_reducible refine xthen ?_ | (with_reducible intro hc; (try simp only [decide_eq_true_eq, decide_eq_false_iff_not, Bool.not_true, Bool.not_false, Bool.not_eq_true', Bool.not_eq_false', ne_eq, not_true, reduceCtorEq, List.length_map] at hc); (try (exfalso; omega))) | with_reducible (first | exact trivial | refine And.intro ?_ ?_) | exact Eq.refl true)
    all_goals refine xfinRd (by first | exact .inl rfl | exact .inr rfl) rfl (by repeat' (first | exact trivial | exact rfl | refine And.intro ?_ ?_)) rfl (by omega) (by omega) ?_
    all_goals exact ⟨t, _, _, rfl, ht, by omega, by omega, by omega, by omega⟩
  · rw [hv] at c1
    have hk := treeK hv
    have c2 := c_sizeOf t hk 0 hk.lo
    have hw := wish_le hk (i := 0) hk.lo
    repeat' (first | ((with_reducible apply xsim); (first | ((with_reducible apply xo); exact rfl) | ((with_reducible apply xst); exact rfl) | with_reducible apply xend | ((with_reducible apply xguardS); exact rfl; exact rfl) | ((with_reducible apply xcallIs); exact rfl; exact rfl; (first | exact c1 | exact c2); exact rfl) | ((with_reducible apply xcallRd); exact rfl; exact rfl; exact rfl; exact c_pick bs _ _ hb (by omega) (by omega); rintro _ p' _ _ ⟨v, rfl, h1, h2, h3⟩; (try simp only [List.set_cons_zero, List.set_cons_succ])))) | ((with_reducible apply xaw); (first | ((with_reducible apply xstepS); refine AW.step tok rfl ?_) | ((with_reducible apply xstep); refine AW.region tok rfl ?_) | with_reducible (first | refine AW.skip ?_ | refine AW.ret ?_) | ((with_reducible apply xcond); exact rfl))) | with_reducible refine xthen ?_ | (with_reducible intro hc; (try simp only [decide_eq_true_eq, decide_eq_false_iff_not, Bool.not_true, Bool.not_false, Bool.not_eq_true', Bool.not_eq_false', ne_eq, not_true, reduceCtorEq, List.length_map] at hc); (try (exfalso; omega))) | with_reducible (first | exact trivial | refine And.intro ?_ ?_ | exact rfl) | exact Eq.refl true)
    all_goals refine xfinRd (by first | exact .inl rfl | exact .inr rfl) rfl (by repeat' (first | exact trivial | exact rfl | refine And.intro ?_ ?_)) rfl (by omega) (by omega) ?_
    all_goals exact ⟨t, _, _, rfl, ht, by omega, by omega, by omega, by omega⟩
theorem c_DrawClippedNodes (cs : List Byte) (hl : cs.length < 2^63) : ACon Tryz.prog 16 [.d (.lst (cs.map encByte))] [] (Sm ARoom) := by
  have hb : (cs.take 2000).length ≤ 2000 := by rw [List.length_take]; omega
  refine ACon.introW tok (nt := 11) Tryz.func16 rfl rfl rfl (by kernel_rfl) rfl ?_
  repeat' (first | ((with_reducible apply xsim); (first | ((with_reducible apply xo); exact rfl) | ((with_reducible apply xst); exact rfl) | with_reducible apply xend | ((with_reducible apply xalloc); exact rfl; simp only [backV, backVs, backVs_mapd, backId, backO, List.map_cons, List.map_nil, List.getElem?_nil, List.length_cons, List.length_nil, Nat.reduceAdd, Nat.reduceSub, List.cons_append, List.nil_append, List.append_nil]) | ((with_reducible apply xcallOwn); exact rfl; exact rfl; exact c_newReader cs hl; simp only [backV, backVs, backVs_mapd, backId, backO, List.map_cons, List.map_nil, List.getElem?_nil, List.length_cons, List.length_nil, Nat.reduceAdd, Nat.reduceSub, List.cons_append, List.nil_append, List.append_nil]) | ((with_reducible apply xcallRd); exact rfl; exact rfl; exact rfl; exact c_treeRoom _ _ hb (by omega); rintro _ p' _ _ ⟨t, w, h, rfl, ht, hr⟩; (try simp only [List.set_cons_zero, List.set_cons_succ])))) | ((with_reducible apply xaw); (first | ((with_reducible apply xstepS); refine AW.step tok rfl ?_) | with_reducible refine AW.ret ?_)) | with_reducible (first | exact trivial | refine And.intro ?_ ?_) | exact Eq.refl true)
  refine xfinSm (by first | exact .inl rfl | exact .inr rfl) rfl (by repeat' (first | exact trivial | exact rfl | refine And.intro ?_ ?_)) rfl ?_
  exact ⟨t, w, h, rfl, ht, hr⟩
end Go.Proofs.YticgjepndfjafaaGreat

namespace Go.Proofs.YticgjepndfjafaaGreat
open Go.Fw

/-! Nodes that are smaller than they ask for. -/
theorem filter_len (p : Nat → Bool) (k : Nat) : ((List.range k).filter p).length ≤ k := by
  have := List.length_filter_le p (List.range k)
  simpa using this

end Go.Proofs.YticgjepndfjafaaGreat

namespace Go.Proofs.YticgjepndfjafaaGreat
open Go.Fw

/-- Packed kids lie in their parents. -/
theorem pack_in {t : List Node} (hk : TreeK t) {w h : Int} (hw : 0 ≤ w ∧ w ≤ 400) (hh : 0 ≤ h ∧ h ≤ 400) {i k : Nat} (hi : i < t.length) (h0 : (nodeAt t i).kind = 0) (hm : k ∈ kids t i) : InR (rectAt t w h i) (rectAt t w h k) := by
  obtain ⟨j, hj, rfl⟩ := List.mem_iff_getElem.1 hm
  have hhi := hk.hi
  rw [rectAt_kid hk hj]
  obtain ⟨a, b⟩ := items_ok hk i
  refine packed_inR (by omega) b ((rect_bd hk hw hh i hi).in (by omega)) _ ?_
  have e : kidRects t i (rectAt t w h i) = packed (itemsOf t (kids t i)) (rectAt t w h i) := by unfold kidRects; rw [if_pos h0]
  rw [← e]
  exact List.getElem_mem _
end Go.Proofs.YticgjepndfjafaaGreat

namespace Go.Proofs.YticgjepndfjafaaGreat
open Go.Fw
attribute [local irreducible] Go.Fw.aops Go.Fw.arun

theorem c_equalK (ks : List Nat) (hl : ks.length < 2^40) : ACon Tryz.prog 18 [.d (.lst (ks.map encK)), .d (.lst (ks.map encK))] [] (Is (.d (.bool true))) := by
  rw [encK_map]
  exact c_laws.equalInts _ (by rw [List.length_map]; omega)

def hasN (ks : List Nat) (n : Int) : Bool := ks.any fun k => decide ((k : Int) = n)
theorem hasN_iff {ks : List Nat} {n : Nat} : hasN ks (n : Int) = true ↔ n ∈ ks := by
  unfold hasN
  rw [List.any_eq_true]
  constructor
  · rintro ⟨k, hk, h⟩
    have h : (k : Int) = (n : Int) := of_decide_eq_true h
    have : k = n := by omega
    exact this ▸ hk
  · intro h
    exact ⟨n, h, by simp⟩
theorem c_isIn (ks : List Nat) (n : Int) (hl : ks.length < 2^40) : ACon Tryz.prog 20 [.d (.lst (ks.map encK)), .d (.int .i64 n)] [] (Is (.d (.bool (hasN ks n)))) := by
  refine ACon.introW tok (nt := 18) Tryz.func20 rfl rfl rfl (by kernel_rfl) rfl ?_
  repeat' (first | ((with_reducible apply xsim); (first | ((with_reducible apply xo); exact rfl) | with_reducible apply xend)) | ((with_reducible apply xaw); (first | ((with_reducible apply xstepS); refine AW.step tok rfl ?_) | with_reducible (first | refine AW.seq ?_ | refine AW.block ?_))) | with_reducible exact trivial)
  refine AW.loop (S := fun k : Nat => ⟨[(0, .d (.lst (ks.map encK))), (1, .d (.int .i64 n)), (5, .d (.int .i64 k))], [], 18, 0⟩)
    (Pre := fun k => k ≤ ks.length ∧ (ks.take k).any (fun k => decide ((k : Int) = n)) = false) (μ := fun k => ks.length - k) 0 ⟨Nat.zero_le _, rfl⟩ ?_ ?_
  · (refine xwk (π := []) (by decide) rfl ?_ ?_; (first | exact trivial); repeat' (first | exact renE_n | ((with_reducible apply renE_c); exact rfl; focus (first | (simp -implicitDefEqProofs only [go_sem, Int.reduceEq, Int.reduceLT, Int.reduceLE, Nat.reduceAdd, Nat.reduceSub, Nat.reduceMul, Nat.reduceEqDiff, Nat.reduceLeDiff, Nat.reducePow, ↓reduceIte, reduceCtorEq]; done)))))
  rintro k ⟨hk, hno⟩
  by_cases hlt : k < ks.length
  · have hrow := at_map (f := encK) hlt
    have ht : (ks.take (k + 1)).any (fun k => decide ((k : Int) = n)) = ((ks.take k).any (fun k => decide ((k : Int) = n)) || decide ((ks[k] : Int) = n)) := by
      rw [List.take_succ_eq_append_getElem hlt, List.any_append]
      simp only [List.any_cons, List.any_nil, Bool.or_false]
    by_cases he : (ks[k] : Int) = n
    · have hh : hasN ks n = true := by
        unfold hasN
        rw [List.any_eq_true]
        exact ⟨ks[k], List.getElem_mem hlt, decide_eq_true he⟩
      rw [hh]
      repeat' (first | ((with_reducible apply xsim); (first | ((with_reducible apply xlenM); exact rfl; exact rfl) | ((with_reducible apply xo); exact rfl) | with_reducible apply xend | ((with_reducible apply xidxL); exact rfl; exact rfl; exact rfl; (first | exact hrow); omega; first | exact rfl | simp only [hsz]))) | ((with_reducible apply xaw); (first | ((with_reducible apply xstepS); refine AW.step tok rfl ?_) | with_reducible (first | refine AW.seq ?_ | refine AW.block ?_ | refine AW.skip ?_ | refine AW.ret ?_) | ((with_reducible apply xcond); exact rfl))) | with_reducible (first | refine xthen ?_ | refine xthen_r ?_ | refine xblock_r ?_ | refine xround_r ?_) | (with_reducible intro hc; (try simp only [decide_eq_true_eq, decide_eq_false_iff_not, Bool.not_true, Bool.not_false, Bool.not_eq_true', Bool.not_eq_false', ne_eq, not_true, reduceCtorEq, List.length_map] at hc); (try (exfalso; omega))) | with_reducible (first | exact trivial | refine And.intro ?_ ?_ | exact rfl))
      (refine xfinIs (by first | exact .inl rfl | exact .inr rfl) rfl (by repeat' (first | exact trivial | exact rfl | refine And.intro ?_ ?_)) rfl ?_ rfl; first | with_reducible exact rfl)
    · repeat' (first | ((with_reducible apply xsim); (first | ((with_reducible apply xlenM); exact rfl; exact rfl) | ((with_reducible apply xo); exact rfl) | with_reducible apply xend | ((with_reducible apply xidxL); exact rfl; exact rfl; exact rfl; (first | exact hrow); omega; first | exact rfl | simp only [hsz]))) | ((with_reducible apply xaw); (first | ((with_reducible apply xstepS); refine AW.step tok rfl ?_) | ((with_reducible apply xstep); refine AW.region tok rfl ?_) | with_reducible (first | refine AW.seq ?_ | refine AW.block ?_ | refine AW.skip ?_) | ((with_reducible apply xcond); exact rfl))) | with_reducible (first | refine xthen ?_ | refine xblock ?_) | (with_reducible intro hc; (try simp only [decide_eq_true_eq, decide_eq_false_iff_not, Bool.not_true, Bool.not_false, Bool.not_eq_true', Bool.not_eq_false', ne_eq, not_true, reduceCtorEq, List.length_map] at hc); (try (exfalso; omega))) | with_reducible (first | exact trivial | refine And.intro ?_ ?_ | exact rfl) | (refine inR_i64.mpr ?_; first | omega | (simp only [List.length_map, List.length_map]; omega)))
      refine round_end (k+1) ⟨hlt, by rw [ht, hno, decide_eq_false he]; rfl⟩ (by omega) (by (refine xwk (π := []) (by decide) rfl ?_ ?_; (first | exact trivial); repeat' (first | exact renE_n | ((with_reducible apply renE_c); exact rfl; focus (first | (simp -implicitDefEqProofs only [go_sem, Int.reduceEq, Int.reduceLT, Int.reduceLE, Nat.reduceAdd, Nat.reduceSub, Nat.reduceMul, Nat.reduceEqDiff, Nat.reduceLeDiff, Nat.reducePow, ↓reduceIte, reduceCtorEq]; done))))))
  have hk' : k = ks.length := by omega
  subst hk'
  rw [List.take_length] at hno
  rw [show hasN ks n = false from hno]
  repeat' (first | ((with_reducible apply xsim); (first | ((with_reducible apply xlenM); exact rfl; exact rfl) | ((with_reducible apply xo); exact rfl) | with_reducible apply xend)) | ((with_reducible apply xaw); (first | ((with_reducible apply xstepS); refine AW.step tok rfl ?_) | with_reducible (first | refine AW.seq ?_ | refine AW.ret ?_ | refine AW.exit ?_) | ((with_reducible apply xcond); exact rfl))) | with_reducible (first | refine xthen ?_ | refine xthen_e ?_ | refine xblock_e ?_ | refine xround_e ?_) | (with_reducible intro hc; (try simp only [decide_eq_true_eq, decide_eq_false_iff_not, Bool.not_true, Bool.not_false, Bool.not_eq_true', Bool.not_eq_false', ne_eq, not_true, reduceCtorEq, List.length_map] at hc); (try (exfalso; omega))) | with_reducible (first | exact trivial | refine And.intro ?_ ?_ | exact rfl))
  (refine xfinIs (by first | exact .inl rfl | exact .inr rfl) rfl (by repeat' (first | exact trivial | exact rfl | refine And.intro ?_ ?_)) rfl ?_ rfl; first | with_reducible exact rfl)
theorem c_ascends (ks : List Nat) (hl : ks.length < 2^40) (hp : ks.Pairwise (· < ·)) : ACon Tryz.prog 21 [.d (.lst (ks.map encK))] [] (Is (.d (.bool true))) := by
  refine ACon.introW tok (nt := 20) Tryz.func21 rfl rfl rfl (by kernel_rfl) rfl ?_
  repeat' (first | ((with_reducible apply xsim); (first | ((with_reducible apply xo); exact rfl) | with_reducible apply xend)) | ((with_reducible apply xaw); (first | ((with_reducible apply xstepS); refine AW.step tok rfl ?_) | with_reducible (first | refine AW.seq ?_ | refine AW.block ?_))) | with_reducible exact trivial)
  refine AW.loop (S := fun k : Nat => ⟨[(0, .d (.lst (ks.map encK))), (3, .d (.int .i64 ((k : Int) + 1)))], [], 20, 0⟩)
    (Pre := fun k => k ≤ ks.length) (μ := fun k => ks.length - k) 0 (Nat.zero_le _) ?_ ?_
  · (refine xwk (π := []) (by decide) rfl ?_ ?_; (first | exact trivial); repeat' (first | exact renE_n | ((with_reducible apply renE_c); exact rfl; focus (first | (simp -implicitDefEqProofs only [go_sem, Int.reduceEq, Int.reduceLT, Int.reduceLE, Nat.reduceAdd, Nat.reduceSub, Nat.reduceMul, Nat.reduceEqDiff, Nat.reduceLeDiff, Nat.reducePow, ↓reduceIte, reduceCtorEq]; done) | (simp -implicitDefEqProofs only [go_sem, Int.reduceEq, Int.reduceLT, Int.reduceLE, Nat.reduceAdd, Nat.reduceSub, Nat.reduceMul, Nat.reduceEqDiff, Nat.reduceLeDiff, Nat.reducePow, ↓reduceIte, reduceCtorEq]; omega)))))
  intro k hk
  by_cases hlt : k + 1 < ks.length
  · have hrow := at_map (f := encK) (k := k) (xs := ks) (by omega)
    have hrow2 := at_map (f := encK) hlt
    have h1 : (ks.map encK)[((k : Int) + 1).toNat]? = some (encK ks[k + 1]) := by rw [show ((k : Int) + 1).toNat = k + 1 by omega]; exact hrow2
    have h2 : (ks.map encK)[((k : Int) + 1 - 1).toNat]? = some (encK (ks[k]'(by omega))) := by rw [show ((k : Int) + 1 - 1).toNat = k by omega]; exact hrow
    have hlt' := List.pairwise_iff_getElem.1 hp k (k + 1) (by omega) hlt (by omega)
    repeat' (first | ((with_reducible apply xsim); (first | ((with_reducible apply xlenM); exact rfl; exact rfl) | ((with_reducible apply xo); exact rfl) | with_reducible apply xend | ((with_reducible apply xidxL); exact rfl; exact rfl; exact rfl; (first | exact h1 | exact h2); omega; first | exact rfl | simp only [hsz]))) | ((with_reducible apply xaw); (first | ((with_reducible apply xstepS); refine AW.step tok rfl ?_) | ((with_reducible apply xstep); refine AW.region tok rfl ?_) | with_reducible (first | refine AW.seq ?_ | refine AW.block ?_ | refine AW.skip ?_) | ((with_reducible apply xcond); exact rfl) | ((with_reducible apply xdraw (id := 4)); refine AW.draw (id := 4) (.q 0 (.q 1 (.q 2 (.q 3 (.q 4 (.q 5 (.q 6 (.q 7 (.q 8 (.q 9 (.fin))))))))))) tok (by kernel_rfl) rfl (by kernel_rfl) ?_))) | ((with_reducible apply xarun); (first | ((with_reducible apply xrun_q); exact rfl; exact rfl; exact rfl) | with_reducible apply xrun_f)) | with_reducible (first | refine xthen ?_ | refine xblock ?_) | (with_reducible intro hc; (try simp only [decide_eq_true_eq, decide_eq_false_iff_not, Bool.not_true, Bool.not_false, Bool.not_eq_true', Bool.not_eq_false', ne_eq, not_true, reduceCtorEq, List.length_map] at hc); (try (exfalso; omega))) | with_reducible (first | exact trivial | refine And.intro ?_ ?_ | exact rfl) | (refine inR_i64.mpr ?_; first | omega | (simp only [List.length_map, List.length_map]; omega)))
    refine round_end (k+1) (by omega) (by omega) (by (refine xwk (π := []) (by decide) rfl ?_ ?_; (first | exact trivial); repeat' (first | exact renE_n | ((with_reducible apply renE_c); exact rfl; focus (first | (simp -implicitDefEqProofs only [go_sem, Int.reduceEq, Int.reduceLT, Int.reduceLE, Nat.reduceAdd, Nat.reduceSub, Nat.reduceMul, Nat.reduceEqDiff, Nat.reduceLeDiff, Nat.reducePow, ↓reduceIte, reduceCtorEq, Int.natCast_add, Int.natCast_one]; done))))))
  · repeat' (first | ((with_reducible apply xsim); (first | ((with_reducible apply xlenM); exact rfl; exact rfl) | ((with_reducible apply xo); exact rfl) | with_reducible apply xend)) | ((with_reducible apply xaw); (first | ((with_reducible apply xstepS); refine AW.step tok rfl ?_) | with_reducible (first | refine AW.seq ?_ | refine AW.ret ?_ | refine AW.exit ?_) | ((with_reducible apply xcond); exact rfl))) | with_reducible (first | refine xthen ?_ | refine xthen_e ?_ | refine xblock_e ?_ | refine xround_e ?_) | (with_reducible intro hc; (try simp only [decide_eq_true_eq, decide_eq_false_iff_not, Bool.not_true, Bool.not_false, Bool.not_eq_true', Bool.not_eq_false', ne_eq, not_true, reduceCtorEq, List.length_map] at hc); (try (exfalso; omega))) | with_reducible (first | exact trivial | refine And.intro ?_ ?_ | exact rfl))
    (refine xfinIs (by first | exact .inl rfl | exact .inr rfl) rfl (by repeat' (first | exact trivial | exact rfl | refine And.intro ?_ ?_)) rfl ?_ rfl; first | with_reducible exact rfl)
theorem filter_asc (p : Nat → Bool) (n : Nat) : ((List.range n).filter p).Pairwise (· < ·) := List.Pairwise.filter _ List.pairwise_lt_range
end Go.Proofs.YticgjepndfjafaaGreat

namespace Go.Proofs.YticgjepndfjafaaGreat
open Go.Fw
attribute [local irreducible] Go.Fw.aops Go.Fw.arun

/-! Hidden nodes, clipped nodes. -/
def insB (r q : Rect) : Bool := decide (r.x ≤ q.x ∧ r.y ≤ q.y ∧ q.x + q.w ≤ r.x + r.w ∧ q.y + q.h ≤ r.y + r.h)
theorem c_insideI (a b : Rect) (ha : RectIn a) (hb : RectIn b) : ACon Tryz.prog 41 [vRect a, vRect b] [] (Is (.d (.bool (insB b a)))) := by
  obtain ⟨h1, h2, h3, h4, h5, h6⟩ := ha
  obtain ⟨g1, g2, g3, g4, g5, g6⟩ := hb
  refine ACon.introW tok (nt := 43) Tryz.func41 rfl rfl rfl (by kernel_rfl) rfl ?_
  repeat' (first | ((with_reducible apply xsim); (first | ((with_reducible apply xo); exact rfl) | with_reducible apply xend | ((with_reducible apply xguardS); exact rfl; exact rfl) | ((with_reducible apply xbox); exact rfl; simp only [backV, backVs, backVs_mapd, backId, backO, List.map_cons, List.map_nil, List.getElem?_nil, List.length_cons, List.length_nil, Nat.reduceAdd, Nat.reduceSub, List.cons_append, List.nil_append, List.append_nil]))) | ((with_reducible apply xaw); (first | ((with_reducible apply xstepS); refine AW.step tok rfl ?_) | with_reducible refine AW.ret ?_)) | (with_reducible intro hc; (try simp only [decide_eq_true_eq, decide_eq_false_iff_not, Bool.not_true, Bool.not_false, Bool.not_eq_true', Bool.not_eq_false', ne_eq, not_true, reduceCtorEq] at hc); (try (exfalso; omega))) | with_reducible (first | exact trivial | refine And.intro ?_ ?_ | exact rfl) | (refine inR_i64.mpr ?_; first | omega | (simp only [List.length_map]; omega)))
  all_goals (refine xfinIs (by first | exact .inl rfl | exact .inr rfl) rfl (by repeat' (first | exact trivial | exact rfl | refine And.intro ?_ ?_)) rfl ?_ rfl; first | (simp -implicitDefEqProofs only [go_sem, Int.reduceEq, Int.reduceLT, Int.reduceLE, Nat.reduceAdd, Nat.reduceSub, Nat.reduceMul, Nat.reduceEqDiff, Nat.reduceLeDiff, Nat.reducePow, ↓reduceIte, reduceCtorEq, insB] <;> (first | rfl | omega | exact decide_eq_decide.2 (by omega) | exact decide_eq_false (by omega) | exact decide_eq_true (by omega) | (symm; first | exact decide_eq_false (by omega) | exact decide_eq_true (by omega)) | (rw [Bool.eq_iff_iff]; simp only [Bool.not_eq_true', Bool.not_eq_false', Bool.and_eq_true, Bool.or_eq_true, decide_eq_true_eq, decide_eq_false_iff_not, reduceCtorEq, true_iff, iff_true, false_iff, iff_false]; omega))))
theorem c_insideS (a b : Rect) (ha : RectIn a) (hb : RectIn b) : ACon Tryz.prog 43 [vRect a, vRect b] [] (Is (.d (.bool (insB a b)))) := by
  obtain ⟨h1, h2, h3, h4, h5, h6⟩ := ha
  obtain ⟨g1, g2, g3, g4, g5, g6⟩ := hb
  refine ACon.introW tok (nt := 43) Tryz.func43 rfl rfl rfl (by kernel_rfl) rfl ?_
  repeat' (first | ((with_reducible apply xsim); (first | ((with_reducible apply xo); exact rfl) | with_reducible apply xend | ((with_reducible apply xguardS); exact rfl; exact rfl) | ((with_reducible apply xbox); exact rfl; simp only [backV, backVs, backVs_mapd, backId, backO, List.map_cons, List.map_nil, List.getElem?_nil, List.length_cons, List.length_nil, Nat.reduceAdd, Nat.reduceSub, List.cons_append, List.nil_append, List.append_nil]))) | ((with_reducible apply xaw); (first | ((with_reducible apply xstepS); refine AW.step tok rfl ?_) | with_reducible refine AW.ret ?_)) | (with_reducible intro hc; (try simp only [decide_eq_true_eq, decide_eq_false_iff_not, Bool.not_true, Bool.not_false, Bool.not_eq_true', Bool.not_eq_false', ne_eq, not_true, reduceCtorEq] at hc); (try (exfalso; omega))) | with_reducible (first | exact trivial | refine And.intro ?_ ?_ | exact rfl) | (refine inR_i64.mpr ?_; first | omega | (simp only [List.length_map]; omega)))
  all_goals (refine xfinIs (by first | exact .inl rfl | exact .inr rfl) rfl (by repeat' (first | exact trivial | exact rfl | refine And.intro ?_ ?_)) rfl ?_ rfl; first | (simp -implicitDefEqProofs only [go_sem, Int.reduceEq, Int.reduceLT, Int.reduceLE, Nat.reduceAdd, Nat.reduceSub, Nat.reduceMul, Nat.reduceEqDiff, Nat.reduceLeDiff, Nat.reducePow, ↓reduceIte, reduceCtorEq, insB] <;> (first | rfl | omega | exact decide_eq_decide.2 (by omega) | exact decide_eq_false (by omega) | exact decide_eq_true (by omega) | (symm; first | exact decide_eq_false (by omega) | exact decide_eq_true (by omega)) | (rw [Bool.eq_iff_iff]; simp only [Bool.not_eq_true', Bool.not_eq_false', Bool.and_eq_true, Bool.or_eq_true, decide_eq_true_eq, decide_eq_false_iff_not, reduceCtorEq, true_iff, iff_true, false_iff, iff_false]; omega))))

def filTo (p : Nat → Bool) (k : Nat) : List Nat := (List.range k).filter p
theorem filTo_succ {p : Nat → Bool} {k : Nat} : filTo p (k + 1) = filTo p k ++ if p k = true then [k] else [] := by
  simp only [filTo, List.range_succ, List.filter_append, List.filter_cons, List.filter_nil]
def isClip (t : List Node) (w h : Int) (k : Nat) : Bool := decide (k ≠ 0) && !insB (rectAt t w h (nodeAt t k).parent.toNat) (rectAt t w h k)
def clipOf (t : List Node) (w h : Int) : List Nat := if (treeOk t && roomOk w h) = true then filTo (isClip t w h) t.length else []

set_option maxRecDepth 8000 in
set_option maxHeartbeats 4000000 in
theorem c_ClipI (t : List Node) (hL : TreeL t) (w h : Int) : ACon Tryz.prog 17 [vTree t, .d (.int .i64 w), .d (.int .i64 h)] [] (ORows encK 1 (clipOf t w h)) := by
  have c1 := ORows.data (c_LayoutI t hL w h)
  cases hb : (treeOk t && roomOk w h)
  · have e : layoutT t w h = [] := by rw [layoutT, hb]; rfl
    rw [e] at c1
    rw [show clipOf t w h = [] by rw [clipOf, hb]; rfl]
    refine ACon.introW tok (nt := 44) Tryz.func17 rfl rfl rfl (by kernel_rfl) rfl ?_
    repeat' (first | ((with_reducible apply xsim); (first | ((with_reducible apply xlenM); exact rfl; exact rfl) | ((with_reducible apply xo); exact rfl) | with_reducible apply xend | ((with_reducible apply xbox); exact rfl; simp only [backV, backVs, backVs_mapd, backId, backO, List.map_cons, List.map_nil, List.getElem?_nil, List.length_cons, List.length_nil, Nat.reduceAdd, Nat.reduceSub, List.cons_append, List.nil_append, List.append_nil]) | ((with_reducible apply xcallIs); exact rfl; exact rfl; exact c1; exact rfl))) | ((with_reducible apply xaw); (first | ((with_reducible apply xstepS); refine AW.step tok rfl ?_) | with_reducible (first | refine AW.seq ?_ | refine AW.block ?_))) | with_reducible exact trivial | exact Eq.refl true)
    refine AW.loop (S := fun _ : Unit => ⟨[(8, .nils), (16, .d (.int .i64 0)), (17, .d (.int .i64 0))], [], 44, 0⟩) (Pre := fun _ => True) (μ := fun _ => 0) () trivial ?_ ?_
    · (refine xwk (π := []) (by decide) rfl ?_ ?_; (first | exact trivial); repeat' (first | exact renE_n | ((with_reducible apply renE_c); exact rfl; focus (first | (simp -implicitDefEqProofs only [go_sem, Int.reduceEq, Int.reduceLT, Int.reduceLE, Nat.reduceAdd, Nat.reduceSub, Nat.reduceMul, Nat.reduceEqDiff, Nat.reduceLeDiff, Nat.reducePow, ↓reduceIte, reduceCtorEq]; done)))))
    rintro ⟨⟩ -
    repeat' (first | ((with_reducible apply xsim); (first | ((with_reducible apply xo); exact rfl) | with_reducible apply xend)) | ((with_reducible apply xaw); (first | ((with_reducible apply xstepS); refine AW.step tok rfl ?_) | with_reducible (first | refine AW.seq ?_ | refine AW.ret ?_ | refine AW.exit ?_) | ((with_reducible apply xcond); exact rfl))) | with_reducible (first | refine xthen ?_ | refine xthen_e ?_ | refine xblock_e ?_ | refine xround_e ?_) | (with_reducible intro hc; (try simp only [decide_eq_true_eq, decide_eq_false_iff_not, Bool.not_true, Bool.not_false, Bool.not_eq_true', Bool.not_eq_false', ne_eq, not_true, reduceCtorEq] at hc); (try (exfalso; omega))) | with_reducible (first | exact trivial | refine And.intro ?_ ?_ | exact rfl))
    refine xfinW (Weak.own 6 1 rfl) ?_
    (refine xfinOwn [0] (by first | exact .inl rfl | exact .inr rfl) rfl (by repeat' (first | exact trivial | exact rfl | refine And.intro ?_ ?_)) (by decide) rfl ?_ ?_ <;> simp -implicitDefEqProofs only [go_sem, Int.reduceEq, Int.reduceLT, Int.reduceLE, Nat.reduceAdd, Nat.reduceSub, Nat.reduceMul, Nat.reduceEqDiff, Nat.reduceLeDiff, Nat.reducePow, ↓reduceIte, reduceCtorEq])
  · have hb' := hb
    rw [Bool.and_eq_true] at hb'
    have hk := treeK hb'.1
    have hrm := roomOk_iff hb'.2
    have hhi := hk.hi
    have hR := rects_in hk (w := w) (h := h) (by omega) (by omega)
    have hll := layoutOf_len (t := t) (w := w) (h := h)
    rw [show layoutT t w h = layoutOf t w h by rw [layoutT, if_pos hb]] at c1
    rw [show clipOf t w h = filTo (isClip t w h) t.length by rw [clipOf, if_pos hb]]
    refine ACon.introW tok (nt := 44) Tryz.func17 rfl rfl rfl (by kernel_rfl) rfl ?_
    repeat' (first | ((with_reducible apply xsim); (first | ((with_reducible apply xlenM); exact rfl; exact rfl) | ((with_reducible apply xo); exact rfl) | with_reducible apply xend | ((with_reducible apply xbox); exact rfl; simp only [backV, backVs, backVs_mapd, backId, backO, List.map_cons, List.map_nil, List.getElem?_nil, List.length_cons, List.length_nil, Nat.reduceAdd, Nat.reduceSub, List.cons_append, List.nil_append, List.append_nil]) | ((with_reducible apply xcallIs); exact rfl; exact rfl; exact c1; exact rfl))) | ((with_reducible apply xaw); (first | ((with_reducible apply xstepS); refine AW.step tok rfl ?_) | with_reducible (first | refine AW.seq ?_ | refine AW.block ?_))) | with_reducible exact trivial | exact Eq.refl true)
    refine AW.own 8 1 rfl ?_
    refine AW.loop (S := fun k : Nat => ⟨[(3, .oref 0 0), (7, .d (.lst ((layoutOf t w h).map encRect))), (8, .msl 1 1 0 (filTo (isClip t w h) k).length), (15, .d (.lst ((layoutOf t w h).map encRect))), (16, .d (.int .i64 t.length)), (17, .d (.int .i64 k))], [.box [.d (.lst (t.map encNode))], .arr 1 ((filTo (isClip t w h) k).map encK)], 44, 0⟩)
      (Pre := fun k => k ≤ t.length) (μ := fun k => t.length - k) 0 (Nat.zero_le _) ?_ ?_
    · (refine xwk (π := [0, 1]) (by decide) rfl ?_ ?_; (first | simp -implicitDefEqProofs only [go_sem, Int.reduceEq, Int.reduceLT, Int.reduceLE, Nat.reduceAdd, Nat.reduceSub, Nat.reduceMul, Nat.reduceEqDiff, Nat.reduceLeDiff, Nat.reducePow, ↓reduceIte, reduceCtorEq, filTo, List.range_zero, List.filter_nil, hll]); repeat' (first | exact renE_n | ((with_reducible apply renE_c); exact rfl; focus (first | (simp -implicitDefEqProofs only [go_sem, Int.reduceEq, Int.reduceLT, Int.reduceLE, Nat.reduceAdd, Nat.reduceSub, Nat.reduceMul, Nat.reduceEqDiff, Nat.reduceLeDiff, Nat.reducePow, ↓reduceIte, reduceCtorEq, filTo, List.range_zero, List.filter_nil, hll]; done)))))
    intro k hkk
    have hcl : (filTo (isClip t w h) k).length ≤ k := filter_len _ k
    by_cases hlt : k < t.length
    · have hrr := lay_get (w := w) (h := h) hlt
      have hrow := at_map (f := encNode) hlt
      have hs := filTo_succ (p := isClip t w h) (k := k)
      by_cases h0 : k = 0
      · rw [if_neg (by simp [isClip, h0]), List.append_nil] at hs
        repeat' (first | ((with_reducible apply xsim); (first | ((with_reducible apply xo); exact rfl) | ((with_reducible apply xst); exact rfl) | with_reducible apply xend | ((with_reducible apply xguardS); exact rfl; exact rfl) | ((with_reducible apply xalloc); exact rfl; simp only [backV, backVs, backVs_mapd, backId, backO, List.map_cons, List.map_nil, List.getElem?_nil, List.length_cons, List.length_nil, Nat.reduceAdd, Nat.reduceSub, List.cons_append, List.nil_append, List.append_nil]) | ((with_reducible apply xidxL); exact rfl; exact rfl; exact rfl; (first | exact hrr | exact hrow); omega; first | exact rfl | simp only [hsz]))) | ((with_reducible apply xaw); (first | ((with_reducible apply xstepS); refine AW.step tok rfl ?_) | ((with_reducible apply xstep); refine AW.region tok rfl ?_) | with_reducible (first | refine AW.seq ?_ | refine AW.block ?_ | refine AW.skip ?_) | ((with_reducible apply xcond); exact rfl) | ((with_reducible apply xdraw (id := 6)); refine AW.draw (id := 6) (.q 0 (.q 1 (.q 2 (.q 3 (.q 4 (.q 5 (.q 6 (.q 7 (.q 8 (.q 9 (.q 10 (.q 11 (.q 12 (.q 13 (.q 14 (.q 15 (.fin))))))))))))))))) tok (by kernel_rfl) rfl (by kernel_rfl) ?_))) | ((with_reducible apply xarun); (first | ((with_reducible apply xrun_q); exact rfl; exact rfl; exact rfl) | ((with_reducible apply xrun_g); exact rfl; exact rfl; exact rfl; exact rfl; exact rfl; exact rfl) | with_reducible apply xrun_f)) | with_reducible (first | refine xthen ?_ | refine xblock ?_) | (with_reducible intro hc; (try simp only [decide_eq_true_eq, decide_eq_false_iff_not, Bool.not_true, Bool.not_false, Bool.not_eq_true', Bool.not_eq_false', ne_eq, not_true, reduceCtorEq, List.length_map, hll] at hc); (try (exfalso; omega))) | with_reducible (first | exact trivial | refine And.intro ?_ ?_ | exact rfl) | exact Eq.refl true | (refine inR_i64.mpr ?_; first | omega | (simp only [List.length_map, List.length_map, hll]; omega)))
        all_goals refine round_end (k+1) hlt (by omega) (by (refine xwk (π := [0, 1]) (by decide) rfl ?_ ?_; (first | simp -implicitDefEqProofs only [go_sem, Int.reduceEq, Int.reduceLT, Int.reduceLE, Nat.reduceAdd, Nat.reduceSub, Nat.reduceMul, Nat.reduceEqDiff, Nat.reduceLeDiff, Nat.reducePow, ↓reduceIte, reduceCtorEq, hs]); repeat' (first | exact renE_n | ((with_reducible apply renE_c); exact rfl; focus (first | (simp -implicitDefEqProofs only [go_sem, Int.reduceEq, Int.reduceLT, Int.reduceLE, Nat.reduceAdd, Nat.reduceSub, Nat.reduceMul, Nat.reduceEqDiff, Nat.reduceLeDiff, Nat.reducePow, ↓reduceIte, reduceCtorEq, hs]; done))))))
      have hd : isClip t w h k = !insB (rectAt t w h t[k].parent.toNat) (rectAt t w h k) := by rw [isClip, nodeAt_eq hlt, decide_eq_true h0, Bool.true_and]
      have hup := hk.up k hlt (by omega)
      have hrp := lay_get (w := w) (h := h) (k := t[k].parent.toNat) (show t[k].parent.toNat < t.length by omega)
      have c2 := c_insideI _ _ (hR k hlt) (hR t[k].parent.toNat (by omega))
      cases hc : insB (rectAt t w h t[k].parent.toNat) (rectAt t w h k)
      · rw [hc] at c2 hd
        rw [if_pos (show _ = true from hd)] at hs
        repeat' (first | ((with_reducible apply xsim); (first | ((with_reducible apply xo); exact rfl) | ((with_reducible apply xst); exact rfl) | with_reducible apply xend | ((with_reducible apply xguardS); exact rfl; exact rfl) | ((with_reducible apply xalloc); exact rfl; simp only [backV, backVs, backVs_mapd, backId, backO, List.map_cons, List.map_nil, List.getElem?_nil, List.length_cons, List.length_nil, Nat.reduceAdd, Nat.reduceSub, List.cons_append, List.nil_append, List.append_nil]) | ((with_reducible apply xbuild); exact rfl; exact rfl; exact rfl; exact rfl; exact rfl; simp only [backV, backVs, backVs_mapd, backId, backO, List.map_cons, List.map_nil, List.getElem?_nil, List.length_cons, List.length_nil, Nat.reduceAdd, Nat.reduceSub, List.cons_append, List.nil_append, List.append_nil]) | ((with_reducible apply xidxL); exact rfl; exact rfl; exact rfl; (first | exact hrr | exact hrow | exact hrp); omega; first | exact rfl | simp only [hsz]) | simp -implicitDefEqProofs only [go_sem, Int.reduceEq, Int.reduceLT, Int.reduceLE, Nat.reduceAdd, Nat.reduceSub, Nat.reduceMul, Nat.reduceEqDiff, Nat.reduceLeDiff, Nat.reducePow, ↓reduceIte, reduceCtorEq, List.length_map, hll])) | ((with_reducible apply xaw); (first | ((with_reducible apply xstepS); refine AW.step tok rfl ?_) | ((with_reducible apply xstep); refine AW.region tok rfl ?_) | with_reducible (first | refine AW.seq ?_ | refine AW.block ?_ | refine AW.skip ?_) | ((with_reducible apply xcond); exact rfl) | ((with_reducible apply xdraw (id := 6)); refine AW.draw (id := 6) (.q 0 (.q 1 (.q 2 (.q 3 (.q 4 (.q 5 (.q 6 (.q 7 (.q 8 (.q 9 (.q 10 (.q 11 (.q 12 (.q 13 (.q 14 (.q 15 (.fin))))))))))))))))) tok (by kernel_rfl) rfl (by kernel_rfl) ?_))) | ((with_reducible apply xarun); (first | ((with_reducible apply xrun_q); exact rfl; exact rfl; exact rfl) | ((with_reducible apply xrun_g); exact rfl; exact rfl; exact rfl; exact rfl; exact rfl; exact rfl) | with_reducible apply xrun_f)) | ((with_reducible apply xcallQ); exact rfl; exact rfl; exact c2; exact rfl) | with_reducible refine xthen ?_ | (with_reducible intro hc; (try simp only [decide_eq_true_eq, decide_eq_false_iff_not, Bool.not_true, Bool.not_false, Bool.not_eq_true', Bool.not_eq_false', ne_eq, not_true, reduceCtorEq, List.length_map, hll] at hc); (try (exfalso; omega))) | with_reducible (first | exact trivial | refine And.intro ?_ ?_ | exact rfl) | exact Eq.refl true | (refine inR_i64.mpr ?_; first | omega | (simp only [List.length_map, List.length_map, hll]; omega)) | omega)
        all_goals refine round_end (k+1) hlt (by omega) (by (refine xwk (π := [0, 4]) (by decide) rfl ?_ ?_; (first | simp -implicitDefEqProofs only [go_sem, Int.reduceEq, Int.reduceLT, Int.reduceLE, Nat.reduceAdd, Nat.reduceSub, Nat.reduceMul, Nat.reduceEqDiff, Nat.reduceLeDiff, Nat.reducePow, ↓reduceIte, reduceCtorEq, hs, List.map_append, List.length_append]); repeat' (first | exact renE_n | ((with_reducible apply renE_c); exact rfl; focus (first | (simp -implicitDefEqProofs only [go_sem, Int.reduceEq, Int.reduceLT, Int.reduceLE, Nat.reduceAdd, Nat.reduceSub, Nat.reduceMul, Nat.reduceEqDiff, Nat.reduceLeDiff, Nat.reducePow, ↓reduceIte, reduceCtorEq, hs, List.map_append, List.length_append]; done))))))
      · rw [hc] at c2 hd
        rw [if_neg (by rw [hd]; simp), List.append_nil] at hs
        repeat' (first | ((with_reducible apply xsim); (first | ((with_reducible apply xo); exact rfl) | ((with_reducible apply xst); exact rfl) | with_reducible apply xend | ((with_reducible apply xguardS); exact rfl; exact rfl) | ((with_reducible apply xalloc); exact rfl; simp only [backV, backVs, backVs_mapd, backId, backO, List.map_cons, List.map_nil, List.getElem?_nil, List.length_cons, List.length_nil, Nat.reduceAdd, Nat.reduceSub, List.cons_append, List.nil_append, List.append_nil]) | ((with_reducible apply xidxL); exact rfl; exact rfl; exact rfl; (first | exact hrr | exact hrow | exact hrp); omega; first | exact rfl | simp only [hsz]))) | ((with_reducible apply xaw); (first | ((with_reducible apply xstepS); refine AW.step tok rfl ?_) | ((with_reducible apply xstep); refine AW.region tok rfl ?_) | with_reducible (first | refine AW.seq ?_ | refine AW.block ?_ | refine AW.skip ?_) | ((with_reducible apply xcond); exact rfl) | ((with_reducible apply xdraw (id := 6)); refine AW.draw (id := 6) (.q 0 (.q 1 (.q 2 (.q 3 (.q 4 (.q 5 (.q 6 (.q 7 (.q 8 (.q 9 (.q 10 (.q 11 (.q 12 (.q 13 (.q 14 (.q 15 (.fin))))))))))))))))) tok (by kernel_rfl) rfl (by kernel_rfl) ?_))) | ((with_reducible apply xarun); (first | ((with_reducible apply xrun_q); exact rfl; exact rfl; exact rfl) | ((with_reducible apply xrun_g); exact rfl; exact rfl; exact rfl; exact rfl; exact rfl; exact rfl) | with_reducible apply xrun_f)) | ((with_reducible apply xcallQ); exact rfl; exact rfl; exact c2; exact rfl) | with_reducible (first | refine xthen ?_ | refine xblock ?_) | (with_reducible intro hc; (try simp only [decide_eq_true_eq, decide_eq_false_iff_not, Bool.not_true, Bool.not_false, Bool.not_eq_true', Bool.not_eq_false', ne_eq, not_true, reduceCtorEq, List.length_map, hll] at hc); (try (exfalso; omega))) | with_reducible (first | exact trivial | refine And.intro ?_ ?_ | exact rfl) | exact Eq.refl true | (refine inR_i64.mpr ?_; first | omega | (simp only [List.length_map, List.length_map, hll]; omega)))
        all_goals refine round_end (k+1) hlt (by omega) (by (refine xwk (π := [0, 1]) (by decide) rfl ?_ ?_; (first | simp -implicitDefEqProofs only [go_sem, Int.reduceEq, Int.reduceLT, Int.reduceLE, Nat.reduceAdd, Nat.reduceSub, Nat.reduceMul, Nat.reduceEqDiff, Nat.reduceLeDiff, Nat.reducePow, ↓reduceIte, reduceCtorEq, hs]); repeat' (first | exact renE_n | ((with_reducible apply renE_c); exact rfl; focus (first | (simp -implicitDefEqProofs only [go_sem, Int.reduceEq, Int.reduceLT, Int.reduceLE, Nat.reduceAdd, Nat.reduceSub, Nat.reduceMul, Nat.reduceEqDiff, Nat.reduceLeDiff, Nat.reducePow, ↓reduceIte, reduceCtorEq, hs]; done))))))
    have hk' : k = t.length := by omega
    subst hk'
    repeat' (first | ((with_reducible apply xsim); (first | ((with_reducible apply xo); exact rfl) | with_reducible apply xend)) | ((with_reducible apply xaw); (first | ((with_reducible apply xstepS); refine AW.step tok rfl ?_) | with_reducible (first | refine AW.seq ?_ | refine AW.ret ?_ | refine AW.exit ?_) | ((with_reducible apply xcond); exact rfl))) | with_reducible (first | refine xthen ?_ | refine xthen_e ?_ | refine xblock_e ?_ | refine xround_e ?_) | (with_reducible intro hc; (try simp only [decide_eq_true_eq, decide_eq_false_iff_not, Bool.not_true, Bool.not_false, Bool.not_eq_true', Bool.not_eq_false', ne_eq, not_true, reduceCtorEq, List.length_map] at hc); (try (exfalso; omega))) | with_reducible (first | exact trivial | refine And.intro ?_ ?_ | exact rfl))
    (refine xfinOwn [1] (by first | exact .inl rfl | exact .inr rfl) rfl (by repeat' (first | exact trivial | exact rfl | refine And.intro ?_ ?_)) (by decide) rfl ?_ ?_ <;> simp -implicitDefEqProofs only [go_sem, Int.reduceEq, Int.reduceLT, Int.reduceLE, Nat.reduceAdd, Nat.reduceSub, Nat.reduceMul, Nat.reduceEqDiff, Nat.reduceLeDiff, Nat.reducePow, ↓reduceIte, reduceCtorEq])

set_option maxRecDepth 8000 in
set_option maxHeartbeats 4000000 in
theorem c_ClipS (t : List Node) (hL : TreeL t) (w h : Int) : ACon Tryz.prog 19 [vTree t, .d (.int .i64 w), .d (.int .i64 h)] [] (ORows encK 1 (clipOf t w h)) := by
  have c1 := c_validTree t hL
  have c2 := c_goodRoom w h
  cases hb : (treeOk t && roomOk w h)
  · rw [show clipOf t w h = [] by rw [clipOf, hb]; rfl]
    cases ht : treeOk t
    · rw [ht] at c1
      refine ACon.introW tok (nt := 51) Tryz.func19 rfl rfl rfl (by kernel_rfl) rfl ?_
      repeat' (first | ((with_reducible apply xsim); (first | ((with_reducible apply xo); exact rfl) | with_reducible apply xend | ((with_reducible apply xguardS); exact rfl; exact rfl) | ((with_reducible apply xbox); exact rfl; simp only [backV, backVs, backVs_mapd, backId, backO, List.map_cons, List.map_nil, List.getElem?_nil, List.length_cons, List.length_nil, Nat.reduceAdd, Nat.reduceSub, List.cons_append, List.nil_append, List.append_nil]) | ((with_reducible apply xcallIs); exact rfl; exact rfl; exact c1; exact rfl))) | ((with_reducible apply xaw); (first | ((with_reducible apply xstepS); refine AW.step tok rfl ?_) | with_reducible (first | refine AW.seq ?_ | refine AW.ret ?_) | ((with_reducible apply xcond); exact rfl))) | with_reducible refine xthen_r ?_ | (with_reducible intro hc; (try simp only [decide_eq_true_eq, decide_eq_false_iff_not, Bool.not_true, Bool.not_false, Bool.not_eq_true', Bool.not_eq_false', ne_eq, not_true, reduceCtorEq] at hc); (try (exfalso; omega))) | with_reducible exact trivial | exact Eq.refl true)
      refine xfinW (Weak.own 6 1 rfl) ?_
      (refine xfinOwn [1] (by first | exact .inl rfl | exact .inr rfl) rfl (by repeat' (first | exact trivial | exact rfl | refine And.intro ?_ ?_)) (by decide) rfl ?_ ?_ <;> simp -implicitDefEqProofs only [go_sem, Int.reduceEq, Int.reduceLT, Int.reduceLE, Nat.reduceAdd, Nat.reduceSub, Nat.reduceMul, Nat.reduceEqDiff, Nat.reduceLeDiff, Nat.reducePow, ↓reduceIte, reduceCtorEq])
    · rw [ht] at c1 hb
      rw [Bool.true_and] at hb
      rw [hb] at c2
      refine ACon.introW tok (nt := 51) Tryz.func19 rfl rfl rfl (by kernel_rfl) rfl ?_
      repeat' (first | ((with_reducible apply xsim); (first | ((with_reducible apply xo); exact rfl) | with_reducible apply xend | ((with_reducible apply xguardS); exact rfl; exact rfl) | ((with_reducible apply xbox); exact rfl; simp only [backV, backVs, backVs_mapd, backId, backO, List.map_cons, List.map_nil, List.getElem?_nil, List.length_cons, List.length_nil, Nat.reduceAdd, Nat.reduceSub, List.cons_append, List.nil_append, List.append_nil]) | ((with_reducible apply xcallIs); exact rfl; exact rfl; (first | exact c1 | exact c2); exact rfl))) | ((with_reducible apply xaw); (first | ((with_reducible apply xstepS); refine AW.step tok rfl ?_) | with_reducible (first | refine AW.seq ?_ | refine AW.ret ?_) | ((with_reducible apply xcond); exact rfl))) | with_reducible refine xthen_r ?_ | (with_reducible intro hc; (try simp only [decide_eq_true_eq, decide_eq_false_iff_not, Bool.not_true, Bool.not_false, Bool.not_eq_true', Bool.not_eq_false', ne_eq, not_true, reduceCtorEq] at hc); (try (exfalso; omega))) | with_reducible exact trivial | exact Eq.refl true)
      refine xfinW (Weak.own 6 1 rfl) ?_
      (refine xfinOwn [1] (by first | exact .inl rfl | exact .inr rfl) rfl (by repeat' (first | exact trivial | exact rfl | refine And.intro ?_ ?_)) (by decide) rfl ?_ ?_ <;> simp -implicitDefEqProofs only [go_sem, Int.reduceEq, Int.reduceLT, Int.reduceLE, Nat.reduceAdd, Nat.reduceSub, Nat.reduceMul, Nat.reduceEqDiff, Nat.reduceLeDiff, Nat.reducePow, ↓reduceIte, reduceCtorEq])
  · have hb' := hb
    rw [Bool.and_eq_true] at hb'
    rw [hb'.1] at c1
    rw [hb'.2] at c2
    have hk := treeK hb'.1
    have hrm := roomOk_iff hb'.2
    have hlo := hk.lo; have hhi := hk.hi
    have hR := rects_in hk (w := w) (h := h) (by omega) (by omega)
    have hll := layoutOf_len (t := t) (w := w) (h := h)
    have c3 := ORows.data (c_AlayoutS t hk w h (by omega) (by omega))
    have h1 : filTo (isClip t w h) 1 = [] := by
      have e := filTo_succ (p := isClip t w h) (k := 0)
      rw [if_neg (by simp [isClip])] at e
      exact e
    rw [show clipOf t w h = filTo (isClip t w h) t.length by rw [clipOf, if_pos hb]]
    refine ACon.introW tok (nt := 51) Tryz.func19 rfl rfl rfl (by kernel_rfl) rfl ?_
    repeat' (first | ((with_reducible apply xsim); (first | ((with_reducible apply xo); exact rfl) | with_reducible apply xend | ((with_reducible apply xguardS); exact rfl; exact rfl) | ((with_reducible apply xbox); exact rfl; simp only [backV, backVs, backVs_mapd, backId, backO, List.map_cons, List.map_nil, List.getElem?_nil, List.length_cons, List.length_nil, Nat.reduceAdd, Nat.reduceSub, List.cons_append, List.nil_append, List.append_nil]) | ((with_reducible apply xbuild); exact rfl; exact rfl; exact rfl; exact rfl; exact rfl; simp only [backV, backVs, backVs_mapd, backId, backO, List.map_cons, List.map_nil, List.getElem?_nil, List.length_cons, List.length_nil, Nat.reduceAdd, Nat.reduceSub, List.cons_append, List.nil_append, List.append_nil]) | ((with_reducible apply xcallIs); exact rfl; exact rfl; (first | exact c1 | exact c2 | exact c3); exact rfl))) | ((with_reducible apply xaw); (first | ((with_reducible apply xstepS); refine AW.step tok rfl ?_) | with_reducible (first | refine AW.seq ?_ | refine AW.block ?_ | refine AW.skip ?_) | ((with_reducible apply xcond); exact rfl))) | with_reducible refine xthen ?_ | (with_reducible intro hc; (try simp only [decide_eq_true_eq, decide_eq_false_iff_not, Bool.not_true, Bool.not_false, Bool.not_eq_true', Bool.not_eq_false', ne_eq, not_true, reduceCtorEq, List.length_map, hll] at hc); (try (exfalso; omega))) | with_reducible exact trivial | exact Eq.refl true)
    refine AW.loop (S := fun k : Nat => ⟨[(3, .oref 0 0), (7, .d (.lst ((layoutOf t w h).map encRect))), (8, .msl 1 1 0 (filTo (isClip t w h) k).length), (9, .d (.int .i64 k))], [.box [.d (.lst (t.map encNode))], .arr 1 ((filTo (isClip t w h) k).map encK)], 51, 0⟩)
      (Pre := fun k => k ≤ t.length ∧ 1 ≤ k) (μ := fun k => t.length - k) 1 ⟨hlo, Nat.le_refl _⟩ ?_ ?_
    · (refine xwk (π := [0, 1]) (by decide) rfl ?_ ?_; (first | simp -implicitDefEqProofs only [go_sem, Int.reduceEq, Int.reduceLT, Int.reduceLE, Nat.reduceAdd, Nat.reduceSub, Nat.reduceMul, Nat.reduceEqDiff, Nat.reduceLeDiff, Nat.reducePow, ↓reduceIte, reduceCtorEq, h1]); repeat' (first | exact renE_n | ((with_reducible apply renE_c); exact rfl; focus (first | (simp -implicitDefEqProofs only [go_sem, Int.reduceEq, Int.reduceLT, Int.reduceLE, Nat.reduceAdd, Nat.reduceSub, Nat.reduceMul, Nat.reduceEqDiff, Nat.reduceLeDiff, Nat.reducePow, ↓reduceIte, reduceCtorEq, h1]; done)))))
    rintro k ⟨hkk, hk1⟩
    have hcl : (filTo (isClip t w h) k).length ≤ k := filter_len _ k
    by_cases hlt : k < t.length
    · have hrr := lay_get (w := w) (h := h) hlt
      have hrow := at_map (f := encNode) hlt
      have hs := filTo_succ (p := isClip t w h) (k := k)
      have hd : isClip t w h k = !insB (rectAt t w h t[k].parent.toNat) (rectAt t w h k) := by rw [isClip, nodeAt_eq hlt, decide_eq_true (show k ≠ 0 by omega), Bool.true_and]
      have hup := hk.up k hlt (by omega)
      have hrp := lay_get (w := w) (h := h) (k := t[k].parent.toNat) (show t[k].parent.toNat < t.length by omega)
      have c2 := c_insideS _ _ (hR t[k].parent.toNat (by omega)) (hR k hlt)
      cases hc : insB (rectAt t w h t[k].parent.toNat) (rectAt t w h k)
      · rw [hc] at c2 hd
        rw [if_pos (show _ = true from hd)] at hs
        repeat' (first | ((with_reducible apply xsim); (first | ((with_reducible apply xlenM); exact rfl; exact rfl) | ((with_reducible apply xo); exact rfl) | with_reducible apply xend | ((with_reducible apply xbuild); exact rfl; exact rfl; exact rfl; exact rfl; exact rfl; simp only [backV, backVs, backVs_mapd, backId, backO, List.map_cons, List.map_nil, List.getElem?_nil, List.length_cons, List.length_nil, Nat.reduceAdd, Nat.reduceSub, List.cons_append, List.nil_append, List.append_nil]) | ((with_reducible apply xidxL); exact rfl; exact rfl; exact rfl; (first | exact hrr | exact hrow | exact hrp); omega; first | exact rfl | simp only [hsz]) | simp -implicitDefEqProofs only [go_sem, Int.reduceEq, Int.reduceLT, Int.reduceLE, Nat.reduceAdd, Nat.reduceSub, Nat.reduceMul, Nat.reduceEqDiff, Nat.reduceLeDiff, Nat.reducePow, ↓reduceIte, reduceCtorEq, List.length_map, hll])) | ((with_reducible apply xaw); (first | ((with_reducible apply xstepS); refine AW.step tok rfl ?_) | ((with_reducible apply xstep); refine AW.region tok rfl ?_) | with_reducible (first | refine AW.seq ?_ | refine AW.block ?_ | refine AW.skip ?_) | ((with_reducible apply xcond); exact rfl) | ((with_reducible apply xdraw (id := 8)); refine AW.draw (id := 8) (.q 0 (.q 1 (.q 2 (.q 3 (.q 4 (.q 5 (.q 6 (.q 7 (.q 8 (.q 9 (.q 10 (.q 11 (.q 12 (.q 13 (.q 14 (.fin)))))))))))))))) tok (by kernel_rfl) rfl (by kernel_rfl) ?_))) | ((with_reducible apply xarun); (first | ((with_reducible apply xrun_q); exact rfl; exact rfl; exact rfl) | ((with_reducible apply xrun_c); exact rfl; exact rfl; exact rfl; exact rfl; exact rfl; exact rfl; exact c2; exact rfl) | with_reducible apply xrun_f)) | with_reducible refine xthen ?_ | (with_reducible intro hc; (try simp only [decide_eq_true_eq, decide_eq_false_iff_not, Bool.not_true, Bool.not_false, Bool.not_eq_true', Bool.not_eq_false', ne_eq, not_true, reduceCtorEq, List.length_map, hll] at hc); (try (exfalso; omega))) | with_reducible (first | exact trivial | refine And.intro ?_ ?_ | exact rfl) | exact Eq.refl true | (refine inR_i64.mpr ?_; first | omega | (simp only [List.length_map, List.length_map, hll]; omega)) | omega)
        all_goals refine round_end (k+1) ⟨by omega, by omega⟩ (by omega) (by (refine xwk (π := [0, 3]) (by decide) rfl ?_ ?_; (first | simp -implicitDefEqProofs only [go_sem, Int.reduceEq, Int.reduceLT, Int.reduceLE, Nat.reduceAdd, Nat.reduceSub, Nat.reduceMul, Nat.reduceEqDiff, Nat.reduceLeDiff, Nat.reducePow, ↓reduceIte, reduceCtorEq, hs, List.map_append, List.length_append]); repeat' (first | exact renE_n | ((with_reducible apply renE_c); exact rfl; focus (first | (simp -implicitDefEqProofs only [go_sem, Int.reduceEq, Int.reduceLT, Int.reduceLE, Nat.reduceAdd, Nat.reduceSub, Nat.reduceMul, Nat.reduceEqDiff, Nat.reduceLeDiff, Nat.reducePow, ↓reduceIte, reduceCtorEq, hs, List.map_append, List.length_append]; done))))))
      · rw [hc] at c2 hd
        rw [if_neg (by rw [hd]; simp), List.append_nil] at hs
        repeat' (first | ((with_reducible apply xsim); (first | ((with_reducible apply xlenM); exact rfl; exact rfl) | ((with_reducible apply xo); exact rfl) | with_reducible apply xend | ((with_reducible apply xidxL); exact rfl; exact rfl; exact rfl; (first | exact hrr | exact hrow | exact hrp); omega; first | exact rfl | simp only [hsz]))) | ((with_reducible apply xaw); (first | ((with_reducible apply xstepS); refine AW.step tok rfl ?_) | ((with_reducible apply xstep); refine AW.region tok rfl ?_) | with_reducible (first | refine AW.seq ?_ | refine AW.block ?_ | refine AW.skip ?_) | ((with_reducible apply xcond); exact rfl) | ((with_reducible apply xdraw (id := 8)); refine AW.draw (id := 8) (.q 0 (.q 1 (.q 2 (.q 3 (.q 4 (.q 5 (.q 6 (.q 7 (.q 8 (.q 9 (.q 10 (.q 11 (.q 12 (.q 13 (.q 14 (.fin)))))))))))))))) tok (by kernel_rfl) rfl (by kernel_rfl) ?_))) | ((with_reducible apply xarun); (first | ((with_reducible apply xrun_q); exact rfl; exact rfl; exact rfl) | ((with_reducible apply xrun_c); exact rfl; exact rfl; exact rfl; exact rfl; exact rfl; exact rfl; exact c2; exact rfl) | with_reducible apply xrun_f)) | with_reducible (first | refine xthen ?_ | refine xblock ?_) | (with_reducible intro hc; (try simp only [decide_eq_true_eq, decide_eq_false_iff_not, Bool.not_true, Bool.not_false, Bool.not_eq_true', Bool.not_eq_false', ne_eq, not_true, reduceCtorEq, List.length_map, hll] at hc); (try (exfalso; omega))) | with_reducible (first | exact trivial | refine And.intro ?_ ?_ | exact rfl) | exact Eq.refl true | (refine inR_i64.mpr ?_; first | omega | (simp only [List.length_map, List.length_map, hll]; omega)))
        all_goals refine round_end (k+1) ⟨by omega, by omega⟩ (by omega) (by (refine xwk (π := [0, 1]) (by decide) rfl ?_ ?_; (first | simp -implicitDefEqProofs only [go_sem, Int.reduceEq, Int.reduceLT, Int.reduceLE, Nat.reduceAdd, Nat.reduceSub, Nat.reduceMul, Nat.reduceEqDiff, Nat.reduceLeDiff, Nat.reducePow, ↓reduceIte, reduceCtorEq, hs]); repeat' (first | exact renE_n | ((with_reducible apply renE_c); exact rfl; focus (first | (simp -implicitDefEqProofs only [go_sem, Int.reduceEq, Int.reduceLT, Int.reduceLE, Nat.reduceAdd, Nat.reduceSub, Nat.reduceMul, Nat.reduceEqDiff, Nat.reduceLeDiff, Nat.reducePow, ↓reduceIte, reduceCtorEq, hs]; done))))))
    have hk' : k = t.length := by omega
    subst hk'
    repeat' (first | ((with_reducible apply xsim); (first | ((with_reducible apply xlenM); exact rfl; exact rfl) | ((with_reducible apply xo); exact rfl) | with_reducible apply xend)) | ((with_reducible apply xaw); (first | ((with_reducible apply xstepS); refine AW.step tok rfl ?_) | with_reducible (first | refine AW.seq ?_ | refine AW.ret ?_ | refine AW.exit ?_) | ((with_reducible apply xcond); exact rfl))) | with_reducible (first | refine xthen ?_ | refine xthen_e ?_ | refine xblock_e ?_ | refine xround_e ?_) | (with_reducible intro hc; (try simp only [decide_eq_true_eq, decide_eq_false_iff_not, Bool.not_true, Bool.not_false, Bool.not_eq_true', Bool.not_eq_false', ne_eq, not_true, reduceCtorEq, List.length_map] at hc); (try (exfalso; omega))) | with_reducible (first | exact trivial | refine And.intro ?_ ?_ | exact rfl))
    (refine xfinOwn [1] (by first | exact .inl rfl | exact .inr rfl) rfl (by repeat' (first | exact trivial | exact rfl | refine And.intro ?_ ?_)) (by decide) rfl ?_ ?_ <;> simp -implicitDefEqProofs only [go_sem, Int.reduceEq, Int.reduceLT, Int.reduceLE, Nat.reduceAdd, Nat.reduceSub, Nat.reduceMul, Nat.reduceEqDiff, Nat.reduceLeDiff, Nat.reducePow, ↓reduceIte, reduceCtorEq])
end Go.Proofs.YticgjepndfjafaaGreat

namespace Go.Proofs.YticgjepndfjafaaGreat
open Go.Fw
attribute [local irreducible] Go.Fw.aops Go.Fw.arun

theorem fil_len {p : Nat → Bool} {k : Nat} : (filTo p k).length ≤ k := filter_len _ k
theorem fil_mem {p : Nat → Bool} {n k : Nat} : k ∈ filTo p n ↔ k < n ∧ p k = true := by simp [filTo]
theorem fil_has {p : Nat → Bool} {n k : Nat} (hk : k < n) : hasN (filTo p n) (k : Int) = p k := by
  rw [Bool.eq_iff_iff, hasN_iff, fil_mem]
  exact ⟨fun h => h.2, fun h => ⟨hk, h⟩⟩

end Go.Proofs.YticgjepndfjafaaGreat

namespace Go.Proofs.YticgjepndfjafaaGreat
open Go.Fw
attribute [local irreducible] Go.Fw.aops Go.Fw.arun

/-- Where no node on the way up is clipped the node lies in all of them. -/
theorem way_ins {t : List Node} {R : Nat → Rect} (hk : TreeK t) : ∀ k, k < t.length → (∀ m ∈ way t k, m ≠ 0 → Ins (R (nodeAt t m).parent.toNat) (R m)) → ∀ m ∈ way t k, Ins (R m) (R k) := by
  intro k
  induction k using Nat.strongRecOn with
  | ind k ih =>
    intro hkl hin m hm
    by_cases h0 : k = 0
    · subst h0
      rw [way_zero, List.mem_singleton] at hm
      subst hm
      exact Ins.rfl'
    · have hp := hk.up k hkl (by omega)
      have e := way_succ hk hkl h0
      have h1 := hin k (by rw [e]; simp) h0
      rw [nodeAt_eq hkl] at h1
      rw [e] at hm
      rcases List.mem_cons.1 hm with rfl | hm
      · exact Ins.rfl'
      · exact (ih _ (by omega) (by omega) (fun m hm h => hin m (by rw [e]; exact List.mem_cons_of_mem _ hm) h) m hm).tr h1
/-- No node of the first ones on the way up is clipped. -/
def freeTo (t : List Node) (w h : Int) (k n : Nat) : Bool := ((way t k).take n).all fun m => !isClip t w h m
theorem free_succ {t : List Node} {w h : Int} {k n : Nat} (hn : n < (way t k).length) : freeTo t w h k (n + 1) = (freeTo t w h k n && !isClip t w h (way t k)[n]) := by
  simp only [freeTo, List.take_succ_eq_append_getElem hn, List.all_append, List.all_cons, List.all_nil, Bool.and_true]
theorem free_ins {t : List Node} {w h : Int} (hk : TreeK t) {k : Nat} (hkl : k < t.length) (hf : freeTo t w h k (way t k).length = true) : ∀ m ∈ way t k, Ins (rectAt t w h m) (rectAt t w h k) := by
  refine way_ins hk k hkl fun m hm h0 => ?_
  unfold freeTo at hf
  rw [List.take_length, List.all_eq_true] at hf
  have := hf m hm
  simp only [isClip, decide_eq_true h0, Bool.true_and, Bool.not_not] at this
  simp only [insB, decide_eq_true_eq] at this
  exact this
theorem clip_kind {t : List Node} {w h : Int} (hk : TreeK t) (hw : 0 ≤ w ∧ w ≤ 400) (hh : 0 ≤ h ∧ h ≤ 400) {k : Nat} (hkl : k < t.length) (hc : isClip t w h k = true) : (nodeAt t t[k].parent.toNat).kind ≠ 0 := by
  intro h0
  simp only [isClip, Bool.and_eq_true, decide_eq_true_eq, Bool.not_eq_true'] at hc
  have hp := hk.up k hkl (by omega)
  rw [nodeAt_eq hkl] at hc
  have := pack_in hk hw hh (i := t[k].parent.toNat) (k := k) (by omega) h0 (mem_kids.2 ⟨hkl, by rw [nodeAt_eq hkl]; omega⟩)
  unfold InR at this
  have h2 := of_decide_eq_false hc.2
  omega

set_option maxRecDepth 8000 in
set_option maxHeartbeats 8000000 in
theorem c_FnClippedNodes (cs : List Byte) (hl : cs.length < 2^63) : ACon Tryz.prog 4 [.d (.lst (cs.map encByte))] [] (Is (.d (.bool true))) := by
  refine ACon.introW tok (nt := 124) Tryz.func4 rfl rfl rfl (by kernel_rfl) rfl ?_
  repeat' (first | ((with_reducible apply xsim); (first | ((with_reducible apply xlenM); exact rfl; exact rfl) | ((with_reducible apply xo); exact rfl) | with_reducible apply xend)) | ((with_reducible apply xaw); (first | ((with_reducible apply xstepS); refine AW.step tok rfl ?_) | with_reducible (first | refine AW.seq ?_ | refine AW.skip ?_ | refine AW.ret ?_) | ((with_reducible apply xcond); exact rfl))) | with_reducible (first | refine xthen ?_ | refine xthen_r ?_) | (with_reducible intro hc; (try simp only [decide_eq_true_eq, decide_eq_false_iff_not, Bool.not_true, Bool.not_false, Bool.not_eq_true', Bool.not_eq_false', ne_eq, not_true, reduceCtorEq, List.length_map] at hc); (try (exfalso; omega))) | with_reducible (first | exact trivial | refine And.intro ?_ ?_ | exact rfl))
  · (refine xfinIs (by first | exact .inl rfl | exact .inr rfl) rfl (by repeat' (first | exact trivial | exact rfl | refine And.intro ?_ ?_)) rfl ?_ rfl; first | with_reducible exact rfl)
  repeat' ((fail_if_success (with_reducible apply xnocond)); first | ((with_reducible apply xsim); (first | ((with_reducible apply xo); exact rfl) | ((with_reducible apply xst); exact rfl) | with_reducible apply xend | ((with_reducible apply xalloc); exact rfl; simp only [backV, backVs, backVs_mapd, backId, backO, List.map_cons, List.map_nil, List.getElem?_nil, List.length_cons, List.length_nil, Nat.reduceAdd, Nat.reduceSub, List.cons_append, List.nil_append, List.append_nil]) | ((with_reducible apply xcallIs); exact rfl; exact rfl; exact ORows.data (c_ClipI _ (TreeB.L (by assumption)) _ _); exact rfl) | ((with_reducible apply xcallSm); exact rfl; exact rfl; exact c_DrawClippedNodes cs hl; rintro _ ⟨t, w, h, rfl, ht, hr1, hr2, hr3, hr4⟩))) | ((with_reducible apply xaw); ((with_reducible apply xstepS); refine AW.step tok rfl ?_)) | with_reducible (first | exact trivial | refine And.intro ?_ ?_) | exact Eq.refl true)
  have hL := ht.L
  have cS := ORows.data (c_ClipS t hL w h)
  have cL := ORows.data (c_LayoutI t hL w h)
  refine AW.seq ?_
  cases hb : (treeOk t && roomOk w h)
  · have e : layoutT t w h = [] := by rw [layoutT, hb]; rfl
    have e2 : clipOf t w h = [] := by rw [clipOf, hb]; rfl
    rw [e2] at cS
    rw [e] at cL
    rw [e2]
    have cq := c_equalK [] (by decide)
    repeat' (first | ((with_reducible apply xsim); (first | ((with_reducible apply xlenM); exact rfl; exact rfl) | ((with_reducible apply xo); exact rfl) | with_reducible apply xend | ((with_reducible apply xguardS); exact rfl; exact rfl) | ((with_reducible apply xcallIs); exact rfl; exact rfl; (first | exact cS | exact cq | exact cL); exact rfl))) | ((with_reducible apply xaw); (first | ((with_reducible apply xstepS); refine AW.step tok rfl ?_) | with_reducible refine AW.ret ?_ | ((with_reducible apply xcond); exact rfl))) | with_reducible refine xthen_r ?_ | (with_reducible intro hc; (try simp only [decide_eq_true_eq, decide_eq_false_iff_not, Bool.not_true, Bool.not_false, Bool.not_eq_true', Bool.not_eq_false', ne_eq, not_true, reduceCtorEq, List.length_map, List.length_nil] at hc); (try (exfalso; omega))) | with_reducible (first | exact trivial | refine And.intro ?_ ?_ | exact rfl) | exact Eq.refl true)
    all_goals (refine xfinIs (by first | exact .inl rfl | exact .inr rfl) rfl (by repeat' (first | exact trivial | exact rfl | refine And.intro ?_ ?_)) rfl ?_ rfl; first | with_reducible exact rfl)
  have e : layoutT t w h = layoutOf t w h := by rw [layoutT, if_pos hb]
  have e2 : clipOf t w h = filTo (isClip t w h) t.length := by rw [clipOf, if_pos hb]
  rw [e2] at cS
  rw [e] at cL
  rw [e2]
  rw [Bool.and_eq_true] at hb
  have hk := treeK hb.1
  have hrm := roomOk_iff hb.2
  have hlo := hk.lo; have hhi := hk.hi
  have hll := layoutOf_len (t := t) (w := w) (h := h)
  have hfl := fil_len (p := isClip t w h) (k := t.length)
  have cq := c_equalK (filTo (isClip t w h) t.length) (by omega)
  have casc := c_ascends (filTo (isClip t w h) t.length) (by omega) (filter_asc _ _)
  have cin := fun n => c_isIn (filTo (isClip t w h) t.length) n (by omega)
  have hhas : ∀ k, k < t.length → hasN (filTo (isClip t w h) t.length) (k : Int) = isClip t w h k := fun k hkl => fil_has hkl
  generalize filTo (isClip t w h) t.length = ks at *
  have cin0 := cin 0
  rw [show hasN ks 0 = false from (hhas 0 hlo).trans (by simp [isClip])] at cin0
  repeat' (first | ((with_reducible apply xsim); (first | ((with_reducible apply xlenM); exact rfl; exact rfl) | ((with_reducible apply xo); exact rfl) | with_reducible apply xend | ((with_reducible apply xguardS); exact rfl; exact rfl) | ((with_reducible apply xcallIs); exact rfl; exact rfl; (first | exact cS | exact cq | exact cL); exact rfl))) | ((with_reducible apply xaw); (first | ((with_reducible apply xstepS); refine AW.step tok rfl ?_) | with_reducible (first | refine AW.seq ?_ | refine AW.block ?_ | refine AW.skip ?_) | ((with_reducible apply xcond); exact rfl))) | with_reducible refine xthen ?_ | (with_reducible intro hc; (try simp only [decide_eq_true_eq, decide_eq_false_iff_not, Bool.not_true, Bool.not_false, Bool.not_eq_true', Bool.not_eq_false', ne_eq, not_true, reduceCtorEq, List.length_map, hll] at hc); (try (exfalso; omega))) | with_reducible (first | exact trivial | refine And.intro ?_ ?_ | exact rfl) | exact Eq.refl true)
  refine AW.loop (S := fun k : Nat => ⟨[(3, .oref 0 0), (4, .d (.int .i64 w)), (5, .d (.int .i64 h)), (6, .d (.lst (ks.map encK))), (7, .d (.lst ((layoutOf t w h).map encRect))), (8, .d (.int .i64 k))], [.box [.d (.lst (t.map encNode))]], 124, 0⟩)
    (Pre := fun k => k ≤ t.length ∧ 1 ≤ k) (μ := fun k => t.length - k) 1 ⟨hlo, Nat.le_refl _⟩ ?_ ?_
  · (refine xwk (π := [0]) (by decide) rfl ?_ ?_; (first | simp -implicitDefEqProofs only [go_sem, Int.reduceEq, Int.reduceLT, Int.reduceLE, Nat.reduceAdd, Nat.reduceSub, Nat.reduceMul, Nat.reduceEqDiff, Nat.reduceLeDiff, Nat.reducePow, ↓reduceIte, reduceCtorEq]); repeat' (first | exact renE_n | ((with_reducible apply renE_c); exact rfl; focus (first | (simp -implicitDefEqProofs only [go_sem, Int.reduceEq, Int.reduceLT, Int.reduceLE, Nat.reduceAdd, Nat.reduceSub, Nat.reduceMul, Nat.reduceEqDiff, Nat.reduceLeDiff, Nat.reducePow, ↓reduceIte, reduceCtorEq]; done)))))
  rintro k ⟨hkk, hk1⟩
  by_cases hlt : k < t.length
  · have hrow := at_map (f := encNode) hlt
    have hrr := lay_get (w := w) (h := h) hlt
    have hup := hk.up k hlt (by omega)
    have hrp := at_map (f := encNode) (xs := t) (k := t[k].parent.toNat) (by omega)
    have cw := ORows.data (c_wayI t hL (k : Int))
    have hgn : goodN t (k : Int) = true := goodN_iff.2 ⟨hb.1, by omega, by simpa using hlt⟩
    rw [show wayOf t (k : Int) = way t k by rw [wayOf, if_pos hgn, Int.toNat_natCast]] at cw
    have hwl := way_len hk k hlt
    have hwle := way_le hk k hlt
    have cP := c_SeenPartI t hL w h (k : Int)
    rw [show seenP t w h (k : Int) = seenOf t (rectAt t w h) k by
      unfold seenP
      rw [if_pos (by rw [Bool.and_eq_true]; exact ⟨hgn, hb.2⟩), Int.toNat_natCast], seenV] at cP
    have ck := cin (k : Int)
    rw [hhas k hlt] at ck
    have hkd := clip_kind hk (w := w) (h := h) (by omega) (by omega) hlt
    rw [nodeAt_eq (show t[k].parent.toNat < t.length by omega)] at hkd
    have hfull : freeTo t w h k (way t k).length = true → (seenOf t (rectAt t w h) k).2 = true → (seenOf t (rectAt t w h) k).1 = rectAt t w h k := fun hf hs => seen_all hk hlt hs (free_ins hk hlt hf)
    repeat' (first | ((with_reducible apply xsim); (first | ((with_reducible apply xlenM); exact rfl; exact rfl) | ((with_reducible apply xo); exact rfl) | with_reducible apply xend | ((with_reducible apply xcallIs); exact rfl; exact rfl; exact cw; exact rfl))) | ((with_reducible apply xaw); (first | ((with_reducible apply xstepS); refine AW.step tok rfl ?_) | with_reducible (first | refine AW.seq ?_ | refine AW.block ?_ | refine AW.skip ?_) | ((with_reducible apply xcond); exact rfl))) | with_reducible refine xthen ?_ | (with_reducible intro hc; (try simp only [decide_eq_true_eq, decide_eq_false_iff_not, Bool.not_true, Bool.not_false, Bool.not_eq_true', Bool.not_eq_false', ne_eq, not_true, reduceCtorEq, List.length_map, hll] at hc); (try (exfalso; omega))) | with_reducible (first | exact trivial | refine And.intro ?_ ?_ | exact rfl) | exact Eq.refl true)
    refine AW.loop (S := fun n : Nat => ⟨[(3, .oref 0 0), (4, .d (.int .i64 w)), (5, .d (.int .i64 h)), (6, .d (.lst (ks.map encK))), (7, .d (.lst ((layoutOf t w h).map encRect))), (8, .d (.int .i64 k)), (9, .d (.bool (freeTo t w h k n))), (10, .d (.lst ((way t k).map encK))), (11, .d (.int .i64 n))], [.box [.d (.lst (t.map encNode))]], 124, 0⟩)
      (Pre := fun n => n ≤ (way t k).length) (μ := fun n => (way t k).length - n) 0 (Nat.zero_le _) ?_ ?_
    · (refine xwk (π := [0]) (by decide) rfl ?_ ?_; (first | simp -implicitDefEqProofs only [go_sem, Int.reduceEq, Int.reduceLT, Int.reduceLE, Nat.reduceAdd, Nat.reduceSub, Nat.reduceMul, Nat.reduceEqDiff, Nat.reduceLeDiff, Nat.reducePow, ↓reduceIte, reduceCtorEq, freeTo, List.take_zero, List.all_nil]); repeat' (first | exact renE_n | ((with_reducible apply renE_c); exact rfl; focus (first | (simp -implicitDefEqProofs only [go_sem, Int.reduceEq, Int.reduceLT, Int.reduceLE, Nat.reduceAdd, Nat.reduceSub, Nat.reduceMul, Nat.reduceEqDiff, Nat.reduceLeDiff, Nat.reducePow, ↓reduceIte, reduceCtorEq, freeTo, List.take_zero, List.all_nil]; done)))))
    intro n hn
    by_cases hnl : n < (way t k).length
    · have hrn := at_map (f := encK) hnl
      have hm := hwle _ (List.getElem_mem hnl)
      have c1 := cin (((way t k)[n] : Nat) : Int)
      rw [hhas _ (by omega)] at c1
      have hs := free_succ (w := w) (h := h) hnl
      by_cases hf : freeTo t w h k n = true
      · rw [hf, Bool.true_and] at hs
        rw [hf]
        repeat' (first | ((with_reducible apply xsim); (first | ((with_reducible apply xlenM); exact rfl; exact rfl) | ((with_reducible apply xo); exact rfl) | with_reducible apply xend | ((with_reducible apply xguardS); exact rfl; exact rfl) | ((with_reducible apply xidxL); exact rfl; exact rfl; exact rfl; (first | exact hrn); omega; first | exact rfl | simp only [hsz]) | ((with_reducible apply xcallIs); exact rfl; exact rfl; exact c1; exact rfl))) | ((with_reducible apply xaw); (first | ((with_reducible apply xstepS); refine AW.step tok rfl ?_) | ((with_reducible apply xstep); refine AW.region tok rfl ?_) | with_reducible (first | refine AW.seq ?_ | refine AW.block ?_ | refine AW.skip ?_) | ((with_reducible apply xcond); exact rfl))) | with_reducible (first | refine xthen ?_ | refine xblock ?_) | (with_reducible intro hc; (try simp only [decide_eq_true_eq, decide_eq_false_iff_not, Bool.not_true, Bool.not_false, Bool.not_eq_true', Bool.not_eq_false', ne_eq, not_true, reduceCtorEq, List.length_map] at hc); (try (exfalso; omega))) | with_reducible (first | exact trivial | refine And.intro ?_ ?_ | exact rfl) | (refine inR_i64.mpr ?_; first | omega | (simp only [List.length_map, List.length_map]; omega)))
        all_goals refine round_end (n+1) hnl (by omega) (by (refine xwk (π := [0]) (by decide) rfl ?_ ?_; (first | simp -implicitDefEqProofs only [go_sem, Int.reduceEq, Int.reduceLT, Int.reduceLE, Nat.reduceAdd, Nat.reduceSub, Nat.reduceMul, Nat.reduceEqDiff, Nat.reduceLeDiff, Nat.reducePow, ↓reduceIte, reduceCtorEq, hs]); repeat' (first | exact renE_n | ((with_reducible apply renE_c); exact rfl; focus (first | (simp -implicitDefEqProofs only [go_sem, Int.reduceEq, Int.reduceLT, Int.reduceLE, Nat.reduceAdd, Nat.reduceSub, Nat.reduceMul, Nat.reduceEqDiff, Nat.reduceLeDiff, Nat.reducePow, ↓reduceIte, reduceCtorEq, hs]; done))))))
      · have hf : freeTo t w h k n = false := by simpa using hf
        rw [hf, Bool.false_and] at hs
        rw [hf]
        repeat' (first | ((with_reducible apply xsim); (first | ((with_reducible apply xlenM); exact rfl; exact rfl) | ((with_reducible apply xo); exact rfl) | with_reducible apply xend | ((with_reducible apply xguardS); exact rfl; exact rfl))) | ((with_reducible apply xaw); (first | ((with_reducible apply xstepS); refine AW.step tok rfl ?_) | ((with_reducible apply xstep); refine AW.region tok rfl ?_) | with_reducible (first | refine AW.seq ?_ | refine AW.block ?_ | refine AW.skip ?_) | ((with_reducible apply xcond); exact rfl))) | with_reducible (first | refine xthen ?_ | refine xblock ?_) | (with_reducible intro hc; (try simp only [decide_eq_true_eq, decide_eq_false_iff_not, Bool.not_true, Bool.not_false, Bool.not_eq_true', Bool.not_eq_false', ne_eq, not_true, reduceCtorEq, List.length_map] at hc); (try (exfalso; omega))) | with_reducible (first | exact trivial | refine And.intro ?_ ?_ | exact rfl) | (refine inR_i64.mpr ?_; first | omega | (simp only [List.length_map, List.length_map]; omega)))
        all_goals refine round_end (n+1) hnl (by omega) (by (refine xwk (π := [0]) (by decide) rfl ?_ ?_; (first | simp -implicitDefEqProofs only [go_sem, Int.reduceEq, Int.reduceLT, Int.reduceLE, Nat.reduceAdd, Nat.reduceSub, Nat.reduceMul, Nat.reduceEqDiff, Nat.reduceLeDiff, Nat.reducePow, ↓reduceIte, reduceCtorEq, hs]); repeat' (first | exact renE_n | ((with_reducible apply renE_c); exact rfl; focus (first | (simp -implicitDefEqProofs only [go_sem, Int.reduceEq, Int.reduceLT, Int.reduceLE, Nat.reduceAdd, Nat.reduceSub, Nat.reduceMul, Nat.reduceEqDiff, Nat.reduceLeDiff, Nat.reducePow, ↓reduceIte, reduceCtorEq, hs]; done))))))
    have hn' : n = (way t k).length := by omega
    subst hn'
    generalize freeTo t w h k (way t k).length = fr at *
    cases hs : (seenOf t (rectAt t w h) k).2
    all_goals
      rw [hs] at cP
      cases hc : isClip t w h k
      all_goals
        rw [hc] at ck
        cases fr
    case true.false.true =>
      rw [hfull rfl hs] at cP
      repeat' (first | ((with_reducible apply xsim); (first | ((with_reducible apply xlenM); exact rfl; exact rfl) | ((with_reducible apply xo); exact rfl) | ((with_reducible apply xst); exact rfl) | with_reducible apply xend | ((with_reducible apply xguardS); exact rfl; exact rfl) | ((with_reducible apply xalloc); exact rfl; simp only [backV, backVs, backVs_mapd, backId, backO, List.map_cons, List.map_nil, List.getElem?_nil, List.length_cons, List.length_nil, Nat.reduceAdd, Nat.reduceSub, List.cons_append, List.nil_append, List.append_nil]) | ((with_reducible apply xidxL); exact rfl; exact rfl; exact rfl; (first | exact hrr | exact hrow | exact hrp); omega; first | exact rfl | simp only [hsz]) | ((with_reducible apply xcallIs); exact rfl; exact rfl; (first | exact cP | exact ck); exact rfl))) | ((with_reducible apply xaw); (first | ((with_reducible apply xstepS); refine AW.step tok rfl ?_) | ((with_reducible apply xstep); refine AW.region tok rfl ?_) | with_reducible (first | refine AW.seq ?_ | refine AW.skip ?_ | refine AW.exit ?_) | ((with_reducible apply xcond); exact rfl) | ((with_reducible apply xdraw (id := 18)); refine AW.draw (id := 18) (.q 0 (.q 1 (.q 2 (.q 3 (.q 4 (.q 5 (.q 6 (.q 7 (.q 8 (.q 9 (.q 10 (.q 11 (.q 12 (.q 13 (.q 14 (.q 15 (.q 16 (.q 17 (.q 18 (.q 19 (.q 20 (.q 21 (.q 22 (.q 23 (.q 24 (.q 25 (.q 26 (.q 27 (.q 28 (.q 29 (.q 30 (.fin)))))))))))))))))))))))))))))))) tok (by kernel_rfl) rfl (by kernel_rfl) ?_))) | ((with_reducible apply xarun); (first | ((with_reducible apply xrun_q); exact rfl; exact rfl; exact rfl) | ((with_reducible apply xrun_g); exact rfl; exact rfl; exact rfl; exact rfl; exact rfl; exact rfl) | with_reducible apply xrun_f)) | ((with_reducible apply xcallQ); exact rfl; exact rfl; (first | exact cP | exact ck); exact rfl) | with_reducible (first | refine xthen ?_ | refine xthen_e ?_ | refine xblock ?_ | refine xblock_e ?_ | refine xround_e ?_) | (with_reducible intro hc; (try simp only [decide_eq_true_eq, decide_eq_false_iff_not, Bool.not_true, Bool.not_false, Bool.not_eq_true', Bool.not_eq_false', ne_eq, not_true, reduceCtorEq, List.length_map, hll, decide_true, Bool.and_self, eq_self_iff_true, Bool.not_true] at hc); (try (exfalso; omega))) | with_reducible (first | exact trivial | refine And.intro ?_ ?_ | exact rfl) | exact Eq.refl true | (refine inR_i64.mpr ?_; first | omega | (simp only [List.length_map, List.length_map, hll, decide_true, Bool.and_self, eq_self_iff_true, Bool.not_true]; omega)))
      all_goals refine round_end (k+1) ⟨by omega, by omega⟩ (by omega) (by (refine xwk (π := [0]) (by decide) rfl ?_ ?_; (first | simp -implicitDefEqProofs only [go_sem, Int.reduceEq, Int.reduceLT, Int.reduceLE, Nat.reduceAdd, Nat.reduceSub, Nat.reduceMul, Nat.reduceEqDiff, Nat.reduceLeDiff, Nat.reducePow, ↓reduceIte, reduceCtorEq]); repeat' (first | exact renE_n | ((with_reducible apply renE_c); exact rfl; focus (first | (simp -implicitDefEqProofs only [go_sem, Int.reduceEq, Int.reduceLT, Int.reduceLE, Nat.reduceAdd, Nat.reduceSub, Nat.reduceMul, Nat.reduceEqDiff, Nat.reduceLeDiff, Nat.reducePow, ↓reduceIte, reduceCtorEq]; done))))))
    case true.true.true =>
      rw [hfull rfl hs] at cP
      have hkd := hkd hc
      repeat' (first | ((with_reducible apply xsim); (first | ((with_reducible apply xlenM); exact rfl; exact rfl) | ((with_reducible apply xo); exact rfl) | ((with_reducible apply xst); exact rfl) | with_reducible apply xend | ((with_reducible apply xguardS); exact rfl; exact rfl) | ((with_reducible apply xalloc); exact rfl; simp only [backV, backVs, backVs_mapd, backId, backO, List.map_cons, List.map_nil, List.getElem?_nil, List.length_cons, List.length_nil, Nat.reduceAdd, Nat.reduceSub, List.cons_append, List.nil_append, List.append_nil]) | ((with_reducible apply xidxL); exact rfl; exact rfl; exact rfl; (first | exact hrr | exact hrow | exact hrp); omega; first | exact rfl | simp only [hsz]) | ((with_reducible apply xcallIs); exact rfl; exact rfl; (first | exact cP | exact ck); exact rfl))) | ((with_reducible apply xaw); (first | ((with_reducible apply xstepS); refine AW.step tok rfl ?_) | ((with_reducible apply xstep); refine AW.region tok rfl ?_) | with_reducible (first | refine AW.seq ?_ | refine AW.skip ?_ | refine AW.exit ?_) | ((with_reducible apply xcond); exact rfl) | ((with_reducible apply xdraw (id := 18)); refine AW.draw (id := 18) (.q 0 (.q 1 (.q 2 (.q 3 (.q 4 (.q 5 (.q 6 (.q 7 (.q 8 (.q 9 (.q 10 (.q 11 (.q 12 (.q 13 (.q 14 (.q 15 (.q 16 (.q 17 (.q 18 (.q 19 (.q 20 (.q 21 (.q 22 (.q 23 (.q 24 (.q 25 (.q 26 (.q 27 (.q 28 (.q 29 (.q 30 (.fin)))))))))))))))))))))))))))))))) tok (by kernel_rfl) rfl (by kernel_rfl) ?_))) | ((with_reducible apply xarun); (first | ((with_reducible apply xrun_q); exact rfl; exact rfl; exact rfl) | ((with_reducible apply xrun_g); exact rfl; exact rfl; exact rfl; exact rfl; exact rfl; exact rfl) | with_reducible apply xrun_f)) | ((with_reducible apply xcallQ); exact rfl; exact rfl; (first | exact cP | exact ck); exact rfl) | with_reducible (first | refine xthen ?_ | refine xthen_e ?_ | refine xblock ?_ | refine xblock_e ?_ | refine xround_e ?_) | (with_reducible intro hc; (try simp only [decide_eq_true_eq, decide_eq_false_iff_not, Bool.not_true, Bool.not_false, Bool.not_eq_true', Bool.not_eq_false', ne_eq, not_true, reduceCtorEq, List.length_map, hll, decide_true, Bool.and_self, eq_self_iff_true, Bool.not_true] at hc); (try (exfalso; omega))) | with_reducible (first | exact trivial | refine And.intro ?_ ?_ | exact rfl) | exact Eq.refl true | (refine inR_i64.mpr ?_; first | omega | (simp only [List.length_map, List.length_map, hll, decide_true, Bool.and_self, eq_self_iff_true, Bool.not_true]; omega)))
      all_goals refine round_end (k+1) ⟨by omega, by omega⟩ (by omega) (by (refine xwk (π := [0]) (by decide) rfl ?_ ?_; (first | simp -implicitDefEqProofs only [go_sem, Int.reduceEq, Int.reduceLT, Int.reduceLE, Nat.reduceAdd, Nat.reduceSub, Nat.reduceMul, Nat.reduceEqDiff, Nat.reduceLeDiff, Nat.reducePow, ↓reduceIte, reduceCtorEq]); repeat' (first | exact renE_n | ((with_reducible apply renE_c); exact rfl; focus (first | (simp -implicitDefEqProofs only [go_sem, Int.reduceEq, Int.reduceLT, Int.reduceLE, Nat.reduceAdd, Nat.reduceSub, Nat.reduceMul, Nat.reduceEqDiff, Nat.reduceLeDiff, Nat.reducePow, ↓reduceIte, reduceCtorEq]; done))))))
    all_goals
      try have hkd := hkd hc
      repeat' (first | ((with_reducible apply xsim); (first | ((with_reducible apply xlenM); exact rfl; exact rfl) | ((with_reducible apply xo); exact rfl) | ((with_reducible apply xst); exact rfl) | with_reducible apply xend | ((with_reducible apply xguardS); exact rfl; exact rfl) | ((with_reducible apply xalloc); exact rfl; simp only [backV, backVs, backVs_mapd, backId, backO, List.map_cons, List.map_nil, List.getElem?_nil, List.length_cons, List.length_nil, Nat.reduceAdd, Nat.reduceSub, List.cons_append, List.nil_append, List.append_nil]) | ((with_reducible apply xidxL); exact rfl; exact rfl; exact rfl; (first | exact hrr | exact hrow | exact hrp); omega; first | exact rfl | simp only [hsz]) | ((with_reducible apply xcallIs); exact rfl; exact rfl; (first | exact cP | exact ck); exact rfl))) | ((with_reducible apply xaw); (first | ((with_reducible apply xstepS); refine AW.step tok rfl ?_) | ((with_reducible apply xstep); refine AW.region tok rfl ?_) | with_reducible (first | refine AW.seq ?_ | refine AW.skip ?_ | refine AW.exit ?_) | ((with_reducible apply xcond); exact rfl) | ((with_reducible apply xdraw (id := 18)); refine AW.draw (id := 18) (.q 0 (.q 1 (.q 2 (.q 3 (.q 4 (.q 5 (.q 6 (.q 7 (.q 8 (.q 9 (.q 10 (.q 11 (.q 12 (.q 13 (.q 14 (.q 15 (.q 16 (.q 17 (.q 18 (.q 19 (.q 20 (.q 21 (.q 22 (.q 23 (.q 24 (.q 25 (.q 26 (.q 27 (.q 28 (.q 29 (.q 30 (.fin)))))))))))))))))))))))))))))))) tok (by kernel_rfl) rfl (by kernel_rfl) ?_))) | ((with_reducible apply xarun); (first | ((with_reducible apply xrun_q); exact rfl; exact rfl; exact rfl) | ((with_reducible apply xrun_g); exact rfl; exact rfl; exact rfl; exact rfl; exact rfl; exact rfl) | with_reducible apply xrun_f)) | ((with_reducible apply xcallQ); exact rfl; exact rfl; (first | exact cP | exact ck); exact rfl) | with_reducible (first | refine xthen ?_ | refine xthen_e ?_ | refine xblock ?_ | refine xblock_e ?_ | refine xround_e ?_) | (with_reducible intro hc; (try simp only [decide_eq_true_eq, decide_eq_false_iff_not, Bool.not_true, Bool.not_false, Bool.not_eq_true', Bool.not_eq_false', ne_eq, not_true, reduceCtorEq, List.length_map, hll] at hc); (try (exfalso; omega))) | with_reducible (first | exact trivial | refine And.intro ?_ ?_ | exact rfl) | exact Eq.refl true | (refine inR_i64.mpr ?_; first | omega | (simp only [List.length_map, List.length_map, hll]; omega)))
      all_goals refine round_end (k+1) ⟨by omega, by omega⟩ (by omega) (by (refine xwk (π := [0]) (by decide) rfl ?_ ?_; (first | simp -implicitDefEqProofs only [go_sem, Int.reduceEq, Int.reduceLT, Int.reduceLE, Nat.reduceAdd, Nat.reduceSub, Nat.reduceMul, Nat.reduceEqDiff, Nat.reduceLeDiff, Nat.reducePow, ↓reduceIte, reduceCtorEq]); repeat' (first | exact renE_n | ((with_reducible apply renE_c); exact rfl; focus (first | (simp -implicitDefEqProofs only [go_sem, Int.reduceEq, Int.reduceLT, Int.reduceLE, Nat.reduceAdd, Nat.reduceSub, Nat.reduceMul, Nat.reduceEqDiff, Nat.reduceLeDiff, Nat.reducePow, ↓reduceIte, reduceCtorEq]; done))))))
  have hk' : k = t.length := by omega
  subst hk'
  repeat' (first | ((with_reducible apply xsim); (first | ((with_reducible apply xlenM); exact rfl; exact rfl) | ((with_reducible apply xo); exact rfl) | with_reducible apply xend | ((with_reducible apply xguardS); exact rfl; exact rfl) | ((with_reducible apply xcallIs); exact rfl; exact rfl; (first | exact casc | exact cin0); exact rfl))) | ((with_reducible apply xaw); (first | ((with_reducible apply xstepS); refine AW.step tok rfl ?_) | with_reducible (first | refine AW.seq ?_ | refine AW.ret ?_ | refine AW.exit ?_) | ((with_reducible apply xcond); exact rfl))) | with_reducible (first | refine xthen ?_ | refine xthen_e ?_ | refine xblock_e ?_ | refine xround_e ?_) | (with_reducible intro hc; (try simp only [decide_eq_true_eq, decide_eq_false_iff_not, Bool.not_true, Bool.not_false, Bool.not_eq_true', Bool.not_eq_false', ne_eq, not_true, reduceCtorEq, List.length_map] at hc); (try (exfalso; omega))) | with_reducible (first | exact trivial | refine And.intro ?_ ?_ | exact rfl))
  all_goals (refine xfinIs (by first | exact .inl rfl | exact .inr rfl) rfl (by repeat' (first | exact trivial | exact rfl | refine And.intro ?_ ?_)) rfl ?_ rfl; first | (simp -implicitDefEqProofs only [go_sem, Int.reduceEq, Int.reduceLT, Int.reduceLE, Nat.reduceAdd, Nat.reduceSub, Nat.reduceMul, Nat.reduceEqDiff, Nat.reduceLeDiff, Nat.reducePow, ↓reduceIte, reduceCtorEq] <;> (first | rfl | omega | exact decide_eq_decide.2 (by omega) | exact decide_eq_false (by omega) | exact decide_eq_true (by omega) | (symm; first | exact decide_eq_false (by omega) | exact decide_eq_true (by omega)) | (rw [Bool.eq_iff_iff]; simp only [Bool.not_eq_true', Bool.not_eq_false', Bool.and_eq_true, Bool.or_eq_true, decide_eq_true_eq, decide_eq_false_iff_not, reduceCtorEq, true_iff, iff_true, false_iff, iff_false]; omega))))
end Go.Proofs.YticgjepndfjafaaGreat

