/- Contracts of the functions and the plain law behind them, as far as FnCutNodes needs them; joined out of the texts T16 T17 R3 K8 T18 T21 T20 K9 T32 L0 L2 L5. -/
import Derived.Deep.Slices
import Derived.Deep.Fields
import Derived.ChangeSame
import Derived.Below
import Derived.ProofKit
import Derived.Test.YticgjepndfjafaaFnCutNodes3
set_option linter.unusedSimpArgs false
set_option linter.unusedVariables false
namespace Go.Proofs.Yticgjepndfjafaa
open Go.Fw
attribute [local irreducible] Go.Fw.aops Go.Fw.arun

/-- Nodes whose parents lie ahead of a node, and some of its kids. -/
def doneK (t : List Node) (i m : Nat) (j : Nat) : Bool := decide ((nodeAt t j).parent < (i : Int)) || ((kids t i).take m).contains j
section
variable {t : List Node} {w h : Int} {out : List Rect}
theorem doneK_self (hk : TreeK t) {i : Nat} (hi : i < t.length) : doneK t i 0 i = true := by
  unfold doneK
  rw [nodeAt_eq hi, Bool.or_eq_true, decide_eq_true_eq]
  left
  by_cases h0 : i = 0
  · subst h0; have := hk.root hi; omega
  · have := hk.up i hi (by omega); omega
theorem doneK_step {i m : Nat} (hm : m < (kids t i).length) : lay t w h (fun j => doneK t i m j || decide (j = (kids t i)[m])) out = lay t w h (doneK t i (m + 1)) out := by
  refine lay_congr fun j _ => ?_
  unfold doneK
  rw [List.take_succ_eq_append_getElem hm, Bool.or_assoc]
  congr 1
  rw [Bool.eq_iff_iff]
  simp only [Bool.or_eq_true, decide_eq_true_eq, List.contains_iff_mem]
  rw [List.mem_append, List.mem_singleton]
theorem doneK_all {i : Nat} (hl : out.length = t.length) : lay t w h (doneK t i (kids t i).length) out = lay t w h (doneK t (i + 1) 0) out := by
  refine lay_congr fun j hj => ?_
  unfold doneK
  rw [List.take_length, List.take_zero, Bool.eq_iff_iff]
  simp only [Bool.or_eq_true, decide_eq_true_eq, List.contains_iff_mem, mem_kids, List.not_mem_nil, or_false]
  constructor
  · rintro (h1 | ⟨_, h1⟩) <;> omega
  · intro h1
    by_cases h2 : (nodeAt t j).parent < (i : Int)
    · exact .inl h2
    · exact .inr ⟨by omega, by omega⟩
end
def zeroR : Rect := ⟨0, 0, 0, 0⟩
theorem lay_start {t : List Node} (hk : TreeK t) {w h : Int} : (List.replicate t.length zeroR).set 0 ⟨0, 0, w, h⟩ = lay t w h (doneK t 0 0) (List.replicate t.length zeroR) := by
  have e := lay_set (t := t) (w := w) (h := h) (A := fun _ => false) (out := List.replicate t.length zeroR) (k := 0)
  rw [lay_none fun _ _ => rfl, rectAt_zero] at e
  rw [e]
  refine lay_congr fun j hj => ?_
  have hj : j < t.length := by simpa using hj
  unfold doneK
  rw [nodeAt_eq hj]
  rw [List.take_zero, Bool.eq_iff_iff]
  simp only [Bool.false_or, decide_eq_true_eq, List.contains_nil, Bool.or_false]
  by_cases h0 : j = 0
  · subst h0; have := hk.root hj; constructor <;> intro _ <;> first | omega | rfl
  · have := hk.up j hj (by omega)
    constructor <;> intro _ <;> omega
theorem lay_end {t : List Node} (hk : TreeK t) {w h : Int} {out : List Rect} (hl : out.length = t.length) : lay t w h (doneK t t.length 0) out = layoutOf t w h := by
  refine lay_all hl fun j hj => ?_
  unfold doneK
  rw [nodeAt_eq hj, Bool.or_eq_true, decide_eq_true_eq]
  left
  by_cases h0 : j = 0
  · subst h0; have := hk.root hj; omega
  · have := hk.up j hj (by omega); omega
theorem laymap_at {t : List Node} {w h : Int} {A : Nat → Bool} {out : List Rect} {k : Nat} (hk : k < out.length) (ha : A k = true) : ((lay t w h A out).map encRect)[k]? = some (encRect (rectAt t w h k)) := by
  rw [List.getElem?_map, lay_at hk ha]; rfl

/-- The rectangles of kids as places tell. -/
theorem placed_take {t : List Node} {ks : List Nat} {r : Rect} {k : Nat} (h : k < ks.length) : (ks.map fun m => placed (nodeAt t m).place r).take (k + 1) = (ks.map fun m => placed (nodeAt t m).place r).take k ++ [placed (nodeAt t ks[k]).place r] := by
  rw [List.take_succ_eq_append_getElem (by simp; exact h)]; simp

set_option maxRecDepth 8000 in
set_option maxHeartbeats 8000000 in
theorem c_Alayout (t : List Node) (hk : TreeK t) (w h : Int) (hw : 0 ≤ w ∧ w ≤ 400) (hh : 0 ≤ h ∧ h ≤ 400) : ACon Try.prog 71 [vTree t, .d (.int .i64 w), .d (.int .i64 h)] [] (ORows encRect 4 (layoutOf t w h)) := by
  have hlo := hk.lo; have hhi := hk.hi
  have hst := lay_start hk (w := w) (h := h)
  have hrep : List.replicate t.length (encRect zeroR) = (List.replicate t.length zeroR).map encRect := by rw [List.map_replicate]
  have hz : (List.replicate t.length [D.int .i64 0, D.int .i64 0, D.int .i64 0, D.int .i64 0])[0]? = some [D.int .i64 0, D.int .i64 0, D.int .i64 0, D.int .i64 0] := by rw [List.getElem?_replicate, if_pos (show 0 < t.length from hlo)]
  have hst2 : (lay t w h (doneK t 0 0) (List.replicate t.length zeroR)).map encRect = (List.replicate t.length [D.int .i64 0, D.int .i64 0, D.int .i64 0, D.int .i64 0]).set 0 [D.int .i64 0, D.int .i64 0, D.int .i64 w, D.int .i64 h] := by rw [← hst, List.map_set, List.map_replicate]; rfl
  refine ACon.introW tok (nt := 125) Try.func71 rfl rfl rfl (by kernel_rfl) rfl ?_
  repeat' (first | ((with_reducible apply xsim); (first | ((with_reducible apply xbld); exact rfl; exact rfl; exact rfl; (try simp only [List.set_cons_zero, List.set_cons_succ])) | ((with_reducible apply xlenM); exact rfl; exact rfl) | ((with_reducible apply xo); exact rfl) | with_reducible apply xend | ((with_reducible apply xbox); exact rfl; simp only [backV, backVs, backVs_mapd, backId, backO, List.map_cons, List.map_nil, List.getElem?_nil, List.length_cons, List.length_nil, Nat.reduceAdd, Nat.reduceSub, List.cons_append, List.nil_append, List.append_nil]) | ((with_reducible apply xidxM); exact rfl; exact rfl; exact rfl; omega; omega; exact rfl) | ((with_reducible apply xstA); exact rfl; exact rfl; exact rfl; exact rfl; (first | exact hz); exact rfl; exact rfl; exact rfl; exact rfl; (try simp only [List.set_cons_zero, List.set_cons_succ, List.length_map])) | simp -implicitDefEqProofs only [go_sem, Int.reduceEq, Int.reduceLT, Int.reduceLE, Nat.reduceAdd, Nat.reduceSub, Nat.reduceMul, Nat.reduceEqDiff, Nat.reduceLeDiff, Nat.reducePow, ↓reduceIte, reduceCtorEq, List.length_map])) | ((with_reducible apply xaw); (first | ((with_reducible apply xstepS); refine AW.step tok rfl ?_) | with_reducible (first | refine AW.seq ?_ | refine AW.block ?_))) | with_reducible (first | exact trivial | refine And.intro ?_ ?_) | omega)
  refine AW.loop (S := fun i : Nat => ⟨[(3, .oref 0 0), (7, .msl 1 4 0 t.length), (27, .d (.lst (t.map encNode))), (28, .d (.int .i64 t.length)), (29, .d (.int .i64 i))], [.box [.d (.lst (t.map encNode))], .arr 4 ((lay t w h (doneK t i 0) (List.replicate t.length zeroR)).map encRect)], 125, 0⟩)
    (Pre := fun i => i ≤ t.length) (μ := fun i => t.length - i) 0 (Nat.zero_le _) ?_ ?_
  · (refine xwk (π := [0, 1]) (by decide) rfl ?_ ?_; (first | simp -implicitDefEqProofs only [go_sem, Int.reduceEq, Int.reduceLT, Int.reduceLE, Nat.reduceAdd, Nat.reduceSub, Nat.reduceMul, Nat.reduceEqDiff, Nat.reduceLeDiff, Nat.reducePow, ↓reduceIte, reduceCtorEq, hst2, Int.toNat_zero]); repeat' (first | exact renE_n | ((with_reducible apply renE_c); exact rfl; focus (first | (simp -implicitDefEqProofs only [go_sem, Int.reduceEq, Int.reduceLT, Int.reduceLE, Nat.reduceAdd, Nat.reduceSub, Nat.reduceMul, Nat.reduceEqDiff, Nat.reduceLeDiff, Nat.reducePow, ↓reduceIte, reduceCtorEq, hst2, Int.toNat_zero]; done)))))
  intro i hi
  by_cases hlt : i < t.length
  · have hrow := at_map (f := encNode) hlt
    have hri := laymap_at (t := t) (w := w) (h := h) (A := doneK t i 0) (out := List.replicate t.length zeroR) (k := i) (by rw [List.length_replicate]; exact hlt) (doneK_self hk hlt)
    have hb := rect_bd hk hw hh i hlt
    have hrm := fun m (hm : m < (kids t i).length) => rectAt_kid hk (w := w) (v := h) hm
    generalize hr : rectAt t w h i = r at *
    have hin := hb.in (by omega)
    obtain ⟨b1, b2, b3, b4⟩ := hb
    have hkl : (kids t i).length ≤ 10 := by have := kids_len t i t.length; unfold kids; omega
    have hks : ∀ k ∈ kids t i, k < t.length := fun k hk' => (hk.kid hk').1
    have c1 := c_kidsI t hk i
    have c2 := ORows.data (c_packsI t hk _ hks hkl fun k hk' => c_request t hk k (hks k hk'))
    have c3 := c_gridI t hk i hlt _ hks hkl fun k hk' => c_request t hk k (hks k hk')
    have c4 := ORows.data (c_packRects (itemsOf t (kids t i)) r.w r.h (by omega) (by omega) (items_ok hk i).1 (items_ok hk i).2)
    have hkd := (nodeOk_iff (hk.ok i hlt)).1
    have hkr : kidRects t i (org r) = if t[i].kind = 0 then packed (itemsOf t (kids t i)) ⟨0, 0, r.w, r.h⟩ else if t[i].kind = 1 then gridRectsIn (gridOf t i (kids t i)) ⟨0, 0, r.w, r.h⟩ else (kids t i).map fun k => placed (nodeAt t k).place ⟨0, 0, r.w, r.h⟩ := by
      rw [← nodeAt_eq hlt]; rfl
    repeat' ((fail_if_success (with_reducible first | apply xnoblock | apply xnoblockT)); first | ((with_reducible apply xsim); (first | ((with_reducible apply xo); exact rfl) | with_reducible apply xend)) | ((with_reducible apply xaw); (first | ((with_reducible apply xstepS); refine AW.step tok rfl ?_) | with_reducible (first | refine AW.seq ?_ | refine AW.skip ?_) | ((with_reducible apply xcond); exact rfl))) | with_reducible refine xthen ?_ | (with_reducible intro hc; (try simp only [decide_eq_true_eq, decide_eq_false_iff_not, Bool.not_true, Bool.not_false, Bool.not_eq_true', Bool.not_eq_false', ne_eq, not_true, reduceCtorEq, List.length_map] at hc); (try (exfalso; omega))) | with_reducible (first | exact trivial | refine And.intro ?_ ?_ | exact rfl))
    refine AW.seq ?_
    refine AW.block ?_
    repeat' ((fail_if_success (with_reducible first | apply xnoblock | apply xnoblockT)); first | ((with_reducible apply xsim); (first | ((with_reducible apply xo); exact rfl) | ((with_reducible apply xst); exact rfl) | with_reducible apply xend | ((with_reducible apply xalloc); exact rfl; simp only [backV, backVs, backVs_mapd, backId, backO, List.map_cons, List.map_nil, List.getElem?_nil, List.length_cons, List.length_nil, Nat.reduceAdd, Nat.reduceSub, List.cons_append, List.nil_append, List.append_nil]) | ((with_reducible apply xidxL); exact rfl; exact rfl; exact rfl; (first | exact hrow | exact hri); omega; first | exact rfl | simp only [hsz]) | ((with_reducible apply xidxM); exact rfl; exact rfl; exact rfl; omega; omega; exact rfl) | ((with_reducible apply xldA); exact rfl; exact rfl; exact rfl; (first | exact hrow | exact hri); exact rfl))) | ((with_reducible apply xaw); (first | ((with_reducible apply xstepS); refine AW.step tok rfl ?_) | with_reducible refine AW.seq ?_ | ((with_reducible apply xdraw (id := 6)); refine AW.draw (id := 6) (.q 0 (.q 1 (.q 2 (.q 3 (.q 4 (.q 5 (.q 6 (.e 7 (.q 8 (.e 9 (.fin))))))))))) tok (by kernel_rfl) rfl (by kernel_rfl) ?_))) | ((with_reducible apply xarun); (first | ((with_reducible apply xrun_q); exact rfl; exact rfl; exact rfl) | ((with_reducible apply xrun_c); exact rfl; exact rfl; exact rfl; exact rfl; exact rfl; exact rfl; exact c1; exact rfl) | ((with_reducible apply xrun_e); exact rfl) | with_reducible apply xrun_f)) | with_reducible refine xthen ?_ | with_reducible (first | exact trivial | refine And.intro ?_ ?_) | exact Eq.refl true)
    refine AW.cutBT (S := fun _ : Unit => ⟨[(3, .oref 0 0), (7, .msl 1 4 0 t.length), (10, .d (.lst ((kids t i).map encK))), (11, .oref 2 0), (12, .d (.lst ((kidRects t i (org r)).map encRect))), (27, .d (.lst (t.map encNode))), (28, .d (.int .i64 t.length)), (29, .d (.int .i64 i))],
      [.box [.d (.lst (t.map encNode))], .arr 4 ((lay t w h (doneK t i 0) (List.replicate t.length zeroR)).map encRect), .box ((encRect r).map .d)], 125, 0⟩) (Pre := fun _ => True) ?_ ?_
    · by_cases hk0 : t[i].kind = 0
      · rw [if_pos hk0] at hkr
        repeat' (first | ((with_reducible apply xsim); (first | ((with_reducible apply xo); exact rfl) | with_reducible apply xend)) | ((with_reducible apply xaw); (first | ((with_reducible apply xstepS); refine AW.step tok rfl ?_) | ((with_reducible apply xcond); exact rfl) | ((with_reducible apply xdraw (id := 15)); refine AW.draw (id := 15) (.q 0 (.q 1 (.q 2 (.q 3 (.q 4 (.q 5 (.q 6 (.q 7 (.q 8 (.fin)))))))))) tok (by kernel_rfl) rfl (by kernel_rfl) ?_))) | ((with_reducible apply xarun); (first | ((with_reducible apply xrun_q); exact rfl; exact rfl; exact rfl) | ((with_reducible apply xrun_c); exact rfl; exact rfl; exact rfl; exact rfl; exact rfl; exact rfl; (first | exact c2 | exact c4); exact rfl) | with_reducible apply xrun_f)) | with_reducible refine xblock ?_ | (with_reducible intro hc; (try simp only [decide_eq_true_eq, decide_eq_false_iff_not, Bool.not_true, Bool.not_false, Bool.not_eq_true', Bool.not_eq_false', ne_eq, not_true, reduceCtorEq, List.length_map] at hc); (try (exfalso; omega))) | with_reducible (first | exact trivial | refine And.intro ?_ ?_ | exact rfl) | exact Eq.refl true)
        refine cut_end () trivial (by (refine xwk (π := [0, 1, 3]) (by decide) rfl ?_ ?_; (first | simp -implicitDefEqProofs only [go_sem, Int.reduceEq, Int.reduceLT, Int.reduceLE, Nat.reduceAdd, Nat.reduceSub, Nat.reduceMul, Nat.reduceEqDiff, Nat.reduceLeDiff, Nat.reducePow, ↓reduceIte, reduceCtorEq, hkr]); repeat' (first | exact renE_n | ((with_reducible apply renE_c); exact rfl; focus (first | (simp -implicitDefEqProofs only [go_sem, Int.reduceEq, Int.reduceLT, Int.reduceLE, Nat.reduceAdd, Nat.reduceSub, Nat.reduceMul, Nat.reduceEqDiff, Nat.reduceLeDiff, Nat.reducePow, ↓reduceIte, reduceCtorEq, hkr]; done))))))
      · rw [if_neg hk0] at hkr
        by_cases hk1 : t[i].kind = 1
        · rw [if_pos hk1] at hkr
          have c5 := ORows.data (c_rectsI (gridOf t i (kids t i)) r.w r.h (grid_ok hk hlt (by rw [nodeAt_eq hlt]; exact hk1)) (by omega) (by omega))
          repeat' (first | ((with_reducible apply xsim); (first | ((with_reducible apply xo); exact rfl) | with_reducible apply xend)) | ((with_reducible apply xaw); (first | ((with_reducible apply xstepS); refine AW.step tok rfl ?_) | ((with_reducible apply xcond); exact rfl) | ((with_reducible apply xdraw (id := 17)); refine AW.draw (id := 17) (.q 0 (.q 1 (.q 2 (.q 3 (.q 4 (.q 5 (.q 6 (.q 7 (.q 8 (.q 9 (.fin))))))))))) tok (by kernel_rfl) rfl (by kernel_rfl) ?_))) | ((with_reducible apply xarun); (first | ((with_reducible apply xrun_q); exact rfl; exact rfl; exact rfl) | ((with_reducible apply xrun_c); exact rfl; exact rfl; exact rfl; exact rfl; exact rfl; exact rfl; (first | exact c3 | exact c5); exact rfl) | with_reducible apply xrun_f)) | with_reducible refine xblock ?_ | (with_reducible intro hc; (try simp only [decide_eq_true_eq, decide_eq_false_iff_not, Bool.not_true, Bool.not_false, Bool.not_eq_true', Bool.not_eq_false', ne_eq, not_true, reduceCtorEq, List.length_map] at hc); (try (exfalso; omega))) | with_reducible (first | exact trivial | refine And.intro ?_ ?_ | exact rfl) | exact Eq.refl true)
          refine cut_end () trivial (by (refine xwk (π := [0, 1, 3]) (by decide) rfl ?_ ?_; (first | simp -implicitDefEqProofs only [go_sem, Int.reduceEq, Int.reduceLT, Int.reduceLE, Nat.reduceAdd, Nat.reduceSub, Nat.reduceMul, Nat.reduceEqDiff, Nat.reduceLeDiff, Nat.reducePow, ↓reduceIte, reduceCtorEq, hkr]); repeat' (first | exact renE_n | ((with_reducible apply renE_c); exact rfl; focus (first | (simp -implicitDefEqProofs only [go_sem, Int.reduceEq, Int.reduceLT, Int.reduceLE, Nat.reduceAdd, Nat.reduceSub, Nat.reduceMul, Nat.reduceEqDiff, Nat.reduceLeDiff, Nat.reducePow, ↓reduceIte, reduceCtorEq, hkr]; done))))))
        · rw [if_neg hk1] at hkr
          repeat' (first | ((with_reducible apply xsim); (first | ((with_reducible apply xlenM); exact rfl; exact rfl) | ((with_reducible apply xo); exact rfl) | with_reducible apply xend)) | ((with_reducible apply xaw); (first | ((with_reducible apply xstepS); refine AW.step tok rfl ?_) | with_reducible refine AW.block ?_ | ((with_reducible apply xcond); exact rfl))) | (with_reducible intro hc; (try simp only [decide_eq_true_eq, decide_eq_false_iff_not, Bool.not_true, Bool.not_false, Bool.not_eq_true', Bool.not_eq_false', ne_eq, not_true, reduceCtorEq, List.length_map] at hc); (try (exfalso; omega))) | with_reducible (first | exact trivial | refine And.intro ?_ ?_ | exact rfl))
          refine AW.own 12 4 rfl ?_
          refine AW.loop (S := fun m : Nat => ⟨[(3, .oref 0 0), (7, .msl 1 4 0 t.length), (10, .d (.lst ((kids t i).map encK))), (11, .oref 2 0), (12, .msl 3 4 0 m), (27, .d (.lst (t.map encNode))), (28, .d (.int .i64 t.length)), (29, .d (.int .i64 i)), (43, .d (.lst ((kids t i).map encK))), (44, .d (.int .i64 (kids t i).length)), (45, .d (.int .i64 m))],
              [.box [.d (.lst (t.map encNode))], .arr 4 ((lay t w h (doneK t i 0) (List.replicate t.length zeroR)).map encRect), .box ((encRect r).map .d), .arr 4 (((kids t i).map fun k => placed (nodeAt t k).place ⟨0, 0, r.w, r.h⟩).take m |>.map encRect)], 125, 0⟩)
            (Pre := fun m => m ≤ (kids t i).length) (μ := fun m => (kids t i).length - m) 0 (Nat.zero_le _) ?_ ?_
          · (refine xwk (π := [0, 1, 3, 4]) (by decide) rfl ?_ ?_; (first | simp -implicitDefEqProofs only [go_sem, Int.reduceEq, Int.reduceLT, Int.reduceLE, Nat.reduceAdd, Nat.reduceSub, Nat.reduceMul, Nat.reduceEqDiff, Nat.reduceLeDiff, Nat.reducePow, ↓reduceIte, reduceCtorEq, List.take_zero]); repeat' (first | exact renE_n | ((with_reducible apply renE_c); exact rfl; focus (first | (simp -implicitDefEqProofs only [go_sem, Int.reduceEq, Int.reduceLT, Int.reduceLE, Nat.reduceAdd, Nat.reduceSub, Nat.reduceMul, Nat.reduceEqDiff, Nat.reduceLeDiff, Nat.reducePow, ↓reduceIte, reduceCtorEq, List.take_zero]; done)))))
          intro m hm
          have hml : (((kids t i).map fun k => placed (nodeAt t k).place ⟨0, 0, r.w, r.h⟩).take m).length = m := by simp; omega
          by_cases hmt : m < (kids t i).length
          · have hrk := at_map (f := encK) hmt
            have hkm := hks _ (List.getElem_mem hmt)
            have hrn := at_map (f := encNode) hkm
            have hs := placed_take (t := t) (r := ⟨0, 0, r.w, r.h⟩) hmt
            rw [nodeAt_eq hkm] at hs
            have c6 := c_placeI t[(kids t i)[m]].place r.w r.h (nodeOk_iff (hk.ok _ hkm)).2.2.2.1 (by omega) (by omega)
            generalize placed t[(kids t i)[m]].place ⟨0, 0, r.w, r.h⟩ = q at hs c6
            repeat' (first | ((with_reducible apply xsim); (first | ((with_reducible apply xo); exact rfl) | with_reducible apply xend | ((with_reducible apply xbuild); exact rfl; exact rfl; exact rfl; exact rfl; exact rfl; simp only [backV, backVs, backVs_mapd, backId, backO, List.map_cons, List.map_nil, List.getElem?_nil, List.length_cons, List.length_nil, Nat.reduceAdd, Nat.reduceSub, List.cons_append, List.nil_append, List.append_nil]) | ((with_reducible apply xidxL); exact rfl; exact rfl; exact rfl; (first | exact hrk | exact hrn); omega; first | exact rfl | simp only [hsz]) | simp -implicitDefEqProofs only [go_sem, Int.reduceEq, Int.reduceLT, Int.reduceLE, Nat.reduceAdd, Nat.reduceSub, Nat.reduceMul, Nat.reduceEqDiff, Nat.reduceLeDiff, Nat.reducePow, ↓reduceIte, reduceCtorEq, List.length_map, hml])) | ((with_reducible apply xaw); (first | ((with_reducible apply xstepS); refine AW.step tok rfl ?_) | ((with_reducible apply xstep); refine AW.region tok rfl ?_) | with_reducible (first | refine AW.seq ?_ | refine AW.block ?_ | refine AW.skip ?_) | ((with_reducible apply xcond); exact rfl) | ((with_reducible apply xdraw (id := 12)); refine AW.draw (id := 12) (.q 0 (.q 1 (.q 2 (.q 3 (.q 4 (.q 5 (.q 6 (.q 7 (.q 8 (.q 9 (.q 10 (.q 11 (.e 12 (.e 13 (.q 14 (.fin)))))))))))))))) tok (by kernel_rfl) rfl (by kernel_rfl) ?_))) | ((with_reducible apply xarun); (first | ((with_reducible apply xrun_q); exact rfl; exact rfl; exact rfl) | ((with_reducible apply xrun_c); exact rfl; exact rfl; exact rfl; exact rfl; exact rfl; exact rfl; exact c6; exact rfl) | ((with_reducible apply xrun_e); exact rfl))) | with_reducible refine xthen ?_ | (with_reducible intro hc; (try simp only [decide_eq_true_eq, decide_eq_false_iff_not, Bool.not_true, Bool.not_false, Bool.not_eq_true', Bool.not_eq_false', ne_eq, not_true, reduceCtorEq, List.length_map, hml] at hc); (try (exfalso; omega))) | with_reducible (first | exact trivial | refine And.intro ?_ ?_ | exact rfl) | exact Eq.refl true | (refine inR_i64.mpr ?_; first | omega | (simp only [List.length_map, List.length_map, hml]; omega)) | omega)
            refine round_end (m+1) hmt (by omega) (by (refine xwk (π := [0, 1, 2, 5]) (by decide) rfl ?_ ?_; (first | simp -implicitDefEqProofs only [go_sem, Int.reduceEq, Int.reduceLT, Int.reduceLE, Nat.reduceAdd, Nat.reduceSub, Nat.reduceMul, Nat.reduceEqDiff, Nat.reduceLeDiff, Nat.reducePow, ↓reduceIte, reduceCtorEq, hs, List.map_append]); repeat' (first | exact renE_n | ((with_reducible apply renE_c); exact rfl; focus (first | (simp -implicitDefEqProofs only [go_sem, Int.reduceEq, Int.reduceLT, Int.reduceLE, Nat.reduceAdd, Nat.reduceSub, Nat.reduceMul, Nat.reduceEqDiff, Nat.reduceLeDiff, Nat.reducePow, ↓reduceIte, reduceCtorEq, hs, List.map_append]; done))))))
          have hm' : m = (kids t i).length := by omega
          subst hm'
          have hta : ((kids t i).map fun k => placed (nodeAt t k).place ⟨0, 0, r.w, r.h⟩).take (kids t i).length = (kids t i).map fun k => placed (nodeAt t k).place ⟨0, 0, r.w, r.h⟩ := List.take_of_length_le (by simp)
          rw [hta, ← hkr]
          repeat' (first | ((with_reducible apply xsim); (first | ((with_reducible apply xo); exact rfl) | with_reducible apply xend)) | ((with_reducible apply xaw); (first | ((with_reducible apply xstepS); refine AW.step tok rfl ?_) | with_reducible (first | refine AW.seq ?_ | refine AW.exit ?_) | ((with_reducible apply xcond); exact rfl))) | with_reducible (first | refine xthen_e ?_ | refine xblock ?_ | refine xblock_e ?_ | refine xround_e ?_) | (with_reducible intro hc; (try simp only [decide_eq_true_eq, decide_eq_false_iff_not, Bool.not_true, Bool.not_false, Bool.not_eq_true', Bool.not_eq_false', ne_eq, not_true, reduceCtorEq, List.length_map] at hc); (try (exfalso; omega))) | with_reducible (first | exact trivial | refine And.intro ?_ ?_ | exact rfl))
          refine cutW (Weak.freezeA 12 3 4 rfl rfl (by rw [List.length_map, kidRects_len hk])) ?_
          refine cut_end () trivial (by (refine xwk (π := [0, 1, 2]) (by decide) rfl ?_ ?_; (first | simp -implicitDefEqProofs only [go_sem, Int.reduceEq, Int.reduceLT, Int.reduceLE, Nat.reduceAdd, Nat.reduceSub, Nat.reduceMul, Nat.reduceEqDiff, Nat.reduceLeDiff, Nat.reducePow, ↓reduceIte, reduceCtorEq]); repeat' (first | exact renE_n | ((with_reducible apply renE_c); exact rfl; focus (first | (simp -implicitDefEqProofs only [go_sem, Int.reduceEq, Int.reduceLT, Int.reduceLE, Nat.reduceAdd, Nat.reduceSub, Nat.reduceMul, Nat.reduceEqDiff, Nat.reduceLeDiff, Nat.reducePow, ↓reduceIte, reduceCtorEq]; done))))))
    rintro ⟨⟩ -
    have hql := kidRects_len hk (i := i) (org r)
    have hlal : ∀ A, (lay t w h A (List.replicate t.length zeroR)).length = t.length := fun A => by rw [lay_len, List.length_replicate]
    repeat' (first | ((with_reducible apply xsim); (first | ((with_reducible apply xlenM); exact rfl; exact rfl) | ((with_reducible apply xo); exact rfl) | with_reducible apply xend)) | ((with_reducible apply xaw); (first | ((with_reducible apply xstepS); refine AW.step tok rfl ?_) | with_reducible refine AW.block ?_)) | with_reducible exact trivial)
    refine AW.loop (S := fun m : Nat => ⟨[(3, .oref 0 0), (7, .msl 1 4 0 t.length), (11, .oref 2 0), (12, .d (.lst ((kidRects t i (org r)).map encRect))), (27, .d (.lst (t.map encNode))), (28, .d (.int .i64 t.length)), (29, .d (.int .i64 i)), (85, .d (.lst ((kids t i).map encK))), (86, .d (.int .i64 (kids t i).length)), (87, .d (.int .i64 m))],
        [.box [.d (.lst (t.map encNode))], .arr 4 ((lay t w h (doneK t i m) (List.replicate t.length zeroR)).map encRect), .box ((encRect r).map .d)], 125, 0⟩)
      (Pre := fun m => m ≤ (kids t i).length) (μ := fun m => (kids t i).length - m) 0 (Nat.zero_le _) ?_ ?_
    · (refine xwk (π := [0, 1, 2]) (by decide) rfl ?_ ?_; (first | simp -implicitDefEqProofs only [go_sem, Int.reduceEq, Int.reduceLT, Int.reduceLE, Nat.reduceAdd, Nat.reduceSub, Nat.reduceMul, Nat.reduceEqDiff, Nat.reduceLeDiff, Nat.reducePow, ↓reduceIte, reduceCtorEq]); repeat' (first | exact renE_n | ((with_reducible apply renE_c); exact rfl; focus (first | (simp -implicitDefEqProofs only [go_sem, Int.reduceEq, Int.reduceLT, Int.reduceLE, Nat.reduceAdd, Nat.reduceSub, Nat.reduceMul, Nat.reduceEqDiff, Nat.reduceLeDiff, Nat.reducePow, ↓reduceIte, reduceCtorEq]; done)))))
    intro m hm
    by_cases hmt : m < (kids t i).length
    · have hrk := at_map (f := encK) hmt
      have hkm := hks _ (List.getElem_mem hmt)
      have hrq := at_map (f := encRect) (xs := kidRects t i (org r)) (k := m) (by omega)
      have hcell := at_map (f := encRect) (xs := lay t w h (doneK t i m) (List.replicate t.length zeroR)) (k := (kids t i)[m]) (by rw [hlal]; exact hkm)
      have hmv : rectAt t w h (kids t i)[m] = mv r ((kidRects t i (org r))[m]'(by omega)) := by
        rw [hrm m hmt]
        have := kidRects_org t i r
        simp only [this, List.getElem_map]
      have hbk := rect_bd hk hw hh _ hkm
      have hset : ((lay t w h (doneK t i m) (List.replicate t.length zeroR)).map encRect).set (kids t i)[m] (encRect (rectAt t w h (kids t i)[m])) = (lay t w h (doneK t i (m + 1)) (List.replicate t.length zeroR)).map encRect := by
        rw [← List.map_set, lay_set, doneK_step hmt]
      rw [hmv] at hset hbk
      generalize (kidRects t i (org r))[m]'(by omega) = q at *
      generalize (lay t w h (doneK t i m) (List.replicate t.length zeroR))[(kids t i)[m]]'(by rw [hlal]; exact hkm) = z at *
      obtain ⟨a1, a2, a3, a4⟩ := hbk
      simp only [mv] at a1 a2 a3 a4
      simp only [encRect, mv] at hset
      repeat' (first | ((with_reducible apply xsim); (first | ((with_reducible apply xbld); exact rfl; exact rfl; exact rfl; (try simp only [List.set_cons_zero, List.set_cons_succ])) | ((with_reducible apply xo); exact rfl) | with_reducible apply xend | ((with_reducible apply xidxL); exact rfl; exact rfl; exact rfl; (first | exact hrk | exact hrq | exact hcell); omega; first | exact rfl | simp only [hsz]) | ((with_reducible apply xidxM); exact rfl; exact rfl; exact rfl; omega; omega; exact rfl) | ((with_reducible apply xstA); exact rfl; exact rfl; exact rfl; exact rfl; (first | exact hrk | exact hrq | exact hcell); exact rfl; exact rfl; exact rfl; exact rfl; (try simp only [List.set_cons_zero, List.set_cons_succ, List.length_map])))) | ((with_reducible apply xaw); (first | ((with_reducible apply xstepS); refine AW.step tok rfl ?_) | ((with_reducible apply xstep); refine AW.region tok rfl ?_) | with_reducible (first | refine AW.seq ?_ | refine AW.block ?_ | refine AW.skip ?_) | ((with_reducible apply xcond); exact rfl) | ((with_reducible apply xdraw (id := 21)); refine AW.draw (id := 21) (.q 0 (.q 1 (.q 2 (.q 3 (.q 4 (.q 5 (.q 6 (.q 7 (.q 8 (.q 9 (.q 10 (.q 11 (.q 12 (.q 13 (.q 14 (.q 15 (.q 16 (.q 17 (.q 18 (.q 19 (.q 20 (.q 21 (.q 22 (.q 23 (.q 24 (.q 25 (.q 26 (.q 27 (.q 28 (.q 29 (.e 30 (.fin)))))))))))))))))))))))))))))))) tok (by kernel_rfl) rfl (by kernel_rfl) ?_))) | ((with_reducible apply xarun); (first | ((with_reducible apply xrun_q); exact rfl; exact rfl; exact rfl) | ((with_reducible apply xrun_e); exact rfl) | with_reducible apply xrun_f)) | with_reducible (first | refine xthen ?_ | refine xblock ?_) | (with_reducible intro hc; (try simp only [decide_eq_true_eq, decide_eq_false_iff_not, Bool.not_true, Bool.not_false, Bool.not_eq_true', Bool.not_eq_false', ne_eq, not_true, reduceCtorEq, List.length_map] at hc); (try (exfalso; omega))) | with_reducible (first | exact trivial | refine And.intro ?_ ?_ | exact rfl) | (refine inR_i64.mpr ?_; first | omega | (simp only [List.length_map, List.length_map]; omega)))
      refine round_end (m+1) hmt (by omega) (by (refine xwk (π := [0, 1, 2]) (by decide) rfl ?_ ?_; (first | simp -implicitDefEqProofs only [go_sem, Int.reduceEq, Int.reduceLT, Int.reduceLE, Nat.reduceAdd, Nat.reduceSub, Nat.reduceMul, Nat.reduceEqDiff, Nat.reduceLeDiff, Nat.reducePow, ↓reduceIte, reduceCtorEq, hset]); repeat' (first | exact renE_n | ((with_reducible apply renE_c); exact rfl; focus (first | (simp -implicitDefEqProofs only [go_sem, Int.reduceEq, Int.reduceLT, Int.reduceLE, Nat.reduceAdd, Nat.reduceSub, Nat.reduceMul, Nat.reduceEqDiff, Nat.reduceLeDiff, Nat.reducePow, ↓reduceIte, reduceCtorEq, hset]; done))))))
    have hm' : m = (kids t i).length := by omega
    subst hm'
    have hd := doneK_all (t := t) (w := w) (h := h) (i := i) (out := List.replicate t.length zeroR) (by rw [List.length_replicate])
    repeat' (first | ((with_reducible apply xsim); (first | ((with_reducible apply xo); exact rfl) | with_reducible apply xend)) | ((with_reducible apply xaw); (first | ((with_reducible apply xstepS); refine AW.step tok rfl ?_) | ((with_reducible apply xstep); refine AW.region tok rfl ?_) | with_reducible (first | refine AW.seq ?_ | refine AW.exit ?_) | ((with_reducible apply xcond); exact rfl))) | with_reducible (first | refine xthen ?_ | refine xthen_e ?_ | refine xblock ?_ | refine xblock_e ?_ | refine xround_e ?_) | (with_reducible intro hc; (try simp only [decide_eq_true_eq, decide_eq_false_iff_not, Bool.not_true, Bool.not_false, Bool.not_eq_true', Bool.not_eq_false', ne_eq, not_true, reduceCtorEq, List.length_map] at hc); (try (exfalso; omega))) | with_reducible (first | exact trivial | refine And.intro ?_ ?_ | exact rfl) | (refine inR_i64.mpr ?_; first | omega | (simp only [List.length_map, List.length_map]; omega)))
    refine round_end (i+1) hlt (by omega) (by (refine xwk (π := [0, 1]) (by decide) rfl ?_ ?_; (first | simp -implicitDefEqProofs only [go_sem, Int.reduceEq, Int.reduceLT, Int.reduceLE, Nat.reduceAdd, Nat.reduceSub, Nat.reduceMul, Nat.reduceEqDiff, Nat.reduceLeDiff, Nat.reducePow, ↓reduceIte, reduceCtorEq, hd]); repeat' (first | exact renE_n | ((with_reducible apply renE_c); exact rfl; focus (first | (simp -implicitDefEqProofs only [go_sem, Int.reduceEq, Int.reduceLT, Int.reduceLE, Nat.reduceAdd, Nat.reduceSub, Nat.reduceMul, Nat.reduceEqDiff, Nat.reduceLeDiff, Nat.reducePow, ↓reduceIte, reduceCtorEq, hd]; done))))))
  have hi' : i = t.length := by omega
  subst hi'
  have he := lay_end hk (w := w) (h := h) (out := List.replicate t.length zeroR) (by rw [List.length_replicate])
  have hll : (layoutOf t w h).length = t.length := by simp [layoutOf]
  rw [he]
  repeat' (first | ((with_reducible apply xsim); (first | ((with_reducible apply xo); exact rfl) | with_reducible apply xend)) | ((with_reducible apply xaw); (first | ((with_reducible apply xstepS); refine AW.step tok rfl ?_) | with_reducible (first | refine AW.seq ?_ | refine AW.ret ?_ | refine AW.exit ?_) | ((with_reducible apply xcond); exact rfl))) | with_reducible (first | refine xthen ?_ | refine xthen_e ?_ | refine xblock_e ?_ | refine xround_e ?_) | (with_reducible intro hc; (try simp only [decide_eq_true_eq, decide_eq_false_iff_not, Bool.not_true, Bool.not_false, Bool.not_eq_true', Bool.not_eq_false', ne_eq, not_true, reduceCtorEq, List.length_map] at hc); (try (exfalso; omega))) | with_reducible (first | exact trivial | refine And.intro ?_ ?_ | exact rfl))
  (refine xfinOwn [1] (by first | exact .inl rfl | exact .inr rfl) rfl (by repeat' (first | exact trivial | exact rfl | refine And.intro ?_ ?_)) (by decide) rfl ?_ ?_ <;> simp -implicitDefEqProofs only [go_sem, Int.reduceEq, Int.reduceLT, Int.reduceLE, Nat.reduceAdd, Nat.reduceSub, Nat.reduceMul, Nat.reduceEqDiff, Nat.reduceLeDiff, Nat.reducePow, ↓reduceIte, reduceCtorEq, hll])
end Go.Proofs.Yticgjepndfjafaa

namespace Go.Proofs.Yticgjepndfjafaa
open Go.Fw
attribute [local irreducible] Go.Fw.aops Go.Fw.arun

/-- A node, and all at or below some of its kids. -/
def belTo (t : List Node) (i m : Nat) (j : Nat) : Bool := decide (j = i) || ((kids t i).take m).any fun k => bel t k j
section
variable {t : List Node} {w h : Int} {out : List Rect}
theorem belTo_zero {i : Nat} : out.set i (rectAt t w h i) = lay t w h (belTo t i 0) out := by
  have e := lay_set (t := t) (w := w) (h := h) (A := fun _ => false) (out := out) (k := i)
  rw [lay_none fun _ _ => rfl] at e
  rw [e]
  exact lay_congr fun j _ => by simp [belTo]
theorem belTo_step {i m : Nat} (hm : m < (kids t i).length) : lay t w h (bel t (kids t i)[m]) (lay t w h (belTo t i m) out) = lay t w h (belTo t i (m + 1)) out := by
  rw [lay_lay]
  refine lay_congr fun j _ => ?_
  unfold belTo
  rw [List.take_succ_eq_append_getElem hm, List.any_append, Bool.or_assoc]
  congr 2
  simp only [List.any_cons, List.any_nil, Bool.or_false]
theorem belTo_all (hk : TreeK t) {i : Nat} (hi : i < t.length) : lay t w h (belTo t i (kids t i).length) out = lay t w h (bel t i) out := by
  refine lay_congr fun j _ => ?_
  rw [belTo, List.take_length, bel_eq hk hi]
end

set_option maxRecDepth 8000 in
set_option maxHeartbeats 8000000 in
theorem c_laid (t : List Node) (hk : TreeK t) (w h : Int) (hw : 0 ≤ w ∧ w ≤ 400) (hh : 0 ≤ h ∧ h ≤ 400) : ∀ m i : Nat, t.length - i ≤ m → i < t.length → ∀ out : List Rect, out.length = t.length →
    ACon Try.prog 103 [vTree t, .d (.int .i64 (i : Int)), vRect (rectAt t w h i), .msl 0 4 0 t.length] [.arr 4 (out.map encRect)] (Own (.tup []) [.arr 4 ((lay t w h (bel t i) out).map encRect)]) := by
  intro m
  induction m with
  | zero => intro i h1 h2; omega
  | succ m ih =>
    intro i h1 hlt out hol
    have hlo := hk.lo; have hhi := hk.hi
    have hb := rect_bd hk hw hh i hlt
    have hrm := fun m (hm : m < (kids t i).length) => rectAt_kid hk (w := w) (v := h) hm
    have hz := belTo_zero (t := t) (w := w) (h := h) (out := out) (i := i)
    have hset0 : (out.map encRect).set i (encRect (rectAt t w h i)) = (lay t w h (belTo t i 0) out).map encRect := by rw [← List.map_set, hz]
    generalize hr : rectAt t w h i = r at *
    have hin := hb.in (by omega)
    obtain ⟨b1, b2, b3, b4⟩ := hb
    have hrow := at_map (f := encNode) hlt
    have hcell := at_map (f := encRect) (xs := out) (k := i) (by omega)
    generalize out[i]'(by omega) = z0 at hcell
    have hkl : (kids t i).length ≤ 10 := by have := kids_len t i t.length; unfold kids; omega
    have hks : ∀ k ∈ kids t i, k < t.length := fun k hk' => (hk.kid hk').1
    have c1 := c_kidsS t hk i
    have c2 := ORows.data (c_packsS t hk _ hks hkl fun k hk' => c_sizeOf t hk k (hks k hk'))
    have c3 := c_gridS t hk i hlt _ hks hkl fun k hk' => c_sizeOf t hk k (hks k hk')
    have c4 := ORows.data (c_packed (itemsOf t (kids t i)) r hin (items_ok hk i).1 (items_ok hk i).2)
    have hkd := (nodeOk_iff (hk.ok i hlt)).1
    have hkr : kidRects t i r = if t[i].kind = 0 then packed (itemsOf t (kids t i)) r else if t[i].kind = 1 then gridRectsIn (gridOf t i (kids t i)) r else (kids t i).map fun k => placed (nodeAt t k).place r := by
      rw [← nodeAt_eq hlt]; rfl
    simp only [encRect] at hset0
    refine ACon.introW tok (nt := 78) Try.func103 rfl rfl rfl (by kernel_rfl) rfl ?_
    repeat' ((fail_if_success (with_reducible first | apply xnoblock | apply xnoblockT)); first | ((with_reducible apply xsim); (first | ((with_reducible apply xo); exact rfl) | with_reducible apply xend | ((with_reducible apply xbox); exact rfl; simp only [backV, backVs, backVs_mapd, backId, backO, List.map_cons, List.map_nil, List.getElem?_nil, List.length_cons, List.length_nil, Nat.reduceAdd, Nat.reduceSub, List.cons_append, List.nil_append, List.append_nil]) | ((with_reducible apply xbuild); exact rfl; exact rfl; exact rfl; exact rfl; exact rfl; simp only [backV, backVs, backVs_mapd, backId, backO, List.map_cons, List.map_nil, List.getElem?_nil, List.length_cons, List.length_nil, Nat.reduceAdd, Nat.reduceSub, List.cons_append, List.nil_append, List.append_nil]) | ((with_reducible apply xidxL); exact rfl; exact rfl; exact rfl; (first | exact hcell | exact hrow); omega; first | exact rfl | simp only [hsz]) | ((with_reducible apply xidxM); exact rfl; exact rfl; exact rfl; omega; omega; exact rfl) | ((with_reducible apply xstA); exact rfl; exact rfl; exact rfl; exact rfl; (first | exact hcell | exact hrow); exact rfl; exact rfl; exact rfl; exact rfl; (try simp only [List.set_cons_zero, List.set_cons_succ, List.length_map])) | ((with_reducible apply xcallIs); exact rfl; exact rfl; exact c1; exact rfl))) | ((with_reducible apply xaw); (first | ((with_reducible apply xstepS); refine AW.step tok rfl ?_) | with_reducible refine AW.seq ?_)) | with_reducible exact trivial | exact Eq.refl true)
    refine AW.cutBT (S := fun _ : Unit => ⟨[(3, .msl 0 4 0 t.length), (4, .oref 1 0), (8, .d (.lst ((kids t i).map encK))), (9, .d (.lst ((kidRects t i r).map encRect)))],
      [.arr 4 ((lay t w h (belTo t i 0) out).map encRect), .box [.d (.lst (t.map encNode))]], 78, 1⟩) (Pre := fun _ => True) ?_ ?_
    · by_cases hk0 : t[i].kind = 0
      · rw [if_pos hk0] at hkr
        repeat' (first | ((with_reducible apply xsim); (first | ((with_reducible apply xo); exact rfl) | with_reducible apply xend)) | ((with_reducible apply xaw); (first | ((with_reducible apply xstepS); refine AW.step tok rfl ?_) | ((with_reducible apply xcond); exact rfl) | ((with_reducible apply xdraw (id := 10)); refine AW.draw (id := 10) (.q 0 (.q 1 (.q 2 (.q 3 (.q 4 (.q 5 (.fin))))))) tok (by kernel_rfl) rfl (by kernel_rfl) ?_))) | ((with_reducible apply xarun); (first | ((with_reducible apply xrun_q); exact rfl; exact rfl; exact rfl) | ((with_reducible apply xrun_c); exact rfl; exact rfl; exact rfl; exact rfl; exact rfl; exact rfl; (first | exact c2 | exact c4); exact rfl) | with_reducible apply xrun_f)) | with_reducible refine xblock ?_ | (with_reducible intro hc; (try simp only [decide_eq_true_eq, decide_eq_false_iff_not, Bool.not_true, Bool.not_false, Bool.not_eq_true', Bool.not_eq_false', ne_eq, not_true, reduceCtorEq, List.length_map] at hc); (try (exfalso; omega))) | with_reducible (first | exact trivial | refine And.intro ?_ ?_ | exact rfl) | exact Eq.refl true)
        refine cut_end () trivial (by (refine xwk (π := [0, 1]) (by decide) rfl ?_ ?_; (first | simp -implicitDefEqProofs only [go_sem, Int.reduceEq, Int.reduceLT, Int.reduceLE, Nat.reduceAdd, Nat.reduceSub, Nat.reduceMul, Nat.reduceEqDiff, Nat.reduceLeDiff, Nat.reducePow, ↓reduceIte, reduceCtorEq, hkr, hset0]); repeat' (first | exact renE_n | ((with_reducible apply renE_c); exact rfl; focus (first | (simp -implicitDefEqProofs only [go_sem, Int.reduceEq, Int.reduceLT, Int.reduceLE, Nat.reduceAdd, Nat.reduceSub, Nat.reduceMul, Nat.reduceEqDiff, Nat.reduceLeDiff, Nat.reducePow, ↓reduceIte, reduceCtorEq, hkr, hset0]; done))))))
      · rw [if_neg hk0] at hkr
        by_cases hk1 : t[i].kind = 1
        · rw [if_pos hk1] at hkr
          have c5 := ORows.data (c_gridded (gridOf t i (kids t i)) r (grid_ok hk hlt (by rw [nodeAt_eq hlt]; exact hk1)) (by omega) (by omega) (by omega) (by omega))
          repeat' (first | ((with_reducible apply xsim); (first | ((with_reducible apply xo); exact rfl) | with_reducible apply xend)) | ((with_reducible apply xaw); (first | ((with_reducible apply xstepS); refine AW.step tok rfl ?_) | ((with_reducible apply xcond); exact rfl) | ((with_reducible apply xdraw (id := 12)); refine AW.draw (id := 12) (.q 0 (.q 1 (.q 2 (.q 3 (.q 4 (.q 5 (.q 6 (.fin)))))))) tok (by kernel_rfl) rfl (by kernel_rfl) ?_))) | ((with_reducible apply xarun); (first | ((with_reducible apply xrun_q); exact rfl; exact rfl; exact rfl) | ((with_reducible apply xrun_c); exact rfl; exact rfl; exact rfl; exact rfl; exact rfl; exact rfl; (first | exact c3 | exact c5); exact rfl) | with_reducible apply xrun_f)) | with_reducible refine xblock ?_ | (with_reducible intro hc; (try simp only [decide_eq_true_eq, decide_eq_false_iff_not, Bool.not_true, Bool.not_false, Bool.not_eq_true', Bool.not_eq_false', ne_eq, not_true, reduceCtorEq, List.length_map] at hc); (try (exfalso; omega))) | with_reducible (first | exact trivial | refine And.intro ?_ ?_ | exact rfl) | exact Eq.refl true)
          refine cut_end () trivial (by (refine xwk (π := [0, 1]) (by decide) rfl ?_ ?_; (first | simp -implicitDefEqProofs only [go_sem, Int.reduceEq, Int.reduceLT, Int.reduceLE, Nat.reduceAdd, Nat.reduceSub, Nat.reduceMul, Nat.reduceEqDiff, Nat.reduceLeDiff, Nat.reducePow, ↓reduceIte, reduceCtorEq, hkr, hset0]); repeat' (first | exact renE_n | ((with_reducible apply renE_c); exact rfl; focus (first | (simp -implicitDefEqProofs only [go_sem, Int.reduceEq, Int.reduceLT, Int.reduceLE, Nat.reduceAdd, Nat.reduceSub, Nat.reduceMul, Nat.reduceEqDiff, Nat.reduceLeDiff, Nat.reducePow, ↓reduceIte, reduceCtorEq, hkr, hset0]; done))))))
        · rw [if_neg hk1] at hkr
          repeat' (first | ((with_reducible apply xsim); (first | ((with_reducible apply xo); exact rfl) | with_reducible apply xend)) | ((with_reducible apply xaw); (first | ((with_reducible apply xstepS); refine AW.step tok rfl ?_) | with_reducible refine AW.block ?_ | ((with_reducible apply xcond); exact rfl))) | (with_reducible intro hc; (try simp only [decide_eq_true_eq, decide_eq_false_iff_not, Bool.not_true, Bool.not_false, Bool.not_eq_true', Bool.not_eq_false', ne_eq, not_true, reduceCtorEq, List.length_map] at hc); (try (exfalso; omega))) | with_reducible (first | exact trivial | refine And.intro ?_ ?_ | exact rfl))
          refine AW.loop (S := fun m : Nat => ⟨[(3, .msl 0 4 0 t.length), (4, .oref 1 0), (6, .oref 2 0), (8, .d (.lst ((kids t i).map encK))), (9, .msl 3 4 0 m), (10, .d (.int .i64 m))],
              [.arr 4 ((lay t w h (belTo t i 0) out).map encRect), .box [.d (.lst (t.map encNode))], .box ((encRect r).map .d), .arr 4 (((kids t i).map fun k => placed (nodeAt t k).place r).take m |>.map encRect)], 78, 1⟩)
            (Pre := fun m => m ≤ (kids t i).length) (μ := fun m => (kids t i).length - m) 0 (Nat.zero_le _) ?_ ?_
          · (refine xwk (π := [0, 1, 2, 3]) (by decide) rfl ?_ ?_; (first | simp -implicitDefEqProofs only [go_sem, Int.reduceEq, Int.reduceLT, Int.reduceLE, Nat.reduceAdd, Nat.reduceSub, Nat.reduceMul, Nat.reduceEqDiff, Nat.reduceLeDiff, Nat.reducePow, ↓reduceIte, reduceCtorEq, List.take_zero, hset0]); repeat' (first | exact renE_n | ((with_reducible apply renE_c); exact rfl; focus (first | (simp -implicitDefEqProofs only [go_sem, Int.reduceEq, Int.reduceLT, Int.reduceLE, Nat.reduceAdd, Nat.reduceSub, Nat.reduceMul, Nat.reduceEqDiff, Nat.reduceLeDiff, Nat.reducePow, ↓reduceIte, reduceCtorEq, List.take_zero, hset0]; done)))))
          intro m hm
          have hml : (((kids t i).map fun k => placed (nodeAt t k).place r).take m).length = m := by simp; omega
          by_cases hmt : m < (kids t i).length
          · have hrk := at_map (f := encK) hmt
            have hkm := hks _ (List.getElem_mem hmt)
            have hrn := at_map (f := encNode) hkm
            have hs := placed_take (t := t) (r := r) hmt
            rw [nodeAt_eq hkm] at hs
            have c6 := c_placeS t[(kids t i)[m]].place r (nodeOk_iff (hk.ok _ hkm)).2.2.2.1 hin
            generalize placed t[(kids t i)[m]].place r = q at hs c6
            repeat' (first | ((with_reducible apply xsim); (first | ((with_reducible apply xlenM); exact rfl; exact rfl) | ((with_reducible apply xo); exact rfl) | with_reducible apply xend | ((with_reducible apply xbuild); exact rfl; exact rfl; exact rfl; exact rfl; exact rfl; simp only [backV, backVs, backVs_mapd, backId, backO, List.map_cons, List.map_nil, List.getElem?_nil, List.length_cons, List.length_nil, Nat.reduceAdd, Nat.reduceSub, List.cons_append, List.nil_append, List.append_nil]) | ((with_reducible apply xidxL); exact rfl; exact rfl; exact rfl; (first | exact hrk | exact hrn); omega; first | exact rfl | simp only [hsz]) | simp -implicitDefEqProofs only [go_sem, Int.reduceEq, Int.reduceLT, Int.reduceLE, Nat.reduceAdd, Nat.reduceSub, Nat.reduceMul, Nat.reduceEqDiff, Nat.reduceLeDiff, Nat.reducePow, ↓reduceIte, reduceCtorEq, List.length_map, hml])) | ((with_reducible apply xaw); (first | ((with_reducible apply xstepS); refine AW.step tok rfl ?_) | ((with_reducible apply xstep); refine AW.region tok rfl ?_) | with_reducible (first | refine AW.seq ?_ | refine AW.block ?_ | refine AW.skip ?_) | ((with_reducible apply xcond); exact rfl) | ((with_reducible apply xdraw (id := 8)); refine AW.draw (id := 8) (.q 0 (.q 1 (.q 2 (.q 3 (.q 4 (.q 5 (.q 6 (.q 7 (.q 8 (.q 9 (.q 10 (.q 11 (.e 12 (.e 13 (.q 14 (.fin)))))))))))))))) tok (by kernel_rfl) rfl (by kernel_rfl) ?_))) | ((with_reducible apply xarun); (first | ((with_reducible apply xrun_q); exact rfl; exact rfl; exact rfl) | ((with_reducible apply xrun_c); exact rfl; exact rfl; exact rfl; exact rfl; exact rfl; exact rfl; exact c6; exact rfl) | ((with_reducible apply xrun_e); exact rfl))) | with_reducible refine xthen ?_ | (with_reducible intro hc; (try simp only [decide_eq_true_eq, decide_eq_false_iff_not, Bool.not_true, Bool.not_false, Bool.not_eq_true', Bool.not_eq_false', ne_eq, not_true, reduceCtorEq, List.length_map, hml] at hc); (try (exfalso; omega))) | with_reducible (first | exact trivial | refine And.intro ?_ ?_ | exact rfl) | exact Eq.refl true | (refine inR_i64.mpr ?_; first | omega | (simp only [List.length_map, List.length_map, hml]; omega)) | omega)
            refine round_end (m+1) hmt (by omega) (by (refine xwk (π := [0, 1, 2, 5]) (by decide) rfl ?_ ?_; (first | simp -implicitDefEqProofs only [go_sem, Int.reduceEq, Int.reduceLT, Int.reduceLE, Nat.reduceAdd, Nat.reduceSub, Nat.reduceMul, Nat.reduceEqDiff, Nat.reduceLeDiff, Nat.reducePow, ↓reduceIte, reduceCtorEq, hs, List.map_append]); repeat' (first | exact renE_n | ((with_reducible apply renE_c); exact rfl; focus (first | (simp -implicitDefEqProofs only [go_sem, Int.reduceEq, Int.reduceLT, Int.reduceLE, Nat.reduceAdd, Nat.reduceSub, Nat.reduceMul, Nat.reduceEqDiff, Nat.reduceLeDiff, Nat.reducePow, ↓reduceIte, reduceCtorEq, hs, List.map_append]; done))))))
          have hm' : m = (kids t i).length := by omega
          subst hm'
          have hta : ((kids t i).map fun k => placed (nodeAt t k).place r).take (kids t i).length = (kids t i).map fun k => placed (nodeAt t k).place r := List.take_of_length_le (by simp)
          rw [hta, ← hkr]
          repeat' (first | ((with_reducible apply xsim); (first | ((with_reducible apply xlenM); exact rfl; exact rfl) | ((with_reducible apply xo); exact rfl) | with_reducible apply xend)) | ((with_reducible apply xaw); (first | ((with_reducible apply xstepS); refine AW.step tok rfl ?_) | with_reducible (first | refine AW.seq ?_ | refine AW.exit ?_) | ((with_reducible apply xcond); exact rfl))) | with_reducible (first | refine xthen_e ?_ | refine xblock ?_ | refine xblock_e ?_ | refine xround_e ?_) | (with_reducible intro hc; (try simp only [decide_eq_true_eq, decide_eq_false_iff_not, Bool.not_true, Bool.not_false, Bool.not_eq_true', Bool.not_eq_false', ne_eq, not_true, reduceCtorEq, List.length_map] at hc); (try (exfalso; omega))) | with_reducible (first | exact trivial | refine And.intro ?_ ?_ | exact rfl))
          refine cutW (Weak.freezeA 9 3 4 rfl rfl (by rw [List.length_map, kidRects_len hk])) ?_
          refine cut_end () trivial (by (refine xwk (π := [0, 1]) (by decide) rfl ?_ ?_; (first | simp -implicitDefEqProofs only [go_sem, Int.reduceEq, Int.reduceLT, Int.reduceLE, Nat.reduceAdd, Nat.reduceSub, Nat.reduceMul, Nat.reduceEqDiff, Nat.reduceLeDiff, Nat.reducePow, ↓reduceIte, reduceCtorEq]); repeat' (first | exact renE_n | ((with_reducible apply renE_c); exact rfl; focus (first | (simp -implicitDefEqProofs only [go_sem, Int.reduceEq, Int.reduceLT, Int.reduceLE, Nat.reduceAdd, Nat.reduceSub, Nat.reduceMul, Nat.reduceEqDiff, Nat.reduceLeDiff, Nat.reducePow, ↓reduceIte, reduceCtorEq]; done))))))
    rintro ⟨⟩ -
    have hql := kidRects_len hk (i := i) r
    repeat' (first | ((with_reducible apply xsim); (first | ((with_reducible apply xo); exact rfl) | with_reducible apply xend)) | ((with_reducible apply xaw); (first | ((with_reducible apply xstepS); refine AW.step tok rfl ?_) | with_reducible refine AW.block ?_)) | with_reducible exact trivial)
    refine AW.loop (S := fun m : Nat => ⟨[(3, .msl 0 4 0 t.length), (4, .oref 1 0), (8, .d (.lst ((kids t i).map encK))), (9, .d (.lst ((kidRects t i r).map encRect))), (11, .d (.int .i64 m))],
      [.arr 4 ((lay t w h (belTo t i m) out).map encRect), .box [.d (.lst (t.map encNode))]], 78, 1⟩)
      (Pre := fun m => m ≤ (kids t i).length) (μ := fun m => (kids t i).length - m) 0 (Nat.zero_le _) ?_ ?_
    · (refine xwk (π := [0, 1]) (by decide) rfl ?_ ?_; (first | simp -implicitDefEqProofs only [go_sem, Int.reduceEq, Int.reduceLT, Int.reduceLE, Nat.reduceAdd, Nat.reduceSub, Nat.reduceMul, Nat.reduceEqDiff, Nat.reduceLeDiff, Nat.reducePow, ↓reduceIte, reduceCtorEq]); repeat' (first | exact renE_n | ((with_reducible apply renE_c); exact rfl; focus (first | (simp -implicitDefEqProofs only [go_sem, Int.reduceEq, Int.reduceLT, Int.reduceLE, Nat.reduceAdd, Nat.reduceSub, Nat.reduceMul, Nat.reduceEqDiff, Nat.reduceLeDiff, Nat.reducePow, ↓reduceIte, reduceCtorEq]; done)))))
    intro m hm
    by_cases hmt : m < (kids t i).length
    · have hrk := at_map (f := encK) hmt
      obtain ⟨hkm, hik, _⟩ := hk.kid (List.getElem_mem hmt)
      have hrq : ((kidRects t i r).map encRect)[m]? = some (encRect (rectAt t w h (kids t i)[m])) := by
        rw [at_map (f := encRect) (xs := kidRects t i r) (k := m) (by omega), hrm m hmt]
      have cl := ih (kids t i)[m] (by omega) hkm (lay t w h (belTo t i m) out) (by rw [lay_len]; exact hol)
      rw [belTo_step hmt] at cl
      repeat' (first | ((with_reducible apply xsim); (first | ((with_reducible apply xlenM); exact rfl; exact rfl) | ((with_reducible apply xo); exact rfl) | with_reducible apply xend | ((with_reducible apply xidxL); exact rfl; exact rfl; exact rfl; (first | exact hrk | exact hrq); omega; first | exact rfl | simp only [hsz]) | ((with_reducible apply xcallHand 0); exact rfl; exact rfl; exact cl; (focus (first | exact rfl | (simp -implicitDefEqProofs only [go_sem, ↓reduceIte, Nat.reduceEqDiff, List.length_map]; done))); exact rfl; (first | exact .inl rfl | exact .inr ⟨_, _, rfl⟩); (try simp only [List.set_cons_zero, List.set_cons_succ])))) | ((with_reducible apply xaw); (first | ((with_reducible apply xstepS); refine AW.step tok rfl ?_) | ((with_reducible apply xstep); refine AW.region tok rfl ?_) | with_reducible (first | refine AW.seq ?_ | refine AW.block ?_ | refine AW.skip ?_) | ((with_reducible apply xcond); exact rfl) | ((with_reducible apply xdraw (id := 16)); refine AW.draw (id := 16) (.q 0 (.q 1 (.q 2 (.q 3 (.q 4 (.q 5 (.q 6 (.q 7 (.q 8 (.q 9 (.e 10 (.fin)))))))))))) tok (by kernel_rfl) rfl (by kernel_rfl) ?_))) | ((with_reducible apply xarun); (first | ((with_reducible apply xrun_q); exact rfl; exact rfl; exact rfl) | ((with_reducible apply xrun_e); exact rfl) | with_reducible apply xrun_f)) | with_reducible (first | refine xthen ?_ | refine xblock ?_) | (with_reducible intro hc; (try simp only [decide_eq_true_eq, decide_eq_false_iff_not, Bool.not_true, Bool.not_false, Bool.not_eq_true', Bool.not_eq_false', ne_eq, not_true, reduceCtorEq, List.length_map] at hc); (try (exfalso; omega))) | with_reducible (first | exact trivial | refine And.intro ?_ ?_ | exact rfl) | exact Eq.refl true | (refine inR_i64.mpr ?_; first | omega | (simp only [List.length_map, List.length_map]; omega)))
      refine round_end (m+1) hmt (by omega) (by (refine xwk (π := [0, 1]) (by decide) rfl ?_ ?_; (first | simp -implicitDefEqProofs only [go_sem, Int.reduceEq, Int.reduceLT, Int.reduceLE, Nat.reduceAdd, Nat.reduceSub, Nat.reduceMul, Nat.reduceEqDiff, Nat.reduceLeDiff, Nat.reducePow, ↓reduceIte, reduceCtorEq]); repeat' (first | exact renE_n | ((with_reducible apply renE_c); exact rfl; focus (first | (simp -implicitDefEqProofs only [go_sem, Int.reduceEq, Int.reduceLT, Int.reduceLE, Nat.reduceAdd, Nat.reduceSub, Nat.reduceMul, Nat.reduceEqDiff, Nat.reduceLeDiff, Nat.reducePow, ↓reduceIte, reduceCtorEq]; done))))))
    have hm' : m = (kids t i).length := by omega
    subst hm'
    rw [belTo_all hk hlt]
    repeat' (first | ((with_reducible apply xsim); (first | ((with_reducible apply xlenM); exact rfl; exact rfl) | ((with_reducible apply xo); exact rfl) | with_reducible apply xend)) | ((with_reducible apply xaw); (first | ((with_reducible apply xstepS); refine AW.step tok rfl ?_) | with_reducible (first | refine AW.seq ?_ | refine AW.exit ?_) | ((with_reducible apply xcond); exact rfl))) | with_reducible (first | refine xthen_e ?_ | refine xblock_e ?_ | refine xround_e ?_) | (with_reducible intro hc; (try simp only [decide_eq_true_eq, decide_eq_false_iff_not, Bool.not_true, Bool.not_false, Bool.not_eq_true', Bool.not_eq_false', ne_eq, not_true, reduceCtorEq, List.length_map] at hc); (try (exfalso; omega))) | with_reducible (first | exact trivial | refine And.intro ?_ ?_ | exact rfl))
    (refine xfinOwn [0] (by first | exact .inl rfl | exact .inr rfl) rfl (by repeat' (first | exact trivial | exact rfl | refine And.intro ?_ ?_)) (by decide) rfl ?_ ?_ <;> simp -implicitDefEqProofs only [go_sem, Int.reduceEq, Int.reduceLT, Int.reduceLE, Nat.reduceAdd, Nat.reduceSub, Nat.reduceMul, Nat.reduceEqDiff, Nat.reduceLeDiff, Nat.reducePow, ↓reduceIte, reduceCtorEq])

theorem c_AlayoutS (t : List Node) (hk : TreeK t) (w h : Int) (hw : 0 ≤ w ∧ w ≤ 400) (hh : 0 ≤ h ∧ h ≤ 400) : ACon Try.prog 73 [vTree t, .d (.int .i64 w), .d (.int .i64 h)] [] (ORows encRect 4 (layoutOf t w h)) := by
  have hlo := hk.lo; have hhi := hk.hi
  have hrep : List.replicate t.length [D.int .i64 0, D.int .i64 0, D.int .i64 0, D.int .i64 0] = (List.replicate t.length zeroR).map encRect := by rw [List.map_replicate]; rfl
  have cl := c_laid t hk w h hw hh _ 0 (Nat.le_refl _) hlo (List.replicate t.length zeroR) (by rw [List.length_replicate])
  have hall := lay_all (t := t) (w := w) (h := h) (A := bel t 0) (out := List.replicate t.length zeroR) (by rw [List.length_replicate]) (bel_root hk)
  have hll : (layoutOf t w h).length = t.length := by simp [layoutOf]
  rw [hall, ← hrep, rectAt_zero] at cl
  refine ACon.introW tok (nt := 19) Try.func73 rfl rfl rfl (by kernel_rfl) rfl ?_
  repeat' (first | ((with_reducible apply xsim); (first | ((with_reducible apply xlenM); exact rfl; exact rfl) | ((with_reducible apply xo); exact rfl) | with_reducible apply xend | ((with_reducible apply xbox); exact rfl; simp only [backV, backVs, backVs_mapd, backId, backO, List.map_cons, List.map_nil, List.getElem?_nil, List.length_cons, List.length_nil, Nat.reduceAdd, Nat.reduceSub, List.cons_append, List.nil_append, List.append_nil]) | ((with_reducible apply xcallHand 1); exact rfl; exact rfl; exact cl; (focus (first | exact rfl | (simp -implicitDefEqProofs only [go_sem, ↓reduceIte, Nat.reduceEqDiff, List.length_map]; done))); exact rfl; (first | exact .inl rfl | exact .inr ⟨_, _, rfl⟩); (try simp only [List.set_cons_zero, List.set_cons_succ])) | simp -implicitDefEqProofs only [go_sem, Int.reduceEq, Int.reduceLT, Int.reduceLE, Nat.reduceAdd, Nat.reduceSub, Nat.reduceMul, Nat.reduceEqDiff, Nat.reduceLeDiff, Nat.reducePow, ↓reduceIte, reduceCtorEq, List.length_map])) | ((with_reducible apply xaw); (first | ((with_reducible apply xstepS); refine AW.step tok rfl ?_) | with_reducible refine AW.ret ?_)) | with_reducible (first | exact trivial | refine And.intro ?_ ?_) | exact Eq.refl true | omega)
  (refine xfinOwn [1] (by first | exact .inl rfl | exact .inr rfl) rfl (by repeat' (first | exact trivial | exact rfl | refine And.intro ?_ ?_)) (by decide) rfl ?_ ?_ <;> simp -implicitDefEqProofs only [go_sem, Int.reduceEq, Int.reduceLT, Int.reduceLE, Nat.reduceAdd, Nat.reduceSub, Nat.reduceMul, Nat.reduceEqDiff, Nat.reduceLeDiff, Nat.reducePow, ↓reduceIte, reduceCtorEq, hll])

/-- Rectangles of all nodes, if the tree and the room are good. -/
def layoutT (t : List Node) (w h : Int) : List Rect := if (treeOk t && roomOk w h) = true then layoutOf t w h else []
theorem c_LayoutI (t : List Node) (hL : TreeL t) (w h : Int) : ACon Try.prog 34 [vTree t, .d (.int .i64 w), .d (.int .i64 h)] [] (ORows encRect 4 (layoutT t w h)) := by
  have c1 := c_ValidTree t hL
  have c2 := c_sizeOk w h
  cases ht : treeOk t
  · rw [ht] at c1
    refine ACon.introW tok (nt := 20) Try.func34 rfl rfl rfl (by kernel_rfl) rfl ?_
    repeat' (first | ((with_reducible apply xsim); (first | ((with_reducible apply xo); exact rfl) | with_reducible apply xend | ((with_reducible apply xguardS); exact rfl; exact rfl) | ((with_reducible apply xbox); exact rfl; simp only [backV, backVs, backVs_mapd, backId, backO, List.map_cons, List.map_nil, List.getElem?_nil, List.length_cons, List.length_nil, Nat.reduceAdd, Nat.reduceSub, List.cons_append, List.nil_append, List.append_nil]) | ((with_reducible apply xcallIs); exact rfl; exact rfl; exact c1; exact rfl))) | ((with_reducible apply xaw); (first | ((with_reducible apply xstepS); refine AW.step tok rfl ?_) | with_reducible (first | refine AW.seq ?_ | refine AW.ret ?_) | ((with_reducible apply xcond); exact rfl))) | with_reducible refine xthen_r ?_ | (with_reducible intro hc; (try simp only [decide_eq_true_eq, decide_eq_false_iff_not, Bool.not_true, Bool.not_false, Bool.not_eq_true', Bool.not_eq_false', ne_eq, not_true, reduceCtorEq] at hc); (try (exfalso; omega))) | with_reducible exact trivial | exact Eq.refl true)
    refine xfinW (Weak.own 6 4 rfl) ?_
    rw [show layoutT t w h = [] by rw [layoutT, ht]; rfl]
    (refine xfinOwn [1] (by first | exact .inl rfl | exact .inr rfl) rfl (by repeat' (first | exact trivial | exact rfl | refine And.intro ?_ ?_)) (by decide) rfl ?_ ?_ <;> simp -implicitDefEqProofs only [go_sem, Int.reduceEq, Int.reduceLT, Int.reduceLE, Nat.reduceAdd, Nat.reduceSub, Nat.reduceMul, Nat.reduceEqDiff, Nat.reduceLeDiff, Nat.reducePow, ↓reduceIte, reduceCtorEq])
  · rw [ht] at c1
    cases hr : roomOk w h
    · rw [hr] at c2
      refine ACon.introW tok (nt := 20) Try.func34 rfl rfl rfl (by kernel_rfl) rfl ?_
      repeat' (first | ((with_reducible apply xsim); (first | ((with_reducible apply xo); exact rfl) | with_reducible apply xend | ((with_reducible apply xguardS); exact rfl; exact rfl) | ((with_reducible apply xbox); exact rfl; simp only [backV, backVs, backVs_mapd, backId, backO, List.map_cons, List.map_nil, List.getElem?_nil, List.length_cons, List.length_nil, Nat.reduceAdd, Nat.reduceSub, List.cons_append, List.nil_append, List.append_nil]) | ((with_reducible apply xcallIs); exact rfl; exact rfl; (first | exact c1 | exact c2); exact rfl))) | ((with_reducible apply xaw); (first | ((with_reducible apply xstepS); refine AW.step tok rfl ?_) | with_reducible (first | refine AW.seq ?_ | refine AW.ret ?_) | ((with_reducible apply xcond); exact rfl))) | with_reducible refine xthen_r ?_ | (with_reducible intro hc; (try simp only [decide_eq_true_eq, decide_eq_false_iff_not, Bool.not_true, Bool.not_false, Bool.not_eq_true', Bool.not_eq_false', ne_eq, not_true, reduceCtorEq] at hc); (try (exfalso; omega))) | with_reducible exact trivial | exact Eq.refl true)
      refine xfinW (Weak.own 6 4 rfl) ?_
      rw [show layoutT t w h = [] by rw [layoutT, hr, Bool.and_false]; rfl]
      (refine xfinOwn [1] (by first | exact .inl rfl | exact .inr rfl) rfl (by repeat' (first | exact trivial | exact rfl | refine And.intro ?_ ?_)) (by decide) rfl ?_ ?_ <;> simp -implicitDefEqProofs only [go_sem, Int.reduceEq, Int.reduceLT, Int.reduceLE, Nat.reduceAdd, Nat.reduceSub, Nat.reduceMul, Nat.reduceEqDiff, Nat.reduceLeDiff, Nat.reducePow, ↓reduceIte, reduceCtorEq])
    · rw [hr] at c2
      have hb := roomOk_iff hr
      have c3 := c_Alayout t (treeK ht) w h (by omega) (by omega)
      rw [show layoutT t w h = layoutOf t w h by rw [layoutT, ht, hr]; rfl]
      refine ACon.introW tok (nt := 20) Try.func34 rfl rfl rfl (by kernel_rfl) rfl ?_
      repeat' (first | ((with_reducible apply xsim); (first | ((with_reducible apply xo); exact rfl) | with_reducible apply xend | ((with_reducible apply xguardS); exact rfl; exact rfl) | ((with_reducible apply xbox); exact rfl; simp only [backV, backVs, backVs_mapd, backId, backO, List.map_cons, List.map_nil, List.getElem?_nil, List.length_cons, List.length_nil, Nat.reduceAdd, Nat.reduceSub, List.cons_append, List.nil_append, List.append_nil]) | ((with_reducible apply xcallIs); exact rfl; exact rfl; (first | exact c1 | exact c2); exact rfl) | ((with_reducible apply xcallOwn); exact rfl; exact rfl; exact c3; simp only [backV, backVs, backVs_mapd, backId, backO, List.map_cons, List.map_nil, List.getElem?_nil, List.length_cons, List.length_nil, Nat.reduceAdd, Nat.reduceSub, List.cons_append, List.nil_append, List.append_nil]))) | ((with_reducible apply xaw); (first | ((with_reducible apply xstepS); refine AW.step tok rfl ?_) | with_reducible (first | refine AW.seq ?_ | refine AW.skip ?_ | refine AW.ret ?_) | ((with_reducible apply xcond); exact rfl))) | with_reducible refine xthen ?_ | (with_reducible intro hc; (try simp only [decide_eq_true_eq, decide_eq_false_iff_not, Bool.not_true, Bool.not_false, Bool.not_eq_true', Bool.not_eq_false', ne_eq, not_true, reduceCtorEq] at hc); (try (exfalso; omega))) | with_reducible exact trivial | exact Eq.refl true)
      all_goals (refine xfinOwn [1] (by first | exact .inl rfl | exact .inr rfl) rfl (by repeat' (first | exact trivial | exact rfl | refine And.intro ?_ ?_)) (by decide) rfl ?_ ?_ <;> simp -implicitDefEqProofs only [go_sem, Int.reduceEq, Int.reduceLT, Int.reduceLE, Nat.reduceAdd, Nat.reduceSub, Nat.reduceMul, Nat.reduceEqDiff, Nat.reduceLeDiff, Nat.reducePow, ↓reduceIte, reduceCtorEq])
end Go.Proofs.Yticgjepndfjafaa

namespace Go.Proofs.Yticgjepndfjafaa
open Go.Fw
attribute [local irreducible] Go.Fw.aops Go.Fw.arun

/-- Two rectangles have no points in common. -/
def Apart (a b : Rect) : Prop := min (a.x + a.w) (b.x + b.w) - max a.x b.x ≤ 0 ∨ min (a.y + a.h) (b.y + b.h) - max a.y b.y ≤ 0
end Go.Proofs.Yticgjepndfjafaa

namespace Go.Proofs.Yticgjepndfjafaa
open Go.Fw
def Ins (a b : Rect) : Prop := a.x ≤ b.x ∧ a.y ≤ b.y ∧ b.x + b.w ≤ a.x + a.w ∧ b.y + b.h ≤ a.y + a.h
def reqD (d : Bool) (xs : List Pack) : Int := if d then (preqs xs).2 else (preqs xs).1
def shFin (s : Int × Int × Int) : Int := min s.1 ((max s.2.2 0).tdiv s.2.1)

theorem shFold_fst (d : Bool) : ∀ (xs : List Pack) (s : Int × Int × Int), (xs.foldl (shStep d) s).1 ≤ s.1
  | [], s => Int.le_refl _
  | p :: ps, s => by
    refine Int.le_trans (shFold_fst d ps (shStep d s p)) ?_
    unfold shStep
    split
    · exact Int.le_refl _
    · dsimp only; omega

theorem shFold_le (d : Bool) : ∀ (xs : List Pack) (s : Int × Int × Int), xs.all packB = true → shFin (xs.foldl (shStep d) s) ≤ max (s.2.2 - reqD d xs) 0
  | [], s, _ => by
    have h := Int.tdiv_le_self s.2.1 (show 0 ≤ max s.2.2 0 by omega)
    simp only [List.foldl_nil, shFin, reqD, preqs]
    split <;> omega
  | p :: ps, s, hv => by
    simp only [List.all_cons, Bool.and_eq_true] at hv
    have ih := shFold_le d ps (shStep d s p) hv.2
    have hf := shFold_fst d ps (shStep d s p)
    have hn := needWH hv.1
    have hfin : shFin ((p :: ps).foldl (shStep d) s) ≤ ((p :: ps).foldl (shStep d) s).1 := by unfold shFin; omega
    rw [List.foldl_cons] at hfin ⊢
    unfold shStep at ih hf hfin ⊢
    unfold reqD at ih ⊢
    by_cases hd : down p = d
    · simp only [if_pos hd] at ih hf hfin ⊢
      refine Int.le_trans ih ?_
      cases d
      · simp only [preqs, hd, need, Bool.false_eq_true, if_false]; omega
      · simp only [preqs, hd, need, if_true]; omega
    · simp only [if_neg hd] at ih hf hfin ⊢
      have h := Int.tdiv_le_self s.2.1 (show 0 ≤ max (s.2.2 - need p d) 0 by omega)
      have hm : (min s.1 ((max (s.2.2 - need p d) 0).tdiv s.2.1)) ≤ max (s.2.2 - need p d) 0 := by omega
      have hb := Int.le_trans hfin (Int.le_trans hf hm)
      cases d
      · have hd : down p = true := by simpa using hd
        simp only [preqs, hd, need, Bool.false_eq_true, if_false, if_true] at ih hb ⊢
        omega
      · have hd : down p = false := by simpa using hd
        simp only [preqs, hd, need, Bool.false_eq_true, if_false, if_true] at ih hb ⊢
        omega

theorem share_req {xs : List Pack} {room : Int} {d : Bool} (hv : xs.all packB = true) : share xs room d ≤ max (room - reqD d xs) 0 := shFold_le d xs (room, 0, room) hv

theorem cut_down {p : Pack} {r : Rect} {n : Int} (h : down p = true) : (cut r p.side n).1.w = r.w ∧ (cut r p.side n).1.h = min n r.h ∧ (cut r p.side n).2.w = r.w ∧ (cut r p.side n).2.h = r.h - min n r.h := by
  have hdef : down p = decide (p.side = 0 ∨ p.side = 1) := rfl
  rw [hdef, decide_eq_true_eq] at h
  unfold cut
  rcases h with h | h
  · rw [if_pos h]; exact ⟨rfl, rfl, rfl, rfl⟩
  · rw [if_neg (by omega), if_pos h]; exact ⟨rfl, rfl, rfl, rfl⟩
theorem cut_across {p : Pack} {r : Rect} {n : Int} (h : down p = false) : (cut r p.side n).1.h = r.h ∧ (cut r p.side n).1.w = min n r.w ∧ (cut r p.side n).2.h = r.h ∧ (cut r p.side n).2.w = r.w - min n r.w := by
  have hdef : down p = decide (p.side = 0 ∨ p.side = 1) := rfl
  rw [hdef, decide_eq_false_iff_not, not_or] at h
  unfold cut
  rw [if_neg h.1, if_neg h.2]
  split <;> exact ⟨rfl, rfl, rfl, rfl⟩

def piece (xs : List Pack) (r : Rect) (k : Nat) (p : Pack) : Rect := (cut (parTo xs r k).2 p.side (parNeed xs k p (parTo xs r k).2)).1

theorem parTo_get {xs : List Pack} {r : Rect} (hl : xs.length ≤ 10) (hv : xs.all packB = true) (hr : RectIn r) {k : Nat} (hk : k < xs.length) : ∀ m, k < m → m ≤ xs.length → (parTo xs r m).1[k]? = some (piece xs r k xs[k]) := by
  intro m
  induction m with
  | zero => intro h; omega
  | succ m ih =>
    intro h1 h2
    rw [parTo_succ (by omega)]
    have hlm := (parTo_inv hl hv hr m (by omega)).1
    by_cases h : k < m
    · rw [List.getElem?_append_left (by omega)]; exact ih h (by omega)
    · have : k = m := by omega
      subst this
      rw [List.getElem?_append_right (by omega), hlm]
      simp [piece]

theorem parcels_get {xs : List Pack} {r : Rect} (hl : xs.length ≤ 10) (hv : xs.all packB = true) (hr : RectIn r) {k : Nat} (hk : k < xs.length) (h : k < (parcels xs r).1.length) : (parcels xs r).1[k] = piece xs r k xs[k] := by
  have := parTo_get hl hv hr hk xs.length hk (Nat.le_refl _)
  rw [show (parTo xs r xs.length).1 = (parcels xs r).1 from rfl, List.getElem?_eq_getElem h] at this
  exact Option.some.inj this

theorem parRest_succ {xs : List Pack} {r : Rect} {k : Nat} (h : k < xs.length) : (parTo xs r (k + 1)).2 = (cut (parTo xs r k).2 xs[k].side (parNeed xs k xs[k] (parTo xs r k).2)).2 := by rw [parTo_succ h]

theorem enough_step {xs : List Pack} {r : Rect} (hl : xs.length ≤ 10) (hv : xs.all packB = true) (hr : RectIn r) {k : Nat} (hk : k < xs.length) (h1 : (preqs (xs.drop k)).1 ≤ (parTo xs r k).2.w) (h2 : (preqs (xs.drop k)).2 ≤ (parTo xs r k).2.h) :
    needW xs[k] ≤ (piece xs r k xs[k]).w ∧ needH xs[k] ≤ (piece xs r k xs[k]).h ∧ (preqs (xs.drop (k + 1))).1 ≤ (parTo xs r (k + 1)).2.w ∧ (preqs (xs.drop (k + 1))).2 ≤ (parTo xs r (k + 1)).2.h := by
  have hv1 := all_at hv hk
  have hn := needWH hv1
  have hq := preqs_drop hk
  have hb := preqs_bd (all_drop (k := k + 1) hv)
  have hin := (parTo_inv hl hv hr k (by omega)).2.1
  obtain ⟨i1, i2, i3, i4, i5, i6⟩ := hin
  rw [parRest_succ hk]
  unfold piece
  have hpn : parNeed xs k xs[k] (parTo xs r k).2 = need xs[k] (down xs[k]) + if xs[k].expand then share (xs.drop k) (roomOf xs[k] (parTo xs r k).2) (down xs[k]) else 0 := rfl
  have hs := share_req (xs := xs.drop k) (room := roomOf xs[k] (parTo xs r k).2) (d := down xs[k]) (all_drop hv)
  have hs0 : xs[k].expand = true → 0 ≤ share (xs.drop k) (roomOf xs[k] (parTo xs r k).2) (down xs[k]) := fun he =>
    (share_bd (by unfold roomOf; split <;> omega) (by rw [List.length_drop]; omega) (all_drop hv) ⟨_, head_drop hk, he, rfl⟩).1
  unfold reqD roomOf at hs
  unfold roomOf at hpn hs0
  cases hd : down xs[k]
  · have hc := cut_across (p := xs[k]) (r := (parTo xs r k).2) (n := parNeed xs k xs[k] (parTo xs r k).2) hd
    rw [hd] at hq hpn hs hs0
    simp only [Bool.false_eq_true, if_false, need] at hq hpn hs hs0
    rw [hq] at h1 h2 hs
    dsimp only at h1 h2 hs
    by_cases he : xs[k].expand = true
    · rw [if_pos he] at hpn; have := hs0 he; omega
    · rw [if_neg he] at hpn; omega
  · have hc := cut_down (p := xs[k]) (r := (parTo xs r k).2) (n := parNeed xs k xs[k] (parTo xs r k).2) hd
    rw [hd] at hq hpn hs hs0
    simp only [if_true, need] at hq hpn hs hs0
    rw [hq] at h1 h2 hs
    dsimp only at h1 h2 hs
    by_cases he : xs[k].expand = true
    · rw [if_pos he] at hpn; have := hs0 he; omega
    · rw [if_neg he] at hpn; omega

theorem enough_all {xs : List Pack} {r : Rect} (hl : xs.length ≤ 10) (hv : xs.all packB = true) (hr : RectIn r) (h1 : (preqs xs).1 ≤ r.w) (h2 : (preqs xs).2 ≤ r.h) : ∀ k, k ≤ xs.length → (preqs (xs.drop k)).1 ≤ (parTo xs r k).2.w ∧ (preqs (xs.drop k)).2 ≤ (parTo xs r k).2.h := by
  intro k
  induction k with
  | zero => intro _; exact ⟨h1, h2⟩
  | succ k ih =>
    intro hk
    obtain ⟨g1, g2⟩ := ih (by omega)
    exact (enough_step hl hv hr (by omega) g1 g2).2.2

theorem settled_w (p : Pack) (q : Rect) : (settled p q).w = min (if p.fillX then max 0 (q.w - 2 * p.padX) else p.w) (max 0 (q.w - 2 * p.padX)) ∧ (settled p q).h = min (if p.fillY then max 0 (q.h - 2 * p.padY) else p.h) (max 0 (q.h - 2 * p.padY)) := by
  unfold settled anchored inset
  exact ⟨rfl, rfl⟩

theorem Apart.mono {a b c : Rect} (h : Apart a b) (hi : Ins b c) : Apart a c := by unfold Apart Ins at *; omega
theorem settled_big {p : Pack} {q : Rect} (hp : packB p = true) (h1 : needW p ≤ q.w) (h2 : needH p ≤ q.h) : p.w ≤ (settled p q).w ∧ p.h ≤ (settled p q).h := by
  have hv := packB_iff.1 hp
  obtain ⟨e1, e2⟩ := settled_w p q
  unfold needW at h1
  unfold needH at h2
  rw [e1, e2]
  split <;> split <;> omega
/-- In enough room items have what they ask for. -/
theorem packed_big {xs : List Pack} {r : Rect} (hl : xs.length ≤ 10) (hv : xs.all packB = true) (hr : RectIn r) (h1 : (preqs xs).1 ≤ r.w) (h2 : (preqs xs).2 ≤ r.h) {k : Nat} (hk : k < xs.length) (hk2 : k < (packed xs r).length) : xs[k].w ≤ (packed xs r)[k].w ∧ xs[k].h ≤ (packed xs r)[k].h := by
  have g := (parcels_inv hl hv hr).1
  rw [packed_at hk (by omega) hk2, parcels_get hl hv hr hk (by omega)]
  obtain ⟨e1, e2⟩ := enough_all hl hv hr h1 h2 k (by omega)
  have := enough_step hl hv hr hk e1 e2
  exact settled_big (all_at hv hk) this.1 this.2.1
theorem Apart.symm {a b : Rect} (h : Apart a b) : Apart b a := by unfold Apart at *; omega
end Go.Proofs.Yticgjepndfjafaa

namespace Go.Proofs.Yticgjepndfjafaa
open Go.Fw
attribute [local irreducible] Go.Fw.aops Go.Fw.arun

section
variable {t : List Node} {R : Nat → Rect} {i : Nat}
end

theorem lay_get {t : List Node} {w h : Int} {k : Nat} (hk : k < t.length) : ((layoutOf t w h).map encRect)[k]? = some (encRect (rectAt t w h k)) := by
  rw [List.getElem?_map, layoutOf, List.getElem?_map, List.getElem?_range hk]; rfl
theorem layoutOf_len {t : List Node} {w h : Int} : (layoutOf t w h).length = t.length := by simp [layoutOf]
theorem rects_in {t : List Node} (hk : TreeK t) {w h : Int} (hw : 0 ≤ w ∧ w ≤ 400) (hh : 0 ≤ h ∧ h ≤ 400) : ∀ k, k < t.length → RectIn (rectAt t w h k) := fun k hkl => (rect_bd hk hw hh k hkl).in (by have := hk.hi; omega)

end Go.Proofs.Yticgjepndfjafaa

namespace Go.Proofs.Yticgjepndfjafaa
open Go.Fw
attribute [local irreducible] Go.Fw.aops Go.Fw.arun
theorem TreeB.L {t : List Node} (h : TreeB t) : TreeL t := ⟨by have := h.2.1; omega, fun i hi => by have := h.2.2 _ (List.getElem_mem hi); omega⟩
/-- A tree that was drawn, and a room. -/
def ARoom (r : V) : Prop := ∃ (t : List Node) (w h : Int), r = .tup [vTree t, .d (.int .i64 w), .d (.int .i64 h)] ∧ TreeB t ∧ -1 ≤ w ∧ w ≤ 2000 ∧ -1 ≤ h ∧ h ≤ 2000
set_option maxHeartbeats 4000000 in
theorem c_treeRoom (bs : List Byte) (p : Int) (hb : bs.length ≤ 2000) (hp : 0 ≤ p ∧ p < 2^26) :
    ACon Try.prog 69 [.oref 0 0] [.box [.d (.lst (bs.map encByte)), .d (.int .i64 p)]] (Rd (.lst (bs.map encByte)) p (p + 1320) ARoom) := by
  refine ACon.introW tok (nt := 35) Try.func69 rfl rfl rfl (by kernel_rfl) rfl ?_
  repeat' ((fail_if_success (with_reducible apply xnocond)); first | ((with_reducible apply xsim); (first | ((with_reducible apply xo); exact rfl) | ((with_reducible apply xst); exact rfl) | with_reducible apply xend | ((with_reducible apply xalloc); exact rfl; simp only [backV, backVs, backVs_mapd, backId, backO, List.map_cons, List.map_nil, List.getElem?_nil, List.length_cons, List.length_nil, Nat.reduceAdd, Nat.reduceSub, List.cons_append, List.nil_append, List.append_nil]) | ((with_reducible apply xbuild); exact rfl; exact rfl; exact rfl; exact rfl; exact rfl; simp only [backV, backVs, backVs_mapd, backId, backO, List.map_cons, List.map_nil, List.getElem?_nil, List.length_cons, List.length_nil, Nat.reduceAdd, Nat.reduceSub, List.cons_append, List.nil_append, List.append_nil]) | ((with_reducible apply xcallRd); exact rfl; exact rfl; exact rfl; exact c_someTree bs _ hb (by omega); rintro _ p' _ _ ⟨t, rfl, ht⟩; (try simp only [List.set_cons_zero, List.set_cons_succ])) | ((with_reducible apply xcallOne); exact rfl; exact rfl; exact rfl; exact rfl; exact c_one rfl rfl hb (by omega) rfl rfl; rintro _ p' _ _ ⟨v, rfl, h1⟩; (try simp only [List.set_cons_zero, List.set_cons_succ])))) | ((with_reducible apply xaw); ((with_reducible apply xstepS); refine AW.step tok rfl ?_)) | with_reducible (first | exact trivial | refine And.intro ?_ ?_) | exact Eq.refl true)
  refine AW.seq ?_
  rename_i w h0 _ _
  have hL := ht.L
  have c1 := c_validTree t hL
  simp only [List.mem_cons, List.not_mem_nil, or_false] at h0 h1
  cases hv : treeOk t
  · rw [hv] at c1
    repeat' (first | ((with_reducible apply xsim); (first | ((with_reducible apply xo); exact rfl) | ((with_reducible apply xst); exact rfl) | with_reducible apply xend | ((with_reducible apply xguardS); exact rfl; exact rfl) | ((with_reducible apply xcallIs); exact rfl; exact rfl; exact c1; exact rfl))) | ((with_reducible apply xaw); (first | ((with_reducible apply xstepS); refine AW.step tok rfl ?_) | with_reducible (first | refine AW.skip ?_ | refine AW.ret ?_) | ((with_reducible apply xcond); exact rfl))) | with_reducible refine xthen ?_ | (with_reducible intro hc; (try simp only [decide_eq_true_eq, decide_eq_false_iff_not, Bool.not_true, Bool.not_false, Bool.not_eq_true', Bool.not_eq_false', ne_eq, not_true, reduceCtorEq, List.length_map] at hc); (try (exfalso; omega))) | with_reducible (first | exact trivial | refine And.intro ?_ ?_) | exact Eq.refl true)
    all_goals refine xfinRd (by first | exact .inl rfl | exact .inr rfl) rfl (by repeat' (first | exact trivial | exact rfl | refine And.intro ?_ ?_)) rfl (by omega) (by omega) ?_
    all_goals exact ⟨t, _, _, rfl, ht, by omega, by omega, by omega, by omega⟩
  · rw [hv] at c1
    have hk := treeK hv
    have c2 := c_sizeOf t hk 0 hk.lo
    have hw := wish_le hk (i := 0) hk.lo
    repeat' (first | ((with_reducible apply xsim); (first | ((with_reducible apply xo); exact rfl) | ((with_reducible apply xst); exact rfl) | with_reducible apply xend | ((with_reducible apply xguardS); exact rfl; exact rfl) | ((with_reducible apply xcallIs); exact rfl; exact rfl; (first | exact c1 | exact c2); exact rfl) | ((with_reducible apply xcallRd); exact rfl; exact rfl; exact rfl; exact c_pick bs _ _ hb (by omega) (by omega); rintro _ p' _ _ ⟨v, rfl, h1, h2, h3⟩; (try simp only [List.set_cons_zero, List.set_cons_succ])))) | ((with_reducible apply xaw); (first | ((with_reducible apply xstepS); refine AW.step tok rfl ?_) | ((with_reducible apply xstep); refine AW.region tok rfl ?_) | with_reducible (first | refine AW.skip ?_ | refine AW.ret ?_) | ((with_reducible apply xcond); exact rfl))) | with_reducible refine xthen ?_ | (with_reducible intro hc; (try simp only [decide_eq_true_eq, decide_eq_false_iff_not, Bool.not_true, Bool.not_false, Bool.not_eq_true', Bool.not_eq_false', ne_eq, not_true, reduceCtorEq, List.length_map] at hc); (try (exfalso; omega))) | with_reducible (first | exact trivial | refine And.intro ?_ ?_ | exact rfl) | exact Eq.refl true)
    all_goals refine xfinRd (by first | exact .inl rfl | exact .inr rfl) rfl (by repeat' (first | exact trivial | exact rfl | refine And.intro ?_ ?_)) rfl (by omega) (by omega) ?_
    all_goals exact ⟨t, _, _, rfl, ht, by omega, by omega, by omega, by omega⟩
theorem c_DrawCutNodes (cs : List Byte) (hl : cs.length < 2^63) : ACon Try.prog 42 [.d (.lst (cs.map encByte))] [] (Sm ARoom) := by
  have hb : (cs.take 2000).length ≤ 2000 := by rw [List.length_take]; omega
  refine ACon.introW tok (nt := 11) Try.func42 rfl rfl rfl (by kernel_rfl) rfl ?_
  repeat' (first | ((with_reducible apply xsim); (first | ((with_reducible apply xo); exact rfl) | ((with_reducible apply xst); exact rfl) | with_reducible apply xend | ((with_reducible apply xalloc); exact rfl; simp only [backV, backVs, backVs_mapd, backId, backO, List.map_cons, List.map_nil, List.getElem?_nil, List.length_cons, List.length_nil, Nat.reduceAdd, Nat.reduceSub, List.cons_append, List.nil_append, List.append_nil]) | ((with_reducible apply xcallOwn); exact rfl; exact rfl; exact c_newReader cs hl; simp only [backV, backVs, backVs_mapd, backId, backO, List.map_cons, List.map_nil, List.getElem?_nil, List.length_cons, List.length_nil, Nat.reduceAdd, Nat.reduceSub, List.cons_append, List.nil_append, List.append_nil]) | ((with_reducible apply xcallRd); exact rfl; exact rfl; exact rfl; exact c_treeRoom _ _ hb (by omega); rintro _ p' _ _ ⟨t, w, h, rfl, ht, hr⟩; (try simp only [List.set_cons_zero, List.set_cons_succ])))) | ((with_reducible apply xaw); (first | ((with_reducible apply xstepS); refine AW.step tok rfl ?_) | with_reducible refine AW.ret ?_)) | with_reducible (first | exact trivial | refine And.intro ?_ ?_) | exact Eq.refl true)
  refine xfinSm (by first | exact .inl rfl | exact .inr rfl) rfl (by repeat' (first | exact trivial | exact rfl | refine And.intro ?_ ?_)) rfl ?_
  exact ⟨t, w, h, rfl, ht, hr⟩
end Go.Proofs.Yticgjepndfjafaa

namespace Go.Proofs.Yticgjepndfjafaa
open Go.Fw
attribute [local irreducible] Go.Fw.aops Go.Fw.arun

/-! Nodes that are smaller than they ask for. -/
def isCut (t : List Node) (w h : Int) (k : Nat) : Bool := decide (0 < k ∧ ((rectAt t w h k).w < (wish t k).1 ∨ (rectAt t w h k).h < (wish t k).2))
def cutTo (t : List Node) (w h : Int) (k : Nat) : List Nat := (List.range k).filter (isCut t w h)
def cutOf (t : List Node) (w h : Int) : List Nat := if (treeOk t && roomOk w h) = true then cutTo t w h t.length else []
theorem cutTo_succ {t : List Node} {w h : Int} {k : Nat} : cutTo t w h (k + 1) = cutTo t w h k ++ if isCut t w h k = true then [k] else [] := by
  simp only [cutTo, List.range_succ, List.filter_append, List.filter_cons, List.filter_nil]
theorem filter_len (p : Nat → Bool) (k : Nat) : ((List.range k).filter p).length ≤ k := by
  have := List.length_filter_le p (List.range k)
  simpa using this

/-- What all nodes ask for, one after the other. -/
def wants (t : List Node) : Nat → List Int
  | 0 => []
  | k + 1 => wants t k ++ [(wish t k).1, (wish t k).2]
theorem wants_len (t : List Node) : ∀ k, (wants t k).length = 2 * k
  | 0 => rfl
  | k + 1 => by simp only [wants, List.length_append, wants_len t k, List.length_cons, List.length_nil]; omega
theorem wants_get (t : List Node) {i : Nat} : ∀ k, i < k → (wants t k)[2 * i]? = some (wish t i).1 ∧ (wants t k)[2 * i + 1]? = some (wish t i).2 := by
  intro k
  induction k with
  | zero => intro h; omega
  | succ k ih =>
    intro h
    have hl := wants_len t k
    simp only [wants]
    by_cases e : i = k
    · subst e
      rw [List.getElem?_append_right (by omega), List.getElem?_append_right (by omega), hl]
      simp
    · rw [List.getElem?_append_left (by omega), List.getElem?_append_left (by omega)]
      exact ih (by omega)

theorem c_wantsOf (t : List Node) (hk : TreeK t) : ACon Try.prog 68 [vTree t] [] (Is (.d (.lst ((wants t t.length).map encN)))) := by
  refine ORows.data (sz := 1) (enc := encN) ?_
  have hhi := hk.hi
  refine ACon.introW tok (nt := 27) Try.func68 rfl rfl rfl (by kernel_rfl) rfl ?_
  repeat' (first | ((with_reducible apply xsim); (first | ((with_reducible apply xo); exact rfl) | with_reducible apply xend | ((with_reducible apply xbox); exact rfl; simp only [backV, backVs, backVs_mapd, backId, backO, List.map_cons, List.map_nil, List.getElem?_nil, List.length_cons, List.length_nil, Nat.reduceAdd, Nat.reduceSub, List.cons_append, List.nil_append, List.append_nil]) | ((with_reducible apply xbuild); exact rfl; exact rfl; exact rfl; exact rfl; exact rfl; simp only [backV, backVs, backVs_mapd, backId, backO, List.map_cons, List.map_nil, List.getElem?_nil, List.length_cons, List.length_nil, Nat.reduceAdd, Nat.reduceSub, List.cons_append, List.nil_append, List.append_nil]))) | ((with_reducible apply xaw); (first | ((with_reducible apply xstepS); refine AW.step tok rfl ?_) | with_reducible (first | refine AW.seq ?_ | refine AW.block ?_))) | with_reducible exact trivial)
  refine AW.loop (S := fun k : Nat => ⟨[(1, .oref 0 0), (3, .msl 1 1 0 (2 * k)), (4, .d (.int .i64 k))], [.box [.d (.lst (t.map encNode))], .arr 1 ((wants t k).map encN)], 27, 0⟩)
    (Pre := fun k => k ≤ t.length) (μ := fun k => t.length - k) 0 (Nat.zero_le _) ?_ ?_
  · (refine xwk (π := [0, 1]) (by decide) rfl ?_ ?_; (first | simp -implicitDefEqProofs only [go_sem, Int.reduceEq, Int.reduceLT, Int.reduceLE, Nat.reduceAdd, Nat.reduceSub, Nat.reduceMul, Nat.reduceEqDiff, Nat.reduceLeDiff, Nat.reducePow, ↓reduceIte, reduceCtorEq, wants]); repeat' (first | exact renE_n | ((with_reducible apply renE_c); exact rfl; focus (first | (simp -implicitDefEqProofs only [go_sem, Int.reduceEq, Int.reduceLT, Int.reduceLE, Nat.reduceAdd, Nat.reduceSub, Nat.reduceMul, Nat.reduceEqDiff, Nat.reduceLeDiff, Nat.reducePow, ↓reduceIte, reduceCtorEq, wants]; done)))))
  intro k hkk
  have hl := wants_len t k
  by_cases hlt : k < t.length
  · have c1 := c_sizeOf t hk k hlt
    have hs : wants t (k + 1) = wants t k ++ [(wish t k).1, (wish t k).2] := rfl
    repeat' (first | ((with_reducible apply xsim); (first | ((with_reducible apply xlenM); exact rfl; exact rfl) | ((with_reducible apply xo); exact rfl) | with_reducible apply xend | ((with_reducible apply xbuild); exact rfl; exact rfl; exact rfl; exact rfl; exact rfl; simp only [backV, backVs, backVs_mapd, backId, backO, List.map_cons, List.map_nil, List.getElem?_nil, List.length_cons, List.length_nil, Nat.reduceAdd, Nat.reduceSub, List.cons_append, List.nil_append, List.append_nil]) | ((with_reducible apply xcallIs); exact rfl; exact rfl; exact c1; exact rfl) | simp -implicitDefEqProofs only [go_sem, Int.reduceEq, Int.reduceLT, Int.reduceLE, Nat.reduceAdd, Nat.reduceSub, Nat.reduceMul, Nat.reduceEqDiff, Nat.reduceLeDiff, Nat.reducePow, ↓reduceIte, reduceCtorEq, List.length_map, hl])) | ((with_reducible apply xaw); (first | ((with_reducible apply xstepS); refine AW.step tok rfl ?_) | ((with_reducible apply xstep); refine AW.region tok rfl ?_) | with_reducible (first | refine AW.seq ?_ | refine AW.block ?_ | refine AW.skip ?_) | ((with_reducible apply xcond); exact rfl))) | with_reducible refine xthen ?_ | (with_reducible intro hc; (try simp only [decide_eq_true_eq, decide_eq_false_iff_not, Bool.not_true, Bool.not_false, Bool.not_eq_true', Bool.not_eq_false', ne_eq, not_true, reduceCtorEq, List.length_map, hl] at hc); (try (exfalso; omega))) | with_reducible (first | exact trivial | refine And.intro ?_ ?_ | exact rfl) | exact Eq.refl true | (refine inR_i64.mpr ?_; first | omega | (simp only [List.length_map, List.length_map, hl]; omega)) | omega | ((rcases hc with rfl | rfl <;> rfl)))
    refine round_end (k+1) hlt (by omega) (by (refine xwk (π := [0, 3]) (by decide) rfl ?_ ?_; (first | simp -implicitDefEqProofs only [go_sem, Int.reduceEq, Int.reduceLT, Int.reduceLE, Nat.reduceAdd, Nat.reduceSub, Nat.reduceMul, Nat.reduceEqDiff, Nat.reduceLeDiff, Nat.reducePow, ↓reduceIte, reduceCtorEq, hs, List.map_append, Nat.mul_add]); repeat' (first | exact renE_n | ((with_reducible apply renE_c); exact rfl; focus (first | (simp -implicitDefEqProofs only [go_sem, Int.reduceEq, Int.reduceLT, Int.reduceLE, Nat.reduceAdd, Nat.reduceSub, Nat.reduceMul, Nat.reduceEqDiff, Nat.reduceLeDiff, Nat.reducePow, ↓reduceIte, reduceCtorEq, hs, List.map_append, Nat.mul_add]; done))))))
  have hk' : k = t.length := by omega
  subst hk'
  repeat' (first | ((with_reducible apply xsim); (first | ((with_reducible apply xlenM); exact rfl; exact rfl) | ((with_reducible apply xo); exact rfl) | with_reducible apply xend)) | ((with_reducible apply xaw); (first | ((with_reducible apply xstepS); refine AW.step tok rfl ?_) | with_reducible (first | refine AW.seq ?_ | refine AW.ret ?_ | refine AW.exit ?_) | ((with_reducible apply xcond); exact rfl))) | with_reducible (first | refine xthen ?_ | refine xthen_e ?_ | refine xblock_e ?_ | refine xround_e ?_) | (with_reducible intro hc; (try simp only [decide_eq_true_eq, decide_eq_false_iff_not, Bool.not_true, Bool.not_false, Bool.not_eq_true', Bool.not_eq_false', ne_eq, not_true, reduceCtorEq, List.length_map] at hc); (try (exfalso; omega))) | with_reducible (first | exact trivial | refine And.intro ?_ ?_ | exact rfl))
  (refine xfinOwn [1] (by first | exact .inl rfl | exact .inr rfl) rfl (by repeat' (first | exact trivial | exact rfl | refine And.intro ?_ ?_)) (by decide) rfl ?_ ?_ <;> simp -implicitDefEqProofs only [go_sem, Int.reduceEq, Int.reduceLT, Int.reduceLE, Nat.reduceAdd, Nat.reduceSub, Nat.reduceMul, Nat.reduceEqDiff, Nat.reduceLeDiff, Nat.reducePow, ↓reduceIte, reduceCtorEq, hl])

set_option maxRecDepth 8000 in
set_option maxHeartbeats 4000000 in
theorem c_CutI (t : List Node) (hL : TreeL t) (w h : Int) : ACon Try.prog 43 [vTree t, .d (.int .i64 w), .d (.int .i64 h)] [] (ORows encK 1 (cutOf t w h)) := by
  have c1 := ORows.data (c_LayoutI t hL w h)
  cases hb : (treeOk t && roomOk w h)
  · have e : layoutT t w h = [] := by rw [layoutT, hb]; rfl
    rw [e] at c1
    rw [show cutOf t w h = [] by rw [cutOf, hb]; rfl]
    refine ACon.introW tok (nt := 50) Try.func43 rfl rfl rfl (by kernel_rfl) rfl ?_
    repeat' (first | ((with_reducible apply xsim); (first | ((with_reducible apply xlenM); exact rfl; exact rfl) | ((with_reducible apply xo); exact rfl) | with_reducible apply xend | ((with_reducible apply xbox); exact rfl; simp only [backV, backVs, backVs_mapd, backId, backO, List.map_cons, List.map_nil, List.getElem?_nil, List.length_cons, List.length_nil, Nat.reduceAdd, Nat.reduceSub, List.cons_append, List.nil_append, List.append_nil]) | ((with_reducible apply xcallIs); exact rfl; exact rfl; exact c1; exact rfl))) | ((with_reducible apply xaw); (first | ((with_reducible apply xstepS); refine AW.step tok rfl ?_) | with_reducible (first | refine AW.seq ?_ | refine AW.block ?_))) | with_reducible exact trivial | exact Eq.refl true)
    refine AW.loop (S := fun _ : Unit => ⟨[(8, .nils), (18, .d (.int .i64 0)), (19, .d (.int .i64 0))], [], 50, 0⟩) (Pre := fun _ => True) (μ := fun _ => 0) () trivial ?_ ?_
    · (refine xwk (π := []) (by decide) rfl ?_ ?_; (first | exact trivial); repeat' (first | exact renE_n | ((with_reducible apply renE_c); exact rfl; focus (first | (simp -implicitDefEqProofs only [go_sem, Int.reduceEq, Int.reduceLT, Int.reduceLE, Nat.reduceAdd, Nat.reduceSub, Nat.reduceMul, Nat.reduceEqDiff, Nat.reduceLeDiff, Nat.reducePow, ↓reduceIte, reduceCtorEq]; done)))))
    rintro ⟨⟩ -
    repeat' (first | ((with_reducible apply xsim); (first | ((with_reducible apply xo); exact rfl) | with_reducible apply xend)) | ((with_reducible apply xaw); (first | ((with_reducible apply xstepS); refine AW.step tok rfl ?_) | with_reducible (first | refine AW.seq ?_ | refine AW.ret ?_ | refine AW.exit ?_) | ((with_reducible apply xcond); exact rfl))) | with_reducible (first | refine xthen ?_ | refine xthen_e ?_ | refine xblock_e ?_ | refine xround_e ?_) | (with_reducible intro hc; (try simp only [decide_eq_true_eq, decide_eq_false_iff_not, Bool.not_true, Bool.not_false, Bool.not_eq_true', Bool.not_eq_false', ne_eq, not_true, reduceCtorEq] at hc); (try (exfalso; omega))) | with_reducible (first | exact trivial | refine And.intro ?_ ?_ | exact rfl))
    refine xfinW (Weak.own 6 1 rfl) ?_
    (refine xfinOwn [0] (by first | exact .inl rfl | exact .inr rfl) rfl (by repeat' (first | exact trivial | exact rfl | refine And.intro ?_ ?_)) (by decide) rfl ?_ ?_ <;> simp -implicitDefEqProofs only [go_sem, Int.reduceEq, Int.reduceLT, Int.reduceLE, Nat.reduceAdd, Nat.reduceSub, Nat.reduceMul, Nat.reduceEqDiff, Nat.reduceLeDiff, Nat.reducePow, ↓reduceIte, reduceCtorEq])
  · have hb' := hb
    rw [Bool.and_eq_true] at hb'
    have hk := treeK hb'.1
    have hrm := roomOk_iff hb'.2
    have hhi := hk.hi
    have hR := rects_in hk (w := w) (h := h) (by omega) (by omega)
    have hll := layoutOf_len (t := t) (w := w) (h := h)
    rw [show layoutT t w h = layoutOf t w h by rw [layoutT, if_pos hb]] at c1
    rw [show cutOf t w h = cutTo t w h t.length by rw [cutOf, if_pos hb]]
    refine ACon.introW tok (nt := 50) Try.func43 rfl rfl rfl (by kernel_rfl) rfl ?_
    repeat' (first | ((with_reducible apply xsim); (first | ((with_reducible apply xlenM); exact rfl; exact rfl) | ((with_reducible apply xo); exact rfl) | with_reducible apply xend | ((with_reducible apply xbox); exact rfl; simp only [backV, backVs, backVs_mapd, backId, backO, List.map_cons, List.map_nil, List.getElem?_nil, List.length_cons, List.length_nil, Nat.reduceAdd, Nat.reduceSub, List.cons_append, List.nil_append, List.append_nil]) | ((with_reducible apply xcallIs); exact rfl; exact rfl; exact c1; exact rfl))) | ((with_reducible apply xaw); (first | ((with_reducible apply xstepS); refine AW.step tok rfl ?_) | with_reducible (first | refine AW.seq ?_ | refine AW.block ?_))) | with_reducible exact trivial | exact Eq.refl true)
    refine AW.own 8 1 rfl ?_
    refine AW.loop (S := fun k : Nat => ⟨[(3, .oref 0 0), (8, .msl 1 1 0 (cutTo t w h k).length), (17, .d (.lst ((layoutOf t w h).map encRect))), (18, .d (.int .i64 t.length)), (19, .d (.int .i64 k))], [.box [.d (.lst (t.map encNode))], .arr 1 ((cutTo t w h k).map encK)], 50, 0⟩)
      (Pre := fun k => k ≤ t.length) (μ := fun k => t.length - k) 0 (Nat.zero_le _) ?_ ?_
    · (refine xwk (π := [0, 1]) (by decide) rfl ?_ ?_; (first | simp -implicitDefEqProofs only [go_sem, Int.reduceEq, Int.reduceLT, Int.reduceLE, Nat.reduceAdd, Nat.reduceSub, Nat.reduceMul, Nat.reduceEqDiff, Nat.reduceLeDiff, Nat.reducePow, ↓reduceIte, reduceCtorEq, cutTo, List.range_zero, List.filter_nil, hll]); repeat' (first | exact renE_n | ((with_reducible apply renE_c); exact rfl; focus (first | (simp -implicitDefEqProofs only [go_sem, Int.reduceEq, Int.reduceLT, Int.reduceLE, Nat.reduceAdd, Nat.reduceSub, Nat.reduceMul, Nat.reduceEqDiff, Nat.reduceLeDiff, Nat.reducePow, ↓reduceIte, reduceCtorEq, cutTo, List.range_zero, List.filter_nil, hll]; done)))))
    intro k hkk
    have hcl : (cutTo t w h k).length ≤ k := filter_len _ k
    by_cases hlt : k < t.length
    · have hrr := lay_get (w := w) (h := h) hlt
      have c2 := c_request t hk k hlt
      have hs := cutTo_succ (t := t) (w := w) (h := h) (k := k)
      have hd : isCut t w h k = decide (0 < k ∧ ((rectAt t w h k).w < (wish t k).1 ∨ (rectAt t w h k).h < (wish t k).2)) := rfl
      by_cases hc : 0 < k ∧ ((rectAt t w h k).w < (wish t k).1 ∨ (rectAt t w h k).h < (wish t k).2)
      · rw [if_pos (hd.trans (decide_eq_true hc))] at hs
        repeat' (first | ((with_reducible apply xsim); (first | ((with_reducible apply xo); exact rfl) | ((with_reducible apply xst); exact rfl) | with_reducible apply xend | ((with_reducible apply xguardS); exact rfl; exact rfl) | ((with_reducible apply xalloc); exact rfl; simp only [backV, backVs, backVs_mapd, backId, backO, List.map_cons, List.map_nil, List.getElem?_nil, List.length_cons, List.length_nil, Nat.reduceAdd, Nat.reduceSub, List.cons_append, List.nil_append, List.append_nil]) | ((with_reducible apply xbuild); exact rfl; exact rfl; exact rfl; exact rfl; exact rfl; simp only [backV, backVs, backVs_mapd, backId, backO, List.map_cons, List.map_nil, List.getElem?_nil, List.length_cons, List.length_nil, Nat.reduceAdd, Nat.reduceSub, List.cons_append, List.nil_append, List.append_nil]) | ((with_reducible apply xidxL); exact rfl; exact rfl; exact rfl; (first | exact hrr); omega; first | exact rfl | simp only [hsz]) | ((with_reducible apply xcallIs); exact rfl; exact rfl; exact c2; exact rfl) | simp -implicitDefEqProofs only [go_sem, Int.reduceEq, Int.reduceLT, Int.reduceLE, Nat.reduceAdd, Nat.reduceSub, Nat.reduceMul, Nat.reduceEqDiff, Nat.reduceLeDiff, Nat.reducePow, ↓reduceIte, reduceCtorEq, List.length_map, hll])) | ((with_reducible apply xaw); (first | ((with_reducible apply xstepS); refine AW.step tok rfl ?_) | ((with_reducible apply xstep); refine AW.region tok rfl ?_) | with_reducible (first | refine AW.seq ?_ | refine AW.block ?_ | refine AW.skip ?_) | ((with_reducible apply xcond); exact rfl))) | with_reducible refine xthen ?_ | (with_reducible intro hc; (try simp only [decide_eq_true_eq, decide_eq_false_iff_not, Bool.not_true, Bool.not_false, Bool.not_eq_true', Bool.not_eq_false', ne_eq, not_true, reduceCtorEq, List.length_map, hll] at hc); (try (exfalso; omega))) | with_reducible (first | exact trivial | refine And.intro ?_ ?_ | exact rfl) | exact Eq.refl true | (refine inR_i64.mpr ?_; first | omega | (simp only [List.length_map, List.length_map, hll]; omega)) | omega)
        all_goals refine round_end (k+1) hlt (by omega) (by (refine xwk (π := [0, 4]) (by decide) rfl ?_ ?_; (first | simp -implicitDefEqProofs only [go_sem, Int.reduceEq, Int.reduceLT, Int.reduceLE, Nat.reduceAdd, Nat.reduceSub, Nat.reduceMul, Nat.reduceEqDiff, Nat.reduceLeDiff, Nat.reducePow, ↓reduceIte, reduceCtorEq, hs, List.map_append, List.length_append]); repeat' (first | exact renE_n | ((with_reducible apply renE_c); exact rfl; focus (first | (simp -implicitDefEqProofs only [go_sem, Int.reduceEq, Int.reduceLT, Int.reduceLE, Nat.reduceAdd, Nat.reduceSub, Nat.reduceMul, Nat.reduceEqDiff, Nat.reduceLeDiff, Nat.reducePow, ↓reduceIte, reduceCtorEq, hs, List.map_append, List.length_append]; done))))))
      · rw [if_neg (by rw [hd]; simpa using hc), List.append_nil] at hs
        repeat' (first | ((with_reducible apply xsim); (first | ((with_reducible apply xo); exact rfl) | ((with_reducible apply xst); exact rfl) | with_reducible apply xend | ((with_reducible apply xguardTS); exact rfl; exact rfl) | ((with_reducible apply xguardS); exact rfl; exact rfl) | ((with_reducible apply xalloc); exact rfl; simp only [backV, backVs, backVs_mapd, backId, backO, List.map_cons, List.map_nil, List.getElem?_nil, List.length_cons, List.length_nil, Nat.reduceAdd, Nat.reduceSub, List.cons_append, List.nil_append, List.append_nil]) | ((with_reducible apply xidxL); exact rfl; exact rfl; exact rfl; (first | exact hrr); omega; first | exact rfl | simp only [hsz]) | ((with_reducible apply xcallIs); exact rfl; exact rfl; exact c2; exact rfl))) | ((with_reducible apply xaw); (first | ((with_reducible apply xstepS); refine AW.step tok rfl ?_) | ((with_reducible apply xstep); refine AW.region tok rfl ?_) | with_reducible (first | refine AW.seq ?_ | refine AW.block ?_ | refine AW.skip ?_) | ((with_reducible apply xcond); exact rfl))) | with_reducible (first | refine xthen ?_ | refine xblock ?_) | (with_reducible intro hc; (try simp only [decide_eq_true_eq, decide_eq_false_iff_not, Bool.not_true, Bool.not_false, Bool.not_eq_true', Bool.not_eq_false', ne_eq, not_true, reduceCtorEq, List.length_map, hll] at hc); (try (exfalso; omega))) | with_reducible (first | exact trivial | refine And.intro ?_ ?_ | exact rfl) | exact Eq.refl true | (refine inR_i64.mpr ?_; first | omega | (simp only [List.length_map, List.length_map, hll]; omega)))
        all_goals refine round_end (k+1) hlt (by omega) (by (refine xwk (π := [0, 1]) (by decide) rfl ?_ ?_; (first | simp -implicitDefEqProofs only [go_sem, Int.reduceEq, Int.reduceLT, Int.reduceLE, Nat.reduceAdd, Nat.reduceSub, Nat.reduceMul, Nat.reduceEqDiff, Nat.reduceLeDiff, Nat.reducePow, ↓reduceIte, reduceCtorEq, hs]); repeat' (first | exact renE_n | ((with_reducible apply renE_c); exact rfl; focus (first | (simp -implicitDefEqProofs only [go_sem, Int.reduceEq, Int.reduceLT, Int.reduceLE, Nat.reduceAdd, Nat.reduceSub, Nat.reduceMul, Nat.reduceEqDiff, Nat.reduceLeDiff, Nat.reducePow, ↓reduceIte, reduceCtorEq, hs]; done))))))
    have hk' : k = t.length := by omega
    subst hk'
    repeat' (first | ((with_reducible apply xsim); (first | ((with_reducible apply xo); exact rfl) | with_reducible apply xend)) | ((with_reducible apply xaw); (first | ((with_reducible apply xstepS); refine AW.step tok rfl ?_) | with_reducible (first | refine AW.seq ?_ | refine AW.ret ?_ | refine AW.exit ?_) | ((with_reducible apply xcond); exact rfl))) | with_reducible (first | refine xthen ?_ | refine xthen_e ?_ | refine xblock_e ?_ | refine xround_e ?_) | (with_reducible intro hc; (try simp only [decide_eq_true_eq, decide_eq_false_iff_not, Bool.not_true, Bool.not_false, Bool.not_eq_true', Bool.not_eq_false', ne_eq, not_true, reduceCtorEq, List.length_map] at hc); (try (exfalso; omega))) | with_reducible (first | exact trivial | refine And.intro ?_ ?_ | exact rfl))
    (refine xfinOwn [1] (by first | exact .inl rfl | exact .inr rfl) rfl (by repeat' (first | exact trivial | exact rfl | refine And.intro ?_ ?_)) (by decide) rfl ?_ ?_ <;> simp -implicitDefEqProofs only [go_sem, Int.reduceEq, Int.reduceLT, Int.reduceLE, Nat.reduceAdd, Nat.reduceSub, Nat.reduceMul, Nat.reduceEqDiff, Nat.reduceLeDiff, Nat.reducePow, ↓reduceIte, reduceCtorEq])

set_option maxRecDepth 8000 in
set_option maxHeartbeats 4000000 in
theorem c_CutS (t : List Node) (hL : TreeL t) (w h : Int) : ACon Try.prog 44 [vTree t, .d (.int .i64 w), .d (.int .i64 h)] [] (ORows encK 1 (cutOf t w h)) := by
  have c1 := c_validTree t hL
  have c2 := c_goodRoom w h
  cases hb : (treeOk t && roomOk w h)
  · rw [show cutOf t w h = [] by rw [cutOf, hb]; rfl]
    cases ht : treeOk t
    · rw [ht] at c1
      refine ACon.introW tok (nt := 64) Try.func44 rfl rfl rfl (by kernel_rfl) rfl ?_
      repeat' (first | ((with_reducible apply xsim); (first | ((with_reducible apply xo); exact rfl) | with_reducible apply xend | ((with_reducible apply xguardS); exact rfl; exact rfl) | ((with_reducible apply xbox); exact rfl; simp only [backV, backVs, backVs_mapd, backId, backO, List.map_cons, List.map_nil, List.getElem?_nil, List.length_cons, List.length_nil, Nat.reduceAdd, Nat.reduceSub, List.cons_append, List.nil_append, List.append_nil]) | ((with_reducible apply xcallIs); exact rfl; exact rfl; exact c1; exact rfl))) | ((with_reducible apply xaw); (first | ((with_reducible apply xstepS); refine AW.step tok rfl ?_) | with_reducible (first | refine AW.seq ?_ | refine AW.ret ?_) | ((with_reducible apply xcond); exact rfl))) | with_reducible refine xthen_r ?_ | (with_reducible intro hc; (try simp only [decide_eq_true_eq, decide_eq_false_iff_not, Bool.not_true, Bool.not_false, Bool.not_eq_true', Bool.not_eq_false', ne_eq, not_true, reduceCtorEq] at hc); (try (exfalso; omega))) | with_reducible exact trivial | exact Eq.refl true)
      refine xfinW (Weak.own 6 1 rfl) ?_
      (refine xfinOwn [1] (by first | exact .inl rfl | exact .inr rfl) rfl (by repeat' (first | exact trivial | exact rfl | refine And.intro ?_ ?_)) (by decide) rfl ?_ ?_ <;> simp -implicitDefEqProofs only [go_sem, Int.reduceEq, Int.reduceLT, Int.reduceLE, Nat.reduceAdd, Nat.reduceSub, Nat.reduceMul, Nat.reduceEqDiff, Nat.reduceLeDiff, Nat.reducePow, ↓reduceIte, reduceCtorEq])
    · rw [ht] at c1 hb
      rw [Bool.true_and] at hb
      rw [hb] at c2
      refine ACon.introW tok (nt := 64) Try.func44 rfl rfl rfl (by kernel_rfl) rfl ?_
      repeat' (first | ((with_reducible apply xsim); (first | ((with_reducible apply xo); exact rfl) | with_reducible apply xend | ((with_reducible apply xguardS); exact rfl; exact rfl) | ((with_reducible apply xbox); exact rfl; simp only [backV, backVs, backVs_mapd, backId, backO, List.map_cons, List.map_nil, List.getElem?_nil, List.length_cons, List.length_nil, Nat.reduceAdd, Nat.reduceSub, List.cons_append, List.nil_append, List.append_nil]) | ((with_reducible apply xcallIs); exact rfl; exact rfl; (first | exact c1 | exact c2); exact rfl))) | ((with_reducible apply xaw); (first | ((with_reducible apply xstepS); refine AW.step tok rfl ?_) | with_reducible (first | refine AW.seq ?_ | refine AW.ret ?_) | ((with_reducible apply xcond); exact rfl))) | with_reducible refine xthen_r ?_ | (with_reducible intro hc; (try simp only [decide_eq_true_eq, decide_eq_false_iff_not, Bool.not_true, Bool.not_false, Bool.not_eq_true', Bool.not_eq_false', ne_eq, not_true, reduceCtorEq] at hc); (try (exfalso; omega))) | with_reducible exact trivial | exact Eq.refl true)
      refine xfinW (Weak.own 6 1 rfl) ?_
      (refine xfinOwn [1] (by first | exact .inl rfl | exact .inr rfl) rfl (by repeat' (first | exact trivial | exact rfl | refine And.intro ?_ ?_)) (by decide) rfl ?_ ?_ <;> simp -implicitDefEqProofs only [go_sem, Int.reduceEq, Int.reduceLT, Int.reduceLE, Nat.reduceAdd, Nat.reduceSub, Nat.reduceMul, Nat.reduceEqDiff, Nat.reduceLeDiff, Nat.reducePow, ↓reduceIte, reduceCtorEq])
  · have hb' := hb
    rw [Bool.and_eq_true] at hb'
    rw [hb'.1] at c1
    rw [hb'.2] at c2
    have hk := treeK hb'.1
    have hrm := roomOk_iff hb'.2
    have hlo := hk.lo; have hhi := hk.hi
    have hR := rects_in hk (w := w) (h := h) (by omega) (by omega)
    have hll := layoutOf_len (t := t) (w := w) (h := h)
    have c3 := ORows.data (c_AlayoutS t hk w h (by omega) (by omega))
    have c4 := c_wantsOf t hk
    have hwl := wants_len t t.length
    rw [show cutOf t w h = cutTo t w h t.length by rw [cutOf, if_pos hb]]
    have h1 : cutTo t w h 1 = [] := by
      have e := cutTo_succ (t := t) (w := w) (h := h) (k := 0)
      rw [if_neg (by simp [isCut])] at e
      exact e
    refine ACon.introW tok (nt := 64) Try.func44 rfl rfl rfl (by kernel_rfl) rfl ?_
    repeat' (first | ((with_reducible apply xsim); (first | ((with_reducible apply xo); exact rfl) | with_reducible apply xend | ((with_reducible apply xguardS); exact rfl; exact rfl) | ((with_reducible apply xbox); exact rfl; simp only [backV, backVs, backVs_mapd, backId, backO, List.map_cons, List.map_nil, List.getElem?_nil, List.length_cons, List.length_nil, Nat.reduceAdd, Nat.reduceSub, List.cons_append, List.nil_append, List.append_nil]) | ((with_reducible apply xbuild); exact rfl; exact rfl; exact rfl; exact rfl; exact rfl; simp only [backV, backVs, backVs_mapd, backId, backO, List.map_cons, List.map_nil, List.getElem?_nil, List.length_cons, List.length_nil, Nat.reduceAdd, Nat.reduceSub, List.cons_append, List.nil_append, List.append_nil]) | ((with_reducible apply xcallIs); exact rfl; exact rfl; (first | exact c1 | exact c2 | exact c3 | exact c4); exact rfl))) | ((with_reducible apply xaw); (first | ((with_reducible apply xstepS); refine AW.step tok rfl ?_) | with_reducible (first | refine AW.seq ?_ | refine AW.block ?_ | refine AW.skip ?_) | ((with_reducible apply xcond); exact rfl))) | with_reducible refine xthen ?_ | (with_reducible intro hc; (try simp only [decide_eq_true_eq, decide_eq_false_iff_not, Bool.not_true, Bool.not_false, Bool.not_eq_true', Bool.not_eq_false', ne_eq, not_true, reduceCtorEq, List.length_map, hll] at hc); (try (exfalso; omega))) | with_reducible exact trivial | exact Eq.refl true)
    refine AW.loop (S := fun k : Nat => ⟨[(3, .oref 0 0), (7, .d (.lst ((layoutOf t w h).map encRect))), (8, .d (.lst ((wants t t.length).map encN))), (9, .msl 1 1 0 (cutTo t w h k).length), (10, .d (.int .i64 k))], [.box [.d (.lst (t.map encNode))], .arr 1 ((cutTo t w h k).map encK)], 64, 0⟩)
      (Pre := fun k => k ≤ t.length ∧ 1 ≤ k) (μ := fun k => t.length - k) 1 ⟨hlo, Nat.le_refl _⟩ ?_ ?_
    · (refine xwk (π := [0, 1]) (by decide) rfl ?_ ?_; (first | simp -implicitDefEqProofs only [go_sem, Int.reduceEq, Int.reduceLT, Int.reduceLE, Nat.reduceAdd, Nat.reduceSub, Nat.reduceMul, Nat.reduceEqDiff, Nat.reduceLeDiff, Nat.reducePow, ↓reduceIte, reduceCtorEq, h1]); repeat' (first | exact renE_n | ((with_reducible apply renE_c); exact rfl; focus (first | (simp -implicitDefEqProofs only [go_sem, Int.reduceEq, Int.reduceLT, Int.reduceLE, Nat.reduceAdd, Nat.reduceSub, Nat.reduceMul, Nat.reduceEqDiff, Nat.reduceLeDiff, Nat.reducePow, ↓reduceIte, reduceCtorEq, h1]; done)))))
    rintro k ⟨hkk, hk1⟩
    have hcl : (cutTo t w h k).length ≤ k := filter_len _ k
    by_cases hlt : k < t.length
    · have hrr := lay_get (w := w) (h := h) hlt
      obtain ⟨g1, g2⟩ := wants_get t t.length hlt
      have w1 : ((wants t t.length).map encN)[((2 : Int) * (k : Int)).toNat]? = some (encN (wish t k).1) := by rw [show ((2 : Int) * (k : Int)).toNat = 2 * k by omega, List.getElem?_map, g1]; rfl
      have w2 : ((wants t t.length).map encN)[((2 : Int) * (k : Int) + 1).toNat]? = some (encN (wish t k).2) := by rw [show ((2 : Int) * (k : Int) + 1).toNat = 2 * k + 1 by omega, List.getElem?_map, g2]; rfl
      have hs := cutTo_succ (t := t) (w := w) (h := h) (k := k)
      have hd : isCut t w h k = decide (0 < k ∧ ((rectAt t w h k).w < (wish t k).1 ∨ (rectAt t w h k).h < (wish t k).2)) := rfl
      by_cases hc : 0 < k ∧ ((rectAt t w h k).w < (wish t k).1 ∨ (rectAt t w h k).h < (wish t k).2)
      · rw [if_pos (hd.trans (decide_eq_true hc))] at hs
        repeat' (first | ((with_reducible apply xsim); (first | ((with_reducible apply xlenM); exact rfl; exact rfl) | ((with_reducible apply xo); exact rfl) | with_reducible apply xend | ((with_reducible apply xguardS); exact rfl; exact rfl) | ((with_reducible apply xbuild); exact rfl; exact rfl; exact rfl; exact rfl; exact rfl; simp only [backV, backVs, backVs_mapd, backId, backO, List.map_cons, List.map_nil, List.getElem?_nil, List.length_cons, List.length_nil, Nat.reduceAdd, Nat.reduceSub, List.cons_append, List.nil_append, List.append_nil]) | ((with_reducible apply xidxL); exact rfl; exact rfl; exact rfl; (first | exact hrr | exact w1 | exact w2); omega; first | exact rfl | simp only [hsz]) | simp -implicitDefEqProofs only [go_sem, Int.reduceEq, Int.reduceLT, Int.reduceLE, Nat.reduceAdd, Nat.reduceSub, Nat.reduceMul, Nat.reduceEqDiff, Nat.reduceLeDiff, Nat.reducePow, ↓reduceIte, reduceCtorEq, List.length_map, hll])) | ((with_reducible apply xaw); (first | ((with_reducible apply xstepS); refine AW.step tok rfl ?_) | ((with_reducible apply xstep); refine AW.region tok rfl ?_) | with_reducible (first | refine AW.seq ?_ | refine AW.block ?_ | refine AW.skip ?_) | ((with_reducible apply xcond); exact rfl) | ((with_reducible apply xdraw (id := 9)); refine AW.draw (id := 9) (.q 0 (.q 1 (.q 2 (.q 3 (.q 4 (.q 5 (.q 6 (.q 7 (.q 8 (.q 9 (.q 10 (.q 11 (.q 12 (.q 13 (.q 14 (.q 15 (.q 16 (.q 17 (.q 18 (.q 19 (.q 20 (.q 21 (.q 22 (.q 23 (.q 24 (.fin)))))))))))))))))))))))))) tok (by kernel_rfl) rfl (by kernel_rfl) ?_))) | ((with_reducible apply xarun); (first | ((with_reducible apply xrun_q); exact rfl; exact rfl; exact rfl) | with_reducible apply xrun_f)) | with_reducible refine xthen ?_ | (with_reducible intro hc; (try simp only [decide_eq_true_eq, decide_eq_false_iff_not, Bool.not_true, Bool.not_false, Bool.not_eq_true', Bool.not_eq_false', ne_eq, not_true, reduceCtorEq, List.length_map, hll] at hc); (try (exfalso; omega))) | with_reducible (first | exact trivial | refine And.intro ?_ ?_ | exact rfl) | (refine inR_i64.mpr ?_; first | omega | (simp only [List.length_map, List.length_map, hll]; omega)) | omega)
        all_goals refine round_end (k+1) ⟨by omega, by omega⟩ (by omega) (by (refine xwk (π := [0, 3]) (by decide) rfl ?_ ?_; (first | simp -implicitDefEqProofs only [go_sem, Int.reduceEq, Int.reduceLT, Int.reduceLE, Nat.reduceAdd, Nat.reduceSub, Nat.reduceMul, Nat.reduceEqDiff, Nat.reduceLeDiff, Nat.reducePow, ↓reduceIte, reduceCtorEq, hs, List.map_append, List.length_append]); repeat' (first | exact renE_n | ((with_reducible apply renE_c); exact rfl; focus (first | (simp -implicitDefEqProofs only [go_sem, Int.reduceEq, Int.reduceLT, Int.reduceLE, Nat.reduceAdd, Nat.reduceSub, Nat.reduceMul, Nat.reduceEqDiff, Nat.reduceLeDiff, Nat.reducePow, ↓reduceIte, reduceCtorEq, hs, List.map_append, List.length_append]; done))))))
      · rw [if_neg (by rw [hd]; simpa using hc), List.append_nil] at hs
        repeat' (first | ((with_reducible apply xsim); (first | ((with_reducible apply xlenM); exact rfl; exact rfl) | ((with_reducible apply xo); exact rfl) | with_reducible apply xend | ((with_reducible apply xguardS); exact rfl; exact rfl) | ((with_reducible apply xidxL); exact rfl; exact rfl; exact rfl; (first | exact hrr | exact w1 | exact w2); omega; first | exact rfl | simp only [hsz]))) | ((with_reducible apply xaw); (first | ((with_reducible apply xstepS); refine AW.step tok rfl ?_) | ((with_reducible apply xstep); refine AW.region tok rfl ?_) | with_reducible (first | refine AW.seq ?_ | refine AW.block ?_ | refine AW.skip ?_) | ((with_reducible apply xcond); exact rfl) | ((with_reducible apply xdraw (id := 9)); refine AW.draw (id := 9) (.q 0 (.q 1 (.q 2 (.q 3 (.q 4 (.q 5 (.q 6 (.q 7 (.q 8 (.q 9 (.q 10 (.q 11 (.q 12 (.q 13 (.q 14 (.q 15 (.q 16 (.q 17 (.q 18 (.q 19 (.q 20 (.q 21 (.q 22 (.q 23 (.q 24 (.fin)))))))))))))))))))))))))) tok (by kernel_rfl) rfl (by kernel_rfl) ?_))) | ((with_reducible apply xarun); (first | ((with_reducible apply xrun_q); exact rfl; exact rfl; exact rfl) | with_reducible apply xrun_f)) | with_reducible (first | refine xthen ?_ | refine xblock ?_) | (with_reducible intro hc; (try simp only [decide_eq_true_eq, decide_eq_false_iff_not, Bool.not_true, Bool.not_false, Bool.not_eq_true', Bool.not_eq_false', ne_eq, not_true, reduceCtorEq, List.length_map, hll] at hc); (try (exfalso; omega))) | with_reducible (first | exact trivial | refine And.intro ?_ ?_ | exact rfl) | (refine inR_i64.mpr ?_; first | omega | (simp only [List.length_map, List.length_map, hll]; omega)))
        all_goals refine round_end (k+1) ⟨by omega, by omega⟩ (by omega) (by (refine xwk (π := [0, 1]) (by decide) rfl ?_ ?_; (first | simp -implicitDefEqProofs only [go_sem, Int.reduceEq, Int.reduceLT, Int.reduceLE, Nat.reduceAdd, Nat.reduceSub, Nat.reduceMul, Nat.reduceEqDiff, Nat.reduceLeDiff, Nat.reducePow, ↓reduceIte, reduceCtorEq, hs]); repeat' (first | exact renE_n | ((with_reducible apply renE_c); exact rfl; focus (first | (simp -implicitDefEqProofs only [go_sem, Int.reduceEq, Int.reduceLT, Int.reduceLE, Nat.reduceAdd, Nat.reduceSub, Nat.reduceMul, Nat.reduceEqDiff, Nat.reduceLeDiff, Nat.reducePow, ↓reduceIte, reduceCtorEq, hs]; done))))))
    have hk' : k = t.length := by omega
    subst hk'
    repeat' (first | ((with_reducible apply xsim); (first | ((with_reducible apply xlenM); exact rfl; exact rfl) | ((with_reducible apply xo); exact rfl) | with_reducible apply xend)) | ((with_reducible apply xaw); (first | ((with_reducible apply xstepS); refine AW.step tok rfl ?_) | with_reducible (first | refine AW.seq ?_ | refine AW.ret ?_ | refine AW.exit ?_) | ((with_reducible apply xcond); exact rfl))) | with_reducible (first | refine xthen ?_ | refine xthen_e ?_ | refine xblock_e ?_ | refine xround_e ?_) | (with_reducible intro hc; (try simp only [decide_eq_true_eq, decide_eq_false_iff_not, Bool.not_true, Bool.not_false, Bool.not_eq_true', Bool.not_eq_false', ne_eq, not_true, reduceCtorEq, List.length_map] at hc); (try (exfalso; omega))) | with_reducible (first | exact trivial | refine And.intro ?_ ?_ | exact rfl))
    (refine xfinOwn [1] (by first | exact .inl rfl | exact .inr rfl) rfl (by repeat' (first | exact trivial | exact rfl | refine And.intro ?_ ?_)) (by decide) rfl ?_ ?_ <;> simp -implicitDefEqProofs only [go_sem, Int.reduceEq, Int.reduceLT, Int.reduceLE, Nat.reduceAdd, Nat.reduceSub, Nat.reduceMul, Nat.reduceEqDiff, Nat.reduceLeDiff, Nat.reducePow, ↓reduceIte, reduceCtorEq])
end Go.Proofs.Yticgjepndfjafaa

namespace Go.Proofs.Yticgjepndfjafaa
open Go.Fw
structure Lies (g : Grid) (xs ys : List Int) (c : Cell) (q : Rect) : Prop where
  x0 : sumI (xs.take c.col.toNat) ≤ q.x
  x1 : q.x + q.w ≤ sumI (xs.take (c.col.toNat + c.manyCols.toNat))
  y0 : sumI (ys.take c.row.toNat) ≤ q.y
  y1 : q.y + q.h ≤ sumI (ys.take (c.row.toNat + c.manyRows.toNat))
  w : 0 ≤ q.w
  h : 0 ≤ q.h
  big : c.w + 2 * c.padX ≤ sumI (slc xs c.col.toNat c.manyCols.toNat) → c.w ≤ q.w
  high : c.h + 2 * c.padY ≤ sumI (slc ys c.row.toNat c.manyRows.toNat) → c.h ≤ q.h

theorem cell_lies {g : Grid} (hg : GOk g) {xs ys : List Int} (hX : XOk g.cols.length xs) (hY : XOk g.rows.length ys) {c : Cell} (hc : c ∈ g.cells) (w h : Int) : Lies g xs ys c (cellRect xs ys ⟨0, 0, w, h⟩ c) := by
  obtain ⟨hb1, hb2⟩ := hg.ok c hc
  have px := hX.part c.col.toNat c.manyCols.toNat
  have py := hY.part c.row.toNat c.manyRows.toNat
  have tx := take_slc (xs := xs) (a := c.col.toNat) (m := c.manyCols.toNat)
  have ty := take_slc (xs := ys) (a := c.row.toNat) (m := c.manyRows.toNat)
  have s6 := inset_bd (r := areaOf xs ys ⟨0, 0, w, h⟩ c) (px := c.padX) (py := c.padY) (by simp only [areaOf]; exact px.2.1) (by simp only [areaOf]; exact py.2.1) (by omega) (by omega)
  simp only [cellRect]
  generalize hq : inset (areaOf xs ys ⟨0, 0, w, h⟩ c) c.padX c.padY = q at *
  simp only [areaOf] at s6
  have b1 := stuck_bd (room := q.w) (size := c.w) (a := bitL c.stick) (b := bitR c.stick) (by omega) (by omega)
  have b2 := stuck_bd (room := q.h) (size := c.h) (a := bitT c.stick) (b := bitB c.stick) (by omega) (by omega)
  constructor <;> simp only [cellIn] <;> omega
theorem sized_enough {ls : List Line} {ss : List Span} (h : LOk ls) (hs : SOk ss ls.length) {room : Int} (hr : 0 ≤ room ∧ room ≤ 16384) (he : sumI (requests ls ss) ≤ room) {s : Span} (hm : s ∈ ss) :
    s.need ≤ sumI (slc (sizes ls (requests ls ss) room) s.at.toNat s.many.toNat) := by
  have hsd := sizes_ok h (requests_ge h hs) hr
  exact Int.le_trans (requests_enough h hs hm) (hsd.grow he).slc
end Go.Proofs.Yticgjepndfjafaa

namespace Go.Proofs.Yticgjepndfjafaa
open Go.Fw

/-- In enough room the kids of a node that packs or grids them have what they ask for. -/
theorem kids_big {t : List Node} (hk : TreeK t) {i : Nat} (hi : i < t.length) (hkp : (nodeAt t i).keep = false) (hkd : (nodeAt t i).kind ≠ 2) {r : Rect} (hr : RectIn r) (hrw : r.w ≤ 16384) (hrh : r.h ≤ 16384) (h1 : (wish t i).1 ≤ r.w) (h2 : (wish t i).2 ≤ r.h)
    {j : Nat} (hj : j < (kids t i).length) (hj2 : j < (kidRects t i r).length) : (wish t (kids t i)[j]).1 ≤ (kidRects t i r)[j].w ∧ (wish t (kids t i)[j]).2 ≤ (kidRects t i r)[j].h := by
  have hw := wish_eq hk hi
  have hne : kids t i ≠ [] := fun e => by rw [e] at hj; simp at hj
  unfold wishOf at hw
  rw [if_neg (by rw [hkp]; simp [hne, hkd])] at hw
  have hn := (nodeOk_iff (hk.ok i hi)).1
  rw [← nodeAt_eq hi] at hn
  by_cases h0 : (nodeAt t i).kind = 0
  · rw [if_pos h0] at hw
    have hw : wish t i = preqs (itemsOf t (kids t i)) := hw
    have e : kidRects t i r = packed (itemsOf t (kids t i)) r := by unfold kidRects; rw [if_pos h0]
    obtain ⟨a, b⟩ := items_ok hk i
    have hji : j < (itemsOf t (kids t i)).length := by simp [itemsOf]; exact hj
    rw [hw] at h1 h2
    have := packed_big (k := j) (by omega) b hr h1 h2 hji (by rw [← e]; exact hj2)
    simp only [e]
    simpa [itemsOf, packOf] using this
  · have hk1 : (nodeAt t i).kind = 1 := by omega
    rw [if_neg h0] at hw
    have hw : wish t i = gridReq (gridOf t i (kids t i)) := hw
    have e : kidRects t i r = gridRectsIn (gridOf t i (kids t i)) r := by unfold kidRects; rw [if_neg h0, if_pos hk1]
    have hg := grid_ok hk hi hk1
    have hrw0 := hr.w
    have hrh0 := hr.h
    have hX := hg.xcol (w := r.w) (by omega)
    have hY := hg.xrow (w := r.h) (by omega)
    rw [hw] at h1 h2
    have hjc : j < (gridOf t i (kids t i)).cells.length := by simp [gridOf, cellsOf]; exact hj
    have hc := List.getElem_mem hjc
    have hl := cell_lies hg hX hY hc r.w r.h
    have s1 := sized_enough hg.cols hg.cspans (room := r.w) (by omega) h1 (s := colSpan (gridOf t i (kids t i)).cells[j]) (List.mem_map.2 ⟨_, hc, rfl⟩)
    have s2 := sized_enough hg.rows hg.rspans (room := r.h) (by omega) h2 (s := rowSpan (gridOf t i (kids t i)).cells[j]) (List.mem_map.2 ⟨_, hc, rfl⟩)
    have b1 := hl.big s1
    have b2 := hl.high s2
    have e2 : ((gridRectsIn (gridOf t i (kids t i)) r)[j]'(by rw [← e]; exact hj2)) = mv r (cellRect (colSizes (gridOf t i (kids t i)) r.w) (rowSizes (gridOf t i (kids t i)) r.h) ⟨0, 0, r.w, r.h⟩ (gridOf t i (kids t i)).cells[j]) := by
      simp only [gridRectsIn, List.getElem_map]
      exact cellRect_mv _ _ r _
    simp only [e, e2]
    have ew : ((gridOf t i (kids t i)).cells[j]).w = (wish t (kids t i)[j]).1 ∧ ((gridOf t i (kids t i)).cells[j]).h = (wish t (kids t i)[j]).2 := by simp [gridOf, cellsOf, cellOf]
    rw [ew.1] at b1
    rw [ew.2] at b2
    exact ⟨b1, b2⟩
theorem root_big {t : List Node} (hk : TreeK t) (hkp : (nodeAt t 0).keep = false) (hkd : (nodeAt t 0).kind ≠ 2) {w h : Int} (hw : 0 ≤ w ∧ w ≤ 400) (hh : 0 ≤ h ∧ h ≤ 400) (h1 : (wish t 0).1 ≤ w) (h2 : (wish t 0).2 ≤ h) {k : Nat} (hm : k ∈ kids t 0) :
    (wish t k).1 ≤ (rectAt t w h k).w ∧ (wish t k).2 ≤ (rectAt t w h k).h := by
  obtain ⟨j, hj, rfl⟩ := List.mem_iff_getElem.1 hm
  have hlo := hk.lo
  rw [rectAt_kid hk hj]
  have hin := rect_bd hk hw hh 0 hlo
  have hin' := hin.in (by omega)
  rw [rectAt_zero] at hin'
  exact kids_big hk hlo hkp hkd (r := rectAt t w h 0) (by rw [rectAt_zero]; exact hin') (by rw [rectAt_zero]; dsimp only; omega) (by rw [rectAt_zero]; dsimp only; omega) (by rw [rectAt_zero]; exact h1) (by rw [rectAt_zero]; exact h2) hj _
end Go.Proofs.Yticgjepndfjafaa

namespace Go.Proofs.Yticgjepndfjafaa
open Go.Fw
attribute [local irreducible] Go.Fw.aops Go.Fw.arun

theorem c_equalK (ks : List Nat) (hl : ks.length < 2^40) : ACon Try.prog 19 [.d (.lst (ks.map encK)), .d (.lst (ks.map encK))] [] (Is (.d (.bool true))) := by
  rw [encK_map]
  exact c_laws.equalInts _ (by rw [List.length_map]; omega)

def hasN (ks : List Nat) (n : Int) : Bool := ks.any fun k => decide ((k : Int) = n)
theorem hasN_iff {ks : List Nat} {n : Nat} : hasN ks (n : Int) = true ↔ n ∈ ks := by
  unfold hasN
  rw [List.any_eq_true]
  constructor
  · rintro ⟨k, hk, h⟩
    have h : (k : Int) = (n : Int) := of_decide_eq_true h
    have : k = n := by omega
    exact this ▸ hk
  · intro h
    exact ⟨n, h, by simp⟩
theorem c_isIn (ks : List Nat) (n : Int) (hl : ks.length < 2^40) : ACon Try.prog 31 [.d (.lst (ks.map encK)), .d (.int .i64 n)] [] (Is (.d (.bool (hasN ks n)))) := by
  refine ACon.introW tok (nt := 18) Try.func31 rfl rfl rfl (by kernel_rfl) rfl ?_
  repeat' (first | ((with_reducible apply xsim); (first | ((with_reducible apply xo); exact rfl) | with_reducible apply xend)) | ((with_reducible apply xaw); (first | ((with_reducible apply xstepS); refine AW.step tok rfl ?_) | with_reducible (first | refine AW.seq ?_ | refine AW.block ?_))) | with_reducible exact trivial)
  refine AW.loop (S := fun k : Nat => ⟨[(0, .d (.lst (ks.map encK))), (1, .d (.int .i64 n)), (5, .d (.int .i64 k))], [], 18, 0⟩)
    (Pre := fun k => k ≤ ks.length ∧ (ks.take k).any (fun k => decide ((k : Int) = n)) = false) (μ := fun k => ks.length - k) 0 ⟨Nat.zero_le _, rfl⟩ ?_ ?_
  · (refine xwk (π := []) (by decide) rfl ?_ ?_; (first | exact trivial); repeat' (first | exact renE_n | ((with_reducible apply renE_c); exact rfl; focus (first | (simp -implicitDefEqProofs only [go_sem, Int.reduceEq, Int.reduceLT, Int.reduceLE, Nat.reduceAdd, Nat.reduceSub, Nat.reduceMul, Nat.reduceEqDiff, Nat.reduceLeDiff, Nat.reducePow, ↓reduceIte, reduceCtorEq]; done)))))
  rintro k ⟨hk, hno⟩
  by_cases hlt : k < ks.length
  · have hrow := at_map (f := encK) hlt
    have ht : (ks.take (k + 1)).any (fun k => decide ((k : Int) = n)) = ((ks.take k).any (fun k => decide ((k : Int) = n)) || decide ((ks[k] : Int) = n)) := by
      rw [List.take_succ_eq_append_getElem hlt, List.any_append]
      simp only [List.any_cons, List.any_nil, Bool.or_false]
    by_cases he : (ks[k] : Int) = n
    · have hh : hasN ks n = true := by
        unfold hasN
        rw [List.any_eq_true]
        exact ⟨ks[k], List.getElem_mem hlt, decide_eq_true he⟩
      rw [hh]
      repeat' (first | ((with_reducible apply xsim); (first | ((with_reducible apply xlenM); exact rfl; exact rfl) | ((with_reducible apply xo); exact rfl) | with_reducible apply xend | ((with_reducible apply xidxL); exact rfl; exact rfl; exact rfl; (first | exact hrow); omega; first | exact rfl | simp only [hsz]))) | ((with_reducible apply xaw); (first | ((with_reducible apply xstepS); refine AW.step tok rfl ?_) | with_reducible (first | refine AW.seq ?_ | refine AW.block ?_ | refine AW.skip ?_ | refine AW.ret ?_) | ((with_reducible apply xcond); exact rfl))) | with_reducible (first | refine xthen ?_ | refine xthen_r ?_ | refine xblock_r ?_ | refine xround_r ?_) | (with_reducible intro hc; (try simp only [decide_eq_true_eq, decide_eq_false_iff_not, Bool.not_true, Bool.not_false, Bool.not_eq_true', Bool.not_eq_false', ne_eq, not_true, reduceCtorEq, List.length_map] at hc); (try (exfalso; omega))) | with_reducible (first | exact trivial | refine And.intro ?_ ?_ | exact rfl))
      (refine xfinIs (by first | exact .inl rfl | exact .inr rfl) rfl (by repeat' (first | exact trivial | exact rfl | refine And.intro ?_ ?_)) rfl ?_ rfl; first | with_reducible exact rfl)
    · repeat' (first | ((with_reducible apply xsim); (first | ((with_reducible apply xlenM); exact rfl; exact rfl) | ((with_reducible apply xo); exact rfl) | with_reducible apply xend | ((with_reducible apply xidxL); exact rfl; exact rfl; exact rfl; (first | exact hrow); omega; first | exact rfl | simp only [hsz]))) | ((with_reducible apply xaw); (first | ((with_reducible apply xstepS); refine AW.step tok rfl ?_) | ((with_reducible apply xstep); refine AW.region tok rfl ?_) | with_reducible (first | refine AW.seq ?_ | refine AW.block ?_ | refine AW.skip ?_) | ((with_reducible apply xcond); exact rfl))) | with_reducible (first | refine xthen ?_ | refine xblock ?_) | (with_reducible intro hc; (try simp only [decide_eq_true_eq, decide_eq_false_iff_not, Bool.not_true, Bool.not_false, Bool.not_eq_true', Bool.not_eq_false', ne_eq, not_true, reduceCtorEq, List.length_map] at hc); (try (exfalso; omega))) | with_reducible (first | exact trivial | refine And.intro ?_ ?_ | exact rfl) | (refine inR_i64.mpr ?_; first | omega | (simp only [List.length_map, List.length_map]; omega)))
      refine round_end (k+1) ⟨hlt, by rw [ht, hno, decide_eq_false he]; rfl⟩ (by omega) (by (refine xwk (π := []) (by decide) rfl ?_ ?_; (first | exact trivial); repeat' (first | exact renE_n | ((with_reducible apply renE_c); exact rfl; focus (first | (simp -implicitDefEqProofs only [go_sem, Int.reduceEq, Int.reduceLT, Int.reduceLE, Nat.reduceAdd, Nat.reduceSub, Nat.reduceMul, Nat.reduceEqDiff, Nat.reduceLeDiff, Nat.reducePow, ↓reduceIte, reduceCtorEq]; done))))))
  have hk' : k = ks.length := by omega
  subst hk'
  rw [List.take_length] at hno
  rw [show hasN ks n = false from hno]
  repeat' (first | ((with_reducible apply xsim); (first | ((with_reducible apply xlenM); exact rfl; exact rfl) | ((with_reducible apply xo); exact rfl) | with_reducible apply xend)) | ((with_reducible apply xaw); (first | ((with_reducible apply xstepS); refine AW.step tok rfl ?_) | with_reducible (first | refine AW.seq ?_ | refine AW.ret ?_ | refine AW.exit ?_) | ((with_reducible apply xcond); exact rfl))) | with_reducible (first | refine xthen ?_ | refine xthen_e ?_ | refine xblock_e ?_ | refine xround_e ?_) | (with_reducible intro hc; (try simp only [decide_eq_true_eq, decide_eq_false_iff_not, Bool.not_true, Bool.not_false, Bool.not_eq_true', Bool.not_eq_false', ne_eq, not_true, reduceCtorEq, List.length_map] at hc); (try (exfalso; omega))) | with_reducible (first | exact trivial | refine And.intro ?_ ?_ | exact rfl))
  (refine xfinIs (by first | exact .inl rfl | exact .inr rfl) rfl (by repeat' (first | exact trivial | exact rfl | refine And.intro ?_ ?_)) rfl ?_ rfl; first | with_reducible exact rfl)
theorem c_ascends (ks : List Nat) (hl : ks.length < 2^40) (hp : ks.Pairwise (· < ·)) : ACon Try.prog 32 [.d (.lst (ks.map encK))] [] (Is (.d (.bool true))) := by
  refine ACon.introW tok (nt := 20) Try.func32 rfl rfl rfl (by kernel_rfl) rfl ?_
  repeat' (first | ((with_reducible apply xsim); (first | ((with_reducible apply xo); exact rfl) | with_reducible apply xend)) | ((with_reducible apply xaw); (first | ((with_reducible apply xstepS); refine AW.step tok rfl ?_) | with_reducible (first | refine AW.seq ?_ | refine AW.block ?_))) | with_reducible exact trivial)
  refine AW.loop (S := fun k : Nat => ⟨[(0, .d (.lst (ks.map encK))), (3, .d (.int .i64 ((k : Int) + 1)))], [], 20, 0⟩)
    (Pre := fun k => k ≤ ks.length) (μ := fun k => ks.length - k) 0 (Nat.zero_le _) ?_ ?_
  · (refine xwk (π := []) (by decide) rfl ?_ ?_; (first | exact trivial); repeat' (first | exact renE_n | ((with_reducible apply renE_c); exact rfl; focus (first | (simp -implicitDefEqProofs only [go_sem, Int.reduceEq, Int.reduceLT, Int.reduceLE, Nat.reduceAdd, Nat.reduceSub, Nat.reduceMul, Nat.reduceEqDiff, Nat.reduceLeDiff, Nat.reducePow, ↓reduceIte, reduceCtorEq]; done) | (simp -implicitDefEqProofs only [go_sem, Int.reduceEq, Int.reduceLT, Int.reduceLE, Nat.reduceAdd, Nat.reduceSub, Nat.reduceMul, Nat.reduceEqDiff, Nat.reduceLeDiff, Nat.reducePow, ↓reduceIte, reduceCtorEq]; omega)))))
  intro k hk
  by_cases hlt : k + 1 < ks.length
  · have hrow := at_map (f := encK) (k := k) (xs := ks) (by omega)
    have hrow2 := at_map (f := encK) hlt
    have h1 : (ks.map encK)[((k : Int) + 1).toNat]? = some (encK ks[k + 1]) := by rw [show ((k : Int) + 1).toNat = k + 1 by omega]; exact hrow2
    have h2 : (ks.map encK)[((k : Int) + 1 - 1).toNat]? = some (encK (ks[k]'(by omega))) := by rw [show ((k : Int) + 1 - 1).toNat = k by omega]; exact hrow
    have hlt' := List.pairwise_iff_getElem.1 hp k (k + 1) (by omega) hlt (by omega)
    repeat' (first | ((with_reducible apply xsim); (first | ((with_reducible apply xlenM); exact rfl; exact rfl) | ((with_reducible apply xo); exact rfl) | with_reducible apply xend | ((with_reducible apply xidxL); exact rfl; exact rfl; exact rfl; (first | exact h1 | exact h2); omega; first | exact rfl | simp only [hsz]))) | ((with_reducible apply xaw); (first | ((with_reducible apply xstepS); refine AW.step tok rfl ?_) | ((with_reducible apply xstep); refine AW.region tok rfl ?_) | with_reducible (first | refine AW.seq ?_ | refine AW.block ?_ | refine AW.skip ?_) | ((with_reducible apply xcond); exact rfl) | ((with_reducible apply xdraw (id := 4)); refine AW.draw (id := 4) (.q 0 (.q 1 (.q 2 (.q 3 (.q 4 (.q 5 (.q 6 (.q 7 (.q 8 (.q 9 (.fin))))))))))) tok (by kernel_rfl) rfl (by kernel_rfl) ?_))) | ((with_reducible apply xarun); (first | ((with_reducible apply xrun_q); exact rfl; exact rfl; exact rfl) | with_reducible apply xrun_f)) | with_reducible (first | refine xthen ?_ | refine xblock ?_) | (with_reducible intro hc; (try simp only [decide_eq_true_eq, decide_eq_false_iff_not, Bool.not_true, Bool.not_false, Bool.not_eq_true', Bool.not_eq_false', ne_eq, not_true, reduceCtorEq, List.length_map] at hc); (try (exfalso; omega))) | with_reducible (first | exact trivial | refine And.intro ?_ ?_ | exact rfl) | (refine inR_i64.mpr ?_; first | omega | (simp only [List.length_map, List.length_map]; omega)))
    refine round_end (k+1) (by omega) (by omega) (by (refine xwk (π := []) (by decide) rfl ?_ ?_; (first | exact trivial); repeat' (first | exact renE_n | ((with_reducible apply renE_c); exact rfl; focus (first | (simp -implicitDefEqProofs only [go_sem, Int.reduceEq, Int.reduceLT, Int.reduceLE, Nat.reduceAdd, Nat.reduceSub, Nat.reduceMul, Nat.reduceEqDiff, Nat.reduceLeDiff, Nat.reducePow, ↓reduceIte, reduceCtorEq, Int.natCast_add, Int.natCast_one]; done))))))
  · repeat' (first | ((with_reducible apply xsim); (first | ((with_reducible apply xlenM); exact rfl; exact rfl) | ((with_reducible apply xo); exact rfl) | with_reducible apply xend)) | ((with_reducible apply xaw); (first | ((with_reducible apply xstepS); refine AW.step tok rfl ?_) | with_reducible (first | refine AW.seq ?_ | refine AW.ret ?_ | refine AW.exit ?_) | ((with_reducible apply xcond); exact rfl))) | with_reducible (first | refine xthen ?_ | refine xthen_e ?_ | refine xblock_e ?_ | refine xround_e ?_) | (with_reducible intro hc; (try simp only [decide_eq_true_eq, decide_eq_false_iff_not, Bool.not_true, Bool.not_false, Bool.not_eq_true', Bool.not_eq_false', ne_eq, not_true, reduceCtorEq, List.length_map] at hc); (try (exfalso; omega))) | with_reducible (first | exact trivial | refine And.intro ?_ ?_ | exact rfl))
    (refine xfinIs (by first | exact .inl rfl | exact .inr rfl) rfl (by repeat' (first | exact trivial | exact rfl | refine And.intro ?_ ?_)) rfl ?_ rfl; first | with_reducible exact rfl)
theorem filter_asc (p : Nat → Bool) (n : Nat) : ((List.range n).filter p).Pairwise (· < ·) := List.Pairwise.filter _ List.pairwise_lt_range
end Go.Proofs.Yticgjepndfjafaa

namespace Go.Proofs.Yticgjepndfjafaa
open Go.Fw
attribute [local irreducible] Go.Fw.aops Go.Fw.arun

theorem reqOf_eq {t : List Node} {i : Int} (h : goodN t i = true) : reqOf t i = wish t i.toNat := by rw [reqOf, if_pos h]
end Go.Proofs.Yticgjepndfjafaa

namespace Go.Proofs.Yticgjepndfjafaa
open Go.Fw
attribute [local irreducible] Go.Fw.aops Go.Fw.arun

theorem cutOf_len {t : List Node} {w h : Int} : (cutOf t w h).length ≤ 10 := by
  unfold cutOf
  split
  · rename_i hb
    rw [Bool.and_eq_true] at hb
    have := (treeK hb.1).hi
    have := filter_len (isCut t w h) t.length
    unfold cutTo; omega
  · simp
set_option maxRecDepth 8000 in
set_option maxHeartbeats 4000000 in
theorem c_FnCutNodes (cs : List Byte) (hl : cs.length < 2^63) : ACon Try.prog 11 [.d (.lst (cs.map encByte))] [] (Is (.d (.bool true))) := by
  refine ACon.introW tok (nt := 100) Try.func11 rfl rfl rfl (by kernel_rfl) rfl ?_
  repeat' (first | ((with_reducible apply xsim); (first | ((with_reducible apply xlenM); exact rfl; exact rfl) | ((with_reducible apply xo); exact rfl) | with_reducible apply xend)) | ((with_reducible apply xaw); (first | ((with_reducible apply xstepS); refine AW.step tok rfl ?_) | with_reducible (first | refine AW.seq ?_ | refine AW.skip ?_ | refine AW.ret ?_) | ((with_reducible apply xcond); exact rfl))) | with_reducible (first | refine xthen ?_ | refine xthen_r ?_) | (with_reducible intro hc; (try simp only [decide_eq_true_eq, decide_eq_false_iff_not, Bool.not_true, Bool.not_false, Bool.not_eq_true', Bool.not_eq_false', ne_eq, not_true, reduceCtorEq, List.length_map] at hc); (try (exfalso; omega))) | with_reducible (first | exact trivial | refine And.intro ?_ ?_ | exact rfl))
  · (refine xfinIs (by first | exact .inl rfl | exact .inr rfl) rfl (by repeat' (first | exact trivial | exact rfl | refine And.intro ?_ ?_)) rfl ?_ rfl; first | with_reducible exact rfl)
  repeat' ((fail_if_success (with_reducible apply xnocond)); first | ((with_reducible apply xsim); (first | ((with_reducible apply xo); exact rfl) | ((with_reducible apply xst); exact rfl) | with_reducible apply xend | ((with_reducible apply xalloc); exact rfl; simp only [backV, backVs, backVs_mapd, backId, backO, List.map_cons, List.map_nil, List.getElem?_nil, List.length_cons, List.length_nil, Nat.reduceAdd, Nat.reduceSub, List.cons_append, List.nil_append, List.append_nil]) | ((with_reducible apply xcallIs); exact rfl; exact rfl; exact ORows.data (c_CutI _ (TreeB.L (by assumption)) _ _); exact rfl) | ((with_reducible apply xcallSm); exact rfl; exact rfl; exact c_DrawCutNodes cs hl; rintro _ ⟨t, w, h, rfl, ht, hr1, hr2, hr3, hr4⟩))) | ((with_reducible apply xaw); ((with_reducible apply xstepS); refine AW.step tok rfl ?_)) | with_reducible (first | exact trivial | refine And.intro ?_ ?_) | exact Eq.refl true)
  have hL := ht.L
  have cS := ORows.data (c_CutS t hL w h)
  have cL := ORows.data (c_LayoutI t hL w h)
  have hcl := cutOf_len (t := t) (w := w) (h := h)
  have cq := c_equalK (cutOf t w h) (by omega)
  refine AW.seq ?_
  cases hb : (treeOk t && roomOk w h)
  · have e : layoutT t w h = [] := by rw [layoutT, hb]; rfl
    have e2 : cutOf t w h = [] := by rw [cutOf, hb]; rfl
    rw [e2] at cS cq
    rw [e] at cL
    rw [e2]
    repeat' (first | ((with_reducible apply xsim); (first | ((with_reducible apply xlenM); exact rfl; exact rfl) | ((with_reducible apply xo); exact rfl) | with_reducible apply xend | ((with_reducible apply xguardS); exact rfl; exact rfl) | ((with_reducible apply xcallIs); exact rfl; exact rfl; (first | exact cS | exact cq | exact cL); exact rfl))) | ((with_reducible apply xaw); (first | ((with_reducible apply xstepS); refine AW.step tok rfl ?_) | with_reducible refine AW.ret ?_ | ((with_reducible apply xcond); exact rfl))) | with_reducible refine xthen_r ?_ | (with_reducible intro hc; (try simp only [decide_eq_true_eq, decide_eq_false_iff_not, Bool.not_true, Bool.not_false, Bool.not_eq_true', Bool.not_eq_false', ne_eq, not_true, reduceCtorEq, List.length_map, List.length_nil] at hc); (try (exfalso; omega))) | with_reducible (first | exact trivial | refine And.intro ?_ ?_ | exact rfl) | exact Eq.refl true)
    all_goals (refine xfinIs (by first | exact .inl rfl | exact .inr rfl) rfl (by repeat' (first | exact trivial | exact rfl | refine And.intro ?_ ?_)) rfl ?_ rfl; first | with_reducible exact rfl)
  have e : layoutT t w h = layoutOf t w h := by rw [layoutT, if_pos hb]
  have e2 : cutOf t w h = cutTo t w h t.length := by rw [cutOf, if_pos hb]
  rw [e2] at cS cq hcl
  rw [e] at cL
  rw [e2]
  rw [Bool.and_eq_true] at hb
  have hk := treeK hb.1
  have hrm := roomOk_iff hb.2
  have hlo := hk.lo; have hhi := hk.hi
  have hll := layoutOf_len (t := t) (w := w) (h := h)
  have c1 := c_ReqOfI t hL 0
  rw [show reqOf t 0 = wish t 0 by rw [reqOf_eq (goodN_iff.2 ⟨hb.1, Int.le_refl _, hlo⟩)]; rfl] at c1
  have hrow0 := at_map (f := encNode) (xs := t) (k := 0) hlo
  have hmem : ∀ m ∈ cutTo t w h t.length, m < t.length ∧ isCut t w h m = true := fun m hm => by
    have := List.mem_filter.1 hm
    exact ⟨List.mem_range.1 this.1, this.2⟩
  have casc := c_ascends (cutTo t w h t.length) (by omega) (filter_asc (isCut t w h) t.length)
  have cin := c_isIn (cutTo t w h t.length) 0 (by omega)
  have hin0 : hasN (cutTo t w h t.length) 0 = false := by
    refine Bool.eq_false_iff.2 fun hc => ?_
    have := (hmem 0 (hasN_iff.1 hc)).2
    simp [isCut] at this
  rw [hin0] at cin
  generalize hcs : cutTo t w h t.length = ks at *
  repeat' (first | ((with_reducible apply xsim); (first | ((with_reducible apply xlenM); exact rfl; exact rfl) | ((with_reducible apply xo); exact rfl) | with_reducible apply xend | ((with_reducible apply xguardS); exact rfl; exact rfl) | ((with_reducible apply xcallIs); exact rfl; exact rfl; (first | exact cS | exact cq | exact cL | exact c1); exact rfl))) | ((with_reducible apply xaw); (first | ((with_reducible apply xstepS); refine AW.step tok rfl ?_) | with_reducible (first | refine AW.seq ?_ | refine AW.block ?_ | refine AW.skip ?_) | ((with_reducible apply xcond); exact rfl))) | with_reducible refine xthen ?_ | (with_reducible intro hc; (try simp only [decide_eq_true_eq, decide_eq_false_iff_not, Bool.not_true, Bool.not_false, Bool.not_eq_true', Bool.not_eq_false', ne_eq, not_true, reduceCtorEq, List.length_map, hll] at hc); (try (exfalso; omega))) | with_reducible (first | exact trivial | refine And.intro ?_ ?_ | exact rfl) | exact Eq.refl true)
  refine AW.loop (S := fun k : Nat => ⟨[(3, .oref 0 0), (4, .d (.int .i64 w)), (5, .d (.int .i64 h)), (6, .d (.lst (ks.map encK))), (7, .d (.int .i64 (wish t 0).1)), (8, .d (.int .i64 (wish t 0).2)), (9, .d (.int .i64 k))], [.box [.d (.lst (t.map encNode))]], 100, 0⟩)
    (Pre := fun k => k ≤ ks.length) (μ := fun k => ks.length - k) 0 (Nat.zero_le _) ?_ ?_
  · (refine xwk (π := [0]) (by decide) rfl ?_ ?_; (first | simp -implicitDefEqProofs only [go_sem, Int.reduceEq, Int.reduceLT, Int.reduceLE, Nat.reduceAdd, Nat.reduceSub, Nat.reduceMul, Nat.reduceEqDiff, Nat.reduceLeDiff, Nat.reducePow, ↓reduceIte, reduceCtorEq]); repeat' (first | exact renE_n | ((with_reducible apply renE_c); exact rfl; focus (first | (simp -implicitDefEqProofs only [go_sem, Int.reduceEq, Int.reduceLT, Int.reduceLE, Nat.reduceAdd, Nat.reduceSub, Nat.reduceMul, Nat.reduceEqDiff, Nat.reduceLeDiff, Nat.reducePow, ↓reduceIte, reduceCtorEq]; done)))))
  intro k hkk
  by_cases hlt : k < ks.length
  · have hrk := at_map (f := encK) hlt
    obtain ⟨hm, hcut⟩ := hmem _ (List.getElem_mem hlt)
    have hcut := of_decide_eq_true hcut
    have hrm2 := at_map (f := encNode) hm
    have hno : ¬ (t[ks[k]].parent = 0 ∧ t[0].keep = false ∧ t[0].kind ≠ 2 ∧ (wish t 0).1 ≤ w ∧ (wish t 0).2 ≤ h) := by
      rintro ⟨g1, g2, g3, g4, g5⟩
      have := root_big hk (by rw [nodeAt_eq hlo]; exact g2) (by rw [nodeAt_eq hlo]; exact g3) (w := w) (h := h) (by omega) (by omega) g4 g5 (k := ks[k]) (mem_kids.2 ⟨hm, by rw [nodeAt_eq hm]; exact g1⟩)
      omega
    cases g2 : t[0].keep
    · have hno' : ¬ (t[ks[k]].parent = 0 ∧ t[0].kind ≠ 2 ∧ (wish t 0).1 ≤ w ∧ (wish t 0).2 ≤ h) := fun e => hno ⟨e.1, g2, e.2⟩
      clear hno
      repeat' (first | ((with_reducible apply xsim); (first | ((with_reducible apply xlenM); exact rfl; exact rfl) | ((with_reducible apply xo); exact rfl) | with_reducible apply xend | ((with_reducible apply xguardS); exact rfl; exact rfl) | ((with_reducible apply xidxL); exact rfl; exact rfl; exact rfl; (first | exact hrk | exact hrm2 | exact hrow0); omega; first | exact rfl | simp only [hsz]))) | ((with_reducible apply xaw); (first | ((with_reducible apply xstepS); refine AW.step tok rfl ?_) | ((with_reducible apply xstep); refine AW.region tok rfl ?_) | with_reducible (first | refine AW.seq ?_ | refine AW.block ?_ | refine AW.skip ?_) | ((with_reducible apply xcond); exact rfl) | ((with_reducible apply xdraw (id := 11)); refine AW.draw (id := 11) (.q 0 (.q 1 (.q 2 (.q 3 (.q 4 (.q 5 (.q 6 (.q 7 (.q 8 (.q 9 (.fin))))))))))) tok (by kernel_rfl) rfl (by kernel_rfl) ?_))) | ((with_reducible apply xarun); (first | ((with_reducible apply xrun_q); exact rfl; exact rfl; exact rfl) | with_reducible apply xrun_f)) | with_reducible (first | refine xthen ?_ | refine xblock ?_) | (with_reducible intro hc; (try simp only [decide_eq_true_eq, decide_eq_false_iff_not, Bool.not_true, Bool.not_false, Bool.not_eq_true', Bool.not_eq_false', ne_eq, not_true, reduceCtorEq, List.length_map, g2] at hc); (try (exfalso; omega))) | with_reducible (first | exact trivial | refine And.intro ?_ ?_ | exact rfl) | (refine inR_i64.mpr ?_; first | omega | (simp only [List.length_map, List.length_map, g2]; omega)))
      all_goals refine round_end (k+1) hlt (by omega) (by (refine xwk (π := [0]) (by decide) rfl ?_ ?_; (first | simp -implicitDefEqProofs only [go_sem, Int.reduceEq, Int.reduceLT, Int.reduceLE, Nat.reduceAdd, Nat.reduceSub, Nat.reduceMul, Nat.reduceEqDiff, Nat.reduceLeDiff, Nat.reducePow, ↓reduceIte, reduceCtorEq]); repeat' (first | exact renE_n | ((with_reducible apply renE_c); exact rfl; focus (first | (simp -implicitDefEqProofs only [go_sem, Int.reduceEq, Int.reduceLT, Int.reduceLE, Nat.reduceAdd, Nat.reduceSub, Nat.reduceMul, Nat.reduceEqDiff, Nat.reduceLeDiff, Nat.reducePow, ↓reduceIte, reduceCtorEq]; done))))))
    · clear hno
      repeat' (first | ((with_reducible apply xsim); (first | ((with_reducible apply xlenM); exact rfl; exact rfl) | ((with_reducible apply xo); exact rfl) | with_reducible apply xend | ((with_reducible apply xguardS); exact rfl; exact rfl) | ((with_reducible apply xidxL); exact rfl; exact rfl; exact rfl; (first | exact hrk | exact hrm2 | exact hrow0); omega; first | exact rfl | simp only [hsz]))) | ((with_reducible apply xaw); (first | ((with_reducible apply xstepS); refine AW.step tok rfl ?_) | ((with_reducible apply xstep); refine AW.region tok rfl ?_) | with_reducible (first | refine AW.seq ?_ | refine AW.block ?_ | refine AW.skip ?_) | ((with_reducible apply xcond); exact rfl) | ((with_reducible apply xdraw (id := 11)); refine AW.draw (id := 11) (.q 0 (.q 1 (.q 2 (.q 3 (.q 4 (.q 5 (.q 6 (.q 7 (.q 8 (.q 9 (.fin))))))))))) tok (by kernel_rfl) rfl (by kernel_rfl) ?_))) | ((with_reducible apply xarun); (first | ((with_reducible apply xrun_q); exact rfl; exact rfl; exact rfl) | with_reducible apply xrun_f)) | with_reducible (first | refine xthen ?_ | refine xblock ?_) | (with_reducible intro hc; (try simp only [decide_eq_true_eq, decide_eq_false_iff_not, Bool.not_true, Bool.not_false, Bool.not_eq_true', Bool.not_eq_false', ne_eq, not_true, reduceCtorEq, List.length_map, g2] at hc); (try (exfalso; omega))) | with_reducible (first | exact trivial | refine And.intro ?_ ?_ | exact rfl) | (refine inR_i64.mpr ?_; first | omega | (simp only [List.length_map, List.length_map, g2]; omega)))
      all_goals refine round_end (k+1) hlt (by omega) (by (refine xwk (π := [0]) (by decide) rfl ?_ ?_; (first | simp -implicitDefEqProofs only [go_sem, Int.reduceEq, Int.reduceLT, Int.reduceLE, Nat.reduceAdd, Nat.reduceSub, Nat.reduceMul, Nat.reduceEqDiff, Nat.reduceLeDiff, Nat.reducePow, ↓reduceIte, reduceCtorEq]); repeat' (first | exact renE_n | ((with_reducible apply renE_c); exact rfl; focus (first | (simp -implicitDefEqProofs only [go_sem, Int.reduceEq, Int.reduceLT, Int.reduceLE, Nat.reduceAdd, Nat.reduceSub, Nat.reduceMul, Nat.reduceEqDiff, Nat.reduceLeDiff, Nat.reducePow, ↓reduceIte, reduceCtorEq]; done))))))
  have hk' : k = ks.length := by omega
  subst hk'
  repeat' (first | ((with_reducible apply xsim); (first | ((with_reducible apply xlenM); exact rfl; exact rfl) | ((with_reducible apply xo); exact rfl) | with_reducible apply xend | ((with_reducible apply xguardS); exact rfl; exact rfl) | ((with_reducible apply xcallIs); exact rfl; exact rfl; (first | exact casc | exact cin); exact rfl))) | ((with_reducible apply xaw); (first | ((with_reducible apply xstepS); refine AW.step tok rfl ?_) | with_reducible (first | refine AW.seq ?_ | refine AW.ret ?_ | refine AW.exit ?_) | ((with_reducible apply xcond); exact rfl))) | with_reducible (first | refine xthen ?_ | refine xthen_e ?_ | refine xblock_e ?_ | refine xround_e ?_) | (with_reducible intro hc; (try simp only [decide_eq_true_eq, decide_eq_false_iff_not, Bool.not_true, Bool.not_false, Bool.not_eq_true', Bool.not_eq_false', ne_eq, not_true, reduceCtorEq, List.length_map] at hc); (try (exfalso; omega))) | with_reducible (first | exact trivial | refine And.intro ?_ ?_ | exact rfl))
  all_goals (refine xfinIs (by first | exact .inl rfl | exact .inr rfl) rfl (by repeat' (first | exact trivial | exact rfl | refine And.intro ?_ ?_)) rfl ?_ rfl; first | (simp -implicitDefEqProofs only [go_sem, Int.reduceEq, Int.reduceLT, Int.reduceLE, Nat.reduceAdd, Nat.reduceSub, Nat.reduceMul, Nat.reduceEqDiff, Nat.reduceLeDiff, Nat.reducePow, ↓reduceIte, reduceCtorEq] <;> (first | rfl | omega | exact decide_eq_decide.2 (by omega) | exact decide_eq_false (by omega) | exact decide_eq_true (by omega) | (symm; first | exact decide_eq_false (by omega) | exact decide_eq_true (by omega)) | (rw [Bool.eq_iff_iff]; simp only [Bool.not_eq_true', Bool.not_eq_false', Bool.and_eq_true, Bool.or_eq_true, decide_eq_true_eq, decide_eq_false_iff_not, reduceCtorEq, true_iff, iff_true, false_iff, iff_false]; omega))))

end Go.Proofs.Yticgjepndfjafaa

