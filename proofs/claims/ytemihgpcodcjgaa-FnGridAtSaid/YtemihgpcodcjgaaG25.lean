import Derived.Test.YtemihgpcodcjgaaG24
set_option linter.unusedSimpArgs false
set_option linter.unusedVariables false
namespace Go.Proofs.Ytemihgpcodcjgaa
open Go.Fw
@[go_sem] def lv96 : List (List Nat) := [[1, 2, 3], [1, 2, 3, 7, 8], [3, 9, 10], [3, 9, 10, 11], [9, 10, 11, 35, 36, 37], [9, 10, 11, 35, 36, 37, 38], [9, 10, 11, 13, 35, 36, 37], [9, 10, 11, 13, 14, 35, 36, 37], [9, 10, 11, 13, 14, 35, 36, 37], [9, 10, 11, 13, 14, 15, 16, 35, 36, 37], [9, 10, 11, 14, 15, 16, 17, 18, 35, 36, 37], [9, 10, 11, 35, 36, 37], [9, 10, 11, 35, 36, 37], [6]]


/-- Sizes of lines that are used. -/
structure XOk (n : Nat) (xs : List Int) : Prop where
  len : xs.length = n
  hi : n ≤ 5
  bd : ∀ x ∈ xs, 0 ≤ x ∧ x ≤ 500
  sum : sumI xs ≤ 400
theorem XOk.nums {n : Nat} {xs : List Int} (h : XOk n xs) : NumsOk xs := ⟨by have := h.len; have := h.hi; omega, fun x hx => by have := h.bd x hx; omega⟩
theorem XOk.take {n : Nat} {xs : List Int} (h : XOk n xs) {k : Nat} : NumsOk (xs.take k) := ⟨by have := h.len; have := h.hi; simp; omega, fun x hx => by have := h.bd x (List.mem_of_mem_take hx); omega⟩
theorem XOk.slc {n : Nat} {xs : List Int} (h : XOk n xs) {a m : Nat} : NumsOk (slc xs a m) := ⟨by have := h.len; have := h.hi; simp [Go.Proofs.Ytemihgpcodcjgaa.slc]; omega, fun x hx => by have := h.bd x (slc_mem hx); omega⟩
theorem XOk.part {n : Nat} {xs : List Int} (h : XOk n xs) (a m : Nat) : 0 ≤ sumI (xs.take a) ∧ 0 ≤ sumI (Go.Proofs.Ytemihgpcodcjgaa.slc xs a m) ∧ sumI (xs.take a) + sumI (Go.Proofs.Ytemihgpcodcjgaa.slc xs a m) ≤ sumI xs := by
  have h0 : ∀ x ∈ xs, 0 ≤ x := fun x hx => (h.bd x hx).1
  have h1 := take_all h0 (a := a + m)
  rw [take_slc] at h1
  exact ⟨sumI_nonneg fun x hx => h0 x (List.mem_of_mem_take hx), sumI_nonneg fun x hx => h0 x (slc_mem hx), h1⟩
theorem GOk.xcol {g : Grid} (h : GOk g) {w : Int} (hw : 0 ≤ w ∧ w ≤ 400) : XOk g.cols.length (colSizes g w) := by
  have := h.csz hw
  exact ⟨this.len, h.cols.hi, this.bd, by have := this.most; omega⟩
theorem GOk.xrow {g : Grid} (h : GOk g) {w : Int} (hw : 0 ≤ w ∧ w ≤ 400) : XOk g.rows.length (rowSizes g w) := by
  have := h.rsz hw
  exact ⟨this.len, h.rows.hi, this.bd, by have := this.most; omega⟩

theorem inset_bd {r : Rect} {px py : Int} (hw : 0 ≤ r.w) (hh : 0 ≤ r.h) (hx : 0 ≤ px) (hy : 0 ≤ py) : r.x ≤ (inset r px py).x ∧ r.y ≤ (inset r px py).y ∧ 0 ≤ (inset r px py).w ∧ 0 ≤ (inset r px py).h ∧
    (inset r px py).x + (inset r px py).w ≤ r.x + r.w ∧ (inset r px py).y + (inset r px py).h ≤ r.y + r.h ∧ r.w - 2 * px ≤ (inset r px py).w ∧ r.h - 2 * py ≤ (inset r px py).h := by
  have e1 := tdiv2 hw
  have e2 := tdiv2 hh
  unfold inset
  dsimp only
  omega
theorem rects_take {g : Grid} {xs ys : List Int} {r : Rect} {k : Nat} (h : k < g.cells.length) : (g.cells.map (cellRect xs ys r)).take (k + 1) = (g.cells.map (cellRect xs ys r)).take k ++ [cellRect xs ys r g.cells[k]] := by
  rw [List.take_succ_eq_append_getElem (by simp; exact h)]; simp

set_option maxHeartbeats 4000000 in
theorem c_rectsI (g : Grid) (w h : Int) (hg : GOk g) (hw : 0 ≤ w ∧ w ≤ 400) (hh : 0 ≤ h ∧ h ≤ 400) : ACon Try.prog 96 [vGrid g, .d (.int .i64 w), .d (.int .i64 h)] [] (ORows encRect 4 (gridRectsIn g ⟨0, 0, w, h⟩)) := by
  have hX := hg.xcol hw
  have hY := hg.xrow hh
  have h8 := hg.hi
  have cx := ORows.data (c_lineSizesI _ _ w hg.cols hg.cspans hw)
  have cy := ORows.data (c_lineSizesI _ _ h hg.rows hg.rspans hh)
  have he : gridRectsIn g ⟨0, 0, w, h⟩ = g.cells.map (cellRect (colSizes g w) (rowSizes g h) ⟨0, 0, w, h⟩) := rfl
  rw [he]
  rw [show sizes g.cols (requests g.cols (colSpans g.cells)) w = colSizes g w from rfl] at cx
  rw [show sizes g.rows (requests g.rows (rowSpans g.cells)) h = rowSizes g h from rfl] at cy
  generalize colSizes g w = xs at *
  generalize rowSizes g h = ys at *
  have hml : (g.cells.map (cellRect xs ys ⟨0, 0, w, h⟩)).length = g.cells.length := by simp
  have hxl := hX.len
  have hyl := hY.len
  have hc5 := hX.hi
  have hr5 := hY.hi
  refine ACon.introW tok (nt := 126) Try.func96 rfl rfl rfl (by kernel_rfl) rfl ?_
  repeat' (first | ((with_reducible apply xsim); (first | ((with_reducible apply xlenM); exact rfl; exact rfl) | ((with_reducible apply xo); exact rfl) | with_reducible apply xend | ((with_reducible apply xbox); exact rfl; simp only [backV, backVs, backVs_mapd, backId, backO, List.map_cons, List.map_nil, List.getElem?_nil, List.length_cons, List.length_nil, Nat.reduceAdd, Nat.reduceSub, List.cons_append, List.nil_append, List.append_nil]) | ((with_reducible apply xcallIs); exact rfl; exact rfl; (first | exact c_spans g hg | exact cx | exact cy); exact rfl))) | ((with_reducible apply xaw); (first | ((with_reducible apply xstepS); refine AW.step tok rfl ?_) | with_reducible (first | refine AW.seq ?_ | refine AW.block ?_ | refine AW.skip ?_ | refine AW.ret ?_ | refine AW.exit ?_) | ((with_reducible apply xdraw (id := 2)); refine AW.draw (id := 2) (.q 0 (.q 1 (.q 2 (.q 3 (.q 4 (.q 5 (.q 6 (.q 7 (.q 8 (.q 9 (.q 10 (.q 11 (.fin))))))))))))) tok (by kernel_rfl) rfl (by kernel_rfl) ?_))) | ((with_reducible apply xarun); (first | ((with_reducible apply xrun_q); exact rfl; exact rfl; exact rfl) | ((with_reducible apply xrun_c); exact rfl; exact rfl; exact rfl; exact rfl; exact rfl; exact rfl; (first | exact c_spans g hg | exact cx | exact cy); exact rfl) | with_reducible apply xrun_f)) | with_reducible (first | refine xthen ?_ | refine xthen_r ?_ | refine xthen_e ?_ | refine xblock ?_ | refine xblock_r ?_ | refine xblock_e ?_ | refine xblock_n rfl ?_ | refine xround_r ?_ | refine xround_e ?_) | with_reducible (first | exact trivial | refine And.intro ?_ ?_ | exact rfl | exact Nat.le_refl _) | exact Eq.refl true)
  all_goals
    refine AW.own 11 4 rfl ?_
    refine AW.loop (S := fun k : Nat => ⟨[(9, .d (.lst (xs.map encN))), (10, .d (.lst (ys.map encN))), (11, .msl 0 4 0 k), (35, .d (.lst (g.cells.map encCell))), (36, .d (.int .i64 g.cells.length)), (37, .d (.int .i64 k))], [.arr 4 (((g.cells.map (cellRect xs ys ⟨0, 0, w, h⟩)).take k).map encRect)], 126, 0⟩)
      (Pre := fun k => k ≤ g.cells.length) (μ := fun k => g.cells.length - k) 0 (Nat.zero_le _) ?_ ?_
    · (refine xwk (π := [1]) (by decide) rfl ?_ ?_; (first | simp -implicitDefEqProofs only [go_sem, Int.reduceEq, Int.reduceLT, Int.reduceLE, Nat.reduceAdd, Nat.reduceSub, Nat.reduceMul, Nat.reduceEqDiff, Nat.reduceLeDiff, Nat.reducePow, ↓reduceIte, reduceCtorEq, List.take_zero]); repeat' (first | exact renE_n | ((with_reducible apply renE_c); exact rfl; focus (first | (simp -implicitDefEqProofs only [go_sem, Int.reduceEq, Int.reduceLT, Int.reduceLE, Nat.reduceAdd, Nat.reduceSub, Nat.reduceMul, Nat.reduceEqDiff, Nat.reduceLeDiff, Nat.reducePow, ↓reduceIte, reduceCtorEq, List.take_zero]; done)))))
    intro k hk
    have htl : ((g.cells.map (cellRect xs ys ⟨0, 0, w, h⟩)).take k).length = k := by simp; omega
    by_cases hlt : k < g.cells.length
    · have hrow := at_map (f := encCell) hlt
      have hsu := rects_take (g := g) (xs := xs) (ys := ys) (r := ⟨0, 0, w, h⟩) hlt
      have hb := hg.ok _ (List.getElem_mem hlt)
      generalize g.cells[k] = c at *
      obtain ⟨hb1, hb2⟩ := hb
      obtain ⟨q1, q2, q3, q4⟩ := bits16 c.stick (by omega)
      have px := hX.part c.col.toNat c.manyCols.toNat
      have py := hY.part c.row.toNat c.manyRows.toNat
      have sx := hX.sum
      have sy := hY.sum
      have ex : (xs.drop c.col.toNat).take ((c.col + c.manyCols).toNat - c.col.toNat) = slc xs c.col.toNat c.manyCols.toNat := by rw [slc, show (c.col + c.manyCols).toNat - c.col.toNat = c.manyCols.toNat by omega]
      have ey : (ys.drop c.row.toNat).take ((c.row + c.manyRows).toNat - c.row.toNat) = slc ys c.row.toNat c.manyRows.toNat := by rw [slc, show (c.row + c.manyRows).toNat - c.row.toNat = c.manyRows.toNat by omega]
      have s1 := c_sum _ (hX.take (k := c.col.toNat))
      have s2 := c_sum _ (hY.take (k := c.row.toNat))
      have s3 : ACon Try.prog 113 [.d (.lst (((xs.drop c.col.toNat).take ((c.col + c.manyCols).toNat - c.col.toNat)).map encN))] [] (Is (.d (.int .i64 (sumI (slc xs c.col.toNat c.manyCols.toNat))))) := by rw [ex]; exact c_sum _ hX.slc
      have s4 : ACon Try.prog 113 [.d (.lst (((ys.drop c.row.toNat).take ((c.row + c.manyRows).toNat - c.row.toNat)).map encN))] [] (Is (.d (.int .i64 (sumI (slc ys c.row.toNat c.manyRows.toNat))))) := by rw [ey]; exact c_sum _ hY.slc
      have hq : inset (areaOf xs ys ⟨0, 0, w, h⟩ c) c.padX c.padY = inset ⟨sumI (xs.take c.col.toNat), sumI (ys.take c.row.toNat), sumI (slc xs c.col.toNat c.manyCols.toNat), sumI (slc ys c.row.toNat c.manyRows.toNat)⟩ c.padX c.padY := by simp only [areaOf, Int.zero_add]
      have hcr : cellRect xs ys ⟨0, 0, w, h⟩ c = cellIn (inset ⟨sumI (xs.take c.col.toNat), sumI (ys.take c.row.toNat), sumI (slc xs c.col.toNat c.manyCols.toNat), sumI (slc ys c.row.toNat c.manyRows.toNat)⟩ c.padX c.padY) c := by rw [cellRect, hq]
      rw [hcr] at hsu
      have s5 := c_insetI ⟨sumI (xs.take c.col.toNat), sumI (ys.take c.row.toNat), sumI (slc xs c.col.toNat c.manyCols.toNat), sumI (slc ys c.row.toNat c.manyRows.toNat)⟩ c.padX c.padY (by constructor <;> dsimp only <;> omega) px.2.1 py.2.1 (by omega) (by omega)
      have s6 := inset_bd (r := ⟨sumI (xs.take c.col.toNat), sumI (ys.take c.row.toNat), sumI (slc xs c.col.toNat c.manyCols.toNat), sumI (slc ys c.row.toNat c.manyRows.toNat)⟩) (px := c.padX) (py := c.padY) px.2.1 py.2.1 (by omega) (by omega)
      generalize inset ⟨sumI (xs.take c.col.toNat), sumI (ys.take c.row.toNat), sumI (slc xs c.col.toNat c.manyCols.toNat), sumI (slc ys c.row.toNat c.manyRows.toNat)⟩ c.padX c.padY = q at *
      dsimp only at s6
      have b1 := stuck_bd (room := q.w) (size := c.w) (a := bitL c.stick) (b := bitR c.stick) (by omega) (by omega)
      have b2 := stuck_bd (room := q.h) (size := c.h) (a := bitT c.stick) (b := bitB c.stick) (by omega) (by omega)
      have s7 : ACon Try.prog 124 [.d (.int .i64 q.w), .d (.int .i64 c.w), .d (.bool (decide (ibits .and .i64 c.stick 1 ≠ 0))), .d (.bool (decide (ibits .and .i64 c.stick 2 ≠ 0)))] [] (Is (.tup [.d (.int .i64 (stuckAt q.w c.w (bitL c.stick) (bitR c.stick))), .d (.int .i64 (stuckLen q.w c.w (bitL c.stick) (bitR c.stick)))])) := by rw [q1, q2]; exact c_stuckI _ _ _ _ (by omega) (by omega)
      have s8 : ACon Try.prog 124 [.d (.int .i64 q.h), .d (.int .i64 c.h), .d (.bool (decide (ibits .and .i64 c.stick 4 ≠ 0))), .d (.bool (decide (ibits .and .i64 c.stick 8 ≠ 0)))] [] (Is (.tup [.d (.int .i64 (stuckAt q.h c.h (bitT c.stick) (bitB c.stick))), .d (.int .i64 (stuckLen q.h c.h (bitT c.stick) (bitB c.stick)))])) := by rw [q3, q4]; exact c_stuckI _ _ _ _ (by omega) (by omega)
      simp only [cellIn] at hsu
      repeat' (first | ((with_reducible apply xsim); (first | ((with_reducible apply xo); exact rfl) | ((with_reducible apply xst); exact rfl) | with_reducible apply xend | ((with_reducible apply xalloc); exact rfl; simp only [backV, backVs, backVs_mapd, backId, backO, List.map_cons, List.map_nil, List.getElem?_nil, List.length_cons, List.length_nil, Nat.reduceAdd, Nat.reduceSub, List.cons_append, List.nil_append, List.append_nil]) | ((with_reducible apply xbuild); exact rfl; exact rfl; exact rfl; exact rfl; exact rfl; simp only [backV, backVs, backVs_mapd, backId, backO, List.map_cons, List.map_nil, List.getElem?_nil, List.length_cons, List.length_nil, Nat.reduceAdd, Nat.reduceSub, List.cons_append, List.nil_append, List.append_nil]) | ((with_reducible apply xidxL); exact rfl; exact rfl; exact rfl; (first | exact hrow); omega; first | exact rfl | simp only [hsz]) | ((with_reducible apply xslcHi); exact rfl; exact rfl; exact rfl; exact (fun r hr => by obtain ⟨a, _, rfl⟩ := List.mem_map.1 hr; rfl); first | omega | (simp only [List.length_cons, List.length_nil]; omega)) | ((with_reducible apply xslcB); exact rfl; exact rfl; exact rfl; exact rfl; exact (fun r hr => by obtain ⟨a, _, rfl⟩ := List.mem_map.1 hr; rfl); first | omega | (simp only [List.length_cons, List.length_nil]; omega)) | ((with_reducible apply xcallIs); exact rfl; exact rfl; (first | exact s1 | exact s2 | exact s3 | exact s4 | exact s5 | exact s7 | exact s8); exact rfl) | simp -implicitDefEqProofs only [go_sem, Int.reduceEq, Int.reduceLT, Int.reduceLE, Nat.reduceAdd, Nat.reduceSub, Nat.reduceMul, Nat.reduceEqDiff, Nat.reduceLeDiff, Nat.reducePow, ↓reduceIte, reduceCtorEq, List.length_map, htl])) | ((with_reducible apply xaw); (first | ((with_reducible apply xstepS); refine AW.step tok rfl ?_) | ((with_reducible apply xstep); refine AW.region tok rfl ?_) | with_reducible (first | refine AW.seq ?_ | refine AW.block ?_ | refine AW.skip ?_ | refine AW.ret ?_ | refine AW.exit ?_) | ((with_reducible apply xcond); exact rfl) | ((with_reducible apply xdraw (id := 7)); refine AW.draw (id := 7) (.q 0 (.q 1 (.q 2 (.q 3 (.q 4 (.q 5 (.q 6 (.q 7 (.q 8 (.q 9 (.q 10 (.q 11 (.q 12 (.q 13 (.q 14 (.q 15 (.q 16 (.q 17 (.q 18 (.q 19 (.q 20 (.q 21 (.q 22 (.q 23 (.q 24 (.q 25 (.q 26 (.q 27 (.q 28 (.q 29 (.q 30 (.e 31 (.e 32 (.fin)))))))))))))))))))))))))))))))))) tok (by kernel_rfl) rfl (by kernel_rfl) ?_))) | ((with_reducible apply xarun); (first | ((with_reducible apply xrun_q); exact rfl; exact rfl; exact rfl) | ((with_reducible apply xrun_c); exact rfl; exact rfl; exact rfl; exact rfl; exact rfl; exact rfl; (first | exact s1 | exact s2 | exact s3 | exact s4 | exact s5 | exact s7 | exact s8); exact rfl) | ((with_reducible apply xrun_e); exact rfl) | with_reducible apply xrun_f)) | with_reducible (first | refine xthen ?_ | refine xthen_r ?_ | refine xthen_e ?_ | refine xblock ?_ | refine xblock_r ?_ | refine xblock_e ?_ | refine xblock_n rfl ?_ | refine xround_r ?_ | refine xround_e ?_) | (with_reducible intro hc; (try simp only [decide_eq_true_eq, decide_eq_false_iff_not, Bool.not_true, Bool.not_false, Bool.not_eq_true', Bool.not_eq_false', ne_eq, not_true, reduceCtorEq, List.length_map, htl] at hc); (try (exfalso; omega))) | with_reducible (first | exact trivial | refine And.intro ?_ ?_ | exact rfl | exact Nat.le_refl _) | exact Eq.refl true | (refine inR_i64.mpr ?_; first | omega | (simp only [List.length_map, List.length_map, htl]; omega)) | omega)
      all_goals refine round_end (k+1) hlt (by omega) (by (refine xwk (π := [4]) (by decide) rfl ?_ ?_; (first | simp -implicitDefEqProofs only [go_sem, Int.reduceEq, Int.reduceLT, Int.reduceLE, Nat.reduceAdd, Nat.reduceSub, Nat.reduceMul, Nat.reduceEqDiff, Nat.reduceLeDiff, Nat.reducePow, ↓reduceIte, reduceCtorEq, hsu, List.map_append]); repeat' (first | exact renE_n | ((with_reducible apply renE_c); exact rfl; focus (first | (simp -implicitDefEqProofs only [go_sem, Int.reduceEq, Int.reduceLT, Int.reduceLE, Nat.reduceAdd, Nat.reduceSub, Nat.reduceMul, Nat.reduceEqDiff, Nat.reduceLeDiff, Nat.reducePow, ↓reduceIte, reduceCtorEq, hsu, List.map_append]; done))))))
    · have hk' : k = g.cells.length := by omega
      subst hk'
      have hta : (g.cells.map (cellRect xs ys ⟨0, 0, w, h⟩)).take g.cells.length = g.cells.map (cellRect xs ys ⟨0, 0, w, h⟩) := by rw [← hml, List.take_length]
      repeat' (first | ((with_reducible apply xsim); (first | ((with_reducible apply xo); exact rfl) | with_reducible apply xend)) | ((with_reducible apply xaw); (first | ((with_reducible apply xstepS); refine AW.step tok rfl ?_) | with_reducible (first | refine AW.seq ?_ | refine AW.block ?_ | refine AW.skip ?_ | refine AW.ret ?_ | refine AW.exit ?_) | ((with_reducible apply xcond); exact rfl))) | with_reducible (first | refine xthen ?_ | refine xthen_r ?_ | refine xthen_e ?_ | refine xblock ?_ | refine xblock_r ?_ | refine xblock_e ?_ | refine xblock_n rfl ?_ | refine xround_r ?_ | refine xround_e ?_) | (with_reducible intro hc; (try simp only [decide_eq_true_eq, decide_eq_false_iff_not, Bool.not_true, Bool.not_false, Bool.not_eq_true', Bool.not_eq_false', ne_eq, not_true, reduceCtorEq, List.length_map] at hc); (try (exfalso; omega))) | with_reducible (first | exact trivial | refine And.intro ?_ ?_ | exact rfl | exact Nat.le_refl _))
      (refine xfinOwn [0] (by first | exact .inl rfl | exact .inr rfl) rfl (by repeat' (first | exact trivial | exact rfl | refine And.intro ?_ ?_)) (by decide) rfl ?_ ?_ <;> simp -implicitDefEqProofs only [go_sem, Int.reduceEq, Int.reduceLT, Int.reduceLE, Nat.reduceAdd, Nat.reduceSub, Nat.reduceMul, Nat.reduceEqDiff, Nat.reduceLeDiff, Nat.reducePow, ↓reduceIte, reduceCtorEq, hta, hml])
end Go.Proofs.Ytemihgpcodcjgaa
