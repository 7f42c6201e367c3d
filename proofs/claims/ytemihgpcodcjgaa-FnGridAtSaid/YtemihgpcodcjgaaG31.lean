import Derived.Test.YtemihgpcodcjgaaG25
import Derived.Test.YtemihgpcodcjgaaD1
set_option linter.unusedSimpArgs false
set_option linter.unusedVariables false
namespace Go.Proofs.Ytemihgpcodcjgaa
open Go.Fw
@[go_sem] def lv97 : List (List Nat) := [[2, 3], [2, 3, 5], [2, 3, 5, 6], [2, 3, 5, 6, 7], [2, 3, 5, 6, 7, 8], [2, 3, 5, 6, 7, 8, 41], [2, 3, 5, 6, 7, 8], [2, 3, 5, 6, 7, 8, 9], [2, 3, 5, 6, 7, 8, 9, 10], [2, 3, 5, 6, 7, 8, 9, 11], [2, 3, 5, 6, 7, 8, 9, 11, 12, 13], [2, 3, 5, 6, 7, 8, 12, 13, 14, 15], [2, 3, 5, 6, 7, 8], [4]]


set_option maxHeartbeats 4000000 in
theorem c_gridded (g : Grid) (r : Rect) (hg : GOk g) (rx : -2^30 < r.x ∧ r.x < 2^30) (ry : -2^30 < r.y ∧ r.y < 2^30) (hw : 0 ≤ r.w ∧ r.w ≤ 400) (hh : 0 ≤ r.h ∧ r.h ≤ 400) : ACon Try.prog 97 [vGrid g, vRect r] [] (ORows encRect 4 (gridRectsIn g r)) := by
  have hX := hg.xcol hw
  have hY := hg.xrow hh
  have h8 := hg.hi
  have wx := ORows.data (c_wished _ _ hg.cols hg.cspans)
  have wy := ORows.data (c_wished _ _ hg.rows hg.rspans)
  have cx := ORows.data (c_sized _ _ r.w hg.cols (requests_ge hg.cols hg.cspans) hw)
  have cy := ORows.data (c_sized _ _ r.h hg.rows (requests_ge hg.rows hg.rspans) hh)
  have he : gridRectsIn g r = g.cells.map (cellRect (colSizes g r.w) (rowSizes g r.h) r) := rfl
  rw [he]
  rw [show sizes g.cols (requests g.cols (colSpans g.cells)) r.w = colSizes g r.w from rfl] at cx
  rw [show sizes g.rows (requests g.rows (rowSpans g.cells)) r.h = rowSizes g r.h from rfl] at cy
  generalize colSizes g r.w = xs at *
  generalize rowSizes g r.h = ys at *
  have hml : (g.cells.map (cellRect xs ys r)).length = g.cells.length := by simp
  have hxl := hX.len
  have hyl := hY.len
  have hc5 := hX.hi
  have hr5 := hY.hi
  refine ACon.introW tok (nt := 139) Try.func97 rfl rfl rfl (by kernel_rfl) rfl ?_
  repeat' (first | ((with_reducible apply xsim); (first | ((with_reducible apply xo); exact rfl) | with_reducible apply xend | ((with_reducible apply xbox); exact rfl; simp only [backV, backVs, backVs_mapd, backId, backO, List.map_cons, List.map_nil, List.getElem?_nil, List.length_cons, List.length_nil, Nat.reduceAdd, Nat.reduceSub, List.cons_append, List.nil_append, List.append_nil]) | ((with_reducible apply xbuild); exact rfl; exact rfl; exact rfl; exact rfl; exact rfl; simp only [backV, backVs, backVs_mapd, backId, backO, List.map_cons, List.map_nil, List.getElem?_nil, List.length_cons, List.length_nil, Nat.reduceAdd, Nat.reduceSub, List.cons_append, List.nil_append, List.append_nil]))) | ((with_reducible apply xaw); (first | ((with_reducible apply xstepS); refine AW.step tok rfl ?_) | with_reducible (first | refine AW.seq ?_ | refine AW.block ?_ | refine AW.skip ?_ | refine AW.ret ?_ | refine AW.exit ?_) | ((with_reducible apply xdraw (id := 1)); refine AW.draw (id := 1) (.q 0 (.q 1 (.q 2 (.q 3 (.q 4 (.q 5 (.q 6 (.q 7 (.q 8 (.q 9 (.q 10 (.fin)))))))))))) tok (by kernel_rfl) rfl (by kernel_rfl) ?_) | ((with_reducible apply xdraw (id := 2)); refine AW.draw (id := 2) (.q 0 (.q 1 (.q 2 (.q 3 (.q 4 (.q 5 (.q 6 (.q 7 (.q 8 (.q 9 (.q 10 (.fin)))))))))))) tok (by kernel_rfl) rfl (by kernel_rfl) ?_))) | ((with_reducible apply xarun); (first | ((with_reducible apply xrun_q); exact rfl; exact rfl; exact rfl) | ((with_reducible apply xrun_c); exact rfl; exact rfl; exact rfl; exact rfl; exact rfl; exact rfl; (first | exact c_colSpansS g hg | exact c_rowSpansS g hg | exact wx | exact wy | exact cx | exact cy); exact rfl) | with_reducible apply xrun_f)) | with_reducible (first | refine xthen ?_ | refine xthen_r ?_ | refine xthen_e ?_ | refine xblock ?_ | refine xblock_r ?_ | refine xblock_e ?_ | refine xblock_n rfl ?_ | refine xround_r ?_ | refine xround_e ?_) | with_reducible (first | exact trivial | refine And.intro ?_ ?_ | exact rfl | exact Nat.le_refl _) | exact Eq.refl true)
  all_goals
    refine AW.loop (S := fun k : Nat => ⟨[(2, .oref 1 0), (3, .oref 2 0), (5, .d (.lst (xs.map encN))), (6, .d (.lst (ys.map encN))), (7, .msl 0 4 0 k), (8, .d (.int .i64 k))], [.arr 4 (((g.cells.map (cellRect xs ys r)).take k).map encRect), .box [.d (.lst (g.cols.map encLine)), .d (.lst (g.rows.map encLine)), .d (.lst (g.cells.map encCell))], .box [.d (.int .i64 r.x), .d (.int .i64 r.y), .d (.int .i64 r.w), .d (.int .i64 r.h)]], 139, 0⟩)
      (Pre := fun k => k ≤ g.cells.length) (μ := fun k => g.cells.length - k) 0 (Nat.zero_le _) ?_ ?_
    · (refine xwk (π := [2, 0, 1]) (by decide) rfl ?_ ?_; (first | simp -implicitDefEqProofs only [go_sem, Int.reduceEq, Int.reduceLT, Int.reduceLE, Nat.reduceAdd, Nat.reduceSub, Nat.reduceMul, Nat.reduceEqDiff, Nat.reduceLeDiff, Nat.reducePow, ↓reduceIte, reduceCtorEq, List.take_zero, encGrid]); repeat' (first | exact renE_n | ((with_reducible apply renE_c); exact rfl; focus (first | (simp -implicitDefEqProofs only [go_sem, Int.reduceEq, Int.reduceLT, Int.reduceLE, Nat.reduceAdd, Nat.reduceSub, Nat.reduceMul, Nat.reduceEqDiff, Nat.reduceLeDiff, Nat.reducePow, ↓reduceIte, reduceCtorEq, List.take_zero, encGrid]; done)))))
    intro k hk
    have htl : ((g.cells.map (cellRect xs ys r)).take k).length = k := by simp; omega
    by_cases hlt : k < g.cells.length
    · have hrow := at_map (f := encCell) hlt
      have hsu := rects_take (g := g) (xs := xs) (ys := ys) (r := r) hlt
      have hb := hg.ok _ (List.getElem_mem hlt)
      generalize g.cells[k] = c at *
      obtain ⟨hb1, hb2⟩ := hb
      have px := hX.part c.col.toNat c.manyCols.toNat
      have py := hY.part c.row.toNat c.manyRows.toNat
      have sx := hX.sum
      have sy := hY.sum
      have ex : (xs.drop c.col.toNat).take ((c.col + c.manyCols).toNat - c.col.toNat) = slc xs c.col.toNat c.manyCols.toNat := by rw [slc, show (c.col + c.manyCols).toNat - c.col.toNat = c.manyCols.toNat by omega]
      have ey : (ys.drop c.row.toNat).take ((c.row + c.manyRows).toNat - c.row.toNat) = slc ys c.row.toNat c.manyRows.toNat := by rw [slc, show (c.row + c.manyRows).toNat - c.row.toNat = c.manyRows.toNat by omega]
      have s1 := c_total _ (hX.take (k := c.col.toNat))
      have s2 := c_total _ (hY.take (k := c.row.toNat))
      have s3 : ACon Try.prog 118 [.d (.lst (((xs.drop c.col.toNat).take ((c.col + c.manyCols).toNat - c.col.toNat)).map encN))] [] (Is (.d (.int .i64 (sumI (slc xs c.col.toNat c.manyCols.toNat))))) := by rw [ex]; exact c_total _ hX.slc
      have s4 : ACon Try.prog 118 [.d (.lst (((ys.drop c.row.toNat).take ((c.row + c.manyRows).toNat - c.row.toNat)).map encN))] [] (Is (.d (.int .i64 (sumI (slc ys c.row.toNat c.manyRows.toNat))))) := by rw [ey]; exact c_total _ hY.slc
      have hcr : cellRect xs ys r c = cellIn (inset ⟨r.x + sumI (xs.take c.col.toNat), r.y + sumI (ys.take c.row.toNat), sumI (slc xs c.col.toNat c.manyCols.toNat), sumI (slc ys c.row.toNat c.manyRows.toNat)⟩ c.padX c.padY) c := rfl
      rw [hcr] at hsu
      have s5 := c_insetS ⟨r.x + sumI (xs.take c.col.toNat), r.y + sumI (ys.take c.row.toNat), sumI (slc xs c.col.toNat c.manyCols.toNat), sumI (slc ys c.row.toNat c.manyRows.toNat)⟩ c.padX c.padY (by constructor <;> dsimp only <;> omega) px.2.1 py.2.1 (by omega) (by omega)
      have s6 := inset_bd (r := ⟨r.x + sumI (xs.take c.col.toNat), r.y + sumI (ys.take c.row.toNat), sumI (slc xs c.col.toNat c.manyCols.toNat), sumI (slc ys c.row.toNat c.manyRows.toNat)⟩) (px := c.padX) (py := c.padY) px.2.1 py.2.1 (by omega) (by omega)
      generalize inset ⟨r.x + sumI (xs.take c.col.toNat), r.y + sumI (ys.take c.row.toNat), sumI (slc xs c.col.toNat c.manyCols.toNat), sumI (slc ys c.row.toNat c.manyRows.toNat)⟩ c.padX c.padY = q at *
      dsimp only at s6
      have b1 := stuck_bd (room := q.w) (size := c.w) (a := bitL c.stick) (b := bitR c.stick) (by omega) (by omega)
      have b2 := stuck_bd (room := q.h) (size := c.h) (a := bitT c.stick) (b := bitB c.stick) (by omega) (by omega)
      have s7 := c_stuckS q.x q.w c.w (bitL c.stick) (bitR c.stick) (by omega) (by omega) (by omega)
      have s8 := c_stuckS q.y q.h c.h (bitT c.stick) (bitB c.stick) (by omega) (by omega) (by omega)
      simp only [cellIn] at hsu
      have e1 := tdiv_bd (a := c.stick) (m := 2) (by omega) (by omega)
      have e2 := tdiv_bd (a := c.stick) (m := 4) (by omega) (by omega)
      have e3 := tdiv_bd (a := c.stick) (m := 8) (by omega) (by omega)
      have e4 := tmod_bd (a := c.stick) (m := 2) (by omega) (by omega)
      have e5 := tmod_bd (a := c.stick.tdiv 2) (m := 2) (by omega) (by omega)
      have e6 := tmod_bd (a := c.stick.tdiv 4) (m := 2) (by omega) (by omega)
      repeat' (first | ((with_reducible apply xsim); (first | ((with_reducible apply xlenM); exact rfl; exact rfl) | ((with_reducible apply xo); exact rfl) | ((with_reducible apply xst); exact rfl) | with_reducible apply xend | ((with_reducible apply xalloc); exact rfl; simp only [backV, backVs, backVs_mapd, backId, backO, List.map_cons, List.map_nil, List.getElem?_nil, List.length_cons, List.length_nil, Nat.reduceAdd, Nat.reduceSub, List.cons_append, List.nil_append, List.append_nil]) | ((with_reducible apply xbuild); exact rfl; exact rfl; exact rfl; exact rfl; exact rfl; simp only [backV, backVs, backVs_mapd, backId, backO, List.map_cons, List.map_nil, List.getElem?_nil, List.length_cons, List.length_nil, Nat.reduceAdd, Nat.reduceSub, List.cons_append, List.nil_append, List.append_nil]) | ((with_reducible apply xidxL); exact rfl; exact rfl; exact rfl; (first | exact hrow); omega; first | exact rfl | simp only [hsz]) | ((with_reducible apply xslcHi); exact rfl; exact rfl; exact rfl; exact (fun r hr => by obtain ⟨a, _, rfl⟩ := List.mem_map.1 hr; rfl); first | omega | (simp only [List.length_cons, List.length_nil]; omega)) | ((with_reducible apply xslcB); exact rfl; exact rfl; exact rfl; exact rfl; exact (fun r hr => by obtain ⟨a, _, rfl⟩ := List.mem_map.1 hr; rfl); first | omega | (simp only [List.length_cons, List.length_nil]; omega)) | ((with_reducible apply xcallIs); exact rfl; exact rfl; (first | exact s1 | exact s2 | exact s3 | exact s4 | exact s5 | exact s7 | exact s8); exact rfl) | simp -implicitDefEqProofs only [go_sem, Int.reduceEq, Int.reduceLT, Int.reduceLE, Nat.reduceAdd, Nat.reduceSub, Nat.reduceMul, Nat.reduceEqDiff, Nat.reduceLeDiff, Nat.reducePow, ↓reduceIte, reduceCtorEq, List.length_map, htl])) | ((with_reducible apply xaw); (first | ((with_reducible apply xstepS); refine AW.step tok rfl ?_) | ((with_reducible apply xstep); refine AW.region tok rfl ?_) | with_reducible (first | refine AW.seq ?_ | refine AW.block ?_ | refine AW.skip ?_ | refine AW.ret ?_ | refine AW.exit ?_) | ((with_reducible apply xcond); exact rfl) | ((with_reducible apply xdraw (id := 8)); refine AW.draw (id := 8) (.q 0 (.q 1 (.q 2 (.q 3 (.q 4 (.q 5 (.q 6 (.q 7 (.q 8 (.q 9 (.q 10 (.q 11 (.q 12 (.q 13 (.q 14 (.q 15 (.q 16 (.q 17 (.q 18 (.q 19 (.q 20 (.q 21 (.q 22 (.q 23 (.q 24 (.q 25 (.q 26 (.q 27 (.q 28 (.q 29 (.q 30 (.q 31 (.q 32 (.q 33 (.q 34 (.q 35 (.q 36 (.e 37 (.e 38 (.fin)))))))))))))))))))))))))))))))))))))))) tok (by kernel_rfl) rfl (by kernel_rfl) ?_))) | ((with_reducible apply xarun); (first | ((with_reducible apply xrun_q); exact rfl; exact rfl; exact rfl) | ((with_reducible apply xrun_c); exact rfl; exact rfl; exact rfl; exact rfl; exact rfl; exact rfl; (first | exact s1 | exact s2 | exact s3 | exact s4 | exact s5 | exact s7 | exact s8); exact rfl) | ((with_reducible apply xrun_e); exact rfl) | with_reducible apply xrun_f)) | with_reducible (first | refine xthen ?_ | refine xthen_r ?_ | refine xthen_e ?_ | refine xblock ?_ | refine xblock_r ?_ | refine xblock_e ?_ | refine xblock_n rfl ?_ | refine xround_r ?_ | refine xround_e ?_) | (with_reducible intro hc; (try simp only [decide_eq_true_eq, decide_eq_false_iff_not, Bool.not_true, Bool.not_false, Bool.not_eq_true', Bool.not_eq_false', ne_eq, not_true, reduceCtorEq, List.length_map, htl] at hc); (try (exfalso; omega))) | with_reducible (first | exact trivial | refine And.intro ?_ ?_ | exact rfl | exact Nat.le_refl _) | exact Eq.refl true | (refine inR_i64.mpr ?_; first | omega | (simp only [List.length_map, List.length_map, htl]; omega)) | omega)
      all_goals refine round_end (k+1) hlt (by omega) (by (refine xwk (π := [7, 1, 2]) (by decide) rfl ?_ ?_; (first | simp -implicitDefEqProofs only [go_sem, Int.reduceEq, Int.reduceLT, Int.reduceLE, Nat.reduceAdd, Nat.reduceSub, Nat.reduceMul, Nat.reduceEqDiff, Nat.reduceLeDiff, Nat.reducePow, ↓reduceIte, reduceCtorEq, hsu, List.map_append]); repeat' (first | exact renE_n | ((with_reducible apply renE_c); exact rfl; focus (first | (simp -implicitDefEqProofs only [go_sem, Int.reduceEq, Int.reduceLT, Int.reduceLE, Nat.reduceAdd, Nat.reduceSub, Nat.reduceMul, Nat.reduceEqDiff, Nat.reduceLeDiff, Nat.reducePow, ↓reduceIte, reduceCtorEq, hsu, List.map_append]; done))))))
    · have hk' : k = g.cells.length := by omega
      subst hk'
      have hta : (g.cells.map (cellRect xs ys r)).take g.cells.length = g.cells.map (cellRect xs ys r) := by rw [← hml, List.take_length]
      repeat' (first | ((with_reducible apply xsim); (first | ((with_reducible apply xlenM); exact rfl; exact rfl) | ((with_reducible apply xo); exact rfl) | with_reducible apply xend)) | ((with_reducible apply xaw); (first | ((with_reducible apply xstepS); refine AW.step tok rfl ?_) | with_reducible (first | refine AW.seq ?_ | refine AW.block ?_ | refine AW.skip ?_ | refine AW.ret ?_ | refine AW.exit ?_) | ((with_reducible apply xcond); exact rfl))) | with_reducible (first | refine xthen ?_ | refine xthen_r ?_ | refine xthen_e ?_ | refine xblock ?_ | refine xblock_r ?_ | refine xblock_e ?_ | refine xblock_n rfl ?_ | refine xround_r ?_ | refine xround_e ?_) | (with_reducible intro hc; (try simp only [decide_eq_true_eq, decide_eq_false_iff_not, Bool.not_true, Bool.not_false, Bool.not_eq_true', Bool.not_eq_false', ne_eq, not_true, reduceCtorEq, List.length_map] at hc); (try (exfalso; omega))) | with_reducible (first | exact trivial | refine And.intro ?_ ?_ | exact rfl | exact Nat.le_refl _))
      (refine xfinOwn [0] (by first | exact .inl rfl | exact .inr rfl) rfl (by repeat' (first | exact trivial | exact rfl | refine And.intro ?_ ?_)) (by decide) rfl ?_ ?_ <;> simp -implicitDefEqProofs only [go_sem, Int.reduceEq, Int.reduceLT, Int.reduceLE, Nat.reduceAdd, Nat.reduceSub, Nat.reduceMul, Nat.reduceEqDiff, Nat.reduceLeDiff, Nat.reducePow, ↓reduceIte, reduceCtorEq, hta, hml])
end Go.Proofs.Ytemihgpcodcjgaa
