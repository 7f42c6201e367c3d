/- Contracts of the functions and the plain law behind them, as far as FnExactNaturalLayout needs them; joined out of the texts T12 T8 T13 T14 X3 X5 R15 R17 T15 D1 G31 T16 T17 R3 K8 T19 X9. -/
import Derived.Deep.Slices
import Derived.Deep.Fields
import Derived.ChangeSame
import Derived.Below
import Derived.ProofKit
import Derived.Test.YtpfhnhhkfobjnaaGreatFnExactNaturalLayout2
set_option linter.unusedSimpArgs false
set_option linter.unusedVariables false
namespace Go.Proofs.YtpfhnhhkfobjnaaGreat
open Go.Fw
attribute [local irreducible] Go.Fw.aops Go.Fw.arun

/-- A node's number. -/
@[go_sem] def encK (k : Nat) : List D := [.int .i64 (k : Int)]
theorem isKid_iff {t : List Node} {i k : Nat} (hk : k < t.length) : isKid t i k = decide (t[k].parent = (i : Int)) := by rw [isKid, nodeAt_eq hk]

set_option maxRecDepth 8000 in
theorem c_AkidsI (t : List Node) (h : TreeK t) (i : Nat) : ACon Tryz.prog 56 [vTree t, .d (.int .i64 (i : Int))] [] (ORows encK 1 (kids t i)) := by
  have hlo := h.lo; have hhi := h.hi
  refine ACon.introW tok (nt := 26) Tryz.func56 rfl rfl rfl (by kernel_rfl) rfl ?_
  repeat' (first | ((with_reducible apply xsim); (first | ((with_reducible apply xlenM); exact rfl; exact rfl) | ((with_reducible apply xo); exact rfl) | with_reducible apply xend | ((with_reducible apply xbox); exact rfl; simp only [bkL, Nat.reduceAdd, Nat.reduceSub]))) | ((with_reducible apply xaw); (first | ((with_reducible apply xstepS); refine AW.step tok rfl ?_) | with_reducible (first | refine AW.seq ?_ | refine AW.block ?_))) | with_reducible exact trivial)
  refine AW.own 5 1 rfl ?_
  refine AW.loop (S := fun k : Nat => ⟨[(1, .d (.int .i64 (i : Int))), (5, .msl 0 1 0 (kidsTo t i k).length), (9, .d (.lst (t.map encNode))), (10, .d (.int .i64 t.length)), (11, .d (.int .i64 k))], [.arr 1 ((kidsTo t i k).map encK)], 26, .p 0⟩)
    (Pre := fun k => k ≤ t.length) (μ := fun k => t.length - k) 0 (Nat.zero_le _) ?_ ?_
  · (refine xwk (π := [1]) (by decide) rfl ?_ ?_; (first | simp -implicitDefEqProofs only [go_sem, kidsTo, List.range_zero, List.filter_nil]); repeat' (first | exact renE_n | ((with_reducible apply renE_c); exact rfl; focus (first | (simp -implicitDefEqProofs only [go_sem, kidsTo, List.range_zero, List.filter_nil]; done)))))
  intro k hk
  have hkl := kids_len t i k
  by_cases hlt : k < t.length
  · have hrow := at_map (f := encNode) hlt
    have hs := kidsTo_succ (t := t) (i := i) (k := k)
    rw [isKid_iff hlt] at hs
    by_cases hp : t[k].parent = (i : Int)
    · rw [if_pos (decide_eq_true hp)] at hs
      repeat' (first | ((with_reducible apply xsim); (first | ((with_reducible apply xo); exact rfl) | ((with_reducible apply xst); exact rfl) | with_reducible apply xend | ((with_reducible apply xalloc); exact rfl; simp only [bkL, Nat.reduceAdd, Nat.reduceSub]) | ((with_reducible apply xbuild); exact rfl; exact rfl; exact rfl; exact rfl; exact rfl; simp only [bkL, Nat.reduceAdd, Nat.reduceSub]) | ((with_reducible apply xidxL); exact rfl; exact rfl; exact rfl; (first | exact hrow); omega; first | exact rfl | simp only [hsz]) | simp -implicitDefEqProofs only [go_sem, List.length_map])) | ((with_reducible apply xaw); (first | ((with_reducible apply xstepS); refine AW.step tok rfl ?_) | ((with_reducible apply xstep); refine AW.region tok rfl ?_) | with_reducible (first | refine AW.seq ?_ | refine AW.block ?_ | refine AW.skip ?_) | ((with_reducible apply xcond); exact rfl))) | with_reducible refine xthen ?_ | (with_reducible intro hc; (try simp only [hcL, reduceCtorEq, List.length_map] at hc); (try (exfalso; omega))) | with_reducible (first | exact trivial | refine And.intro ?_ ?_ | exact rfl) | exact Eq.refl true | (refine inR_i64.mpr ?_; first | omega | (simp only [List.length_map, List.length_map]; omega)) | omega)
      refine round_end (k+1) hlt (by omega) (by (refine xwk (π := [3]) (by decide) rfl ?_ ?_; (first | simp -implicitDefEqProofs only [go_sem, hs, List.map_append, List.length_append]); repeat' (first | exact renE_n | ((with_reducible apply renE_c); exact rfl; focus (first | (simp -implicitDefEqProofs only [go_sem, hs, List.map_append, List.length_append]; done))))))
    · rw [if_neg (by simpa using hp), List.append_nil] at hs
      repeat' (first | ((with_reducible apply xsim); (first | ((with_reducible apply xo); exact rfl) | ((with_reducible apply xst); exact rfl) | with_reducible apply xend | ((with_reducible apply xalloc); exact rfl; simp only [bkL, Nat.reduceAdd, Nat.reduceSub]) | ((with_reducible apply xidxL); exact rfl; exact rfl; exact rfl; (first | exact hrow); omega; first | exact rfl | simp only [hsz]))) | ((with_reducible apply xaw); (first | ((with_reducible apply xstepS); refine AW.step tok rfl ?_) | ((with_reducible apply xstep); refine AW.region tok rfl ?_) | with_reducible (first | refine AW.seq ?_ | refine AW.block ?_ | refine AW.skip ?_) | ((with_reducible apply xcond); exact rfl))) | with_reducible (first | refine xthen ?_ | refine xblock ?_) | (with_reducible intro hc; (try simp only [hcL, reduceCtorEq, List.length_map] at hc); (try (exfalso; omega))) | with_reducible (first | exact trivial | refine And.intro ?_ ?_ | exact rfl) | exact Eq.refl true | (refine inR_i64.mpr ?_; first | omega | (simp only [List.length_map, List.length_map]; omega)))
      refine round_end (k+1) hlt (by omega) (by (refine xwk (π := [0]) (by decide) rfl ?_ ?_; (first | simp -implicitDefEqProofs only [go_sem, hs]); repeat' (first | exact renE_n | ((with_reducible apply renE_c); exact rfl; focus (first | (simp -implicitDefEqProofs only [go_sem, hs]; done))))))
  have hk' : k = t.length := by omega
  subst hk'
  repeat' (first | ((with_reducible apply xsim); (first | ((with_reducible apply xo); exact rfl) | with_reducible apply xend)) | ((with_reducible apply xaw); (first | ((with_reducible apply xstepS); refine AW.step tok rfl ?_) | with_reducible (first | refine AW.seq ?_ | refine AW.ret ?_ | refine AW.exit ?_) | ((with_reducible apply xcond); exact rfl))) | with_reducible (first | refine xthen ?_ | refine xthen_e ?_ | refine xblock_e ?_ | refine xround_e ?_) | (with_reducible intro hc; (try simp only [hcL, reduceCtorEq, List.length_map] at hc); (try (exfalso; omega))) | with_reducible (first | exact trivial | refine And.intro ?_ ?_ | exact rfl))
  (refine xfinOwn [0] (by first | exact .inl rfl | exact .inr rfl) rfl (by repeat' (first | exact trivial | exact rfl | refine And.intro ?_ ?_)) (by decide) rfl ?_ ?_ <;> simp -implicitDefEqProofs only [go_sem, kids])
theorem c_AkidsS (t : List Node) (h : TreeK t) (i : Nat) : ACon Tryz.prog 68 [vTree t, .d (.int .i64 (i : Int))] [] (ORows encK 1 (kids t i)) := by
  have hlo := h.lo; have hhi := h.hi
  refine ACon.introW tok (nt := 28) Tryz.func68 rfl rfl rfl (by kernel_rfl) rfl ?_
  repeat' (first | ((with_reducible apply xsim); (first | ((with_reducible apply xo); exact rfl) | with_reducible apply xend | ((with_reducible apply xbox); exact rfl; simp only [bkL, Nat.reduceAdd, Nat.reduceSub]) | ((with_reducible apply xbuild); exact rfl; exact rfl; exact rfl; exact rfl; exact rfl; simp only [bkL, Nat.reduceAdd, Nat.reduceSub]))) | ((with_reducible apply xaw); (first | ((with_reducible apply xstepS); refine AW.step tok rfl ?_) | with_reducible (first | refine AW.seq ?_ | refine AW.block ?_))) | with_reducible exact trivial)
  have h1 : kidsTo t i 1 = [] := by
    have e := kidsTo_succ (t := t) (i := i) (k := 0)
    have hr := h.root (by omega)
    rw [isKid_iff (by omega), if_neg (by simp only [hr, decide_eq_true_eq]; omega)] at e
    exact e
  refine AW.loop (S := fun k : Nat => ⟨[(1, .d (.int .i64 (i : Int))), (2, .oref 0 0), (5, .msl 1 1 0 (kidsTo t i k).length), (6, .d (.int .i64 k))], [.box [.d (.lst (t.map encNode))], .arr 1 ((kidsTo t i k).map encK)], 28, .p 0⟩)
    (Pre := fun k => k ≤ t.length) (μ := fun k => t.length - k) 1 hlo ?_ ?_
  · (refine xwk (π := [0, 1]) (by decide) rfl ?_ ?_; (first | simp -implicitDefEqProofs only [go_sem, h1]); repeat' (first | exact renE_n | ((with_reducible apply renE_c); exact rfl; focus (first | (simp -implicitDefEqProofs only [go_sem, h1]; done)))))
  intro k hk
  have hkl := kids_len t i k
  by_cases hlt : k < t.length
  · have hrow := at_map (f := encNode) hlt
    have hs := kidsTo_succ (t := t) (i := i) (k := k)
    rw [isKid_iff hlt] at hs
    by_cases hp : t[k].parent = (i : Int)
    · rw [if_pos (decide_eq_true hp)] at hs
      repeat' (first | ((with_reducible apply xsim); (first | ((with_reducible apply xlenM); exact rfl; exact rfl) | ((with_reducible apply xo); exact rfl) | with_reducible apply xend | ((with_reducible apply xbuild); exact rfl; exact rfl; exact rfl; exact rfl; exact rfl; simp only [bkL, Nat.reduceAdd, Nat.reduceSub]) | ((with_reducible apply xidxL); exact rfl; exact rfl; exact rfl; (first | exact hrow); omega; first | exact rfl | simp only [hsz]) | simp -implicitDefEqProofs only [go_sem, List.length_map])) | ((with_reducible apply xaw); (first | ((with_reducible apply xstepS); refine AW.step tok rfl ?_) | ((with_reducible apply xstep); refine AW.region tok rfl ?_) | with_reducible (first | refine AW.seq ?_ | refine AW.block ?_ | refine AW.skip ?_) | ((with_reducible apply xcond); exact rfl))) | with_reducible refine xthen ?_ | (with_reducible intro hc; (try simp only [hcL, reduceCtorEq, List.length_map] at hc); (try (exfalso; omega))) | with_reducible (first | exact trivial | refine And.intro ?_ ?_ | exact rfl) | (refine inR_i64.mpr ?_; first | omega | (simp only [List.length_map, List.length_map]; omega)) | omega)
      refine round_end (k+1) hlt (by omega) (by (refine xwk (π := [0, 3]) (by decide) rfl ?_ ?_; (first | simp -implicitDefEqProofs only [go_sem, hs, List.map_append, List.length_append]); repeat' (first | exact renE_n | ((with_reducible apply renE_c); exact rfl; focus (first | (simp -implicitDefEqProofs only [go_sem, hs, List.map_append, List.length_append]; done))))))
    · rw [if_neg (by simpa using hp), List.append_nil] at hs
      repeat' (first | ((with_reducible apply xsim); (first | ((with_reducible apply xlenM); exact rfl; exact rfl) | ((with_reducible apply xo); exact rfl) | with_reducible apply xend | ((with_reducible apply xidxL); exact rfl; exact rfl; exact rfl; (first | exact hrow); omega; first | exact rfl | simp only [hsz]))) | ((with_reducible apply xaw); (first | ((with_reducible apply xstepS); refine AW.step tok rfl ?_) | ((with_reducible apply xstep); refine AW.region tok rfl ?_) | with_reducible (first | refine AW.seq ?_ | refine AW.block ?_ | refine AW.skip ?_) | ((with_reducible apply xcond); exact rfl))) | with_reducible (first | refine xthen ?_ | refine xblock ?_) | (with_reducible intro hc; (try simp only [hcL, reduceCtorEq, List.length_map] at hc); (try (exfalso; omega))) | with_reducible (first | exact trivial | refine And.intro ?_ ?_ | exact rfl) | (refine inR_i64.mpr ?_; first | omega | (simp only [List.length_map, List.length_map]; omega)))
      refine round_end (k+1) hlt (by omega) (by (refine xwk (π := [0, 1]) (by decide) rfl ?_ ?_; (first | simp -implicitDefEqProofs only [go_sem, hs]); repeat' (first | exact renE_n | ((with_reducible apply renE_c); exact rfl; focus (first | (simp -implicitDefEqProofs only [go_sem, hs]; done))))))
  have hk' : k = t.length := by omega
  subst hk'
  repeat' (first | ((with_reducible apply xsim); (first | ((with_reducible apply xlenM); exact rfl; exact rfl) | ((with_reducible apply xo); exact rfl) | with_reducible apply xend)) | ((with_reducible apply xaw); (first | ((with_reducible apply xstepS); refine AW.step tok rfl ?_) | with_reducible (first | refine AW.seq ?_ | refine AW.ret ?_ | refine AW.exit ?_) | ((with_reducible apply xcond); exact rfl))) | with_reducible (first | refine xthen ?_ | refine xthen_e ?_ | refine xblock_e ?_ | refine xround_e ?_) | (with_reducible intro hc; (try simp only [hcL, reduceCtorEq, List.length_map] at hc); (try (exfalso; omega))) | with_reducible (first | exact trivial | refine And.intro ?_ ?_ | exact rfl))
  (refine xfinOwn [1] (by first | exact .inl rfl | exact .inr rfl) rfl (by repeat' (first | exact trivial | exact rfl | refine And.intro ?_ ?_)) (by decide) rfl ?_ ?_ <;> simp -implicitDefEqProofs only [go_sem, kids])
theorem c_kidsI (t : List Node) (h : TreeK t) (i : Nat) : ACon Tryz.prog 56 [vTree t, .d (.int .i64 (i : Int))] [] (Is (.d (.lst ((kids t i).map encK)))) := ORows.data (c_AkidsI t h i)
theorem c_kidsS (t : List Node) (h : TreeK t) (i : Nat) : ACon Tryz.prog 68 [vTree t, .d (.int .i64 (i : Int))] [] (Is (.d (.lst ((kids t i).map encK)))) := ORows.data (c_AkidsS t h i)

theorem items_take {t : List Node} {ks : List Nat} {k : Nat} (h : k < ks.length) : (itemsOf t ks).take (k + 1) = (itemsOf t ks).take k ++ [packOf (nodeAt t ks[k]) (wish t ks[k])] := by
  rw [List.take_succ_eq_append_getElem (by simp [itemsOf]; exact h)]; simp [itemsOf]
theorem cells_take {t : List Node} {ks : List Nat} {k : Nat} (h : k < ks.length) : (cellsOf t ks).take (k + 1) = (cellsOf t ks).take k ++ [cellOf (nodeAt t ks[k]) (wish t ks[k])] := by
  rw [List.take_succ_eq_append_getElem (by simp [cellsOf]; exact h)]; simp [cellsOf]
def wishV (s : Int × Int) : V := .tup [.d (.int .i64 s.1), .d (.int .i64 s.2)]

theorem c_packsI (t : List Node) (h : TreeK t) (ks : List Nat) (hks : ∀ k ∈ ks, k < t.length) (hl : ks.length ≤ 10) (hreq : ∀ k ∈ ks, ACon Tryz.prog 64 [vTree t, .d (.int .i64 (k : Int))] [] (Is (wishV (wish t k)))) :
    ACon Tryz.prog 76 [vTree t, .d (.lst (ks.map encK))] [] (ORows encPack 9 (itemsOf t ks)) := by
  have hhi := h.hi
  have hil : (itemsOf t ks).length = ks.length := by simp [itemsOf]
  refine ACon.introW tok (nt := 35) Tryz.func76 rfl rfl rfl (by kernel_rfl) rfl ?_
  repeat' (first | ((with_reducible apply xsim); (first | ((with_reducible apply xlenM); exact rfl; exact rfl) | ((with_reducible apply xo); exact rfl) | with_reducible apply xend | ((with_reducible apply xbox); exact rfl; simp only [bkL, Nat.reduceAdd, Nat.reduceSub]))) | ((with_reducible apply xaw); (first | ((with_reducible apply xstepS); refine AW.step tok rfl ?_) | with_reducible (first | refine AW.seq ?_ | refine AW.block ?_))) | with_reducible exact trivial)
  refine AW.own 5 9 rfl ?_
  refine AW.loop (S := fun k : Nat => ⟨[(2, .oref 0 0), (5, .msl 1 9 0 k), (9, .d (.lst (ks.map encK))), (10, .d (.int .i64 ks.length)), (11, .d (.int .i64 k))], [.box [.d (.lst (t.map encNode))], .arr 9 (((itemsOf t ks).take k).map encPack)], 35, .p 0⟩)
    (Pre := fun k => k ≤ ks.length) (μ := fun k => ks.length - k) 0 (Nat.zero_le _) ?_ ?_
  · (refine xwk (π := [0, 1]) (by decide) rfl ?_ ?_; (first | simp -implicitDefEqProofs only [go_sem, List.take_zero]); repeat' (first | exact renE_n | ((with_reducible apply renE_c); exact rfl; focus (first | (simp -implicitDefEqProofs only [go_sem, List.take_zero]; done)))))
  intro k hk
  have hc1 : ((itemsOf t ks).take k).length = k := by simp [hil]; omega
  by_cases hlt : k < ks.length
  · have hrow := at_map (f := encK) hlt
    have hm := hks _ (List.getElem_mem hlt)
    have hrow2 := at_map (f := encNode) hm
    have hs := items_take (t := t) hlt
    rw [nodeAt_eq hm] at hs
    have hr := hreq _ (List.getElem_mem hlt)
    repeat' (first | ((with_reducible apply xsim); (first | ((with_reducible apply xo); exact rfl) | ((with_reducible apply xst); exact rfl) | with_reducible apply xend | ((with_reducible apply xalloc); exact rfl; simp only [bkL, Nat.reduceAdd, Nat.reduceSub]) | ((with_reducible apply xbuild); exact rfl; exact rfl; exact rfl; exact rfl; exact rfl; simp only [bkL, Nat.reduceAdd, Nat.reduceSub]) | ((with_reducible apply xidxL); exact rfl; exact rfl; exact rfl; (first | exact hrow | exact hrow2); omega; first | exact rfl | simp only [hsz]) | ((with_reducible apply xcallIs); exact rfl; exact rfl; exact hr; exact rfl) | simp -implicitDefEqProofs only [go_sem, List.length_map, hc1])) | ((with_reducible apply xaw); (first | ((with_reducible apply xstepS); refine AW.step tok rfl ?_) | ((with_reducible apply xstep); refine AW.region tok rfl ?_) | with_reducible (first | refine AW.seq ?_ | refine AW.block ?_ | refine AW.skip ?_) | ((with_reducible apply xcond); exact rfl))) | with_reducible refine xthen ?_ | (with_reducible intro hc; (try simp only [hcL, reduceCtorEq, List.length_map, hc1] at hc); (try (exfalso; omega))) | with_reducible (first | exact trivial | refine And.intro ?_ ?_ | exact rfl) | exact Eq.refl true | (refine inR_i64.mpr ?_; first | omega | (simp only [List.length_map, List.length_map, hc1]; omega)) | omega)
    refine round_end (k+1) hlt (by omega) (by (refine xwk (π := [0, 4]) (by decide) rfl ?_ ?_; (first | simp -implicitDefEqProofs only [go_sem, hs, List.map_append, packOf]); repeat' (first | exact renE_n | ((with_reducible apply renE_c); exact rfl; focus (first | (simp -implicitDefEqProofs only [go_sem, hs, List.map_append, packOf]; done))))))
  have hk' : k = ks.length := by omega
  subst hk'
  have t1 : (itemsOf t ks).take ks.length = itemsOf t ks := by rw [← hil, List.take_length]
  rw [t1]
  repeat' (first | ((with_reducible apply xsim); (first | ((with_reducible apply xo); exact rfl) | with_reducible apply xend)) | ((with_reducible apply xaw); (first | ((with_reducible apply xstepS); refine AW.step tok rfl ?_) | with_reducible (first | refine AW.seq ?_ | refine AW.ret ?_ | refine AW.exit ?_) | ((with_reducible apply xcond); exact rfl))) | with_reducible (first | refine xthen ?_ | refine xthen_e ?_ | refine xblock_e ?_ | refine xround_e ?_) | (with_reducible intro hc; (try simp only [hcL, reduceCtorEq, List.length_map] at hc); (try (exfalso; omega))) | with_reducible (first | exact trivial | refine And.intro ?_ ?_ | exact rfl))
  (refine xfinOwn [1] (by first | exact .inl rfl | exact .inr rfl) rfl (by repeat' (first | exact trivial | exact rfl | refine And.intro ?_ ?_)) (by decide) rfl ?_ ?_ <;> simp -implicitDefEqProofs only [go_sem, hil])
theorem c_packsS (t : List Node) (h : TreeK t) (ks : List Nat) (hks : ∀ k ∈ ks, k < t.length) (hl : ks.length ≤ 10) (hreq : ∀ k ∈ ks, ACon Tryz.prog 66 [vTree t, .d (.int .i64 (k : Int))] [] (Is (wishV (wish t k)))) :
    ACon Tryz.prog 89 [vTree t, .d (.lst (ks.map encK))] [] (ORows encPack 9 (itemsOf t ks)) := by
  have hhi := h.hi
  have hil : (itemsOf t ks).length = ks.length := by simp [itemsOf]
  refine ACon.introW tok (nt := 44) Tryz.func89 rfl rfl rfl (by kernel_rfl) rfl ?_
  repeat' (first | ((with_reducible apply xsim); (first | ((with_reducible apply xo); exact rfl) | with_reducible apply xend | ((with_reducible apply xbox); exact rfl; simp only [bkL, Nat.reduceAdd, Nat.reduceSub]) | ((with_reducible apply xbuild); exact rfl; exact rfl; exact rfl; exact rfl; exact rfl; simp only [bkL, Nat.reduceAdd, Nat.reduceSub]))) | ((with_reducible apply xaw); (first | ((with_reducible apply xstepS); refine AW.step tok rfl ?_) | with_reducible (first | refine AW.seq ?_ | refine AW.block ?_))) | with_reducible exact trivial)
  refine AW.loop (S := fun k : Nat => ⟨[(1, .d (.lst (ks.map encK))), (2, .oref 0 0), (5, .msl 1 9 0 k), (6, .d (.int .i64 k))], [.box [.d (.lst (t.map encNode))], .arr 9 (((itemsOf t ks).take k).map encPack)], 44, .p 0⟩)
    (Pre := fun k => k ≤ ks.length) (μ := fun k => ks.length - k) 0 (Nat.zero_le _) ?_ ?_
  · (refine xwk (π := [0, 1]) (by decide) rfl ?_ ?_; (first | simp -implicitDefEqProofs only [go_sem, List.take_zero]); repeat' (first | exact renE_n | ((with_reducible apply renE_c); exact rfl; focus (first | (simp -implicitDefEqProofs only [go_sem, List.take_zero]; done)))))
  intro k hk
  have hc1 : ((itemsOf t ks).take k).length = k := by simp [hil]; omega
  by_cases hlt : k < ks.length
  · have hrow := at_map (f := encK) hlt
    have hm := hks _ (List.getElem_mem hlt)
    have hrow2 := at_map (f := encNode) hm
    have hs := items_take (t := t) hlt
    rw [nodeAt_eq hm] at hs
    have hr := hreq _ (List.getElem_mem hlt)
    repeat' (first | ((with_reducible apply xsim); (first | ((with_reducible apply xlenM); exact rfl; exact rfl) | ((with_reducible apply xo); exact rfl) | ((with_reducible apply xst); exact rfl) | with_reducible apply xend | ((with_reducible apply xalloc); exact rfl; simp only [bkL, Nat.reduceAdd, Nat.reduceSub]) | ((with_reducible apply xbuild); exact rfl; exact rfl; exact rfl; exact rfl; exact rfl; simp only [bkL, Nat.reduceAdd, Nat.reduceSub]) | ((with_reducible apply xidxL); exact rfl; exact rfl; exact rfl; (first | exact hrow | exact hrow2); omega; first | exact rfl | simp only [hsz]) | simp -implicitDefEqProofs only [go_sem, List.length_map, hc1])) | ((with_reducible apply xaw); (first | ((with_reducible apply xstepS); refine AW.step tok rfl ?_) | ((with_reducible apply xstep); refine AW.region tok rfl ?_) | with_reducible (first | refine AW.seq ?_ | refine AW.block ?_ | refine AW.skip ?_) | ((with_reducible apply xcond); exact rfl) | ((with_reducible apply xdraw (id := 5)); refine AW.draw (id := 5) (.q 0 (.q 1 (.q 2 (.q 3 (.q 4 (.q 5 (.q 6 (.q 7 (.q 8 (.e 9 (.e 10 (.fin)))))))))))) tok (by kernel_rfl) rfl (by kernel_rfl) ?_) | ((with_reducible apply xdraw (id := 6)); refine AW.draw (id := 6) (.q 0 (.q 1 (.q 2 (.q 3 (.q 4 (.q 5 (.q 6 (.q 7 (.q 8 (.q 9 (.q 10 (.fin)))))))))))) tok (by kernel_rfl) rfl (by kernel_rfl) ?_))) | ((with_reducible apply xarun); (first | ((with_reducible apply xrun_q); exact rfl; exact rfl; exact rfl) | ((with_reducible apply xrun_c); exact rfl; exact rfl; exact rfl; exact rfl; exact rfl; exact rfl; exact hr; exact rfl) | ((with_reducible apply xrun_e); exact rfl) | with_reducible apply xrun_f)) | with_reducible refine xthen ?_ | (with_reducible intro hc; (try simp only [hcL, reduceCtorEq, List.length_map, hc1] at hc); (try (exfalso; omega))) | with_reducible (first | exact trivial | refine And.intro ?_ ?_ | exact rfl) | exact Eq.refl true | (refine inR_i64.mpr ?_; first | omega | (simp only [List.length_map, List.length_map, hc1]; omega)) | omega)
    refine round_end (k+1) hlt (by omega) (by (refine xwk (π := [0, 4]) (by decide) rfl ?_ ?_; (first | simp -implicitDefEqProofs only [go_sem, hs, List.map_append, packOf]); repeat' (first | exact renE_n | ((with_reducible apply renE_c); exact rfl; focus (first | (simp -implicitDefEqProofs only [go_sem, hs, List.map_append, packOf]; done))))))
  have hk' : k = ks.length := by omega
  subst hk'
  have t1 : (itemsOf t ks).take ks.length = itemsOf t ks := by rw [← hil, List.take_length]
  rw [t1]
  repeat' (first | ((with_reducible apply xsim); (first | ((with_reducible apply xlenM); exact rfl; exact rfl) | ((with_reducible apply xo); exact rfl) | with_reducible apply xend)) | ((with_reducible apply xaw); (first | ((with_reducible apply xstepS); refine AW.step tok rfl ?_) | with_reducible (first | refine AW.seq ?_ | refine AW.ret ?_ | refine AW.exit ?_) | ((with_reducible apply xcond); exact rfl))) | with_reducible (first | refine xthen ?_ | refine xthen_e ?_ | refine xblock_e ?_ | refine xround_e ?_) | (with_reducible intro hc; (try simp only [hcL, reduceCtorEq, List.length_map] at hc); (try (exfalso; omega))) | with_reducible (first | exact trivial | refine And.intro ?_ ?_ | exact rfl))
  (refine xfinOwn [1] (by first | exact .inl rfl | exact .inr rfl) rfl (by repeat' (first | exact trivial | exact rfl | refine And.intro ?_ ?_)) (by decide) rfl ?_ ?_ <;> simp -implicitDefEqProofs only [go_sem, hil])

set_option maxRecDepth 8000 in
theorem c_gridI (t : List Node) (h : TreeK t) (i : Nat) (hi : i < t.length) (ks : List Nat) (hks : ∀ k ∈ ks, k < t.length) (hl : ks.length ≤ 10) (hreq : ∀ k ∈ ks, ACon Tryz.prog 64 [vTree t, .d (.int .i64 (k : Int))] [] (Is (wishV (wish t k)))) :
    ACon Tryz.prog 77 [vTree t, .d (.int .i64 (i : Int)), .d (.lst (ks.map encK))] [] (Is (vGrid (gridOf t i ks))) := by
  have hhi := h.hi
  have hil : (cellsOf t ks).length = ks.length := by simp [cellsOf]
  have hrow0 := at_map (f := encNode) hi
  have hni := nodeAt_eq hi
  refine ACon.introW tok (nt := 52) Tryz.func77 rfl rfl rfl (by kernel_rfl) rfl ?_
  repeat' (first | ((with_reducible apply xsim); (first | ((with_reducible apply xlenM); exact rfl; exact rfl) | ((with_reducible apply xo); exact rfl) | ((with_reducible apply xst); exact rfl) | with_reducible apply xend | ((with_reducible apply xalloc); exact rfl; simp only [bkL, Nat.reduceAdd, Nat.reduceSub]) | ((with_reducible apply xbox); exact rfl; simp only [bkL, Nat.reduceAdd, Nat.reduceSub]) | ((with_reducible apply xidxL); exact rfl; exact rfl; exact rfl; (first | exact hrow0); omega; first | exact rfl | simp only [hsz]))) | ((with_reducible apply xaw); (first | ((with_reducible apply xstepS); refine AW.step tok rfl ?_) | with_reducible (first | refine AW.seq ?_ | refine AW.block ?_) | ((with_reducible apply xdraw (id := 1)); refine AW.draw (id := 1) (.q 0 (.q 1 (.q 2 (.q 3 (.q 4 (.q 5 (.q 6 (.q 7 (.q 8 (.q 9 (.q 10 (.q 11 (.q 12 (.e 13 (.e 14 (.fin)))))))))))))))) tok (by kernel_rfl) rfl (by kernel_rfl) ?_))) | ((with_reducible apply xarun); (first | ((with_reducible apply xrun_q); exact rfl; exact rfl; exact rfl) | ((with_reducible apply xrun_e); exact rfl) | with_reducible apply xrun_f)) | with_reducible refine xthen ?_ | with_reducible (first | exact trivial | refine And.intro ?_ ?_) | exact Eq.refl true)
  refine AW.weak (Weak.ownBoxCell 2 9 2 rfl rfl) ?_
  refine AW.loop (S := fun k : Nat => ⟨[(3, .oref 0 0), (6, .oref 1 0), (7, .oref 2 0), (24, .d (.lst (ks.map encK))), (25, .d (.int .i64 ks.length)), (26, .d (.int .i64 k))], [.box [.d (.lst (t.map encNode))], .box [.nils, .nils, .nils],
      .box [.d (.lst (t[i].cols.map encLine)), .d (.lst (t[i].rows.map encLine)), .msl 3 9 0 k], .arr 9 (((cellsOf t ks).take k).map encCell)], 52, .p 0⟩)
    (Pre := fun k => k ≤ ks.length) (μ := fun k => ks.length - k) 0 (Nat.zero_le _) ?_ ?_
  · (refine xwk (π := [0, 1, 2, 3]) (by decide) rfl ?_ ?_; (first | simp -implicitDefEqProofs only [go_sem, List.take_zero]); repeat' (first | exact renE_n | ((with_reducible apply renE_c); exact rfl; focus (first | (simp -implicitDefEqProofs only [go_sem, List.take_zero]; done)))))
  intro k hk
  have hc1 : ((cellsOf t ks).take k).length = k := by simp [hil]; omega
  by_cases hlt : k < ks.length
  · have hrow := at_map (f := encK) hlt
    have hm := hks _ (List.getElem_mem hlt)
    have hrow2 := at_map (f := encNode) hm
    have hs := cells_take (t := t) hlt
    rw [nodeAt_eq hm] at hs
    have hr := hreq _ (List.getElem_mem hlt)
    repeat' (first | ((with_reducible apply xsim); (first | ((with_reducible apply xo); exact rfl) | ((with_reducible apply xst); exact rfl) | with_reducible apply xend | ((with_reducible apply xalloc); exact rfl; simp only [bkL, Nat.reduceAdd, Nat.reduceSub]) | ((with_reducible apply xbuild); exact rfl; exact rfl; exact rfl; exact rfl; exact rfl; simp only [bkL, Nat.reduceAdd, Nat.reduceSub]) | ((with_reducible apply xidxL); exact rfl; exact rfl; exact rfl; (first | exact hrow | exact hrow2); omega; first | exact rfl | simp only [hsz]) | ((with_reducible apply xcallIs); exact rfl; exact rfl; exact hr; exact rfl) | simp -implicitDefEqProofs only [go_sem, List.length_map, hc1])) | ((with_reducible apply xaw); (first | ((with_reducible apply xstepS); refine AW.step tok rfl ?_) | ((with_reducible apply xstep); refine AW.region tok rfl ?_) | with_reducible (first | refine AW.seq ?_ | refine AW.block ?_ | refine AW.skip ?_) | ((with_reducible apply xcond); exact rfl))) | with_reducible (first | refine xthen ?_ | refine xblock ?_) | (with_reducible intro hc; (try simp only [hcL, reduceCtorEq, List.length_map, hc1] at hc); (try (exfalso; omega))) | with_reducible (first | exact trivial | refine And.intro ?_ ?_ | exact rfl) | exact Eq.refl true | (refine inR_i64.mpr ?_; first | omega | (simp only [List.length_map, List.length_map, hc1]; omega)) | omega)
    refine round_end (k+1) hlt (by omega) (by (refine xwk (π := [0, 1, 2, 6]) (by decide) rfl ?_ ?_; (first | simp -implicitDefEqProofs only [go_sem, hs, List.map_append, cellOf]); repeat' (first | exact renE_n | ((with_reducible apply renE_c); exact rfl; focus (first | (simp -implicitDefEqProofs only [go_sem, hs, List.map_append, cellOf]; done))))))
  have hk' : k = ks.length := by omega
  subst hk'
  have t1 : (cellsOf t ks).take ks.length = cellsOf t ks := by rw [← hil, List.take_length]
  rw [t1]
  repeat' (first | ((with_reducible apply xsim); (first | ((with_reducible apply xo); exact rfl) | ((with_reducible apply xst); exact rfl) | with_reducible apply xend)) | ((with_reducible apply xaw); (first | ((with_reducible apply xstepS); refine AW.step tok rfl ?_) | with_reducible (first | refine AW.seq ?_ | refine AW.ret ?_ | refine AW.exit ?_) | ((with_reducible apply xcond); exact rfl))) | with_reducible (first | refine xthen ?_ | refine xthen_e ?_ | refine xblock_e ?_ | refine xround_e ?_) | (with_reducible intro hc; (try simp only [hcL, reduceCtorEq, List.length_map] at hc); (try (exfalso; omega))) | with_reducible (first | exact trivial | refine And.intro ?_ ?_ | exact rfl) | exact Eq.refl true)
  refine xfinW (Weak.freezeBoxCell 1 3 9 2 rfl rfl rfl (by simp [hil])) ?_
  (refine xfinIs (by first | exact .inl rfl | exact .inr rfl) rfl (by repeat' (first | exact trivial | exact rfl | refine And.intro ?_ ?_)) rfl ?_ rfl; first | (simp -implicitDefEqProofs only [go_sem, gridOf, hni] <;> (first | rfl | omega | exact decide_eq_decide.2 (by omega) | exact decide_eq_false (by omega) | exact decide_eq_true (by omega) | (symm; first | exact decide_eq_false (by omega) | exact decide_eq_true (by omega)) | (rw [Bool.eq_iff_iff]; simp only [boL, reduceCtorEq]; omega))))
set_option maxRecDepth 8000 in
theorem c_gridS (t : List Node) (h : TreeK t) (i : Nat) (hi : i < t.length) (ks : List Nat) (hks : ∀ k ∈ ks, k < t.length) (hl : ks.length ≤ 10) (hreq : ∀ k ∈ ks, ACon Tryz.prog 66 [vTree t, .d (.int .i64 (k : Int))] [] (Is (wishV (wish t k)))) :
    ACon Tryz.prog 91 [vTree t, .d (.int .i64 (i : Int)), .d (.lst (ks.map encK))] [] (Is (vGrid (gridOf t i ks))) := by
  have hhi := h.hi
  have hil : (cellsOf t ks).length = ks.length := by simp [cellsOf]
  have hrow0 := at_map (f := encNode) hi
  have hni := nodeAt_eq hi
  refine ACon.introW tok (nt := 60) Tryz.func91 rfl rfl rfl (by kernel_rfl) rfl ?_
  repeat' (first | ((with_reducible apply xsim); (first | ((with_reducible apply xo); exact rfl) | ((with_reducible apply xst); exact rfl) | with_reducible apply xend | ((with_reducible apply xalloc); exact rfl; simp only [bkL, Nat.reduceAdd, Nat.reduceSub]) | ((with_reducible apply xbox); exact rfl; simp only [bkL, Nat.reduceAdd, Nat.reduceSub]) | ((with_reducible apply xidxL); exact rfl; exact rfl; exact rfl; (first | exact hrow0); omega; first | exact rfl | simp only [hsz]))) | ((with_reducible apply xaw); (first | ((with_reducible apply xstepS); refine AW.step tok rfl ?_) | with_reducible (first | refine AW.seq ?_ | refine AW.block ?_) | ((with_reducible apply xdraw (id := 1)); refine AW.draw (id := 1) (.q 0 (.q 1 (.q 2 (.q 3 (.q 4 (.q 5 (.q 6 (.q 7 (.q 8 (.q 9 (.q 10 (.q 11 (.q 12 (.e 13 (.e 14 (.fin)))))))))))))))) tok (by kernel_rfl) rfl (by kernel_rfl) ?_))) | ((with_reducible apply xarun); (first | ((with_reducible apply xrun_q); exact rfl; exact rfl; exact rfl) | ((with_reducible apply xrun_e); exact rfl) | with_reducible apply xrun_f)) | with_reducible refine xthen ?_ | with_reducible (first | exact trivial | refine And.intro ?_ ?_) | exact Eq.refl true)
  refine AW.weak (Weak.ownBoxCell 2 9 2 rfl rfl) ?_
  refine AW.loop (S := fun k : Nat => ⟨[(2, .d (.lst (ks.map encK))), (3, .oref 0 0), (6, .oref 1 0), (7, .oref 2 0), (8, .d (.int .i64 k))], [.box [.d (.lst (t.map encNode))], .box [.nils, .nils, .nils],
      .box [.d (.lst (t[i].cols.map encLine)), .d (.lst (t[i].rows.map encLine)), .msl 3 9 0 k], .arr 9 (((cellsOf t ks).take k).map encCell)], 60, .p 0⟩)
    (Pre := fun k => k ≤ ks.length) (μ := fun k => ks.length - k) 0 (Nat.zero_le _) ?_ ?_
  · (refine xwk (π := [0, 1, 2, 3]) (by decide) rfl ?_ ?_; (first | simp -implicitDefEqProofs only [go_sem, List.take_zero]); repeat' (first | exact renE_n | ((with_reducible apply renE_c); exact rfl; focus (first | (simp -implicitDefEqProofs only [go_sem, List.take_zero]; done)))))
  intro k hk
  have hc1 : ((cellsOf t ks).take k).length = k := by simp [hil]; omega
  by_cases hlt : k < ks.length
  · have hrow := at_map (f := encK) hlt
    have hm := hks _ (List.getElem_mem hlt)
    have hrow2 := at_map (f := encNode) hm
    have hs := cells_take (t := t) hlt
    rw [nodeAt_eq hm] at hs
    have hr := hreq _ (List.getElem_mem hlt)
    repeat' (first | ((with_reducible apply xsim); (first | ((with_reducible apply xlenM); exact rfl; exact rfl) | ((with_reducible apply xo); exact rfl) | ((with_reducible apply xst); exact rfl) | with_reducible apply xend | ((with_reducible apply xalloc); exact rfl; simp only [bkL, Nat.reduceAdd, Nat.reduceSub]) | ((with_reducible apply xbuild); exact rfl; exact rfl; exact rfl; exact rfl; exact rfl; simp only [bkL, Nat.reduceAdd, Nat.reduceSub]) | ((with_reducible apply xidxL); exact rfl; exact rfl; exact rfl; (first | exact hrow | exact hrow2); omega; first | exact rfl | simp only [hsz]) | simp -implicitDefEqProofs only [go_sem, List.length_map, hc1])) | ((with_reducible apply xaw); (first | ((with_reducible apply xstepS); refine AW.step tok rfl ?_) | ((with_reducible apply xstep); refine AW.region tok rfl ?_) | with_reducible (first | refine AW.seq ?_ | refine AW.block ?_ | refine AW.skip ?_) | ((with_reducible apply xcond); exact rfl) | ((with_reducible apply xdraw (id := 5)); refine AW.draw (id := 5) (.q 0 (.q 1 (.q 2 (.q 3 (.q 4 (.q 5 (.q 6 (.q 7 (.q 8 (.e 9 (.e 10 (.fin)))))))))))) tok (by kernel_rfl) rfl (by kernel_rfl) ?_) | ((with_reducible apply xdraw (id := 6)); refine AW.draw (id := 6) (.q 0 (.q 1 (.q 2 (.q 3 (.q 4 (.q 5 (.q 6 (.q 7 (.q 8 (.q 9 (.q 10 (.fin)))))))))))) tok (by kernel_rfl) rfl (by kernel_rfl) ?_))) | ((with_reducible apply xarun); (first | ((with_reducible apply xrun_q); exact rfl; exact rfl; exact rfl) | ((with_reducible apply xrun_c); exact rfl; exact rfl; exact rfl; exact rfl; exact rfl; exact rfl; exact hr; exact rfl) | ((with_reducible apply xrun_e); exact rfl) | with_reducible apply xrun_f)) | with_reducible (first | refine xthen ?_ | refine xblock ?_) | (with_reducible intro hc; (try simp only [hcL, reduceCtorEq, List.length_map, hc1] at hc); (try (exfalso; omega))) | with_reducible (first | exact trivial | refine And.intro ?_ ?_ | exact rfl) | exact Eq.refl true | (refine inR_i64.mpr ?_; first | omega | (simp only [List.length_map, List.length_map, hc1]; omega)) | omega)
    refine round_end (k+1) hlt (by omega) (by (refine xwk (π := [0, 1, 2, 6]) (by decide) rfl ?_ ?_; (first | simp -implicitDefEqProofs only [go_sem, hs, List.map_append, cellOf]); repeat' (first | exact renE_n | ((with_reducible apply renE_c); exact rfl; focus (first | (simp -implicitDefEqProofs only [go_sem, hs, List.map_append, cellOf]; done))))))
  have hk' : k = ks.length := by omega
  subst hk'
  have t1 : (cellsOf t ks).take ks.length = cellsOf t ks := by rw [← hil, List.take_length]
  rw [t1]
  repeat' (first | ((with_reducible apply xsim); (first | ((with_reducible apply xlenM); exact rfl; exact rfl) | ((with_reducible apply xo); exact rfl) | ((with_reducible apply xst); exact rfl) | with_reducible apply xend)) | ((with_reducible apply xaw); (first | ((with_reducible apply xstepS); refine AW.step tok rfl ?_) | with_reducible (first | refine AW.seq ?_ | refine AW.ret ?_ | refine AW.exit ?_) | ((with_reducible apply xcond); exact rfl))) | with_reducible (first | refine xthen ?_ | refine xthen_e ?_ | refine xblock_e ?_ | refine xround_e ?_) | (with_reducible intro hc; (try simp only [hcL, reduceCtorEq, List.length_map] at hc); (try (exfalso; omega))) | with_reducible (first | exact trivial | refine And.intro ?_ ?_ | exact rfl) | exact Eq.refl true)
  refine xfinW (Weak.freezeBoxCell 1 3 9 2 rfl rfl rfl (by simp [hil])) ?_
  (refine xfinIs (by first | exact .inl rfl | exact .inr rfl) rfl (by repeat' (first | exact trivial | exact rfl | refine And.intro ?_ ?_)) rfl ?_ rfl; first | (simp -implicitDefEqProofs only [go_sem, gridOf, hni] <;> (first | rfl | omega | exact decide_eq_decide.2 (by omega) | exact decide_eq_false (by omega) | exact decide_eq_true (by omega) | (symm; first | exact decide_eq_false (by omega) | exact decide_eq_true (by omega)) | (rw [Bool.eq_iff_iff]; simp only [boL, reduceCtorEq]; omega))))
end Go.Proofs.YtpfhnhhkfobjnaaGreat

namespace Go.Proofs.YtpfhnhhkfobjnaaGreat
open Go.Fw
attribute [local irreducible] Go.Fw.aops Go.Fw.arun

set_option maxHeartbeats 4000000 in
set_option maxRecDepth 8000 in
theorem c_validNode (t : List Node) (hL : TreeL t) (k : Nat) (hlt : k < t.length) : ACon Tryz.prog 82 [vTree t, .d (.int .i64 k)] [] (Is (.d (.bool (nodeOk t[k] && upOk t k t[k])))) := by
  obtain ⟨hL1, hL⟩ := hL
  have hrow := at_map (f := encNode) hlt
  refine ACon.introW tok (nt := 126) Tryz.func82 rfl rfl rfl (by kernel_rfl) rfl ?_
  by_cases hkd : t[k].kind = 1
  all_goals
    by_cases h0 : k = 0
    · subst h0
      have hu : upOk t 0 t[0] = decide (t[0].parent = -1) := rfl
      generalize hup : upOk t 0 t[0] = up at hu
      repeat' (first | ((with_reducible apply xsim); (first | ((with_reducible apply xlenM); exact rfl; exact rfl) | ((with_reducible apply xo); exact rfl) | ((with_reducible apply xst); exact rfl) | with_reducible apply xend | ((with_reducible apply xguardTS); exact rfl; exact rfl) | ((with_reducible apply xguardS); exact rfl; exact rfl) | ((with_reducible apply xalloc); exact rfl; simp only [bkL, Nat.reduceAdd, Nat.reduceSub]) | ((with_reducible apply xbox); exact rfl; simp only [bkL, Nat.reduceAdd, Nat.reduceSub]) | ((with_reducible apply xidxL); exact rfl; exact rfl; exact rfl; (first | exact hrow); omega; first | exact rfl | simp only [hsz]) | ((with_reducible apply xcallIs); exact rfl; exact rfl; (first | exact c_inRange _ _ _ | exact c_validPack _ | exact c_validPlace _ | exact c_validLines _ (hL _ hlt).1 | exact c_validLines _ (hL _ hlt).2 | exact c_validCellN _ _ _ (hL _ _).1 (hL _ _).2); exact rfl))) | ((with_reducible apply xaw); (first | ((with_reducible apply xstepS); refine AW.step tok rfl ?_) | with_reducible (first | refine AW.seq ?_ | refine AW.skip ?_ | refine AW.ret ?_) | ((with_reducible apply xcond); exact rfl))) | with_reducible (first | refine xthen ?_ | refine xthen_r ?_) | (with_reducible intro hc; (try simp only [hcL, reduceCtorEq, List.length_map] at hc); (try (exfalso; omega))) | with_reducible (first | exact trivial | refine And.intro ?_ ?_ | exact rfl) | exact Eq.refl true)
      all_goals clear hrow hL
      all_goals (refine xfinIs (by first | exact .inl rfl | exact .inr rfl) rfl (by repeat' (first | exact trivial | exact rfl | refine And.intro ?_ ?_)) rfl ?_ rfl; simp only [V.d.injEq, D.bool.injEq, D.int.injEq]; first | rfl | (simp_all [nodeOk, hup, Int.natCast_pos, List.length_pos_iff]; done) | (simp_all [nodeOk, hup, Int.natCast_pos, List.length_pos_iff]; omega))
    by_cases hr : 0 ≤ t[k].parent ∧ t[k].parent ≤ (k : Int) - 1
    · have hu := upOk_in (by omega) hlt hr
      have hrow2 := node_at (xs := t) (i := t[k].parent) (by omega)
      generalize hup : upOk t k t[k] = up at hu
      repeat' (first | ((with_reducible apply xsim); (first | ((with_reducible apply xlenM); exact rfl; exact rfl) | ((with_reducible apply xo); exact rfl) | ((with_reducible apply xst); exact rfl) | with_reducible apply xend | ((with_reducible apply xguardTS); exact rfl; exact rfl) | ((with_reducible apply xguardS); exact rfl; exact rfl) | ((with_reducible apply xalloc); exact rfl; simp only [bkL, Nat.reduceAdd, Nat.reduceSub]) | ((with_reducible apply xbox); exact rfl; simp only [bkL, Nat.reduceAdd, Nat.reduceSub]) | ((with_reducible apply xidxL); exact rfl; exact rfl; exact rfl; (first | exact hrow | exact hrow2); omega; first | exact rfl | simp only [hsz]) | ((with_reducible apply xcallIs); exact rfl; exact rfl; (first | exact c_inRange _ _ _ | exact c_validPack _ | exact c_validPlace _ | exact c_validLines _ (hL _ hlt).1 | exact c_validLines _ (hL _ hlt).2 | exact c_validCellN _ _ _ (hL _ _).1 (hL _ _).2); exact rfl))) | ((with_reducible apply xaw); (first | ((with_reducible apply xstepS); refine AW.step tok rfl ?_) | with_reducible (first | refine AW.seq ?_ | refine AW.skip ?_ | refine AW.ret ?_) | ((with_reducible apply xcond); exact rfl))) | with_reducible (first | refine xthen ?_ | refine xthen_r ?_) | (with_reducible intro hc; (try simp only [hcL, reduceCtorEq, List.length_map] at hc); (try (exfalso; omega))) | with_reducible (first | exact trivial | refine And.intro ?_ ?_ | exact rfl) | exact Eq.refl true | (refine inR_i64.mpr ?_; first | omega | (simp only [List.length_map, List.length_map]; omega)))
      all_goals clear hrow hrow2 hL
      all_goals (refine xfinIs (by first | exact .inl rfl | exact .inr rfl) rfl (by repeat' (first | exact trivial | exact rfl | refine And.intro ?_ ?_)) rfl ?_ rfl; simp only [V.d.injEq, D.bool.injEq, D.int.injEq]; first | rfl | (simp_all [nodeOk, hup, cellOk, Int.natCast_pos, List.length_pos_iff]; done) | (simp_all [nodeOk, hup, cellOk, Int.natCast_pos, List.length_pos_iff]; omega))
    · have hu := upOk_out (t := t) (by omega) hr
      generalize hup : upOk t k t[k] = up at hu
      repeat' (first | ((with_reducible apply xsim); (first | ((with_reducible apply xlenM); exact rfl; exact rfl) | ((with_reducible apply xo); exact rfl) | ((with_reducible apply xst); exact rfl) | with_reducible apply xend | ((with_reducible apply xguardTS); exact rfl; exact rfl) | ((with_reducible apply xguardS); exact rfl; exact rfl) | ((with_reducible apply xalloc); exact rfl; simp only [bkL, Nat.reduceAdd, Nat.reduceSub]) | ((with_reducible apply xbox); exact rfl; simp only [bkL, Nat.reduceAdd, Nat.reduceSub]) | ((with_reducible apply xidxL); exact rfl; exact rfl; exact rfl; (first | exact hrow); omega; first | exact rfl | simp only [hsz]) | ((with_reducible apply xcallIs); exact rfl; exact rfl; (first | exact c_inRange _ _ _ | exact c_validPack _ | exact c_validPlace _ | exact c_validLines _ (hL _ hlt).1 | exact c_validLines _ (hL _ hlt).2 | exact c_validCellN _ _ _ (hL _ _).1 (hL _ _).2); exact rfl))) | ((with_reducible apply xaw); (first | ((with_reducible apply xstepS); refine AW.step tok rfl ?_) | with_reducible (first | refine AW.seq ?_ | refine AW.skip ?_ | refine AW.ret ?_) | ((with_reducible apply xcond); exact rfl))) | with_reducible (first | refine xthen ?_ | refine xthen_r ?_) | (with_reducible intro hc; (try simp only [hcL, reduceCtorEq, List.length_map] at hc); (try (exfalso; omega))) | with_reducible (first | exact trivial | refine And.intro ?_ ?_ | exact rfl) | exact Eq.refl true | (refine inR_i64.mpr ?_; first | omega | (simp only [List.length_map, List.length_map]; omega)))
      all_goals clear hrow hL
      all_goals (refine xfinIs (by first | exact .inl rfl | exact .inr rfl) rfl (by repeat' (first | exact trivial | exact rfl | refine And.intro ?_ ?_)) rfl ?_ rfl; simp only [V.d.injEq, D.bool.injEq, D.int.injEq]; first | rfl | (simp_all [nodeOk, hup, Int.natCast_pos, List.length_pos_iff]; done) | (simp_all [nodeOk, hup, Int.natCast_pos, List.length_pos_iff]; omega))
end Go.Proofs.YtpfhnhhkfobjnaaGreat

namespace Go.Proofs.YtpfhnhhkfobjnaaGreat
open Go.Fw
attribute [local irreducible] Go.Fw.aops Go.Fw.arun

set_option maxRecDepth 8000 in
set_option maxHeartbeats 4000000 in
theorem c_reqI (t : List Node) (h : TreeK t) : ∀ m i : Nat, t.length - i ≤ m → i < t.length → ACon Tryz.prog 64 [vTree t, .d (.int .i64 (i : Int))] [] (Is (wishV (wish t i))) := by
  intro m
  induction m with
  | zero => intro i h1 h2; omega
  | succ m ih =>
    intro i h1 h2
    have hhi := h.hi
    have hkl : (kids t i).length ≤ 10 := by have := kids_len t i t.length; unfold kids; omega
    have hks : ∀ k ∈ kids t i, k < t.length := fun k hk => (h.kid hk).1
    have hreq : ∀ k ∈ kids t i, ACon Tryz.prog 64 [vTree t, .d (.int .i64 (k : Int))] [] (Is (wishV (wish t k))) := fun k hk => by
      obtain ⟨a, b, _⟩ := h.kid hk
      exact ih k (by omega) a
    have c1 := c_kidsI t h i
    have c2 := ORows.data (c_packsI t h _ hks hkl hreq)
    have c3 := c_gridI t h i h2 _ hks hkl hreq
    have c4 := c_preqI (itemsOf t (kids t i)) (items_ok h i).1 (items_ok h i).2
    have hrow := at_map (f := encNode) h2
    have hn := (nodeOk_iff (h.ok i h2)).1
    have hw := wish_eq h h2
    unfold wishOf at hw
    rw [nodeAt_eq h2] at hw
    by_cases hA : t[i].keep = true ∨ kids t i = [] ∨ t[i].kind = 2
    · rw [if_pos hA] at hw
      rw [hw]
      have hA' : t[i].keep = true ∨ (kids t i).length = 0 ∨ t[i].kind = 2 := by rw [List.length_eq_zero_iff]; exact hA
      clear hw hA hreq ih
      rcases hA' with hA | hA | hA
      all_goals
        refine ACon.introW tok (nt := 50) Tryz.func64 rfl rfl rfl (by kernel_rfl) rfl ?_
        repeat' (first | ((with_reducible apply xsim); (first | ((with_reducible apply xlenM); exact rfl; exact rfl) | ((with_reducible apply xo); exact rfl) | ((with_reducible apply xst); exact rfl) | with_reducible apply xend | ((with_reducible apply xguardS); exact rfl; exact rfl) | ((with_reducible apply xalloc); exact rfl; simp only [bkL, Nat.reduceAdd, Nat.reduceSub]) | ((with_reducible apply xbox); exact rfl; simp only [bkL, Nat.reduceAdd, Nat.reduceSub]) | ((with_reducible apply xidxL); exact rfl; exact rfl; exact rfl; (first | exact hrow); omega; first | exact rfl | simp only [hsz]))) | ((with_reducible apply xaw); (first | ((with_reducible apply xstepS); refine AW.step tok rfl ?_) | with_reducible (first | refine AW.seq ?_ | refine AW.block ?_ | refine AW.ret ?_) | ((with_reducible apply xcond); exact rfl) | ((with_reducible apply xdraw (id := 1)); refine AW.draw (id := 1) (.q 0 (.q 1 (.q 2 (.q 3 (.q 4 (.q 5 (.q 6 (.q 7 (.e 8 (.e 9 (.q 10 (.fin)))))))))))) tok (by kernel_rfl) rfl (by kernel_rfl) ?_) | ((with_reducible apply xdraw (id := 3)); refine AW.draw (id := 3) (.q 0 (.q 1 (.q 2 (.q 3 (.q 4 (.q 5 (.fin))))))) tok (by kernel_rfl) rfl (by kernel_rfl) ?_))) | ((with_reducible apply xarun); (first | ((with_reducible apply xrun_q); exact rfl; exact rfl; exact rfl) | ((with_reducible apply xrun_c); exact rfl; exact rfl; exact rfl; exact rfl; exact rfl; exact rfl; exact c1; exact rfl) | ((with_reducible apply xrun_e); exact rfl) | with_reducible apply xrun_f)) | with_reducible (first | refine xthen ?_ | refine xthen_r ?_ | refine xblock_r ?_) | (with_reducible intro hc; (try simp only [hcL, reduceCtorEq, List.length_map, hA] at hc); (try (exfalso; omega))) | with_reducible (first | exact trivial | refine And.intro ?_ ?_ | exact rfl) | exact Eq.refl true)
        all_goals (refine xfinIs (by first | exact .inl rfl | exact .inr rfl) rfl (by repeat' (first | exact trivial | exact rfl | refine And.intro ?_ ?_)) rfl ?_ rfl; first | (simp -implicitDefEqProofs only [go_sem, wishV] <;> (first | rfl | omega | exact decide_eq_decide.2 (by omega) | exact decide_eq_false (by omega) | exact decide_eq_true (by omega) | (symm; first | exact decide_eq_false (by omega) | exact decide_eq_true (by omega)) | (rw [Bool.eq_iff_iff]; simp only [boL, reduceCtorEq]; omega))))
    · rw [if_neg hA] at hw
      rw [not_or, not_or, ← List.length_eq_zero_iff] at hA
      obtain ⟨hk1, hk2, hk3⟩ := hA
      have hk1 : t[i].keep = false := by simpa using hk1
      by_cases hk0 : t[i].kind = 0
      · rw [if_pos hk0] at hw
        have hw : wish t i = preqs (itemsOf t (kids t i)) := hw
        rw [hw]
        clear hw hreq ih
        refine ACon.introW tok (nt := 50) Tryz.func64 rfl rfl rfl (by kernel_rfl) rfl ?_
        repeat' (first | ((with_reducible apply xsim); (first | ((with_reducible apply xlenM); exact rfl; exact rfl) | ((with_reducible apply xo); exact rfl) | ((with_reducible apply xst); exact rfl) | with_reducible apply xend | ((with_reducible apply xguardS); exact rfl; exact rfl) | ((with_reducible apply xalloc); exact rfl; simp only [bkL, Nat.reduceAdd, Nat.reduceSub]) | ((with_reducible apply xbox); exact rfl; simp only [bkL, Nat.reduceAdd, Nat.reduceSub]) | ((with_reducible apply xidxL); exact rfl; exact rfl; exact rfl; (first | exact hrow); omega; first | exact rfl | simp only [hsz]) | ((with_reducible apply xcallIs); exact rfl; exact rfl; (first | exact c1 | exact c2 | exact c4); exact rfl))) | ((with_reducible apply xaw); (first | ((with_reducible apply xstepS); refine AW.step tok rfl ?_) | with_reducible (first | refine AW.seq ?_ | refine AW.block ?_ | refine AW.ret ?_) | ((with_reducible apply xcond); exact rfl) | ((with_reducible apply xdraw (id := 1)); refine AW.draw (id := 1) (.q 0 (.q 1 (.q 2 (.q 3 (.q 4 (.q 5 (.q 6 (.q 7 (.e 8 (.e 9 (.q 10 (.fin)))))))))))) tok (by kernel_rfl) rfl (by kernel_rfl) ?_))) | ((with_reducible apply xarun); (first | ((with_reducible apply xrun_q); exact rfl; exact rfl; exact rfl) | ((with_reducible apply xrun_c); exact rfl; exact rfl; exact rfl; exact rfl; exact rfl; exact rfl; (first | exact c1 | exact c2 | exact c4); exact rfl) | ((with_reducible apply xrun_e); exact rfl) | with_reducible apply xrun_f)) | with_reducible (first | refine xthen ?_ | refine xthen_r ?_ | refine xblock_r ?_) | (with_reducible intro hc; (try simp only [hcL, reduceCtorEq, List.length_map, hk1] at hc); (try (exfalso; omega))) | with_reducible (first | exact trivial | refine And.intro ?_ ?_ | exact rfl) | exact Eq.refl true)
        all_goals (refine xfinIs (by first | exact .inl rfl | exact .inr rfl) rfl (by repeat' (first | exact trivial | exact rfl | refine And.intro ?_ ?_)) rfl ?_ rfl; first | (simp -implicitDefEqProofs only [go_sem, wishV] <;> (first | rfl | omega | exact decide_eq_decide.2 (by omega) | exact decide_eq_false (by omega) | exact decide_eq_true (by omega) | (symm; first | exact decide_eq_false (by omega) | exact decide_eq_true (by omega)) | (rw [Bool.eq_iff_iff]; simp only [boL, reduceCtorEq]; omega))))
      · rw [if_neg hk0] at hw
        have hk1' : (nodeAt t i).kind = 1 := by rw [nodeAt_eq h2]; omega
        have c5 := c_requestI (gridOf t i (kids t i)) (grid_ok h h2 hk1')
        have hw : wish t i = gridReq (gridOf t i (kids t i)) := by rw [hw, ← nodeAt_eq h2]; rfl
        rw [hw]
        clear hw hreq ih
        refine ACon.introW tok (nt := 50) Tryz.func64 rfl rfl rfl (by kernel_rfl) rfl ?_
        repeat' (first | ((with_reducible apply xsim); (first | ((with_reducible apply xlenM); exact rfl; exact rfl) | ((with_reducible apply xo); exact rfl) | ((with_reducible apply xst); exact rfl) | with_reducible apply xend | ((with_reducible apply xguardS); exact rfl; exact rfl) | ((with_reducible apply xalloc); exact rfl; simp only [bkL, Nat.reduceAdd, Nat.reduceSub]) | ((with_reducible apply xbox); exact rfl; simp only [bkL, Nat.reduceAdd, Nat.reduceSub]) | ((with_reducible apply xidxL); exact rfl; exact rfl; exact rfl; (first | exact hrow); omega; first | exact rfl | simp only [hsz]) | ((with_reducible apply xcallIs); exact rfl; exact rfl; (first | exact c1 | exact c3 | exact c5); exact rfl))) | ((with_reducible apply xaw); (first | ((with_reducible apply xstepS); refine AW.step tok rfl ?_) | with_reducible (first | refine AW.seq ?_ | refine AW.block ?_ | refine AW.skip ?_ | refine AW.ret ?_) | ((with_reducible apply xcond); exact rfl) | ((with_reducible apply xdraw (id := 1)); refine AW.draw (id := 1) (.q 0 (.q 1 (.q 2 (.q 3 (.q 4 (.q 5 (.q 6 (.q 7 (.e 8 (.e 9 (.q 10 (.fin)))))))))))) tok (by kernel_rfl) rfl (by kernel_rfl) ?_))) | ((with_reducible apply xarun); (first | ((with_reducible apply xrun_q); exact rfl; exact rfl; exact rfl) | ((with_reducible apply xrun_c); exact rfl; exact rfl; exact rfl; exact rfl; exact rfl; exact rfl; (first | exact c1 | exact c3 | exact c5); exact rfl) | ((with_reducible apply xrun_e); exact rfl) | with_reducible apply xrun_f)) | with_reducible (first | refine xthen ?_ | refine xblock ?_) | (with_reducible intro hc; (try simp only [hcL, reduceCtorEq, List.length_map, hk1] at hc); (try (exfalso; omega))) | with_reducible (first | exact trivial | refine And.intro ?_ ?_ | exact rfl) | exact Eq.refl true)
        all_goals (refine xfinIs (by first | exact .inl rfl | exact .inr rfl) rfl (by repeat' (first | exact trivial | exact rfl | refine And.intro ?_ ?_)) rfl ?_ rfl; first | (simp -implicitDefEqProofs only [go_sem, wishV] <;> (first | rfl | omega | exact decide_eq_decide.2 (by omega) | exact decide_eq_false (by omega) | exact decide_eq_true (by omega) | (symm; first | exact decide_eq_false (by omega) | exact decide_eq_true (by omega)) | (rw [Bool.eq_iff_iff]; simp only [boL, reduceCtorEq]; omega))))

set_option maxRecDepth 8000 in
set_option maxHeartbeats 4000000 in
theorem c_reqS (t : List Node) (h : TreeK t) : ∀ m i : Nat, t.length - i ≤ m → i < t.length → ACon Tryz.prog 66 [vTree t, .d (.int .i64 (i : Int))] [] (Is (wishV (wish t i))) := by
  intro m
  induction m with
  | zero => intro i h1 h2; omega
  | succ m ih =>
    intro i h1 h2
    have hhi := h.hi
    have hkl : (kids t i).length ≤ 10 := by have := kids_len t i t.length; unfold kids; omega
    have hks : ∀ k ∈ kids t i, k < t.length := fun k hk => (h.kid hk).1
    have hreq : ∀ k ∈ kids t i, ACon Tryz.prog 66 [vTree t, .d (.int .i64 (k : Int))] [] (Is (wishV (wish t k))) := fun k hk => by
      obtain ⟨a, b, _⟩ := h.kid hk
      exact ih k (by omega) a
    have c1 := c_kidsS t h i
    have c2 := ORows.data (c_packsS t h _ hks hkl hreq)
    have c3 := c_gridS t h i h2 _ hks hkl hreq
    have c4 := c_preqS (itemsOf t (kids t i)) (items_ok h i).1 (items_ok h i).2
    have hrow := at_map (f := encNode) h2
    have hn := (nodeOk_iff (h.ok i h2)).1
    have hw := wish_eq h h2
    unfold wishOf at hw
    rw [nodeAt_eq h2] at hw
    by_cases hA : t[i].keep = true ∨ kids t i = [] ∨ t[i].kind = 2
    · rw [if_pos hA] at hw
      rw [hw]
      have hA' : t[i].keep = true ∨ (kids t i).length = 0 ∨ t[i].kind = 2 := by rw [List.length_eq_zero_iff]; exact hA
      clear hw hA hreq ih
      rcases hA' with hA | hA | hA
      all_goals
        refine ACon.introW tok (nt := 48) Tryz.func66 rfl rfl rfl (by kernel_rfl) rfl ?_
        repeat' (first | ((with_reducible apply xsim); (first | ((with_reducible apply xlenM); exact rfl; exact rfl) | ((with_reducible apply xo); exact rfl) | ((with_reducible apply xst); exact rfl) | with_reducible apply xend | ((with_reducible apply xguardS); exact rfl; exact rfl) | ((with_reducible apply xalloc); exact rfl; simp only [bkL, Nat.reduceAdd, Nat.reduceSub]) | ((with_reducible apply xbox); exact rfl; simp only [bkL, Nat.reduceAdd, Nat.reduceSub]) | ((with_reducible apply xidxL); exact rfl; exact rfl; exact rfl; (first | exact hrow); omega; first | exact rfl | simp only [hsz]) | ((with_reducible apply xcallIs); exact rfl; exact rfl; exact c1; exact rfl))) | ((with_reducible apply xaw); (first | ((with_reducible apply xstepS); refine AW.step tok rfl ?_) | with_reducible (first | refine AW.seq ?_ | refine AW.ret ?_) | ((with_reducible apply xcond); exact rfl) | ((with_reducible apply xdraw (id := 4)); refine AW.draw (id := 4) (.q 0 (.q 1 (.q 2 (.q 3 (.q 4 (.q 5 (.fin))))))) tok (by kernel_rfl) rfl (by kernel_rfl) ?_))) | ((with_reducible apply xarun); (first | ((with_reducible apply xrun_q); exact rfl; exact rfl; exact rfl) | with_reducible apply xrun_f)) | with_reducible (first | refine xthen ?_ | refine xthen_r ?_) | (with_reducible intro hc; (try simp only [hcL, reduceCtorEq, List.length_map, hA] at hc); (try (exfalso; omega))) | with_reducible (first | exact trivial | refine And.intro ?_ ?_ | exact rfl) | exact Eq.refl true)
        all_goals (refine xfinIs (by first | exact .inl rfl | exact .inr rfl) rfl (by repeat' (first | exact trivial | exact rfl | refine And.intro ?_ ?_)) rfl ?_ rfl; first | (simp -implicitDefEqProofs only [go_sem, wishV] <;> (first | rfl | omega | exact decide_eq_decide.2 (by omega) | exact decide_eq_false (by omega) | exact decide_eq_true (by omega) | (symm; first | exact decide_eq_false (by omega) | exact decide_eq_true (by omega)) | (rw [Bool.eq_iff_iff]; simp only [boL, reduceCtorEq]; omega))))
    · rw [if_neg hA] at hw
      rw [not_or, not_or, ← List.length_eq_zero_iff] at hA
      obtain ⟨hk1, hk2, hk3⟩ := hA
      have hk1 : t[i].keep = false := by simpa using hk1
      by_cases hk0 : t[i].kind = 0
      · rw [if_pos hk0] at hw
        have hw : wish t i = preqs (itemsOf t (kids t i)) := hw
        rw [hw]
        clear hw hreq ih
        refine ACon.introW tok (nt := 48) Tryz.func66 rfl rfl rfl (by kernel_rfl) rfl ?_
        repeat' (first | ((with_reducible apply xsim); (first | ((with_reducible apply xlenM); exact rfl; exact rfl) | ((with_reducible apply xo); exact rfl) | ((with_reducible apply xst); exact rfl) | with_reducible apply xend | ((with_reducible apply xguardS); exact rfl; exact rfl) | ((with_reducible apply xalloc); exact rfl; simp only [bkL, Nat.reduceAdd, Nat.reduceSub]) | ((with_reducible apply xbox); exact rfl; simp only [bkL, Nat.reduceAdd, Nat.reduceSub]) | ((with_reducible apply xidxL); exact rfl; exact rfl; exact rfl; (first | exact hrow); omega; first | exact rfl | simp only [hsz]) | ((with_reducible apply xcallIs); exact rfl; exact rfl; (first | exact c1 | exact c2 | exact c4); exact rfl))) | ((with_reducible apply xaw); (first | ((with_reducible apply xstepS); refine AW.step tok rfl ?_) | with_reducible (first | refine AW.seq ?_ | refine AW.skip ?_ | refine AW.ret ?_) | ((with_reducible apply xcond); exact rfl))) | with_reducible (first | refine xthen ?_ | refine xthen_r ?_) | (with_reducible intro hc; (try simp only [hcL, reduceCtorEq, List.length_map, hk1] at hc); (try (exfalso; omega))) | with_reducible (first | exact trivial | refine And.intro ?_ ?_ | exact rfl) | exact Eq.refl true)
        all_goals (refine xfinIs (by first | exact .inl rfl | exact .inr rfl) rfl (by repeat' (first | exact trivial | exact rfl | refine And.intro ?_ ?_)) rfl ?_ rfl; first | (simp -implicitDefEqProofs only [go_sem, wishV] <;> (first | rfl | omega | exact decide_eq_decide.2 (by omega) | exact decide_eq_false (by omega) | exact decide_eq_true (by omega) | (symm; first | exact decide_eq_false (by omega) | exact decide_eq_true (by omega)) | (rw [Bool.eq_iff_iff]; simp only [boL, reduceCtorEq]; omega))))
      · rw [if_neg hk0] at hw
        have hk1' : (nodeAt t i).kind = 1 := by rw [nodeAt_eq h2]; omega
        have c5 := c_requestS (gridOf t i (kids t i)) (grid_ok h h2 hk1')
        have hw : wish t i = gridReq (gridOf t i (kids t i)) := by rw [hw, ← nodeAt_eq h2]; rfl
        rw [hw]
        clear hw hreq ih
        refine ACon.introW tok (nt := 48) Tryz.func66 rfl rfl rfl (by kernel_rfl) rfl ?_
        repeat' (first | ((with_reducible apply xsim); (first | ((with_reducible apply xlenM); exact rfl; exact rfl) | ((with_reducible apply xo); exact rfl) | ((with_reducible apply xst); exact rfl) | with_reducible apply xend | ((with_reducible apply xguardS); exact rfl; exact rfl) | ((with_reducible apply xalloc); exact rfl; simp only [bkL, Nat.reduceAdd, Nat.reduceSub]) | ((with_reducible apply xbox); exact rfl; simp only [bkL, Nat.reduceAdd, Nat.reduceSub]) | ((with_reducible apply xidxL); exact rfl; exact rfl; exact rfl; (first | exact hrow); omega; first | exact rfl | simp only [hsz]) | ((with_reducible apply xcallIs); exact rfl; exact rfl; (first | exact c1 | exact c3 | exact c5); exact rfl))) | ((with_reducible apply xaw); (first | ((with_reducible apply xstepS); refine AW.step tok rfl ?_) | with_reducible (first | refine AW.seq ?_ | refine AW.skip ?_ | refine AW.ret ?_) | ((with_reducible apply xcond); exact rfl))) | with_reducible refine xthen ?_ | (with_reducible intro hc; (try simp only [hcL, reduceCtorEq, List.length_map, hk1] at hc); (try (exfalso; omega))) | with_reducible (first | exact trivial | refine And.intro ?_ ?_ | exact rfl) | exact Eq.refl true)
        all_goals (refine xfinIs (by first | exact .inl rfl | exact .inr rfl) rfl (by repeat' (first | exact trivial | exact rfl | refine And.intro ?_ ?_)) rfl ?_ rfl; first | (simp -implicitDefEqProofs only [go_sem, wishV] <;> (first | rfl | omega | exact decide_eq_decide.2 (by omega) | exact decide_eq_false (by omega) | exact decide_eq_true (by omega) | (symm; first | exact decide_eq_false (by omega) | exact decide_eq_true (by omega)) | (rw [Bool.eq_iff_iff]; simp only [boL, reduceCtorEq]; omega))))

theorem c_request (t : List Node) (h : TreeK t) (i : Nat) (hi : i < t.length) : ACon Tryz.prog 64 [vTree t, .d (.int .i64 (i : Int))] [] (Is (wishV (wish t i))) := c_reqI t h _ i (Nat.le_refl _) hi
theorem c_sizeOf (t : List Node) (h : TreeK t) (i : Nat) (hi : i < t.length) : ACon Tryz.prog 66 [vTree t, .d (.int .i64 (i : Int))] [] (Is (wishV (wish t i))) := c_reqS t h _ i (Nat.le_refl _) hi
end Go.Proofs.YtpfhnhhkfobjnaaGreat

namespace Go.Proofs.YtpfhnhhkfobjnaaGreat
open Go.Fw
attribute [local irreducible] Go.Fw.aops Go.Fw.arun

theorem c_validTree (t : List Node) (hL : TreeL t) : ACon Tryz.prog 52 [vTree t] [] (Is (.d (.bool (treeOk t)))) := by
  have hL' := hL
  obtain ⟨hL1, _⟩ := hL'
  refine ACon.introW tok (nt := 19) Tryz.func52 rfl rfl rfl (by kernel_rfl) rfl ?_
  repeat' (first | ((with_reducible apply xsim); (first | ((with_reducible apply xo); exact rfl) | with_reducible apply xend | ((with_reducible apply xbox); exact rfl; simp only [bkL, Nat.reduceAdd, Nat.reduceSub]))) | ((with_reducible apply xaw); (first | ((with_reducible apply xstepS); refine AW.step tok rfl ?_) | with_reducible (first | refine AW.seq ?_ | refine AW.block ?_))) | with_reducible exact trivial)
  refine AW.loop (S := fun k : Nat => ⟨[(1, .oref 0 0), (3, .d (.int .i64 k))], [.box [.d (.lst (t.map encNode))]], 19, .p 0⟩)
    (Pre := fun k => k ≤ t.length ∧ ∀ j (h : j < t.length), j < k → (nodeOk t[j] && upOk t j t[j]) = true) (μ := fun k => t.length - k) 0 ⟨Nat.zero_le _, fun j _ h => absurd h (Nat.not_lt_zero _)⟩ ?_ ?_
  · (refine xwk (π := [0]) (by decide) rfl ?_ ?_; (first | simp -implicitDefEqProofs only [go_sem]); repeat' (first | exact renE_n | ((with_reducible apply renE_c); exact rfl; focus (first | (simp -implicitDefEqProofs only [go_sem]; done)))))
  rintro k ⟨hk, hp⟩
  by_cases hlt : k < t.length
  · have cn := c_validNode t hL k hlt
    by_cases hv : (nodeOk t[k] && upOk t k t[k]) = true
    · rw [hv] at cn
      repeat' (first | ((with_reducible apply xsim); (first | ((with_reducible apply xlenM); exact rfl; exact rfl) | ((with_reducible apply xo); exact rfl) | with_reducible apply xend | ((with_reducible apply xcallIs); exact rfl; exact rfl; exact cn; exact rfl))) | ((with_reducible apply xaw); (first | ((with_reducible apply xstepS); refine AW.step tok rfl ?_) | ((with_reducible apply xstep); refine AW.region tok rfl ?_) | with_reducible (first | refine AW.seq ?_ | refine AW.block ?_ | refine AW.skip ?_) | ((with_reducible apply xcond); exact rfl))) | with_reducible (first | refine xthen ?_ | refine xblock ?_) | (with_reducible intro hc; (try simp only [hcL, reduceCtorEq, List.length_map] at hc); (try (exfalso; omega))) | with_reducible (first | exact trivial | refine And.intro ?_ ?_ | exact rfl) | exact Eq.refl true | (refine inR_i64.mpr ?_; first | omega | (simp only [List.length_map, List.length_map]; omega)))
      refine round_end (k + 1) ⟨by omega, fun j h hj => ?_⟩ (by omega) (by (refine xwk (π := [0]) (by decide) rfl ?_ ?_; (first | simp -implicitDefEqProofs only [go_sem]); repeat' (first | exact renE_n | ((with_reducible apply renE_c); exact rfl; focus (first | (simp -implicitDefEqProofs only [go_sem]; done))))))
      by_cases e : j = k
      · subst e; exact hv
      · exact hp j h (by omega)
    · have hv' : (nodeOk t[k] && upOk t k t[k]) = false := by simpa using hv
      rw [hv'] at cn
      repeat' (first | ((with_reducible apply xsim); (first | ((with_reducible apply xlenM); exact rfl; exact rfl) | ((with_reducible apply xo); exact rfl) | with_reducible apply xend | ((with_reducible apply xcallIs); exact rfl; exact rfl; exact cn; exact rfl))) | ((with_reducible apply xaw); (first | ((with_reducible apply xstepS); refine AW.step tok rfl ?_) | with_reducible (first | refine AW.seq ?_ | refine AW.block ?_ | refine AW.skip ?_ | refine AW.ret ?_) | ((with_reducible apply xcond); exact rfl))) | with_reducible (first | refine xthen ?_ | refine xthen_r ?_ | refine xblock_r ?_ | refine xround_r ?_) | (with_reducible intro hc; (try simp only [hcL, reduceCtorEq, List.length_map] at hc); (try (exfalso; omega))) | with_reducible (first | exact trivial | refine And.intro ?_ ?_ | exact rfl) | exact Eq.refl true)
      (refine xfinIs (by first | exact .inl rfl | exact .inr rfl) rfl (by repeat' (first | exact trivial | exact rfl | refine And.intro ?_ ?_)) rfl ?_ rfl; first | (simp -implicitDefEqProofs only [go_sem, treeOk_ff hlt hv'] <;> (first | rfl | omega | exact decide_eq_decide.2 (by omega) | exact decide_eq_false (by omega) | exact decide_eq_true (by omega) | (symm; first | exact decide_eq_false (by omega) | exact decide_eq_true (by omega)) | (rw [Bool.eq_iff_iff]; simp only [boL, reduceCtorEq]; omega))))
  · by_cases hlen : 1 ≤ t.length ∧ t.length ≤ 10
    · repeat' (first | ((with_reducible apply xsim); (first | ((with_reducible apply xlenM); exact rfl; exact rfl) | ((with_reducible apply xo); exact rfl) | with_reducible apply xend | ((with_reducible apply xcallIs); exact rfl; exact rfl; exact c_inRange _ _ _; exact rfl))) | ((with_reducible apply xaw); (first | ((with_reducible apply xstepS); refine AW.step tok rfl ?_) | with_reducible (first | refine AW.seq ?_ | refine AW.ret ?_ | refine AW.exit ?_) | ((with_reducible apply xcond); exact rfl))) | with_reducible (first | refine xthen ?_ | refine xthen_e ?_ | refine xblock_e ?_ | refine xround_e ?_) | (with_reducible intro hc; (try simp only [hcL, reduceCtorEq, List.length_map] at hc); (try (exfalso; omega))) | with_reducible (first | exact trivial | refine And.intro ?_ ?_ | exact rfl))
      (refine xfinIs (by first | exact .inl rfl | exact .inr rfl) rfl (by repeat' (first | exact trivial | exact rfl | refine And.intro ?_ ?_)) rfl ?_ rfl; first | (simp -implicitDefEqProofs only [go_sem, treeOk_tt hlen fun i h => hp i h (by omega)] <;> (first | rfl | omega | exact decide_eq_decide.2 (by omega) | exact decide_eq_false (by omega) | exact decide_eq_true (by omega) | (symm; first | exact decide_eq_false (by omega) | exact decide_eq_true (by omega)) | (rw [Bool.eq_iff_iff]; simp only [boL, reduceCtorEq]; omega))))
    · repeat' (first | ((with_reducible apply xsim); (first | ((with_reducible apply xlenM); exact rfl; exact rfl) | ((with_reducible apply xo); exact rfl) | with_reducible apply xend | ((with_reducible apply xcallIs); exact rfl; exact rfl; exact c_inRange _ _ _; exact rfl))) | ((with_reducible apply xaw); (first | ((with_reducible apply xstepS); refine AW.step tok rfl ?_) | with_reducible (first | refine AW.seq ?_ | refine AW.ret ?_ | refine AW.exit ?_) | ((with_reducible apply xcond); exact rfl))) | with_reducible (first | refine xthen ?_ | refine xthen_e ?_ | refine xblock_e ?_ | refine xround_e ?_) | (with_reducible intro hc; (try simp only [hcL, reduceCtorEq, List.length_map] at hc); (try (exfalso; omega))) | with_reducible (first | exact trivial | refine And.intro ?_ ?_ | exact rfl))
      (refine xfinIs (by first | exact .inl rfl | exact .inr rfl) rfl (by repeat' (first | exact trivial | exact rfl | refine And.intro ?_ ?_)) rfl ?_ rfl; first | (simp -implicitDefEqProofs only [go_sem, treeOk_len hlen] <;> (first | rfl | omega | exact decide_eq_decide.2 (by omega) | exact decide_eq_false (by omega) | exact decide_eq_true (by omega) | (symm; first | exact decide_eq_false (by omega) | exact decide_eq_true (by omega)) | (rw [Bool.eq_iff_iff]; simp only [boL, reduceCtorEq]; omega))))

/-- The tree is valid and has the node. -/
def goodN (t : List Node) (i : Int) : Bool := treeOk t && decide (0 ≤ i ∧ i ≤ (t.length : Int) - 1)
theorem goodN_iff {t : List Node} {i : Int} : goodN t i = true ↔ treeOk t = true ∧ 0 ≤ i ∧ i.toNat < t.length := by
  simp only [goodN, Bool.and_eq_true, decide_eq_true_eq]
  refine and_congr_right fun _ => ?_
  omega
def reqOf (t : List Node) (i : Int) : Int × Int := if goodN t i = true then wish t i.toNat else (-1, -1)

theorem c_ReqOfI (t : List Node) (hL : TreeL t) (i : Int) : ACon Tryz.prog 67 [vTree t, .d (.int .i64 i)] [] (Is (wishV (reqOf t i))) := by
  have hL1 := hL.1
  have c1 := c_ValidTree t hL
  cases ht : treeOk t
  · rw [ht] at c1
    have hg : goodN t i = false := by rw [goodN, ht, Bool.false_and]
    refine ACon.introW tok (nt := 23) Tryz.func67 rfl rfl rfl (by kernel_rfl) rfl ?_
    repeat' (first | ((with_reducible apply xsim); (first | ((with_reducible apply xo); exact rfl) | with_reducible apply xend | ((with_reducible apply xguardS); exact rfl; exact rfl) | ((with_reducible apply xbox); exact rfl; simp only [bkL, Nat.reduceAdd, Nat.reduceSub]) | ((with_reducible apply xcallIs); exact rfl; exact rfl; exact c1; exact rfl))) | ((with_reducible apply xaw); (first | ((with_reducible apply xstepS); refine AW.step tok rfl ?_) | with_reducible (first | refine AW.seq ?_ | refine AW.ret ?_) | ((with_reducible apply xcond); exact rfl))) | with_reducible refine xthen_r ?_ | (with_reducible intro hc; (try simp only [hcL, reduceCtorEq, List.length_map] at hc); (try (exfalso; omega))) | with_reducible exact trivial | exact Eq.refl true)
    all_goals (refine xfinIs (by first | exact .inl rfl | exact .inr rfl) rfl (by repeat' (first | exact trivial | exact rfl | refine And.intro ?_ ?_)) rfl ?_ rfl; first | (simp -implicitDefEqProofs only [go_sem, reqOf, hg, wishV, Bool.false_eq_true] <;> (first | rfl | omega | exact decide_eq_decide.2 (by omega) | exact decide_eq_false (by omega) | exact decide_eq_true (by omega) | (symm; first | exact decide_eq_false (by omega) | exact decide_eq_true (by omega)) | (rw [Bool.eq_iff_iff]; simp only [boL, reduceCtorEq]; omega))))
  · rw [ht] at c1
    by_cases hi : 0 ≤ i ∧ i ≤ (t.length : Int) - 1
    · have hg : goodN t i = true := by rw [goodN, ht, Bool.true_and]; exact decide_eq_true hi
      have c2 := c_request t (treeK ht) i.toNat (by omega)
      rw [Int.toNat_of_nonneg hi.1] at c2
      have e : reqOf t i = wish t i.toNat := by rw [reqOf, if_pos hg]
      rw [e]
      refine ACon.introW tok (nt := 23) Tryz.func67 rfl rfl rfl (by kernel_rfl) rfl ?_
      repeat' (first | ((with_reducible apply xsim); (first | ((with_reducible apply xlenM); exact rfl; exact rfl) | ((with_reducible apply xo); exact rfl) | with_reducible apply xend | ((with_reducible apply xguardS); exact rfl; exact rfl) | ((with_reducible apply xbox); exact rfl; simp only [bkL, Nat.reduceAdd, Nat.reduceSub]) | ((with_reducible apply xcallIs); exact rfl; exact rfl; (first | exact c1 | exact c_within _ _ _ | exact c2); exact rfl))) | ((with_reducible apply xaw); (first | ((with_reducible apply xstepS); refine AW.step tok rfl ?_) | with_reducible (first | refine AW.seq ?_ | refine AW.skip ?_ | refine AW.ret ?_) | ((with_reducible apply xcond); exact rfl))) | with_reducible refine xthen ?_ | (with_reducible intro hc; (try simp only [hcL, reduceCtorEq, List.length_map] at hc); (try (exfalso; omega))) | with_reducible (first | exact trivial | refine And.intro ?_ ?_ | exact rfl) | exact Eq.refl true | (refine inR_i64.mpr ?_; first | omega | (simp only [List.length_map, List.length_map]; omega)))
      all_goals (refine xfinIs (by first | exact .inl rfl | exact .inr rfl) rfl (by repeat' (first | exact trivial | exact rfl | refine And.intro ?_ ?_)) rfl ?_ rfl; first | (simp -implicitDefEqProofs only [go_sem, wishV] <;> (first | rfl | omega | exact decide_eq_decide.2 (by omega) | exact decide_eq_false (by omega) | exact decide_eq_true (by omega) | (symm; first | exact decide_eq_false (by omega) | exact decide_eq_true (by omega)) | (rw [Bool.eq_iff_iff]; simp only [boL, reduceCtorEq]; omega))))
    · have hg : goodN t i = false := by rw [goodN, ht, Bool.true_and]; exact decide_eq_false hi
      refine ACon.introW tok (nt := 23) Tryz.func67 rfl rfl rfl (by kernel_rfl) rfl ?_
      repeat' (first | ((with_reducible apply xsim); (first | ((with_reducible apply xlenM); exact rfl; exact rfl) | ((with_reducible apply xo); exact rfl) | with_reducible apply xend | ((with_reducible apply xguardS); exact rfl; exact rfl) | ((with_reducible apply xbox); exact rfl; simp only [bkL, Nat.reduceAdd, Nat.reduceSub]) | ((with_reducible apply xcallIs); exact rfl; exact rfl; (first | exact c1 | exact c_within _ _ _); exact rfl))) | ((with_reducible apply xaw); (first | ((with_reducible apply xstepS); refine AW.step tok rfl ?_) | with_reducible (first | refine AW.seq ?_ | refine AW.ret ?_) | ((with_reducible apply xcond); exact rfl))) | with_reducible refine xthen_r ?_ | (with_reducible intro hc; (try simp only [hcL, reduceCtorEq, List.length_map] at hc); (try (exfalso; omega))) | with_reducible (first | exact trivial | refine And.intro ?_ ?_ | exact rfl) | exact Eq.refl true | (refine inR_i64.mpr ?_; first | omega | (simp only [List.length_map, List.length_map]; omega)))
      all_goals (refine xfinIs (by first | exact .inl rfl | exact .inr rfl) rfl (by repeat' (first | exact trivial | exact rfl | refine And.intro ?_ ?_)) rfl ?_ rfl; first | (simp -implicitDefEqProofs only [go_sem, reqOf, hg, wishV, Bool.false_eq_true] <;> (first | rfl | omega | exact decide_eq_decide.2 (by omega) | exact decide_eq_false (by omega) | exact decide_eq_true (by omega) | (symm; first | exact decide_eq_false (by omega) | exact decide_eq_true (by omega)) | (rw [Bool.eq_iff_iff]; simp only [boL, reduceCtorEq]; omega))))

/-! Ways up. -/
end Go.Proofs.YtpfhnhhkfobjnaaGreat

namespace Go.Proofs.YtpfhnhhkfobjnaaGreat
open Go.Fw

theorem okTree_szT {t : List Node} (ht : okTree t) : t.length < 2^63 ∧ ∀ x ∈ t, x.cols.length < 2^63 ∧ x.rows.length < 2^63 := by
  have hb : maxLen < 2^63 := by decide
  refine ⟨by have := ht.1; omega, fun x hx => ?_⟩
  obtain ⟨a, b⟩ := ht.2 x hx
  omega
theorem small_L {t : List Node} (h : t.length ≤ 2^20 ∧ ∀ x ∈ t, x.cols.length ≤ 2^20 ∧ x.rows.length ≤ 2^20) : TreeL t := ⟨by omega, fun i hi => by have := h.2 _ (List.getElem_mem hi); omega⟩
end Go.Proofs.YtpfhnhhkfobjnaaGreat

namespace Go.Proofs.YtpfhnhhkfobjnaaGreat
open Go.Fw
attribute [local irreducible] Go.Fw.aops Go.Fw.arun

/-! The tree that is handed to the program, as data of new memory. -/
theorem c_toLineSH (n : Nat) (ls : List Line) (h : ls.length ≤ 2^20) : AXon Tryz.prog (.hi n) 96 [.d (.lst (ls.map encLine))] (Is (.hd n (.lst (ls.map encLine)))) :=
  (AXon.of_con (c_toLineS ls h) rfl).data (fun _ => ⟨.inl ⟨rfl, rfl⟩, .inl ⟨rfl, rfl⟩, trivial⟩)
@[go_sem] def encNodeH (m : Nat) (n : Node) : List D := .int .i64 n.parent :: .int .i64 n.w :: .int .i64 n.h :: .bool n.keep :: .int .i64 n.kind :: .hi m (.lst (n.cols.map encLine)) :: .hi m (.lst (n.rows.map encLine)) :: [
  .int .i64 n.pack.w, .int .i64 n.pack.h, .int .i64 n.pack.side, .bool n.pack.fillX, .bool n.pack.fillY, .bool n.pack.expand, .int .i64 n.pack.anchor, .int .i64 n.pack.padX, .int .i64 n.pack.padY,
  .int .i64 n.cell.col, .int .i64 n.cell.row, .int .i64 n.cell.manyCols, .int .i64 n.cell.manyRows, .int .i64 n.cell.w, .int .i64 n.cell.h, .int .i64 n.cell.stick, .int .i64 n.cell.padX, .int .i64 n.cell.padY,
  .int .i64 n.place.x, .int .i64 n.place.y, .int .i64 n.place.relX, .int .i64 n.place.relY, .int .i64 n.place.w, .int .i64 n.place.h, .int .i64 n.place.relW, .int .i64 n.place.relH, .int .i64 n.place.anchor]
@[go_sem] def vNodeH (m : Nat) (n : Node) : V := .agg (.d (.int .i64 n.parent) :: .d (.int .i64 n.w) :: .d (.int .i64 n.h) :: .d (.bool n.keep) :: .d (.int .i64 n.kind) :: .hd m (.lst (n.cols.map encLine)) :: .hd m (.lst (n.rows.map encLine)) :: [
  .d (.int .i64 n.pack.w), .d (.int .i64 n.pack.h), .d (.int .i64 n.pack.side), .d (.bool n.pack.fillX), .d (.bool n.pack.fillY), .d (.bool n.pack.expand), .d (.int .i64 n.pack.anchor), .d (.int .i64 n.pack.padX), .d (.int .i64 n.pack.padY),
  .d (.int .i64 n.cell.col), .d (.int .i64 n.cell.row), .d (.int .i64 n.cell.manyCols), .d (.int .i64 n.cell.manyRows), .d (.int .i64 n.cell.w), .d (.int .i64 n.cell.h), .d (.int .i64 n.cell.stick), .d (.int .i64 n.cell.padX), .d (.int .i64 n.cell.padY),
  .d (.int .i64 n.place.x), .d (.int .i64 n.place.y), .d (.int .i64 n.place.relX), .d (.int .i64 n.place.relY), .d (.int .i64 n.place.w), .d (.int .i64 n.place.h), .d (.int .i64 n.place.relW), .d (.int .i64 n.place.relH), .d (.int .i64 n.place.anchor)])
@[go_sem] def vTreeH (m : Nat) (t : List Node) : V := .agg [.hd m (.lst (t.map encNode))]
set_option maxRecDepth 8000 in
set_option maxHeartbeats 4000000 in
theorem c_toNodeH (m : Nat) (x : Node) (h1 : x.cols.length ≤ 2^20) (h2 : x.rows.length ≤ 2^20) : AXon Tryz.prog (.hi m) 73 [vNode x] (Is (vNodeH m x)) := by
  refine AXon.introW tok (nt := 40) Tryz.func73 rfl rfl rfl (by kernel_rfl) rfl ?_
  repeat' (first | ((with_reducible apply xsim); (first | ((with_reducible apply xo); exact rfl) | ((with_reducible apply xst); exact rfl) | with_reducible apply xend | ((with_reducible apply xalloc); exact rfl; simp only [bkL, Nat.reduceAdd, Nat.reduceSub]) | ((with_reducible apply xbox); exact rfl; simp only [bkL, Nat.reduceAdd, Nat.reduceSub]) | ((with_reducible apply xcallHi); exact rfl; exact rfl; exact rfl; exact c_toLineSH m _ h1; (first | exact .inl rfl | exact .inr rfl); exact rfl) | ((with_reducible apply xcallHi); exact rfl; exact rfl; exact rfl; exact c_toLineSH m _ h2; (first | exact .inl rfl | exact .inr rfl); exact rfl) | ((with_reducible apply xcallIs); exact rfl; exact rfl; (first | exact c_toPack x.pack | exact c_toCell x.cell | exact c_toPlace x.place); exact rfl))) | ((with_reducible apply xaw); (first | ((with_reducible apply xstepS); refine AW.step tok rfl ?_) | with_reducible refine AW.ret ?_)) | with_reducible (first | exact trivial | refine And.intro ?_ ?_) | exact Eq.refl true)
  all_goals (refine xfinIs (by first | exact .inl rfl | exact .inr rfl) rfl (by repeat' (first | exact trivial | exact rfl | refine And.intro ?_ ?_)) rfl ?_ rfl; first | (simp -implicitDefEqProofs only [go_sem] <;> (first | rfl | omega | exact decide_eq_decide.2 (by omega) | exact decide_eq_false (by omega) | exact decide_eq_true (by omega) | (symm; first | exact decide_eq_false (by omega) | exact decide_eq_true (by omega)) | (rw [Bool.eq_iff_iff]; simp only [boL, reduceCtorEq]; omega))))
set_option maxRecDepth 8000 in
set_option maxHeartbeats 4000000 in
theorem c_toNodeSH (m : Nat) (t : List Node) (hl : t.length ≤ 2^20) (hc : ∀ x ∈ t, x.cols.length ≤ 2^20 ∧ x.rows.length ≤ 2^20) : AXon Tryz.prog (.hi m) 46 [.d (.lst (t.map encNode))] (Own (.msl 0 34 0 t.length) [.arr 34 (t.map (encNodeH m))]) := by
  refine AXon.introW tok (nt := 23) Tryz.func46 rfl rfl rfl (by kernel_rfl) rfl ?_
  repeat' (first | ((with_reducible apply xsim); (first | ((with_reducible apply xlenM); exact rfl; exact rfl) | ((with_reducible apply xo); exact rfl) | with_reducible apply xend | simp -implicitDefEqProofs only [go_sem, List.length_map])) | ((with_reducible apply xaw); (first | ((with_reducible apply xstepS); refine AW.step tok rfl ?_) | with_reducible (first | refine AW.seq ?_ | refine AW.block ?_))) | with_reducible (first | exact trivial | refine And.intro ?_ ?_) | omega)
  refine AW.loop (S := fun k : Nat => ⟨[(0, .d (.lst (t.map encNode))), (3, .msl 0 34 0 t.length), (4, .d (.int .i64 k))], [.arr 34 (fillRows (encNodeH m) zNode t k)], 23, .hi m⟩)
    (Pre := fun k => k ≤ t.length) (μ := fun k => t.length - k) 0 (Nat.zero_le _) ?_ ?_
  · (refine xwk (π := [0]) (by decide) rfl ?_ ?_; (first | simp -implicitDefEqProofs only [go_sem, fillRows_zero, zNode]); repeat' (first | exact renE_n | ((with_reducible apply renE_c); exact rfl; focus (first | (simp -implicitDefEqProofs only [go_sem, fillRows_zero, zNode]; done)))))
  · intro k hk
    by_cases hlt : k < t.length
    · have hrow := at_map (f := encNode) hlt
      have hz := fillRows_at (enc := encNodeH m) (z := zNode) hlt
      have hset := fillRows_set (enc := encNodeH m) (z := zNode) hlt
      simp only [encNodeH] at hset
      have hx := hc _ (List.getElem_mem hlt)
      repeat' (first | ((with_reducible apply xsim); (first | ((with_reducible apply xlenM); exact rfl; exact rfl) | ((with_reducible apply xo); exact rfl) | with_reducible apply xend | ((with_reducible apply xidxL); exact rfl; exact rfl; exact rfl; (first | exact hrow | exact hz); omega; first | exact rfl | simp only [hsz]) | ((with_reducible apply xidxM); exact rfl; exact rfl; exact rfl; omega; omega; exact rfl) | ((with_reducible apply xstA); exact rfl; exact rfl; exact rfl; exact rfl; (first | exact hrow | exact hz); exact rfl; exact rfl; exact rfl; exact rfl; (try simp only [List.set_cons_zero, List.set_cons_succ, List.length_map])) | ((with_reducible apply xcallHi); exact rfl; exact rfl; exact rfl; exact c_toNodeH m t[k] hx.1 hx.2; (first | exact .inl rfl | exact .inr rfl); exact rfl))) | ((with_reducible apply xaw); (first | ((with_reducible apply xstepS); refine AW.step tok rfl ?_) | ((with_reducible apply xstep); refine AW.region tok rfl ?_) | with_reducible (first | refine AW.seq ?_ | refine AW.block ?_ | refine AW.skip ?_) | ((with_reducible apply xcond); exact rfl))) | with_reducible (first | refine xthen ?_ | refine xblock ?_) | (with_reducible intro hc; (try simp only [hcL, reduceCtorEq, List.length_map] at hc); (try (exfalso; omega))) | with_reducible (first | exact trivial | refine And.intro ?_ ?_ | exact rfl) | exact Eq.refl true | (refine inR_i64.mpr ?_; first | omega | (simp only [List.length_map, List.length_map]; omega)))
      refine round_end (k+1) hlt (by omega) (by (refine xwk (π := [0]) (by decide) rfl ?_ ?_; (first | simp -implicitDefEqProofs only [go_sem, hset]); repeat' (first | exact renE_n | ((with_reducible apply renE_c); exact rfl; focus (first | (simp -implicitDefEqProofs only [go_sem, hset]; done))))))
    · have hk' : k = t.length := by omega
      subst hk'
      have hfl := fillRows_len (enc := encNodeH m) (z := zNode) (Nat.le_refl t.length)
      repeat' (first | ((with_reducible apply xsim); (first | ((with_reducible apply xlenM); exact rfl; exact rfl) | ((with_reducible apply xo); exact rfl) | with_reducible apply xend)) | ((with_reducible apply xaw); (first | ((with_reducible apply xstepS); refine AW.step tok rfl ?_) | with_reducible (first | refine AW.seq ?_ | refine AW.ret ?_ | refine AW.exit ?_) | ((with_reducible apply xcond); exact rfl))) | with_reducible (first | refine xthen ?_ | refine xthen_e ?_ | refine xblock_e ?_ | refine xround_e ?_) | (with_reducible intro hc; (try simp only [hcL, reduceCtorEq, List.length_map] at hc); (try (exfalso; omega))) | with_reducible (first | exact trivial | refine And.intro ?_ ?_ | exact rfl))
      (refine xfinOwn [0] (by first | exact .inl rfl | exact .inr rfl) rfl (by repeat' (first | exact trivial | exact rfl | refine And.intro ?_ ?_)) (by decide) rfl ?_ ?_ <;> simp -implicitDefEqProofs only [go_sem, fillRows_all])
theorem srNode (m : Nat) (a : Node) : SR m (encNodeH m a) (encNode a) := by
  repeat' (first | exact trivial | refine And.intro (.inl ⟨rfl, rfl⟩) ?_ | refine And.intro (.inr rfl) ?_)
theorem c_toTreeH (m : Nat) (t : List Node) (hl : t.length ≤ 2^20) (hc : ∀ x ∈ t, x.cols.length ≤ 2^20 ∧ x.rows.length ≤ 2^20) : AXon Tryz.prog (.hi m) 14 [vTree t] (Is (vTreeH m t)) := by
  have c1 := (c_toNodeSH m t hl hc).data (srNode m)
  refine AXon.introW tok (nt := 9) Tryz.func14 rfl rfl rfl (by kernel_rfl) rfl ?_
  repeat' (first | ((with_reducible apply xsim); (first | ((with_reducible apply xo); exact rfl) | ((with_reducible apply xst); exact rfl) | with_reducible apply xend | ((with_reducible apply xalloc); exact rfl; simp only [bkL, Nat.reduceAdd, Nat.reduceSub]) | ((with_reducible apply xbox); exact rfl; simp only [bkL, Nat.reduceAdd, Nat.reduceSub]) | ((with_reducible apply xcallHi); exact rfl; exact rfl; exact rfl; exact c1; (first | exact .inl rfl | exact .inr rfl); exact rfl))) | ((with_reducible apply xaw); (first | ((with_reducible apply xstepS); refine AW.step tok rfl ?_) | with_reducible refine AW.ret ?_)) | with_reducible (first | exact trivial | refine And.intro ?_ ?_) | exact Eq.refl true)
  all_goals (refine xfinIs (by first | exact .inl rfl | exact .inr rfl) rfl (by repeat' (first | exact trivial | exact rfl | refine And.intro ?_ ?_)) rfl ?_ rfl; first | (simp -implicitDefEqProofs only [go_sem] <;> (first | rfl | omega | exact decide_eq_decide.2 (by omega) | exact decide_eq_false (by omega) | exact decide_eq_true (by omega) | (symm; first | exact decide_eq_false (by omega) | exact decide_eq_true (by omega)) | (rw [Bool.eq_iff_iff]; simp only [boL, reduceCtorEq]; omega))))

/-! The marks: numbers and truth values, written into a tree's memory. -/
def lineW : List D := [.wint .i64, .wint .i64]
def nodeW : List D := .wint .i64 :: .wint .i64 :: .wint .i64 :: .wbool :: .wint .i64 :: .wx lineW (2^20) :: .wx lineW (2^20) :: [
  .wint .i64, .wint .i64, .wint .i64, .wbool, .wbool, .wbool, .wint .i64, .wint .i64, .wint .i64,
  .wint .i64, .wint .i64, .wint .i64, .wint .i64, .wint .i64, .wint .i64, .wint .i64, .wint .i64, .wint .i64,
  .wint .i64, .wint .i64, .wint .i64, .wint .i64, .wint .i64, .wint .i64, .wint .i64, .wint .i64, .wint .i64]
theorem c_markLineW (k : Int) (hk : 0 ≤ k ∧ k ≤ 2^60) : AXon Tryz.prog .wild 81 [.d (.wx lineW (2^20)), .d (.int .i64 k)] (Sm (IntB k (k + 2097152))) := by
  refine AXon.opened (by kernel_rfl) (fun L hL => ?_)
  refine AXon.introW tok (nt := 27) Tryz.func81 rfl rfl rfl (by kernel_rfl) rfl ?_
  repeat' (first | ((with_reducible apply xsim); (first | ((with_reducible apply xo); exact rfl) | with_reducible apply xend)) | ((with_reducible apply xaw); (first | ((with_reducible apply xstepS); refine AW.step tok rfl ?_) | with_reducible (first | refine AW.seq ?_ | refine AW.block ?_))) | with_reducible exact trivial)
  refine AW.loop (S := fun j : Nat => ⟨[(0, .d (.lst ((List.replicate L ()).map fun _ => lineW))), (1, .d (.int .i64 (k + 2 * j))), (5, .d (.int .i64 j))], [], 27, .wild⟩)
    (Pre := fun j => j ≤ L) (μ := fun j => L - j) 0 (Nat.zero_le _) ?_ ?_
  · (refine xwk (π := []) (by decide) rfl ?_ ?_; (first | exact trivial); repeat' (first | exact renE_n | ((with_reducible apply renE_c); exact rfl; focus (first | (simp -implicitDefEqProofs only [go_sem, Int.natCast_zero, Int.mul_zero, Int.add_zero]; done)))))
  · intro j hj
    by_cases hlt : j < L
    · have hrow := rep_at (row := lineW) hlt
      repeat' (first | ((with_reducible apply xsim); (first | ((with_reducible apply xlenM); exact rfl; exact rfl) | ((with_reducible apply xo); exact rfl) | with_reducible apply xend | ((with_reducible apply xidxL); exact rfl; exact rfl; exact rfl; (first | exact hrow); omega; first | exact rfl | simp only [hsz]) | ((with_reducible apply xstW); exact rfl; exact rfl; exact rfl; exact rfl; exact rfl; (first | exact trivial | exact ⟨rfl, trivial⟩); (focus (repeat' (first | exact trivial | refine ⟨(by first | exact rfl | exact wv_rep rfl), ?_⟩)))))) | ((with_reducible apply xaw); (first | ((with_reducible apply xstepS); refine AW.step tok rfl ?_) | ((with_reducible apply xstep); refine AW.region tok rfl ?_) | with_reducible (first | refine AW.seq ?_ | refine AW.block ?_ | refine AW.skip ?_) | ((with_reducible apply xcond); exact rfl))) | with_reducible (first | refine xthen ?_ | refine xblock ?_) | (with_reducible intro hc; (try simp only [hcL, reduceCtorEq, List.length_replicate] at hc); (try (exfalso; omega))) | with_reducible (first | exact trivial | refine And.intro ?_ ?_ | exact rfl) | (refine inR_i64.mpr ?_; first | omega | (simp only [List.length_map, List.length_replicate]; omega)))
      all_goals refine round_end (j+1) hlt (by omega) (by (refine xwk (π := []) (by decide) rfl ?_ ?_; (first | exact trivial); repeat' (first | exact renE_n | ((with_reducible apply renE_c); exact rfl; focus (first | (simp -implicitDefEqProofs only [go_sem]; done) | (simp -implicitDefEqProofs only [go_sem]; omega))))))
    · repeat' (first | ((with_reducible apply xsim); (first | ((with_reducible apply xlenM); exact rfl; exact rfl) | ((with_reducible apply xo); exact rfl) | with_reducible apply xend)) | ((with_reducible apply xaw); (first | ((with_reducible apply xstepS); refine AW.step tok rfl ?_) | with_reducible (first | refine AW.seq ?_ | refine AW.ret ?_ | refine AW.exit ?_) | ((with_reducible apply xcond); exact rfl))) | with_reducible (first | refine xthen ?_ | refine xthen_e ?_ | refine xblock_e ?_ | refine xround_e ?_) | (with_reducible intro hc; (try simp only [hcL, reduceCtorEq, List.length_replicate] at hc); (try (exfalso; omega))) | with_reducible (first | exact trivial | refine And.intro ?_ ?_ | exact rfl))
      all_goals refine xfinSmX (by first | exact .inl rfl | exact .inr rfl) rfl (by repeat' (first | exact trivial | exact rfl | refine And.intro ?_ ?_)) rfl rfl ?_
      all_goals exact ⟨_, rfl, by omega, by omega⟩
set_option maxRecDepth 8000 in
set_option maxHeartbeats 8000000 in
theorem c_markNodeW (k : Int) (hk : 0 ≤ k ∧ k ≤ 2^50) : AXon Tryz.prog .wild 51 [.d (.wx nodeW (2^20)), .d (.int .i64 k)] (Sm (IntB k (k + 2^44))) := by
  refine AXon.opened (by kernel_rfl) (fun L hL => ?_)
  refine AXon.introW tok (nt := 286) Tryz.func51 rfl rfl rfl (by kernel_rfl) rfl ?_
  repeat' (first | ((with_reducible apply xsim); (first | ((with_reducible apply xo); exact rfl) | with_reducible apply xend)) | ((with_reducible apply xaw); (first | ((with_reducible apply xstepS); refine AW.step tok rfl ?_) | with_reducible (first | refine AW.seq ?_ | refine AW.block ?_))) | with_reducible exact trivial)
  refine AW.loop (S := fun p : Nat × Int => ⟨[(0, .d (.lst ((List.replicate L ()).map fun _ => nodeW))), (1, .d (.int .i64 p.2)), (5, .d (.int .i64 p.1))], [], 286, .wild⟩)
    (Pre := fun p => p.1 ≤ L ∧ k ≤ p.2 ∧ p.2 ≤ k + 8388608 * p.1) (μ := fun p => L - p.1) (0, k) ⟨Nat.zero_le _, Int.le_refl _, by dsimp only; omega⟩ ?_ ?_
  · (refine xwk (π := []) (by decide) rfl ?_ ?_; (first | exact trivial); repeat' (first | exact renE_n | ((with_reducible apply renE_c); exact rfl; focus (first | (simp -implicitDefEqProofs only [go_sem]; done)))))
  · rintro ⟨j, q⟩ ⟨hj, h1, h2⟩
    dsimp only at hj h1 h2 ⊢
    by_cases hlt : j < L
    · have hrow := rep_at (row := nodeW) hlt
      repeat' (first | ((with_reducible apply xsim); (first | ((with_reducible apply xlenM); exact rfl; exact rfl) | ((with_reducible apply xo); exact rfl) | with_reducible apply xend | ((with_reducible apply xidxL); exact rfl; exact rfl; exact rfl; (first | exact hrow); omega; first | exact rfl | simp only [hsz]) | ((with_reducible apply xcallW); exact rfl; exact rfl; exact rfl; exact c_markLineW _ (by omega); exact IntB.flat; (first | exact trivial | exact ⟨rfl, trivial⟩); (focus (repeat' (first | exact trivial | refine ⟨(by first | exact rfl | exact wv_rep rfl), ?_⟩))); rintro _ ⟨k1, rfl, k2, k3⟩) | ((with_reducible apply xstW); exact rfl; exact rfl; exact rfl; exact rfl; exact rfl; (first | exact trivial | exact ⟨rfl, trivial⟩); (focus (repeat' (first | exact trivial | refine ⟨(by first | exact rfl | exact wv_rep rfl), ?_⟩)))) | ((with_reducible apply xstWb); exact rfl; exact rfl; exact rfl; exact rfl; exact rfl; (first | exact trivial | exact ⟨rfl, trivial⟩); (focus (repeat' (first | exact trivial | refine ⟨(by first | exact rfl | exact wv_rep rfl), ?_⟩)))))) | ((with_reducible apply xaw); (first | ((with_reducible apply xstepS); refine AW.step tok rfl ?_) | ((with_reducible apply xstep); refine AW.region tok rfl ?_) | with_reducible (first | refine AW.seq ?_ | refine AW.block ?_ | refine AW.skip ?_) | ((with_reducible apply xcond); exact rfl))) | with_reducible (first | refine xthen ?_ | refine xblock ?_) | (with_reducible intro hc; (try simp only [hcL, reduceCtorEq, List.length_replicate] at hc); (try (exfalso; omega))) | with_reducible (first | exact trivial | refine And.intro ?_ ?_ | exact rfl) | (refine inR_i64.mpr ?_; first | omega | (simp only [List.length_map, List.length_replicate]; omega)) | omega)
      all_goals refine round_end ((j+1, k1 + 27) : Nat × Int) ⟨by dsimp only; omega, by dsimp only; omega, by dsimp only; omega⟩ (by dsimp only; omega) (by (refine xwk (π := []) (by decide) rfl ?_ ?_; (first | exact trivial); repeat' (first | exact renE_n | ((with_reducible apply renE_c); exact rfl; focus (first | (simp -implicitDefEqProofs only [go_sem]; done) | (simp -implicitDefEqProofs only [go_sem]; omega))))))
    · repeat' (first | ((with_reducible apply xsim); (first | ((with_reducible apply xlenM); exact rfl; exact rfl) | ((with_reducible apply xo); exact rfl) | with_reducible apply xend)) | ((with_reducible apply xaw); (first | ((with_reducible apply xstepS); refine AW.step tok rfl ?_) | with_reducible (first | refine AW.seq ?_ | refine AW.ret ?_ | refine AW.exit ?_) | ((with_reducible apply xcond); exact rfl))) | with_reducible (first | refine xthen ?_ | refine xthen_e ?_ | refine xblock_e ?_ | refine xround_e ?_) | (with_reducible intro hc; (try simp only [hcL, reduceCtorEq, List.length_replicate] at hc); (try (exfalso; omega))) | with_reducible (first | exact trivial | refine And.intro ?_ ?_ | exact rfl))
      all_goals refine xfinSmX (by first | exact .inl rfl | exact .inr rfl) rfl (by repeat' (first | exact trivial | exact rfl | refine And.intro ?_ ?_)) rfl rfl ?_
      all_goals exact ⟨_, rfl, by omega, by omega⟩
theorem c_markTreeW : AXon Tryz.prog .wild 18 [.agg [.d (.wx nodeW (2^20))], .d (.int .i64 1)] (Sm (IntB 1 (1 + 2^44))) := by
  refine AXon.introW tok (nt := 10) Tryz.func18 rfl rfl rfl (by kernel_rfl) rfl ?_
  repeat' (first | ((with_reducible apply xsim); (first | ((with_reducible apply xo); exact rfl) | with_reducible apply xend | ((with_reducible apply xbox); exact rfl; simp only [bkL, Nat.reduceAdd, Nat.reduceSub]) | ((with_reducible apply xcallW); exact rfl; exact rfl; exact rfl; exact c_markNodeW _ (by omega); exact IntB.flat; (first | exact trivial | exact ⟨rfl, trivial⟩); (focus (repeat' (first | exact trivial | refine ⟨(by first | exact rfl | exact wv_rep rfl), ?_⟩))); rintro _ ⟨k1, rfl, k2, k3⟩))) | ((with_reducible apply xaw); (first | ((with_reducible apply xstepS); refine AW.step tok rfl ?_) | with_reducible refine AW.ret ?_)) | with_reducible exact trivial)
  all_goals refine xfinSmX (by first | exact .inl rfl | exact .inr rfl) rfl (by repeat' (first | exact trivial | exact rfl | refine And.intro ?_ ?_)) rfl rfl ?_
  all_goals exact ⟨_, rfl, by omega, by omega⟩
theorem wrNode {a : Node} (h : a.cols.length ≤ 2^20 ∧ a.rows.length ≤ 2^20) : WR (encNode a) nodeW := by
  have hl : ∀ l : Line, WR (encLine l) lineW := fun l => ⟨wd_int, wd_int, trivial⟩
  simp only [WR, encNode, nodeW]
  repeat' (first | exact trivial | refine ⟨wd_int, ?_⟩ | refine ⟨wd_bool, ?_⟩ | refine ⟨wd_lst (fun l _ => hl l) h.1, ?_⟩ | refine ⟨wd_lst (fun l _ => hl l) h.2, ?_⟩)
theorem wasTree {m : Nat} {t : List Node} (hl : t.length ≤ 2^20) (hc : ∀ x ∈ t, x.cols.length ≤ 2^20 ∧ x.rows.length ≤ 2^20) : WAs m [.agg [.hd m (.lst (t.map encNode))], .d (.int .i64 1)] [.agg [.d (.wx nodeW (2^20))], .d (.int .i64 1)] :=
  ⟨WA.one (wd_lst (fun a ha => wrNode (hc a ha)) hl), WA.flat rfl, trivial⟩
end Go.Proofs.YtpfhnhhkfobjnaaGreat

namespace Go.Fw

/-- What is asked of the code ahead of a cut. -/
def cutQ {α : Type} (S : α → St) (Pre : α → Prop) (Q : Exit → St → Prop) : Exit → St → Prop
  | .normal, s => ∃ j, Pre j ∧ Weak s (S j)
  | e, s => Q e s
/-- Branches come together. -/
theorem AW.cut {α : Type} {P : Program} {c d : Code} {Q : Exit → St → Prop} {s : St} (S : α → St) (Pre : α → Prop) (h1 : AW P c (cutQ S Pre Q) s) (h2 : ∀ j, Pre j → AW P d Q (S j)) : AW P (.seq c d) Q s := by
  refine AW.seq (AW.mono h1 ?_)
  intro e s' h
  cases e with
  | normal =>
    obtain ⟨j, hp, hw⟩ := h
    exact AW.weak hw (h2 j hp)
  | _ => exact h
/-- The code ahead of a cut is taken out of a sequence already. -/
theorem AW.cutT {α : Type} {P : Program} {c d : Code} {Q : Exit → St → Prop} {s : St} (S : α → St) (Pre : α → Prop) (h1 : AW P c (cutQ S Pre Q) s) (h2 : ∀ j, Pre j → AW P d Q (S j)) : AW P c (thenQ P d Q) s := by
  refine AW.mono h1 ?_
  intro e s' h
  cases e with
  | normal =>
    obtain ⟨j, hp, hw⟩ := h
    exact AW.weak hw (h2 j hp)
  | _ => exact h
theorem cut_end {α : Type} {S : α → St} {Pre : α → Prop} {Q : Exit → St → Prop} {s : St} (j : α) (hp : Pre j) (hw : Weak s (S j)) : cutQ S Pre Q .normal s := ⟨j, hp, hw⟩
end Go.Fw

namespace Go.Fw
theorem xnoblock {P : Program} {i : Nat} {c d : Code} {Q : Exit → St → Prop} {s : St} (h : AW P (.seq (.block i c) d) Q s) : AW P (.seq (.block i c) d) Q s := h
theorem cutW {α : Type} {S : α → St} {Pre : α → Prop} {Q : Exit → St → Prop} {s s' : St} (hw : Weak s s') (h : cutQ S Pre Q .normal s') : cutQ S Pre Q .normal s := by
  obtain ⟨j, hp, hj⟩ := h
  exact ⟨j, hp, hw.trans hj⟩
theorem xnoblockT {P : Program} {i : Nat} {c : Code} {Q : Exit → St → Prop} {s : St} (h : AW P (.block i c) Q s) : AW P (.block i c) Q s := h
theorem AW.cutBT {α : Type} {P : Program} {i : Nat} {c d : Code} {Q : Exit → St → Prop} {s : St} (S : α → St) (Pre : α → Prop) (h1 : AW P c (blockQ i (cutQ S Pre Q)) s) (h2 : ∀ j, Pre j → AW P d Q (S j)) : AW P (.block i c) (thenQ P d Q) s :=
  AW.cutT S Pre (AW.block h1) h2
end Go.Fw

namespace Go.Proofs.YtpfhnhhkfobjnaaGreat
open Go.Fw
attribute [local irreducible] Go.Fw.aops Go.Fw.arun

theorem c_partS (n a : Int) (h : 0 ≤ n * a ∧ n * a ≤ 2^40) : ACon Tryz.prog 135 [.d (.int .i64 n), .d (.int .i64 a)] [] (Is (.d (.int .i64 ((n * a).tdiv 1000)))) := by
  have e : 0 ≤ (n * a).tdiv 1000 ∧ (n * a).tdiv 1000 ≤ n * a := by
    rw [Int.tdiv_eq_ediv_of_nonneg h.1]; omega
  refine ACon.introW tok (nt := 9) Tryz.func135 rfl rfl rfl (by kernel_rfl) rfl ?_
  repeat' (first | ((with_reducible apply xsim); (first | ((with_reducible apply xo); exact rfl) | with_reducible apply xend)) | ((with_reducible apply xaw); (first | ((with_reducible apply xstepS); refine AW.step tok rfl ?_) | with_reducible refine AW.ret ?_)) | with_reducible (first | exact trivial | refine And.intro ?_ ?_ | exact rfl) | (refine inR_i64.mpr ?_; first | omega | (simp only [List.length_map]; omega)) | omega)
  all_goals (refine xfinIs (by first | exact .inl rfl | exact .inr rfl) rfl (by repeat' (first | exact trivial | exact rfl | refine And.intro ?_ ?_)) rfl ?_ rfl; first | with_reducible exact rfl)

theorem rel_bd' {n r : Int} (hn : 0 ≤ n) (hr : 0 ≤ r ∧ r ≤ 1000) : 0 ≤ r * n ∧ r * n ≤ n * 1000 ∧ 0 ≤ (r * n).tdiv 1000 ∧ (r * n).tdiv 1000 ≤ n := by
  rw [Int.mul_comm]
  exact rel_bd hn hr

set_option maxHeartbeats 4000000 in
theorem c_placeI (p : Place) (w h : Int) (hp : validPlace p = true) (hw : 0 ≤ w ∧ w ≤ 2^20) (hh : 0 ≤ h ∧ h ≤ 2^20) : ACon Tryz.prog 79 [vPlace p, .d (.int .i64 w), .d (.int .i64 h)] [] (Is (vRect (placed p ⟨0, 0, w, h⟩))) := by
  have hv := validPlace_iff hp
  have ha := anchor_bd (a := p.anchor) (by omega)
  have r1 := rel_bd' (r := p.relX) hw.1 (by omega)
  have r2 := rel_bd' (r := p.relW) hw.1 (by omega)
  have r3 := rel_bd' (r := p.relY) hh.1 (by omega)
  have r4 := rel_bd' (r := p.relH) hh.1 (by omega)
  have p1 := part_bd (n := max (p.w + (p.relW * w).tdiv 1000) 0) (a := p.anchor.tmod 3) (by omega) (by omega)
  have p2 := part_bd (n := max (p.h + (p.relH * h).tdiv 1000) 0) (a := p.anchor.tdiv 3) (by omega) (by omega)
  have e : placed p ⟨0, 0, w, h⟩ = ⟨p.x + (p.relX * w).tdiv 1000 - (max (p.w + (p.relW * w).tdiv 1000) 0 * p.anchor.tmod 3).tdiv 2, p.y + (p.relY * h).tdiv 1000 - (max (p.h + (p.relH * h).tdiv 1000) 0 * p.anchor.tdiv 3).tdiv 2,
      max (p.w + (p.relW * w).tdiv 1000) 0, max (p.h + (p.relH * h).tdiv 1000) 0⟩ := by
    rw [Int.mul_comm p.relX, Int.mul_comm p.relW, Int.mul_comm p.relY, Int.mul_comm p.relH, Int.max_comm _ 0, Int.max_comm _ 0]
    exact rect_ext (by simp [placed]) (by simp [placed]) rfl rfl
  rw [e]
  refine ACon.introW tok (nt := 62) Tryz.func79 rfl rfl rfl (by kernel_rfl) rfl ?_
  repeat' (first | ((with_reducible apply xsim); (first | ((with_reducible apply xbld); exact rfl; exact rfl; exact rfl; (try simp only [List.set_cons_zero, List.set_cons_succ])) | ((with_reducible apply xo); exact rfl) | ((with_reducible apply xst); exact rfl) | with_reducible apply xend | ((with_reducible apply xalloc); exact rfl; simp only [bkL, Nat.reduceAdd, Nat.reduceSub]) | ((with_reducible apply xbox); exact rfl; simp only [bkL, Nat.reduceAdd, Nat.reduceSub]))) | ((with_reducible apply xaw); (first | ((with_reducible apply xstepS); refine AW.step tok rfl ?_) | with_reducible (first | refine AW.seq ?_ | refine AW.ret ?_) | ((with_reducible apply xdraw (id := 1)); refine AW.draw (id := 1) (.q 0 (.q 1 (.q 2 (.q 3 (.q 4 (.q 5 (.q 6 (.q 7 (.q 8 (.q 9 (.q 10 (.q 11 (.q 12 (.q 13 (.q 14 (.q 15 (.q 16 (.q 17 (.q 18 (.q 19 (.fin))))))))))))))))))))) tok (by kernel_rfl) rfl (by kernel_rfl) ?_) | ((with_reducible apply xdraw (id := 2)); refine AW.draw (id := 2) (.q 0 (.q 1 (.q 2 (.q 3 (.q 4 (.q 5 (.q 6 (.q 7 (.q 8 (.q 9 (.q 10 (.q 11 (.q 12 (.q 13 (.q 14 (.q 15 (.q 16 (.q 17 (.fin))))))))))))))))))) tok (by kernel_rfl) rfl (by kernel_rfl) ?_) | ((with_reducible apply xdraw (id := 3)); refine AW.draw (id := 3) (.q 0 (.q 1 (.q 2 (.q 3 (.q 4 (.q 5 (.q 6 (.q 7 (.q 8 (.q 9 (.q 10 (.q 11 (.q 12 (.q 13 (.q 14 (.q 15 (.q 16 (.e 17 (.fin))))))))))))))))))) tok (by kernel_rfl) rfl (by kernel_rfl) ?_))) | ((with_reducible apply xarun); (first | ((with_reducible apply xrun_q); exact rfl; exact rfl; exact rfl) | ((with_reducible apply xrun_c); exact rfl; exact rfl; exact rfl; exact rfl; exact rfl; exact rfl; exact c_part _ _ (by omega); exact rfl) | ((with_reducible apply xrun_e); exact rfl) | with_reducible apply xrun_f)) | with_reducible refine xthen ?_ | with_reducible (first | exact trivial | refine And.intro ?_ ?_ | exact rfl) | exact Eq.refl true | (refine inR_i64.mpr ?_; first | omega | (simp only [List.length_map]; omega)) | omega)
  all_goals (refine xfinIs (by first | exact .inl rfl | exact .inr rfl) rfl (by repeat' (first | exact trivial | exact rfl | refine And.intro ?_ ?_)) rfl ?_ rfl; first | (simp -implicitDefEqProofs only [go_sem] <;> (first | rfl | omega | exact decide_eq_decide.2 (by omega) | exact decide_eq_false (by omega) | exact decide_eq_true (by omega) | (symm; first | exact decide_eq_false (by omega) | exact decide_eq_true (by omega)) | (rw [Bool.eq_iff_iff]; simp only [boL, reduceCtorEq]; omega))))

set_option maxHeartbeats 4000000 in
theorem c_placeS (p : Place) (r : Rect) (hp : validPlace p = true) (hr : RectIn r) : ACon Tryz.prog 95 [vPlace p, vRect r] [] (Is (vRect (placed p r))) := by
  have hv := validPlace_iff hp
  have ha := anchor_bd (a := p.anchor) (by omega)
  obtain ⟨b1, b2, b3, b4, b5, b6⟩ := hr
  have r1 := rel_bd (n := r.w) (r := p.relX) b3 (by omega)
  have r2 := rel_bd (n := r.w) (r := p.relW) b3 (by omega)
  have r3 := rel_bd (n := r.h) (r := p.relY) b4 (by omega)
  have r4 := rel_bd (n := r.h) (r := p.relH) b4 (by omega)
  have p1 := part_bd (n := max 0 (p.w + (r.w * p.relW).tdiv 1000)) (a := p.anchor.tmod 3) (by omega) (by omega)
  have p2 := part_bd (n := max 0 (p.h + (r.h * p.relH).tdiv 1000)) (a := p.anchor.tdiv 3) (by omega) (by omega)
  refine ACon.introW tok (nt := 68) Tryz.func95 rfl rfl rfl (by kernel_rfl) rfl ?_
  repeat' (first | ((with_reducible apply xsim); (first | ((with_reducible apply xbld); exact rfl; exact rfl; exact rfl; (try simp only [List.set_cons_zero, List.set_cons_succ])) | ((with_reducible apply xo); exact rfl) | ((with_reducible apply xst); exact rfl) | with_reducible apply xend | ((with_reducible apply xalloc); exact rfl; simp only [bkL, Nat.reduceAdd, Nat.reduceSub]) | ((with_reducible apply xbox); exact rfl; simp only [bkL, Nat.reduceAdd, Nat.reduceSub]))) | ((with_reducible apply xaw); (first | ((with_reducible apply xstepS); refine AW.step tok rfl ?_) | with_reducible (first | refine AW.seq ?_ | refine AW.ret ?_) | ((with_reducible apply xdraw (id := 1)); refine AW.draw (id := 1) (.q 0 (.q 1 (.q 2 (.q 3 (.q 4 (.q 5 (.q 6 (.q 7 (.q 8 (.q 9 (.fin))))))))))) tok (by kernel_rfl) rfl (by kernel_rfl) ?_) | ((with_reducible apply xdraw (id := 2)); refine AW.draw (id := 2) (.q 0 (.q 1 (.q 2 (.q 3 (.q 4 (.q 5 (.q 6 (.q 7 (.q 8 (.q 9 (.fin))))))))))) tok (by kernel_rfl) rfl (by kernel_rfl) ?_) | ((with_reducible apply xdraw (id := 3)); refine AW.draw (id := 3) (.q 0 (.q 1 (.q 2 (.q 3 (.q 4 (.q 5 (.q 6 (.q 7 (.q 8 (.q 9 (.q 10 (.q 11 (.q 12 (.q 13 (.q 14 (.q 15 (.fin))))))))))))))))) tok (by kernel_rfl) rfl (by kernel_rfl) ?_) | ((with_reducible apply xdraw (id := 4)); refine AW.draw (id := 4) (.q 0 (.q 1 (.q 2 (.q 3 (.q 4 (.q 5 (.q 6 (.q 7 (.q 8 (.q 9 (.q 10 (.q 11 (.q 12 (.q 13 (.q 14 (.q 15 (.fin))))))))))))))))) tok (by kernel_rfl) rfl (by kernel_rfl) ?_))) | ((with_reducible apply xarun); (first | ((with_reducible apply xrun_q); exact rfl; exact rfl; exact rfl) | ((with_reducible apply xrun_c); exact rfl; exact rfl; exact rfl; exact rfl; exact rfl; exact rfl; exact c_partS _ _ (by omega); exact rfl) | with_reducible apply xrun_f)) | with_reducible refine xthen ?_ | with_reducible (first | exact trivial | refine And.intro ?_ ?_ | exact rfl) | exact Eq.refl true | (refine inR_i64.mpr ?_; first | omega | (simp only [List.length_map]; omega)) | omega)
  all_goals (refine xfinIs (by first | exact .inl rfl | exact .inr rfl) rfl (by repeat' (first | exact trivial | exact rfl | refine And.intro ?_ ?_)) rfl ?_ rfl; first | (simp -implicitDefEqProofs only [go_sem, placed] <;> (first | rfl | omega | exact decide_eq_decide.2 (by omega) | exact decide_eq_false (by omega) | exact decide_eq_true (by omega) | (symm; first | exact decide_eq_false (by omega) | exact decide_eq_true (by omega)) | (rw [Bool.eq_iff_iff]; simp only [boL, reduceCtorEq]; omega))))
end Go.Proofs.YtpfhnhhkfobjnaaGreat

namespace Go.Proofs.YtpfhnhhkfobjnaaGreat
open Go.Fw

theorem tmod_bd {a m : Int} (ha : 0 ≤ a) (hm : 0 < m) : 0 ≤ a.tmod m ∧ a.tmod m < m := ⟨Int.tmod_nonneg m ha, Int.tmod_lt_of_pos a hm⟩
theorem tdiv_bd {a m : Int} (ha : 0 ≤ a) (hm : 0 < m) : 0 ≤ a.tdiv m ∧ a.tdiv m ≤ a := ⟨Int.tdiv_nonneg ha (Int.le_of_lt hm), Int.tdiv_le_self _ ha⟩

/-- A number that is drawn below n. -/
def Below (n : Int) (r : V) : Prop := ∃ v, r = .d (.int .i64 v) ∧ 0 ≤ v ∧ (1 ≤ n → v < n) ∧ (n < 1 → v = 0)

end Go.Proofs.YtpfhnhhkfobjnaaGreat

namespace Go.Proofs.YtpfhnhhkfobjnaaGreat
open Go.Fw
attribute [local irreducible] Go.Fw.aops Go.Fw.arun

set_option maxHeartbeats 4000000 in
theorem c_gridded (g : Grid) (r : Rect) (hg : GOk g) (rx : -2^30 < r.x ∧ r.x < 2^30) (ry : -2^30 < r.y ∧ r.y < 2^30) (hw : 0 ≤ r.w ∧ r.w ≤ 16384) (hh : 0 ≤ r.h ∧ r.h ≤ 16384) : ACon Tryz.prog 94 [vGrid g, vRect r] [] (ORows encRect 4 (gridRectsIn g r)) := by
  have hX := hg.xcol hw
  have hY := hg.xrow hh
  have h8 := hg.hi
  have wx := ORows.data (c_wished _ _ hg.cols hg.cspans)
  have wy := ORows.data (c_wished _ _ hg.rows hg.rspans)
  have cx := ORows.data (c_sized _ _ r.w hg.cols (requests_ge hg.cols hg.cspans) hw)
  have cy := ORows.data (c_sized _ _ r.h hg.rows (requests_ge hg.rows hg.rspans) hh)
  have he : gridRectsIn g r = g.cells.map (cellRect (colSizes g r.w) (rowSizes g r.h) r) := rfl
  rw [he]
  rw [show sizes g.cols (requests g.cols (colSpans g.cells)) r.w = colSizes g r.w from rfl] at cx
  rw [show sizes g.rows (requests g.rows (rowSpans g.cells)) r.h = rowSizes g r.h from rfl] at cy
  generalize colSizes g r.w = xs at *
  generalize rowSizes g r.h = ys at *
  have hml : (g.cells.map (cellRect xs ys r)).length = g.cells.length := by simp
  have hxl := hX.len
  have hyl := hY.len
  have hc5 := hX.hi
  have hr5 := hY.hi
  refine ACon.introW tok (nt := 139) Tryz.func94 rfl rfl rfl (by kernel_rfl) rfl ?_
  repeat' (first | ((with_reducible apply xsim); (first | ((with_reducible apply xo); exact rfl) | with_reducible apply xend | ((with_reducible apply xbox); exact rfl; simp only [bkL, Nat.reduceAdd, Nat.reduceSub]) | ((with_reducible apply xbuild); exact rfl; exact rfl; exact rfl; exact rfl; exact rfl; simp only [bkL, Nat.reduceAdd, Nat.reduceSub]))) | ((with_reducible apply xaw); (first | ((with_reducible apply xstepS); refine AW.step tok rfl ?_) | with_reducible (first | refine AW.seq ?_ | refine AW.block ?_) | ((with_reducible apply xdraw (id := 1)); refine AW.draw (id := 1) (.q 0 (.q 1 (.q 2 (.q 3 (.q 4 (.q 5 (.q 6 (.q 7 (.q 8 (.q 9 (.q 10 (.fin)))))))))))) tok (by kernel_rfl) rfl (by kernel_rfl) ?_) | ((with_reducible apply xdraw (id := 2)); refine AW.draw (id := 2) (.q 0 (.q 1 (.q 2 (.q 3 (.q 4 (.q 5 (.q 6 (.q 7 (.q 8 (.q 9 (.q 10 (.fin)))))))))))) tok (by kernel_rfl) rfl (by kernel_rfl) ?_))) | ((with_reducible apply xarun); (first | ((with_reducible apply xrun_q); exact rfl; exact rfl; exact rfl) | ((with_reducible apply xrun_c); exact rfl; exact rfl; exact rfl; exact rfl; exact rfl; exact rfl; (first | exact c_colSpansS g hg | exact c_rowSpansS g hg | exact wx | exact wy | exact cx | exact cy); exact rfl) | with_reducible apply xrun_f)) | with_reducible refine xthen ?_ | with_reducible exact trivial | exact Eq.refl true)
  all_goals
    refine AW.loop (S := fun k : Nat => ⟨[(2, .oref 1 0), (3, .oref 2 0), (5, .d (.lst (xs.map encN))), (6, .d (.lst (ys.map encN))), (7, .msl 0 4 0 k), (8, .d (.int .i64 k))], [.arr 4 (((g.cells.map (cellRect xs ys r)).take k).map encRect), .box [.d (.lst (g.cols.map encLine)), .d (.lst (g.rows.map encLine)), .d (.lst (g.cells.map encCell))], .box [.d (.int .i64 r.x), .d (.int .i64 r.y), .d (.int .i64 r.w), .d (.int .i64 r.h)]], 139, .p 0⟩)
      (Pre := fun k => k ≤ g.cells.length) (μ := fun k => g.cells.length - k) 0 (Nat.zero_le _) ?_ ?_
    · (refine xwk (π := [2, 0, 1]) (by decide) rfl ?_ ?_; (first | simp -implicitDefEqProofs only [go_sem, List.take_zero, encGrid]); repeat' (first | exact renE_n | ((with_reducible apply renE_c); exact rfl; focus (first | (simp -implicitDefEqProofs only [go_sem, List.take_zero, encGrid]; done)))))
    intro k hk
    have htl : ((g.cells.map (cellRect xs ys r)).take k).length = k := by simp; omega
    by_cases hlt : k < g.cells.length
    · have hrow := at_map (f := encCell) hlt
      have hsu := rects_take (g := g) (xs := xs) (ys := ys) (r := r) hlt
      have hb := hg.ok _ (List.getElem_mem hlt)
      generalize g.cells[k] = c at *
      obtain ⟨hb1, hb2⟩ := hb
      have px := hX.part c.col.toNat c.manyCols.toNat
      have py := hY.part c.row.toNat c.manyRows.toNat
      have sx := hX.sum
      have sy := hY.sum
      have ex : (xs.drop c.col.toNat).take ((c.col + c.manyCols).toNat - c.col.toNat) = slc xs c.col.toNat c.manyCols.toNat := by rw [slc, show (c.col + c.manyCols).toNat - c.col.toNat = c.manyCols.toNat by omega]
      have ey : (ys.drop c.row.toNat).take ((c.row + c.manyRows).toNat - c.row.toNat) = slc ys c.row.toNat c.manyRows.toNat := by rw [slc, show (c.row + c.manyRows).toNat - c.row.toNat = c.manyRows.toNat by omega]
      have s1 := c_total _ (hX.take (k := c.col.toNat))
      have s2 := c_total _ (hY.take (k := c.row.toNat))
      have s3 : ACon Tryz.prog 126 [.d (.lst (((xs.drop c.col.toNat).take ((c.col + c.manyCols).toNat - c.col.toNat)).map encN))] [] (Is (.d (.int .i64 (sumI (slc xs c.col.toNat c.manyCols.toNat))))) := by rw [ex]; exact c_total _ hX.slc
      have s4 : ACon Tryz.prog 126 [.d (.lst (((ys.drop c.row.toNat).take ((c.row + c.manyRows).toNat - c.row.toNat)).map encN))] [] (Is (.d (.int .i64 (sumI (slc ys c.row.toNat c.manyRows.toNat))))) := by rw [ey]; exact c_total _ hY.slc
      have hcr : cellRect xs ys r c = cellIn (inset ⟨r.x + sumI (xs.take c.col.toNat), r.y + sumI (ys.take c.row.toNat), sumI (slc xs c.col.toNat c.manyCols.toNat), sumI (slc ys c.row.toNat c.manyRows.toNat)⟩ c.padX c.padY) c := rfl
      rw [hcr] at hsu
      have s5 := c_insetS ⟨r.x + sumI (xs.take c.col.toNat), r.y + sumI (ys.take c.row.toNat), sumI (slc xs c.col.toNat c.manyCols.toNat), sumI (slc ys c.row.toNat c.manyRows.toNat)⟩ c.padX c.padY (by constructor <;> dsimp only <;> omega) px.2.1 py.2.1 (by omega) (by omega)
      have s6 := inset_bd (r := ⟨r.x + sumI (xs.take c.col.toNat), r.y + sumI (ys.take c.row.toNat), sumI (slc xs c.col.toNat c.manyCols.toNat), sumI (slc ys c.row.toNat c.manyRows.toNat)⟩) (px := c.padX) (py := c.padY) px.2.1 py.2.1 (by omega) (by omega)
      generalize inset ⟨r.x + sumI (xs.take c.col.toNat), r.y + sumI (ys.take c.row.toNat), sumI (slc xs c.col.toNat c.manyCols.toNat), sumI (slc ys c.row.toNat c.manyRows.toNat)⟩ c.padX c.padY = q at *
      dsimp only at s6
      have b1 := stuck_bd (room := q.w) (size := c.w) (a := bitL c.stick) (b := bitR c.stick) (by omega) (by omega)
      have b2 := stuck_bd (room := q.h) (size := c.h) (a := bitT c.stick) (b := bitB c.stick) (by omega) (by omega)
      have s7 := c_stuckS q.x q.w c.w (bitL c.stick) (bitR c.stick) (by omega) (by omega) (by omega)
      have s8 := c_stuckS q.y q.h c.h (bitT c.stick) (bitB c.stick) (by omega) (by omega) (by omega)
      simp only [cellIn] at hsu
      have e1 := tdiv_bd (a := c.stick) (m := 2) (by omega) (by omega)
      have e2 := tdiv_bd (a := c.stick) (m := 4) (by omega) (by omega)
      have e3 := tdiv_bd (a := c.stick) (m := 8) (by omega) (by omega)
      have e4 := tmod_bd (a := c.stick) (m := 2) (by omega) (by omega)
      have e5 := tmod_bd (a := c.stick.tdiv 2) (m := 2) (by omega) (by omega)
      have e6 := tmod_bd (a := c.stick.tdiv 4) (m := 2) (by omega) (by omega)
      repeat' (first | ((with_reducible apply xsim); (first | ((with_reducible apply xbld); exact rfl; exact rfl; exact rfl; (try simp only [List.set_cons_zero, List.set_cons_succ])) | ((with_reducible apply xlenM); exact rfl; exact rfl) | ((with_reducible apply xo); exact rfl) | ((with_reducible apply xst); exact rfl) | with_reducible apply xend | ((with_reducible apply xalloc); exact rfl; simp only [bkL, Nat.reduceAdd, Nat.reduceSub]) | ((with_reducible apply xbuild); exact rfl; exact rfl; exact rfl; exact rfl; exact rfl; simp only [bkL, Nat.reduceAdd, Nat.reduceSub]) | ((with_reducible apply xidxL); exact rfl; exact rfl; exact rfl; (first | exact hrow); omega; first | exact rfl | simp only [hsz]) | ((with_reducible apply xslcHi); exact rfl; exact rfl; exact rfl; exact (fun r hr => by obtain ⟨a, _, rfl⟩ := List.mem_map.1 hr; rfl); first | omega | (simp only [List.length_cons, List.length_nil]; omega)) | ((with_reducible apply xslcB); exact rfl; exact rfl; exact rfl; exact rfl; exact (fun r hr => by obtain ⟨a, _, rfl⟩ := List.mem_map.1 hr; rfl); first | omega | (simp only [List.length_cons, List.length_nil]; omega)) | ((with_reducible apply xcallIs); exact rfl; exact rfl; (first | exact s1 | exact s2 | exact s3 | exact s4 | exact s5 | exact s7 | exact s8); exact rfl) | simp -implicitDefEqProofs only [go_sem, List.length_map, htl])) | ((with_reducible apply xaw); (first | ((with_reducible apply xstepS); refine AW.step tok rfl ?_) | ((with_reducible apply xstep); refine AW.region tok rfl ?_) | with_reducible (first | refine AW.seq ?_ | refine AW.block ?_ | refine AW.skip ?_) | ((with_reducible apply xcond); exact rfl) | ((with_reducible apply xdraw (id := 8)); refine AW.draw (id := 8) (.q 0 (.q 1 (.q 2 (.q 3 (.q 4 (.q 5 (.q 6 (.q 7 (.q 8 (.q 9 (.q 10 (.q 11 (.q 12 (.q 13 (.q 14 (.q 15 (.q 16 (.q 17 (.q 18 (.q 19 (.q 20 (.q 21 (.q 22 (.q 23 (.q 24 (.q 25 (.q 26 (.q 27 (.q 28 (.q 29 (.q 30 (.q 31 (.q 32 (.q 33 (.q 34 (.q 35 (.q 36 (.e 37 (.e 38 (.fin)))))))))))))))))))))))))))))))))))))))) tok (by kernel_rfl) rfl (by kernel_rfl) ?_))) | ((with_reducible apply xarun); (first | ((with_reducible apply xrun_q); exact rfl; exact rfl; exact rfl) | ((with_reducible apply xrun_c); exact rfl; exact rfl; exact rfl; exact rfl; exact rfl; exact rfl; (first | exact s1 | exact s2 | exact s3 | exact s4 | exact s5 | exact s7 | exact s8); exact rfl) | ((with_reducible apply xrun_e); exact rfl) | with_reducible apply xrun_f)) | with_reducible refine xthen ?_ | (with_reducible intro hc; (try simp only [hcL, reduceCtorEq, List.length_map, htl] at hc); (try (exfalso; omega))) | with_reducible (first | exact trivial | refine And.intro ?_ ?_ | exact rfl) | exact Eq.refl true | (refine inR_i64.mpr ?_; first | omega | (simp only [List.length_map, List.length_map, htl]; omega)) | omega)
      all_goals refine round_end (k+1) hlt (by omega) (by (refine xwk (π := [7, 1, 2]) (by decide) rfl ?_ ?_; (first | simp -implicitDefEqProofs only [go_sem, hsu, List.map_append]); repeat' (first | exact renE_n | ((with_reducible apply renE_c); exact rfl; focus (first | (simp -implicitDefEqProofs only [go_sem, hsu, List.map_append]; done))))))
    · have hk' : k = g.cells.length := by omega
      subst hk'
      have hta : (g.cells.map (cellRect xs ys r)).take g.cells.length = g.cells.map (cellRect xs ys r) := by rw [← hml, List.take_length]
      repeat' (first | ((with_reducible apply xsim); (first | ((with_reducible apply xlenM); exact rfl; exact rfl) | ((with_reducible apply xo); exact rfl) | with_reducible apply xend)) | ((with_reducible apply xaw); (first | ((with_reducible apply xstepS); refine AW.step tok rfl ?_) | with_reducible (first | refine AW.seq ?_ | refine AW.ret ?_ | refine AW.exit ?_) | ((with_reducible apply xcond); exact rfl))) | with_reducible (first | refine xthen ?_ | refine xthen_e ?_ | refine xblock_e ?_ | refine xround_e ?_) | (with_reducible intro hc; (try simp only [hcL, reduceCtorEq, List.length_map] at hc); (try (exfalso; omega))) | with_reducible (first | exact trivial | refine And.intro ?_ ?_ | exact rfl))
      (refine xfinOwn [0] (by first | exact .inl rfl | exact .inr rfl) rfl (by repeat' (first | exact trivial | exact rfl | refine And.intro ?_ ?_)) (by decide) rfl ?_ ?_ <;> simp -implicitDefEqProofs only [go_sem, hta, hml])
end Go.Proofs.YtpfhnhhkfobjnaaGreat

namespace Go.Proofs.YtpfhnhhkfobjnaaGreat
open Go.Fw
attribute [local irreducible] Go.Fw.aops Go.Fw.arun

/-- Nodes whose parents lie ahead of a node, and some of its kids. -/
def doneK (t : List Node) (i m : Nat) (j : Nat) : Bool := decide ((nodeAt t j).parent < (i : Int)) || ((kids t i).take m).contains j
section
variable {t : List Node} {w h : Int} {out : List Rect}
theorem doneK_self (hk : TreeK t) {i : Nat} (hi : i < t.length) : doneK t i 0 i = true := by
  unfold doneK
  rw [nodeAt_eq hi, Bool.or_eq_true, decide_eq_true_eq]
  left
  by_cases h0 : i = 0
  · subst h0; have := hk.root hi; omega
  · have := hk.up i hi (by omega); omega
theorem doneK_step {i m : Nat} (hm : m < (kids t i).length) : lay t w h (fun j => doneK t i m j || decide (j = (kids t i)[m])) out = lay t w h (doneK t i (m + 1)) out := by
  refine lay_congr fun j _ => ?_
  unfold doneK
  rw [List.take_succ_eq_append_getElem hm, Bool.or_assoc]
  congr 1
  rw [Bool.eq_iff_iff]
  simp only [Bool.or_eq_true, decide_eq_true_eq, List.contains_iff_mem]
  rw [List.mem_append, List.mem_singleton]
theorem doneK_all {i : Nat} (hl : out.length = t.length) : lay t w h (doneK t i (kids t i).length) out = lay t w h (doneK t (i + 1) 0) out := by
  refine lay_congr fun j hj => ?_
  unfold doneK
  rw [List.take_length, List.take_zero, Bool.eq_iff_iff]
  simp only [Bool.or_eq_true, decide_eq_true_eq, List.contains_iff_mem, mem_kids, List.not_mem_nil, or_false]
  constructor
  · rintro (h1 | ⟨_, h1⟩) <;> omega
  · intro h1
    by_cases h2 : (nodeAt t j).parent < (i : Int)
    · exact .inl h2
    · exact .inr ⟨by omega, by omega⟩
end
def zeroR : Rect := ⟨0, 0, 0, 0⟩
theorem lay_start {t : List Node} (hk : TreeK t) {w h : Int} : (List.replicate t.length zeroR).set 0 ⟨0, 0, w, h⟩ = lay t w h (doneK t 0 0) (List.replicate t.length zeroR) := by
  have e := lay_set (t := t) (w := w) (h := h) (A := fun _ => false) (out := List.replicate t.length zeroR) (k := 0)
  rw [lay_none fun _ _ => rfl, rectAt_zero] at e
  rw [e]
  refine lay_congr fun j hj => ?_
  have hj : j < t.length := by simpa using hj
  unfold doneK
  rw [nodeAt_eq hj]
  rw [List.take_zero, Bool.eq_iff_iff]
  simp only [Bool.false_or, decide_eq_true_eq, List.contains_nil, Bool.or_false]
  by_cases h0 : j = 0
  · subst h0; have := hk.root hj; constructor <;> intro _ <;> first | omega | rfl
  · have := hk.up j hj (by omega)
    constructor <;> intro _ <;> omega
theorem lay_end {t : List Node} (hk : TreeK t) {w h : Int} {out : List Rect} (hl : out.length = t.length) : lay t w h (doneK t t.length 0) out = layoutOf t w h := by
  refine lay_all hl fun j hj => ?_
  unfold doneK
  rw [nodeAt_eq hj, Bool.or_eq_true, decide_eq_true_eq]
  left
  by_cases h0 : j = 0
  · subst h0; have := hk.root hj; omega
  · have := hk.up j hj (by omega); omega
theorem laymap_at {t : List Node} {w h : Int} {A : Nat → Bool} {out : List Rect} {k : Nat} (hk : k < out.length) (ha : A k = true) : ((lay t w h A out).map encRect)[k]? = some (encRect (rectAt t w h k)) := by
  rw [List.getElem?_map, lay_at hk ha]; rfl

/-- The rectangles of kids as places tell. -/
theorem placed_take {t : List Node} {ks : List Nat} {r : Rect} {k : Nat} (h : k < ks.length) : (ks.map fun m => placed (nodeAt t m).place r).take (k + 1) = (ks.map fun m => placed (nodeAt t m).place r).take k ++ [placed (nodeAt t ks[k]).place r] := by
  rw [List.take_succ_eq_append_getElem (by simp; exact h)]; simp

set_option maxRecDepth 8000 in
set_option maxHeartbeats 8000000 in
theorem c_Alayout (t : List Node) (hk : TreeK t) (w h : Int) (hw : 0 ≤ w ∧ w ≤ 400) (hh : 0 ≤ h ∧ h ≤ 400) : ACon Tryz.prog 49 [vTree t, .d (.int .i64 w), .d (.int .i64 h)] [] (ORows encRect 4 (layoutOf t w h)) := by
  have hlo := hk.lo; have hhi := hk.hi
  have hst := lay_start hk (w := w) (h := h)
  have hrep : List.replicate t.length (encRect zeroR) = (List.replicate t.length zeroR).map encRect := by rw [List.map_replicate]
  have hz : (List.replicate t.length [D.int .i64 0, D.int .i64 0, D.int .i64 0, D.int .i64 0])[0]? = some [D.int .i64 0, D.int .i64 0, D.int .i64 0, D.int .i64 0] := by rw [List.getElem?_replicate, if_pos (show 0 < t.length from hlo)]
  have hst2 : (lay t w h (doneK t 0 0) (List.replicate t.length zeroR)).map encRect = (List.replicate t.length [D.int .i64 0, D.int .i64 0, D.int .i64 0, D.int .i64 0]).set 0 [D.int .i64 0, D.int .i64 0, D.int .i64 w, D.int .i64 h] := by rw [← hst, List.map_set, List.map_replicate]; rfl
  refine ACon.introW tok (nt := 125) Tryz.func49 rfl rfl rfl (by kernel_rfl) rfl ?_
  repeat' (first | ((with_reducible apply xsim); (first | ((with_reducible apply xbld); exact rfl; exact rfl; exact rfl; (try simp only [List.set_cons_zero, List.set_cons_succ])) | ((with_reducible apply xlenM); exact rfl; exact rfl) | ((with_reducible apply xo); exact rfl) | with_reducible apply xend | ((with_reducible apply xbox); exact rfl; simp only [bkL, Nat.reduceAdd, Nat.reduceSub]) | ((with_reducible apply xidxM); exact rfl; exact rfl; exact rfl; omega; omega; exact rfl) | ((with_reducible apply xstA); exact rfl; exact rfl; exact rfl; exact rfl; (first | exact hz); exact rfl; exact rfl; exact rfl; exact rfl; (try simp only [List.set_cons_zero, List.set_cons_succ, List.length_map])) | simp -implicitDefEqProofs only [go_sem, List.length_map])) | ((with_reducible apply xaw); (first | ((with_reducible apply xstepS); refine AW.step tok rfl ?_) | with_reducible (first | refine AW.seq ?_ | refine AW.block ?_))) | with_reducible (first | exact trivial | refine And.intro ?_ ?_) | omega)
  refine AW.loop (S := fun i : Nat => ⟨[(3, .oref 0 0), (7, .msl 1 4 0 t.length), (27, .d (.lst (t.map encNode))), (28, .d (.int .i64 t.length)), (29, .d (.int .i64 i))], [.box [.d (.lst (t.map encNode))], .arr 4 ((lay t w h (doneK t i 0) (List.replicate t.length zeroR)).map encRect)], 125, .p 0⟩)
    (Pre := fun i => i ≤ t.length) (μ := fun i => t.length - i) 0 (Nat.zero_le _) ?_ ?_
  · (refine xwk (π := [0, 1]) (by decide) rfl ?_ ?_; (first | simp -implicitDefEqProofs only [go_sem, hst2, Int.toNat_zero]); repeat' (first | exact renE_n | ((with_reducible apply renE_c); exact rfl; focus (first | (simp -implicitDefEqProofs only [go_sem, hst2, Int.toNat_zero]; done)))))
  intro i hi
  by_cases hlt : i < t.length
  · have hrow := at_map (f := encNode) hlt
    have hri := laymap_at (t := t) (w := w) (h := h) (A := doneK t i 0) (out := List.replicate t.length zeroR) (k := i) (by rw [List.length_replicate]; exact hlt) (doneK_self hk hlt)
    have hb := rect_bd hk hw hh i hlt
    have hrm := fun m (hm : m < (kids t i).length) => rectAt_kid hk (w := w) (v := h) hm
    generalize hr : rectAt t w h i = r at *
    have hin := hb.in (by omega)
    obtain ⟨b1, b2, b3, b4⟩ := hb
    have hkl : (kids t i).length ≤ 10 := by have := kids_len t i t.length; unfold kids; omega
    have hks : ∀ k ∈ kids t i, k < t.length := fun k hk' => (hk.kid hk').1
    have c1 := c_kidsI t hk i
    have c2 := ORows.data (c_packsI t hk _ hks hkl fun k hk' => c_request t hk k (hks k hk'))
    have c3 := c_gridI t hk i hlt _ hks hkl fun k hk' => c_request t hk k (hks k hk')
    have c4 := ORows.data (c_packRects (itemsOf t (kids t i)) r.w r.h (by omega) (by omega) (items_ok hk i).1 (items_ok hk i).2)
    have hkd := (nodeOk_iff (hk.ok i hlt)).1
    have hkr : kidRects t i (org r) = if t[i].kind = 0 then packed (itemsOf t (kids t i)) ⟨0, 0, r.w, r.h⟩ else if t[i].kind = 1 then gridRectsIn (gridOf t i (kids t i)) ⟨0, 0, r.w, r.h⟩ else (kids t i).map fun k => placed (nodeAt t k).place ⟨0, 0, r.w, r.h⟩ := by
      rw [← nodeAt_eq hlt]; rfl
    repeat' ((fail_if_success (with_reducible first | apply xnoblock | apply xnoblockT)); first | ((with_reducible apply xsim); (first | ((with_reducible apply xo); exact rfl) | with_reducible apply xend)) | ((with_reducible apply xaw); (first | ((with_reducible apply xstepS); refine AW.step tok rfl ?_) | with_reducible (first | refine AW.seq ?_ | refine AW.skip ?_) | ((with_reducible apply xcond); exact rfl))) | with_reducible refine xthen ?_ | (with_reducible intro hc; (try simp only [hcL, reduceCtorEq, List.length_map] at hc); (try (exfalso; omega))) | with_reducible (first | exact trivial | refine And.intro ?_ ?_ | exact rfl))
    refine AW.seq ?_
    refine AW.block ?_
    repeat' ((fail_if_success (with_reducible first | apply xnoblock | apply xnoblockT)); first | ((with_reducible apply xsim); (first | ((with_reducible apply xo); exact rfl) | ((with_reducible apply xst); exact rfl) | with_reducible apply xend | ((with_reducible apply xalloc); exact rfl; simp only [bkL, Nat.reduceAdd, Nat.reduceSub]) | ((with_reducible apply xidxL); exact rfl; exact rfl; exact rfl; (first | exact hrow | exact hri); omega; first | exact rfl | simp only [hsz]) | ((with_reducible apply xidxM); exact rfl; exact rfl; exact rfl; omega; omega; exact rfl) | ((with_reducible apply xldA); exact rfl; exact rfl; exact rfl; (first | exact hrow | exact hri); exact rfl))) | ((with_reducible apply xaw); (first | ((with_reducible apply xstepS); refine AW.step tok rfl ?_) | with_reducible refine AW.seq ?_ | ((with_reducible apply xdraw (id := 6)); refine AW.draw (id := 6) (.q 0 (.q 1 (.q 2 (.q 3 (.q 4 (.q 5 (.q 6 (.e 7 (.q 8 (.e 9 (.fin))))))))))) tok (by kernel_rfl) rfl (by kernel_rfl) ?_))) | ((with_reducible apply xarun); (first | ((with_reducible apply xrun_q); exact rfl; exact rfl; exact rfl) | ((with_reducible apply xrun_c); exact rfl; exact rfl; exact rfl; exact rfl; exact rfl; exact rfl; exact c1; exact rfl) | ((with_reducible apply xrun_e); exact rfl) | with_reducible apply xrun_f)) | with_reducible refine xthen ?_ | with_reducible (first | exact trivial | refine And.intro ?_ ?_) | exact Eq.refl true)
    refine AW.cutBT (S := fun _ : Unit => ⟨[(3, .oref 0 0), (7, .msl 1 4 0 t.length), (10, .d (.lst ((kids t i).map encK))), (11, .oref 2 0), (12, .d (.lst ((kidRects t i (org r)).map encRect))), (27, .d (.lst (t.map encNode))), (28, .d (.int .i64 t.length)), (29, .d (.int .i64 i))],
      [.box [.d (.lst (t.map encNode))], .arr 4 ((lay t w h (doneK t i 0) (List.replicate t.length zeroR)).map encRect), .box ((encRect r).map .d)], 125, .p 0⟩) (Pre := fun _ => True) ?_ ?_
    · by_cases hk0 : t[i].kind = 0
      · rw [if_pos hk0] at hkr
        repeat' (first | ((with_reducible apply xsim); (first | ((with_reducible apply xo); exact rfl) | with_reducible apply xend)) | ((with_reducible apply xaw); (first | ((with_reducible apply xstepS); refine AW.step tok rfl ?_) | ((with_reducible apply xcond); exact rfl) | ((with_reducible apply xdraw (id := 15)); refine AW.draw (id := 15) (.q 0 (.q 1 (.q 2 (.q 3 (.q 4 (.q 5 (.q 6 (.q 7 (.q 8 (.fin)))))))))) tok (by kernel_rfl) rfl (by kernel_rfl) ?_))) | ((with_reducible apply xarun); (first | ((with_reducible apply xrun_q); exact rfl; exact rfl; exact rfl) | ((with_reducible apply xrun_c); exact rfl; exact rfl; exact rfl; exact rfl; exact rfl; exact rfl; (first | exact c2 | exact c4); exact rfl) | with_reducible apply xrun_f)) | with_reducible refine xblock ?_ | (with_reducible intro hc; (try simp only [hcL, reduceCtorEq, List.length_map] at hc); (try (exfalso; omega))) | with_reducible (first | exact trivial | refine And.intro ?_ ?_ | exact rfl) | exact Eq.refl true)
        refine cut_end () trivial (by (refine xwk (π := [0, 1, 3]) (by decide) rfl ?_ ?_; (first | simp -implicitDefEqProofs only [go_sem, hkr]); repeat' (first | exact renE_n | ((with_reducible apply renE_c); exact rfl; focus (first | (simp -implicitDefEqProofs only [go_sem, hkr]; done))))))
      · rw [if_neg hk0] at hkr
        by_cases hk1 : t[i].kind = 1
        · rw [if_pos hk1] at hkr
          have c5 := ORows.data (c_rectsI (gridOf t i (kids t i)) r.w r.h (grid_ok hk hlt (by rw [nodeAt_eq hlt]; exact hk1)) (by omega) (by omega))
          repeat' (first | ((with_reducible apply xsim); (first | ((with_reducible apply xo); exact rfl) | with_reducible apply xend)) | ((with_reducible apply xaw); (first | ((with_reducible apply xstepS); refine AW.step tok rfl ?_) | ((with_reducible apply xcond); exact rfl) | ((with_reducible apply xdraw (id := 17)); refine AW.draw (id := 17) (.q 0 (.q 1 (.q 2 (.q 3 (.q 4 (.q 5 (.q 6 (.q 7 (.q 8 (.q 9 (.fin))))))))))) tok (by kernel_rfl) rfl (by kernel_rfl) ?_))) | ((with_reducible apply xarun); (first | ((with_reducible apply xrun_q); exact rfl; exact rfl; exact rfl) | ((with_reducible apply xrun_c); exact rfl; exact rfl; exact rfl; exact rfl; exact rfl; exact rfl; (first | exact c3 | exact c5); exact rfl) | with_reducible apply xrun_f)) | with_reducible refine xblock ?_ | (with_reducible intro hc; (try simp only [hcL, reduceCtorEq, List.length_map] at hc); (try (exfalso; omega))) | with_reducible (first | exact trivial | refine And.intro ?_ ?_ | exact rfl) | exact Eq.refl true)
          refine cut_end () trivial (by (refine xwk (π := [0, 1, 3]) (by decide) rfl ?_ ?_; (first | simp -implicitDefEqProofs only [go_sem, hkr]); repeat' (first | exact renE_n | ((with_reducible apply renE_c); exact rfl; focus (first | (simp -implicitDefEqProofs only [go_sem, hkr]; done))))))
        · rw [if_neg hk1] at hkr
          repeat' (first | ((with_reducible apply xsim); (first | ((with_reducible apply xlenM); exact rfl; exact rfl) | ((with_reducible apply xo); exact rfl) | with_reducible apply xend)) | ((with_reducible apply xaw); (first | ((with_reducible apply xstepS); refine AW.step tok rfl ?_) | with_reducible refine AW.block ?_ | ((with_reducible apply xcond); exact rfl))) | (with_reducible intro hc; (try simp only [hcL, reduceCtorEq, List.length_map] at hc); (try (exfalso; omega))) | with_reducible (first | exact trivial | refine And.intro ?_ ?_ | exact rfl))
          refine AW.own 12 4 rfl ?_
          refine AW.loop (S := fun m : Nat => ⟨[(3, .oref 0 0), (7, .msl 1 4 0 t.length), (10, .d (.lst ((kids t i).map encK))), (11, .oref 2 0), (12, .msl 3 4 0 m), (27, .d (.lst (t.map encNode))), (28, .d (.int .i64 t.length)), (29, .d (.int .i64 i)), (43, .d (.lst ((kids t i).map encK))), (44, .d (.int .i64 (kids t i).length)), (45, .d (.int .i64 m))],
              [.box [.d (.lst (t.map encNode))], .arr 4 ((lay t w h (doneK t i 0) (List.replicate t.length zeroR)).map encRect), .box ((encRect r).map .d), .arr 4 (((kids t i).map fun k => placed (nodeAt t k).place ⟨0, 0, r.w, r.h⟩).take m |>.map encRect)], 125, .p 0⟩)
            (Pre := fun m => m ≤ (kids t i).length) (μ := fun m => (kids t i).length - m) 0 (Nat.zero_le _) ?_ ?_
          · (refine xwk (π := [0, 1, 3, 4]) (by decide) rfl ?_ ?_; (first | simp -implicitDefEqProofs only [go_sem, List.take_zero]); repeat' (first | exact renE_n | ((with_reducible apply renE_c); exact rfl; focus (first | (simp -implicitDefEqProofs only [go_sem, List.take_zero]; done)))))
          intro m hm
          have hml : (((kids t i).map fun k => placed (nodeAt t k).place ⟨0, 0, r.w, r.h⟩).take m).length = m := by simp; omega
          by_cases hmt : m < (kids t i).length
          · have hrk := at_map (f := encK) hmt
            have hkm := hks _ (List.getElem_mem hmt)
            have hrn := at_map (f := encNode) hkm
            have hs := placed_take (t := t) (r := ⟨0, 0, r.w, r.h⟩) hmt
            rw [nodeAt_eq hkm] at hs
            have c6 := c_placeI t[(kids t i)[m]].place r.w r.h (nodeOk_iff (hk.ok _ hkm)).2.2.2.1 (by omega) (by omega)
            generalize placed t[(kids t i)[m]].place ⟨0, 0, r.w, r.h⟩ = q at hs c6
            repeat' (first | ((with_reducible apply xsim); (first | ((with_reducible apply xo); exact rfl) | with_reducible apply xend | ((with_reducible apply xbuild); exact rfl; exact rfl; exact rfl; exact rfl; exact rfl; simp only [bkL, Nat.reduceAdd, Nat.reduceSub]) | ((with_reducible apply xidxL); exact rfl; exact rfl; exact rfl; (first | exact hrk | exact hrn); omega; first | exact rfl | simp only [hsz]) | simp -implicitDefEqProofs only [go_sem, List.length_map, hml])) | ((with_reducible apply xaw); (first | ((with_reducible apply xstepS); refine AW.step tok rfl ?_) | ((with_reducible apply xstep); refine AW.region tok rfl ?_) | with_reducible (first | refine AW.seq ?_ | refine AW.block ?_ | refine AW.skip ?_) | ((with_reducible apply xcond); exact rfl) | ((with_reducible apply xdraw (id := 12)); refine AW.draw (id := 12) (.q 0 (.q 1 (.q 2 (.q 3 (.q 4 (.q 5 (.q 6 (.q 7 (.q 8 (.q 9 (.q 10 (.q 11 (.e 12 (.e 13 (.q 14 (.fin)))))))))))))))) tok (by kernel_rfl) rfl (by kernel_rfl) ?_))) | ((with_reducible apply xarun); (first | ((with_reducible apply xrun_q); exact rfl; exact rfl; exact rfl) | ((with_reducible apply xrun_c); exact rfl; exact rfl; exact rfl; exact rfl; exact rfl; exact rfl; exact c6; exact rfl) | ((with_reducible apply xrun_e); exact rfl))) | with_reducible refine xthen ?_ | (with_reducible intro hc; (try simp only [hcL, reduceCtorEq, List.length_map, hml] at hc); (try (exfalso; omega))) | with_reducible (first | exact trivial | refine And.intro ?_ ?_ | exact rfl) | exact Eq.refl true | (refine inR_i64.mpr ?_; first | omega | (simp only [List.length_map, List.length_map, hml]; omega)) | omega)
            refine round_end (m+1) hmt (by omega) (by (refine xwk (π := [0, 1, 2, 5]) (by decide) rfl ?_ ?_; (first | simp -implicitDefEqProofs only [go_sem, hs, List.map_append]); repeat' (first | exact renE_n | ((with_reducible apply renE_c); exact rfl; focus (first | (simp -implicitDefEqProofs only [go_sem, hs, List.map_append]; done))))))
          have hm' : m = (kids t i).length := by omega
          subst hm'
          have hta : ((kids t i).map fun k => placed (nodeAt t k).place ⟨0, 0, r.w, r.h⟩).take (kids t i).length = (kids t i).map fun k => placed (nodeAt t k).place ⟨0, 0, r.w, r.h⟩ := List.take_of_length_le (by simp)
          rw [hta, ← hkr]
          repeat' (first | ((with_reducible apply xsim); (first | ((with_reducible apply xo); exact rfl) | with_reducible apply xend)) | ((with_reducible apply xaw); (first | ((with_reducible apply xstepS); refine AW.step tok rfl ?_) | with_reducible (first | refine AW.seq ?_ | refine AW.exit ?_) | ((with_reducible apply xcond); exact rfl))) | with_reducible (first | refine xthen_e ?_ | refine xblock ?_ | refine xblock_e ?_ | refine xround_e ?_) | (with_reducible intro hc; (try simp only [hcL, reduceCtorEq, List.length_map] at hc); (try (exfalso; omega))) | with_reducible (first | exact trivial | refine And.intro ?_ ?_ | exact rfl))
          refine cutW (Weak.freezeA 12 3 4 rfl rfl (by rw [List.length_map, kidRects_len hk])) ?_
          refine cut_end () trivial (by (refine xwk (π := [0, 1, 2]) (by decide) rfl ?_ ?_; (first | simp -implicitDefEqProofs only [go_sem]); repeat' (first | exact renE_n | ((with_reducible apply renE_c); exact rfl; focus (first | (simp -implicitDefEqProofs only [go_sem]; done))))))
    rintro ⟨⟩ -
    have hql := kidRects_len hk (i := i) (org r)
    have hlal : ∀ A, (lay t w h A (List.replicate t.length zeroR)).length = t.length := fun A => by rw [lay_len, List.length_replicate]
    repeat' (first | ((with_reducible apply xsim); (first | ((with_reducible apply xlenM); exact rfl; exact rfl) | ((with_reducible apply xo); exact rfl) | with_reducible apply xend)) | ((with_reducible apply xaw); (first | ((with_reducible apply xstepS); refine AW.step tok rfl ?_) | with_reducible refine AW.block ?_)) | with_reducible exact trivial)
    refine AW.loop (S := fun m : Nat => ⟨[(3, .oref 0 0), (7, .msl 1 4 0 t.length), (11, .oref 2 0), (12, .d (.lst ((kidRects t i (org r)).map encRect))), (27, .d (.lst (t.map encNode))), (28, .d (.int .i64 t.length)), (29, .d (.int .i64 i)), (85, .d (.lst ((kids t i).map encK))), (86, .d (.int .i64 (kids t i).length)), (87, .d (.int .i64 m))],
        [.box [.d (.lst (t.map encNode))], .arr 4 ((lay t w h (doneK t i m) (List.replicate t.length zeroR)).map encRect), .box ((encRect r).map .d)], 125, .p 0⟩)
      (Pre := fun m => m ≤ (kids t i).length) (μ := fun m => (kids t i).length - m) 0 (Nat.zero_le _) ?_ ?_
    · (refine xwk (π := [0, 1, 2]) (by decide) rfl ?_ ?_; (first | simp -implicitDefEqProofs only [go_sem]); repeat' (first | exact renE_n | ((with_reducible apply renE_c); exact rfl; focus (first | (simp -implicitDefEqProofs only [go_sem]; done)))))
    intro m hm
    by_cases hmt : m < (kids t i).length
    · have hrk := at_map (f := encK) hmt
      have hkm := hks _ (List.getElem_mem hmt)
      have hrq := at_map (f := encRect) (xs := kidRects t i (org r)) (k := m) (by omega)
      have hcell := at_map (f := encRect) (xs := lay t w h (doneK t i m) (List.replicate t.length zeroR)) (k := (kids t i)[m]) (by rw [hlal]; exact hkm)
      have hmv : rectAt t w h (kids t i)[m] = mv r ((kidRects t i (org r))[m]'(by omega)) := by
        rw [hrm m hmt]
        have := kidRects_org t i r
        simp only [this, List.getElem_map]
      have hbk := rect_bd hk hw hh _ hkm
      have hset : ((lay t w h (doneK t i m) (List.replicate t.length zeroR)).map encRect).set (kids t i)[m] (encRect (rectAt t w h (kids t i)[m])) = (lay t w h (doneK t i (m + 1)) (List.replicate t.length zeroR)).map encRect := by
        rw [← List.map_set, lay_set, doneK_step hmt]
      rw [hmv] at hset hbk
      generalize (kidRects t i (org r))[m]'(by omega) = q at *
      generalize (lay t w h (doneK t i m) (List.replicate t.length zeroR))[(kids t i)[m]]'(by rw [hlal]; exact hkm) = z at *
      obtain ⟨a1, a2, a3, a4⟩ := hbk
      simp only [mv] at a1 a2 a3 a4
      simp only [encRect, mv] at hset
      repeat' (first | ((with_reducible apply xsim); (first | ((with_reducible apply xbld); exact rfl; exact rfl; exact rfl; (try simp only [List.set_cons_zero, List.set_cons_succ])) | ((with_reducible apply xo); exact rfl) | with_reducible apply xend | ((with_reducible apply xidxL); exact rfl; exact rfl; exact rfl; (first | exact hrk | exact hrq | exact hcell); omega; first | exact rfl | simp only [hsz]) | ((with_reducible apply xidxM); exact rfl; exact rfl; exact rfl; omega; omega; exact rfl) | ((with_reducible apply xstA); exact rfl; exact rfl; exact rfl; exact rfl; (first | exact hrk | exact hrq | exact hcell); exact rfl; exact rfl; exact rfl; exact rfl; (try simp only [List.set_cons_zero, List.set_cons_succ, List.length_map])))) | ((with_reducible apply xaw); (first | ((with_reducible apply xstepS); refine AW.step tok rfl ?_) | ((with_reducible apply xstep); refine AW.region tok rfl ?_) | with_reducible (first | refine AW.seq ?_ | refine AW.block ?_ | refine AW.skip ?_) | ((with_reducible apply xcond); exact rfl) | ((with_reducible apply xdraw (id := 21)); refine AW.draw (id := 21) (.q 0 (.q 1 (.q 2 (.q 3 (.q 4 (.q 5 (.q 6 (.q 7 (.q 8 (.q 9 (.q 10 (.q 11 (.q 12 (.q 13 (.q 14 (.q 15 (.q 16 (.q 17 (.q 18 (.q 19 (.q 20 (.q 21 (.q 22 (.q 23 (.q 24 (.q 25 (.q 26 (.q 27 (.q 28 (.q 29 (.e 30 (.fin)))))))))))))))))))))))))))))))) tok (by kernel_rfl) rfl (by kernel_rfl) ?_))) | ((with_reducible apply xarun); (first | ((with_reducible apply xrun_q); exact rfl; exact rfl; exact rfl) | ((with_reducible apply xrun_e); exact rfl) | with_reducible apply xrun_f)) | with_reducible (first | refine xthen ?_ | refine xblock ?_) | (with_reducible intro hc; (try simp only [hcL, reduceCtorEq, List.length_map] at hc); (try (exfalso; omega))) | with_reducible (first | exact trivial | refine And.intro ?_ ?_ | exact rfl) | (refine inR_i64.mpr ?_; first | omega | (simp only [List.length_map, List.length_map]; omega)))
      refine round_end (m+1) hmt (by omega) (by (refine xwk (π := [0, 1, 2]) (by decide) rfl ?_ ?_; (first | simp -implicitDefEqProofs only [go_sem, hset]); repeat' (first | exact renE_n | ((with_reducible apply renE_c); exact rfl; focus (first | (simp -implicitDefEqProofs only [go_sem, hset]; done))))))
    have hm' : m = (kids t i).length := by omega
    subst hm'
    have hd := doneK_all (t := t) (w := w) (h := h) (i := i) (out := List.replicate t.length zeroR) (by rw [List.length_replicate])
    repeat' (first | ((with_reducible apply xsim); (first | ((with_reducible apply xo); exact rfl) | with_reducible apply xend)) | ((with_reducible apply xaw); (first | ((with_reducible apply xstepS); refine AW.step tok rfl ?_) | ((with_reducible apply xstep); refine AW.region tok rfl ?_) | with_reducible (first | refine AW.seq ?_ | refine AW.exit ?_) | ((with_reducible apply xcond); exact rfl))) | with_reducible (first | refine xthen ?_ | refine xthen_e ?_ | refine xblock ?_ | refine xblock_e ?_ | refine xround_e ?_) | (with_reducible intro hc; (try simp only [hcL, reduceCtorEq, List.length_map] at hc); (try (exfalso; omega))) | with_reducible (first | exact trivial | refine And.intro ?_ ?_ | exact rfl) | (refine inR_i64.mpr ?_; first | omega | (simp only [List.length_map, List.length_map]; omega)))
    refine round_end (i+1) hlt (by omega) (by (refine xwk (π := [0, 1]) (by decide) rfl ?_ ?_; (first | simp -implicitDefEqProofs only [go_sem, hd]); repeat' (first | exact renE_n | ((with_reducible apply renE_c); exact rfl; focus (first | (simp -implicitDefEqProofs only [go_sem, hd]; done))))))
  have hi' : i = t.length := by omega
  subst hi'
  have he := lay_end hk (w := w) (h := h) (out := List.replicate t.length zeroR) (by rw [List.length_replicate])
  have hll : (layoutOf t w h).length = t.length := by simp [layoutOf]
  rw [he]
  repeat' (first | ((with_reducible apply xsim); (first | ((with_reducible apply xo); exact rfl) | with_reducible apply xend)) | ((with_reducible apply xaw); (first | ((with_reducible apply xstepS); refine AW.step tok rfl ?_) | with_reducible (first | refine AW.seq ?_ | refine AW.ret ?_ | refine AW.exit ?_) | ((with_reducible apply xcond); exact rfl))) | with_reducible (first | refine xthen ?_ | refine xthen_e ?_ | refine xblock_e ?_ | refine xround_e ?_) | (with_reducible intro hc; (try simp only [hcL, reduceCtorEq, List.length_map] at hc); (try (exfalso; omega))) | with_reducible (first | exact trivial | refine And.intro ?_ ?_ | exact rfl))
  (refine xfinOwn [1] (by first | exact .inl rfl | exact .inr rfl) rfl (by repeat' (first | exact trivial | exact rfl | refine And.intro ?_ ?_)) (by decide) rfl ?_ ?_ <;> simp -implicitDefEqProofs only [go_sem, hll])
end Go.Proofs.YtpfhnhhkfobjnaaGreat

namespace Go.Proofs.YtpfhnhhkfobjnaaGreat
open Go.Fw
attribute [local irreducible] Go.Fw.aops Go.Fw.arun

/-- A node, and all at or below some of its kids. -/
def belTo (t : List Node) (i m : Nat) (j : Nat) : Bool := decide (j = i) || ((kids t i).take m).any fun k => bel t k j
section
variable {t : List Node} {w h : Int} {out : List Rect}
theorem belTo_zero {i : Nat} : out.set i (rectAt t w h i) = lay t w h (belTo t i 0) out := by
  have e := lay_set (t := t) (w := w) (h := h) (A := fun _ => false) (out := out) (k := i)
  rw [lay_none fun _ _ => rfl] at e
  rw [e]
  exact lay_congr fun j _ => by simp [belTo]
theorem belTo_step {i m : Nat} (hm : m < (kids t i).length) : lay t w h (bel t (kids t i)[m]) (lay t w h (belTo t i m) out) = lay t w h (belTo t i (m + 1)) out := by
  rw [lay_lay]
  refine lay_congr fun j _ => ?_
  unfold belTo
  rw [List.take_succ_eq_append_getElem hm, List.any_append, Bool.or_assoc]
  congr 2
  simp only [List.any_cons, List.any_nil, Bool.or_false]
theorem belTo_all (hk : TreeK t) {i : Nat} (hi : i < t.length) : lay t w h (belTo t i (kids t i).length) out = lay t w h (bel t i) out := by
  refine lay_congr fun j _ => ?_
  rw [belTo, List.take_length, bel_eq hk hi]
end

set_option maxRecDepth 8000 in
set_option maxHeartbeats 8000000 in
theorem c_laid (t : List Node) (hk : TreeK t) (w h : Int) (hw : 0 ≤ w ∧ w ≤ 400) (hh : 0 ≤ h ∧ h ≤ 400) : ∀ m i : Nat, t.length - i ≤ m → i < t.length → ∀ out : List Rect, out.length = t.length →
    ACon Tryz.prog 72 [vTree t, .d (.int .i64 (i : Int)), vRect (rectAt t w h i), .msl 0 4 0 t.length] [.arr 4 (out.map encRect)] (Own (.tup []) [.arr 4 ((lay t w h (bel t i) out).map encRect)]) := by
  intro m
  induction m with
  | zero => intro i h1 h2; omega
  | succ m ih =>
    intro i h1 hlt out hol
    have hlo := hk.lo; have hhi := hk.hi
    have hb := rect_bd hk hw hh i hlt
    have hrm := fun m (hm : m < (kids t i).length) => rectAt_kid hk (w := w) (v := h) hm
    have hz := belTo_zero (t := t) (w := w) (h := h) (out := out) (i := i)
    have hset0 : (out.map encRect).set i (encRect (rectAt t w h i)) = (lay t w h (belTo t i 0) out).map encRect := by rw [← List.map_set, hz]
    generalize hr : rectAt t w h i = r at *
    have hin := hb.in (by omega)
    obtain ⟨b1, b2, b3, b4⟩ := hb
    have hrow := at_map (f := encNode) hlt
    have hcell := at_map (f := encRect) (xs := out) (k := i) (by omega)
    generalize out[i]'(by omega) = z0 at hcell
    have hkl : (kids t i).length ≤ 10 := by have := kids_len t i t.length; unfold kids; omega
    have hks : ∀ k ∈ kids t i, k < t.length := fun k hk' => (hk.kid hk').1
    have c1 := c_kidsS t hk i
    have c2 := ORows.data (c_packsS t hk _ hks hkl fun k hk' => c_sizeOf t hk k (hks k hk'))
    have c3 := c_gridS t hk i hlt _ hks hkl fun k hk' => c_sizeOf t hk k (hks k hk')
    have c4 := ORows.data (c_packed (itemsOf t (kids t i)) r hin (items_ok hk i).1 (items_ok hk i).2)
    have hkd := (nodeOk_iff (hk.ok i hlt)).1
    have hkr : kidRects t i r = if t[i].kind = 0 then packed (itemsOf t (kids t i)) r else if t[i].kind = 1 then gridRectsIn (gridOf t i (kids t i)) r else (kids t i).map fun k => placed (nodeAt t k).place r := by
      rw [← nodeAt_eq hlt]; rfl
    simp only [encRect] at hset0
    refine ACon.introW tok (nt := 78) Tryz.func72 rfl rfl rfl (by kernel_rfl) rfl ?_
    repeat' ((fail_if_success (with_reducible first | apply xnoblock | apply xnoblockT)); first | ((with_reducible apply xsim); (first | ((with_reducible apply xo); exact rfl) | with_reducible apply xend | ((with_reducible apply xbox); exact rfl; simp only [bkL, Nat.reduceAdd, Nat.reduceSub]) | ((with_reducible apply xbuild); exact rfl; exact rfl; exact rfl; exact rfl; exact rfl; simp only [bkL, Nat.reduceAdd, Nat.reduceSub]) | ((with_reducible apply xidxL); exact rfl; exact rfl; exact rfl; (first | exact hcell | exact hrow); omega; first | exact rfl | simp only [hsz]) | ((with_reducible apply xidxM); exact rfl; exact rfl; exact rfl; omega; omega; exact rfl) | ((with_reducible apply xstA); exact rfl; exact rfl; exact rfl; exact rfl; (first | exact hcell | exact hrow); exact rfl; exact rfl; exact rfl; exact rfl; (try simp only [List.set_cons_zero, List.set_cons_succ, List.length_map])) | ((with_reducible apply xcallIs); exact rfl; exact rfl; exact c1; exact rfl))) | ((with_reducible apply xaw); (first | ((with_reducible apply xstepS); refine AW.step tok rfl ?_) | with_reducible refine AW.seq ?_)) | with_reducible exact trivial | exact Eq.refl true)
    refine AW.cutBT (S := fun _ : Unit => ⟨[(3, .msl 0 4 0 t.length), (4, .oref 1 0), (8, .d (.lst ((kids t i).map encK))), (9, .d (.lst ((kidRects t i r).map encRect)))],
      [.arr 4 ((lay t w h (belTo t i 0) out).map encRect), .box [.d (.lst (t.map encNode))]], 78, .p 1⟩) (Pre := fun _ => True) ?_ ?_
    · by_cases hk0 : t[i].kind = 0
      · rw [if_pos hk0] at hkr
        repeat' (first | ((with_reducible apply xsim); (first | ((with_reducible apply xo); exact rfl) | with_reducible apply xend)) | ((with_reducible apply xaw); (first | ((with_reducible apply xstepS); refine AW.step tok rfl ?_) | ((with_reducible apply xcond); exact rfl) | ((with_reducible apply xdraw (id := 10)); refine AW.draw (id := 10) (.q 0 (.q 1 (.q 2 (.q 3 (.q 4 (.q 5 (.fin))))))) tok (by kernel_rfl) rfl (by kernel_rfl) ?_))) | ((with_reducible apply xarun); (first | ((with_reducible apply xrun_q); exact rfl; exact rfl; exact rfl) | ((with_reducible apply xrun_c); exact rfl; exact rfl; exact rfl; exact rfl; exact rfl; exact rfl; (first | exact c2 | exact c4); exact rfl) | with_reducible apply xrun_f)) | with_reducible refine xblock ?_ | (with_reducible intro hc; (try simp only [hcL, reduceCtorEq, List.length_map] at hc); (try (exfalso; omega))) | with_reducible (first | exact trivial | refine And.intro ?_ ?_ | exact rfl) | exact Eq.refl true)
        refine cut_end () trivial (by (refine xwk (π := [0, 1]) (by decide) rfl ?_ ?_; (first | simp -implicitDefEqProofs only [go_sem, hkr, hset0]); repeat' (first | exact renE_n | ((with_reducible apply renE_c); exact rfl; focus (first | (simp -implicitDefEqProofs only [go_sem, hkr, hset0]; done))))))
      · rw [if_neg hk0] at hkr
        by_cases hk1 : t[i].kind = 1
        · rw [if_pos hk1] at hkr
          have c5 := ORows.data (c_gridded (gridOf t i (kids t i)) r (grid_ok hk hlt (by rw [nodeAt_eq hlt]; exact hk1)) (by omega) (by omega) (by omega) (by omega))
          repeat' (first | ((with_reducible apply xsim); (first | ((with_reducible apply xo); exact rfl) | with_reducible apply xend)) | ((with_reducible apply xaw); (first | ((with_reducible apply xstepS); refine AW.step tok rfl ?_) | ((with_reducible apply xcond); exact rfl) | ((with_reducible apply xdraw (id := 12)); refine AW.draw (id := 12) (.q 0 (.q 1 (.q 2 (.q 3 (.q 4 (.q 5 (.q 6 (.fin)))))))) tok (by kernel_rfl) rfl (by kernel_rfl) ?_))) | ((with_reducible apply xarun); (first | ((with_reducible apply xrun_q); exact rfl; exact rfl; exact rfl) | ((with_reducible apply xrun_c); exact rfl; exact rfl; exact rfl; exact rfl; exact rfl; exact rfl; (first | exact c3 | exact c5); exact rfl) | with_reducible apply xrun_f)) | with_reducible refine xblock ?_ | (with_reducible intro hc; (try simp only [hcL, reduceCtorEq, List.length_map] at hc); (try (exfalso; omega))) | with_reducible (first | exact trivial | refine And.intro ?_ ?_ | exact rfl) | exact Eq.refl true)
          refine cut_end () trivial (by (refine xwk (π := [0, 1]) (by decide) rfl ?_ ?_; (first | simp -implicitDefEqProofs only [go_sem, hkr, hset0]); repeat' (first | exact renE_n | ((with_reducible apply renE_c); exact rfl; focus (first | (simp -implicitDefEqProofs only [go_sem, hkr, hset0]; done))))))
        · rw [if_neg hk1] at hkr
          repeat' (first | ((with_reducible apply xsim); (first | ((with_reducible apply xo); exact rfl) | with_reducible apply xend)) | ((with_reducible apply xaw); (first | ((with_reducible apply xstepS); refine AW.step tok rfl ?_) | with_reducible refine AW.block ?_ | ((with_reducible apply xcond); exact rfl))) | (with_reducible intro hc; (try simp only [hcL, reduceCtorEq, List.length_map] at hc); (try (exfalso; omega))) | with_reducible (first | exact trivial | refine And.intro ?_ ?_ | exact rfl))
          refine AW.loop (S := fun m : Nat => ⟨[(3, .msl 0 4 0 t.length), (4, .oref 1 0), (6, .oref 2 0), (8, .d (.lst ((kids t i).map encK))), (9, .msl 3 4 0 m), (10, .d (.int .i64 m))],
              [.arr 4 ((lay t w h (belTo t i 0) out).map encRect), .box [.d (.lst (t.map encNode))], .box ((encRect r).map .d), .arr 4 (((kids t i).map fun k => placed (nodeAt t k).place r).take m |>.map encRect)], 78, .p 1⟩)
            (Pre := fun m => m ≤ (kids t i).length) (μ := fun m => (kids t i).length - m) 0 (Nat.zero_le _) ?_ ?_
          · (refine xwk (π := [0, 1, 2, 3]) (by decide) rfl ?_ ?_; (first | simp -implicitDefEqProofs only [go_sem, List.take_zero, hset0]); repeat' (first | exact renE_n | ((with_reducible apply renE_c); exact rfl; focus (first | (simp -implicitDefEqProofs only [go_sem, List.take_zero, hset0]; done)))))
          intro m hm
          have hml : (((kids t i).map fun k => placed (nodeAt t k).place r).take m).length = m := by simp; omega
          by_cases hmt : m < (kids t i).length
          · have hrk := at_map (f := encK) hmt
            have hkm := hks _ (List.getElem_mem hmt)
            have hrn := at_map (f := encNode) hkm
            have hs := placed_take (t := t) (r := r) hmt
            rw [nodeAt_eq hkm] at hs
            have c6 := c_placeS t[(kids t i)[m]].place r (nodeOk_iff (hk.ok _ hkm)).2.2.2.1 hin
            generalize placed t[(kids t i)[m]].place r = q at hs c6
            repeat' (first | ((with_reducible apply xsim); (first | ((with_reducible apply xlenM); exact rfl; exact rfl) | ((with_reducible apply xo); exact rfl) | with_reducible apply xend | ((with_reducible apply xbuild); exact rfl; exact rfl; exact rfl; exact rfl; exact rfl; simp only [bkL, Nat.reduceAdd, Nat.reduceSub]) | ((with_reducible apply xidxL); exact rfl; exact rfl; exact rfl; (first | exact hrk | exact hrn); omega; first | exact rfl | simp only [hsz]) | simp -implicitDefEqProofs only [go_sem, List.length_map, hml])) | ((with_reducible apply xaw); (first | ((with_reducible apply xstepS); refine AW.step tok rfl ?_) | ((with_reducible apply xstep); refine AW.region tok rfl ?_) | with_reducible (first | refine AW.seq ?_ | refine AW.block ?_ | refine AW.skip ?_) | ((with_reducible apply xcond); exact rfl) | ((with_reducible apply xdraw (id := 8)); refine AW.draw (id := 8) (.q 0 (.q 1 (.q 2 (.q 3 (.q 4 (.q 5 (.q 6 (.q 7 (.q 8 (.q 9 (.q 10 (.q 11 (.e 12 (.e 13 (.q 14 (.fin)))))))))))))))) tok (by kernel_rfl) rfl (by kernel_rfl) ?_))) | ((with_reducible apply xarun); (first | ((with_reducible apply xrun_q); exact rfl; exact rfl; exact rfl) | ((with_reducible apply xrun_c); exact rfl; exact rfl; exact rfl; exact rfl; exact rfl; exact rfl; exact c6; exact rfl) | ((with_reducible apply xrun_e); exact rfl))) | with_reducible refine xthen ?_ | (with_reducible intro hc; (try simp only [hcL, reduceCtorEq, List.length_map, hml] at hc); (try (exfalso; omega))) | with_reducible (first | exact trivial | refine And.intro ?_ ?_ | exact rfl) | exact Eq.refl true | (refine inR_i64.mpr ?_; first | omega | (simp only [List.length_map, List.length_map, hml]; omega)) | omega)
            refine round_end (m+1) hmt (by omega) (by (refine xwk (π := [0, 1, 2, 5]) (by decide) rfl ?_ ?_; (first | simp -implicitDefEqProofs only [go_sem, hs, List.map_append]); repeat' (first | exact renE_n | ((with_reducible apply renE_c); exact rfl; focus (first | (simp -implicitDefEqProofs only [go_sem, hs, List.map_append]; done))))))
          have hm' : m = (kids t i).length := by omega
          subst hm'
          have hta : ((kids t i).map fun k => placed (nodeAt t k).place r).take (kids t i).length = (kids t i).map fun k => placed (nodeAt t k).place r := List.take_of_length_le (by simp)
          rw [hta, ← hkr]
          repeat' (first | ((with_reducible apply xsim); (first | ((with_reducible apply xlenM); exact rfl; exact rfl) | ((with_reducible apply xo); exact rfl) | with_reducible apply xend)) | ((with_reducible apply xaw); (first | ((with_reducible apply xstepS); refine AW.step tok rfl ?_) | with_reducible (first | refine AW.seq ?_ | refine AW.exit ?_) | ((with_reducible apply xcond); exact rfl))) | with_reducible (first | refine xthen_e ?_ | refine xblock ?_ | refine xblock_e ?_ | refine xround_e ?_) | (with_reducible intro hc; (try simp only [hcL, reduceCtorEq, List.length_map] at hc); (try (exfalso; omega))) | with_reducible (first | exact trivial | refine And.intro ?_ ?_ | exact rfl))
          refine cutW (Weak.freezeA 9 3 4 rfl rfl (by rw [List.length_map, kidRects_len hk])) ?_
          refine cut_end () trivial (by (refine xwk (π := [0, 1]) (by decide) rfl ?_ ?_; (first | simp -implicitDefEqProofs only [go_sem]); repeat' (first | exact renE_n | ((with_reducible apply renE_c); exact rfl; focus (first | (simp -implicitDefEqProofs only [go_sem]; done))))))
    rintro ⟨⟩ -
    have hql := kidRects_len hk (i := i) r
    repeat' (first | ((with_reducible apply xsim); (first | ((with_reducible apply xo); exact rfl) | with_reducible apply xend)) | ((with_reducible apply xaw); (first | ((with_reducible apply xstepS); refine AW.step tok rfl ?_) | with_reducible refine AW.block ?_)) | with_reducible exact trivial)
    refine AW.loop (S := fun m : Nat => ⟨[(3, .msl 0 4 0 t.length), (4, .oref 1 0), (8, .d (.lst ((kids t i).map encK))), (9, .d (.lst ((kidRects t i r).map encRect))), (11, .d (.int .i64 m))],
      [.arr 4 ((lay t w h (belTo t i m) out).map encRect), .box [.d (.lst (t.map encNode))]], 78, .p 1⟩)
      (Pre := fun m => m ≤ (kids t i).length) (μ := fun m => (kids t i).length - m) 0 (Nat.zero_le _) ?_ ?_
    · (refine xwk (π := [0, 1]) (by decide) rfl ?_ ?_; (first | simp -implicitDefEqProofs only [go_sem]); repeat' (first | exact renE_n | ((with_reducible apply renE_c); exact rfl; focus (first | (simp -implicitDefEqProofs only [go_sem]; done)))))
    intro m hm
    by_cases hmt : m < (kids t i).length
    · have hrk := at_map (f := encK) hmt
      obtain ⟨hkm, hik, _⟩ := hk.kid (List.getElem_mem hmt)
      have hrq : ((kidRects t i r).map encRect)[m]? = some (encRect (rectAt t w h (kids t i)[m])) := by
        rw [at_map (f := encRect) (xs := kidRects t i r) (k := m) (by omega), hrm m hmt]
      have cl := ih (kids t i)[m] (by omega) hkm (lay t w h (belTo t i m) out) (by rw [lay_len]; exact hol)
      rw [belTo_step hmt] at cl
      repeat' (first | ((with_reducible apply xsim); (first | ((with_reducible apply xlenM); exact rfl; exact rfl) | ((with_reducible apply xo); exact rfl) | with_reducible apply xend | ((with_reducible apply xidxL); exact rfl; exact rfl; exact rfl; (first | exact hrk | exact hrq); omega; first | exact rfl | simp only [hsz]) | ((with_reducible apply xcallHand 0); exact rfl; exact rfl; exact cl; (focus (first | exact rfl | (simp -implicitDefEqProofs only [go_sem, ↓reduceIte, Nat.reduceEqDiff, List.length_map]; done))); exact rfl; (first | exact .inl rfl | exact .inr ⟨_, _, rfl⟩); (try simp only [List.set_cons_zero, List.set_cons_succ])))) | ((with_reducible apply xaw); (first | ((with_reducible apply xstepS); refine AW.step tok rfl ?_) | ((with_reducible apply xstep); refine AW.region tok rfl ?_) | with_reducible (first | refine AW.seq ?_ | refine AW.block ?_ | refine AW.skip ?_) | ((with_reducible apply xcond); exact rfl) | ((with_reducible apply xdraw (id := 16)); refine AW.draw (id := 16) (.q 0 (.q 1 (.q 2 (.q 3 (.q 4 (.q 5 (.q 6 (.q 7 (.q 8 (.q 9 (.e 10 (.fin)))))))))))) tok (by kernel_rfl) rfl (by kernel_rfl) ?_))) | ((with_reducible apply xarun); (first | ((with_reducible apply xrun_q); exact rfl; exact rfl; exact rfl) | ((with_reducible apply xrun_e); exact rfl) | with_reducible apply xrun_f)) | with_reducible (first | refine xthen ?_ | refine xblock ?_) | (with_reducible intro hc; (try simp only [hcL, reduceCtorEq, List.length_map] at hc); (try (exfalso; omega))) | with_reducible (first | exact trivial | refine And.intro ?_ ?_ | exact rfl) | exact Eq.refl true | (refine inR_i64.mpr ?_; first | omega | (simp only [List.length_map, List.length_map]; omega)))
      refine round_end (m+1) hmt (by omega) (by (refine xwk (π := [0, 1]) (by decide) rfl ?_ ?_; (first | simp -implicitDefEqProofs only [go_sem]); repeat' (first | exact renE_n | ((with_reducible apply renE_c); exact rfl; focus (first | (simp -implicitDefEqProofs only [go_sem]; done))))))
    have hm' : m = (kids t i).length := by omega
    subst hm'
    rw [belTo_all hk hlt]
    repeat' (first | ((with_reducible apply xsim); (first | ((with_reducible apply xlenM); exact rfl; exact rfl) | ((with_reducible apply xo); exact rfl) | with_reducible apply xend)) | ((with_reducible apply xaw); (first | ((with_reducible apply xstepS); refine AW.step tok rfl ?_) | with_reducible (first | refine AW.seq ?_ | refine AW.exit ?_) | ((with_reducible apply xcond); exact rfl))) | with_reducible (first | refine xthen_e ?_ | refine xblock_e ?_ | refine xround_e ?_) | (with_reducible intro hc; (try simp only [hcL, reduceCtorEq, List.length_map] at hc); (try (exfalso; omega))) | with_reducible (first | exact trivial | refine And.intro ?_ ?_ | exact rfl))
    (refine xfinOwn [0] (by first | exact .inl rfl | exact .inr rfl) rfl (by repeat' (first | exact trivial | exact rfl | refine And.intro ?_ ?_)) (by decide) rfl ?_ ?_ <;> simp -implicitDefEqProofs only [go_sem])

theorem c_AlayoutS (t : List Node) (hk : TreeK t) (w h : Int) (hw : 0 ≤ w ∧ w ≤ 400) (hh : 0 ≤ h ∧ h ≤ 400) : ACon Tryz.prog 44 [vTree t, .d (.int .i64 w), .d (.int .i64 h)] [] (ORows encRect 4 (layoutOf t w h)) := by
  have hlo := hk.lo; have hhi := hk.hi
  have hrep : List.replicate t.length [D.int .i64 0, D.int .i64 0, D.int .i64 0, D.int .i64 0] = (List.replicate t.length zeroR).map encRect := by rw [List.map_replicate]; rfl
  have cl := c_laid t hk w h hw hh _ 0 (Nat.le_refl _) hlo (List.replicate t.length zeroR) (by rw [List.length_replicate])
  have hall := lay_all (t := t) (w := w) (h := h) (A := bel t 0) (out := List.replicate t.length zeroR) (by rw [List.length_replicate]) (bel_root hk)
  have hll : (layoutOf t w h).length = t.length := by simp [layoutOf]
  rw [hall, ← hrep, rectAt_zero] at cl
  refine ACon.introW tok (nt := 19) Tryz.func44 rfl rfl rfl (by kernel_rfl) rfl ?_
  repeat' (first | ((with_reducible apply xsim); (first | ((with_reducible apply xlenM); exact rfl; exact rfl) | ((with_reducible apply xo); exact rfl) | with_reducible apply xend | ((with_reducible apply xbox); exact rfl; simp only [bkL, Nat.reduceAdd, Nat.reduceSub]) | ((with_reducible apply xcallHand 1); exact rfl; exact rfl; exact cl; (focus (first | exact rfl | (simp -implicitDefEqProofs only [go_sem, ↓reduceIte, Nat.reduceEqDiff, List.length_map]; done))); exact rfl; (first | exact .inl rfl | exact .inr ⟨_, _, rfl⟩); (try simp only [List.set_cons_zero, List.set_cons_succ])) | simp -implicitDefEqProofs only [go_sem, List.length_map])) | ((with_reducible apply xaw); (first | ((with_reducible apply xstepS); refine AW.step tok rfl ?_) | with_reducible refine AW.ret ?_)) | with_reducible (first | exact trivial | refine And.intro ?_ ?_) | exact Eq.refl true | omega)
  (refine xfinOwn [1] (by first | exact .inl rfl | exact .inr rfl) rfl (by repeat' (first | exact trivial | exact rfl | refine And.intro ?_ ?_)) (by decide) rfl ?_ ?_ <;> simp -implicitDefEqProofs only [go_sem, hll])

/-- Rectangles of all nodes, if the tree and the room are good. -/
def layoutT (t : List Node) (w h : Int) : List Rect := if (treeOk t && roomOk w h) = true then layoutOf t w h else []
theorem layoutT_small {t : List Node} {w h : Int} : (layoutT t w h).length ≤ 10 := by
  unfold layoutT
  split
  · rename_i hc
    rw [Bool.and_eq_true] at hc
    have := (treeK hc.1).hi
    simpa [layoutOf] using this
  · simp
theorem c_LayoutI (t : List Node) (hL : TreeL t) (w h : Int) : ACon Tryz.prog 31 [vTree t, .d (.int .i64 w), .d (.int .i64 h)] [] (ORows encRect 4 (layoutT t w h)) := by
  have c1 := c_ValidTree t hL
  have c2 := c_sizeOk w h
  cases ht : treeOk t
  · rw [ht] at c1
    refine ACon.introW tok (nt := 20) Tryz.func31 rfl rfl rfl (by kernel_rfl) rfl ?_
    repeat' (first | ((with_reducible apply xsim); (first | ((with_reducible apply xo); exact rfl) | with_reducible apply xend | ((with_reducible apply xguardS); exact rfl; exact rfl) | ((with_reducible apply xbox); exact rfl; simp only [bkL, Nat.reduceAdd, Nat.reduceSub]) | ((with_reducible apply xcallIs); exact rfl; exact rfl; exact c1; exact rfl))) | ((with_reducible apply xaw); (first | ((with_reducible apply xstepS); refine AW.step tok rfl ?_) | with_reducible (first | refine AW.seq ?_ | refine AW.ret ?_) | ((with_reducible apply xcond); exact rfl))) | with_reducible refine xthen_r ?_ | (with_reducible intro hc; (try simp only [hcL, reduceCtorEq] at hc); (try (exfalso; omega))) | with_reducible exact trivial | exact Eq.refl true)
    refine xfinW (Weak.own 6 4 rfl) ?_
    rw [show layoutT t w h = [] by rw [layoutT, ht]; rfl]
    (refine xfinOwn [1] (by first | exact .inl rfl | exact .inr rfl) rfl (by repeat' (first | exact trivial | exact rfl | refine And.intro ?_ ?_)) (by decide) rfl ?_ ?_ <;> simp -implicitDefEqProofs only [go_sem])
  · rw [ht] at c1
    cases hr : roomOk w h
    · rw [hr] at c2
      refine ACon.introW tok (nt := 20) Tryz.func31 rfl rfl rfl (by kernel_rfl) rfl ?_
      repeat' (first | ((with_reducible apply xsim); (first | ((with_reducible apply xo); exact rfl) | with_reducible apply xend | ((with_reducible apply xguardS); exact rfl; exact rfl) | ((with_reducible apply xbox); exact rfl; simp only [bkL, Nat.reduceAdd, Nat.reduceSub]) | ((with_reducible apply xcallIs); exact rfl; exact rfl; (first | exact c1 | exact c2); exact rfl))) | ((with_reducible apply xaw); (first | ((with_reducible apply xstepS); refine AW.step tok rfl ?_) | with_reducible (first | refine AW.seq ?_ | refine AW.ret ?_) | ((with_reducible apply xcond); exact rfl))) | with_reducible refine xthen_r ?_ | (with_reducible intro hc; (try simp only [hcL, reduceCtorEq] at hc); (try (exfalso; omega))) | with_reducible exact trivial | exact Eq.refl true)
      refine xfinW (Weak.own 6 4 rfl) ?_
      rw [show layoutT t w h = [] by rw [layoutT, hr, Bool.and_false]; rfl]
      (refine xfinOwn [1] (by first | exact .inl rfl | exact .inr rfl) rfl (by repeat' (first | exact trivial | exact rfl | refine And.intro ?_ ?_)) (by decide) rfl ?_ ?_ <;> simp -implicitDefEqProofs only [go_sem])
    · rw [hr] at c2
      have hb := roomOk_iff hr
      have c3 := c_Alayout t (treeK ht) w h (by omega) (by omega)
      rw [show layoutT t w h = layoutOf t w h by rw [layoutT, ht, hr]; rfl]
      refine ACon.introW tok (nt := 20) Tryz.func31 rfl rfl rfl (by kernel_rfl) rfl ?_
      repeat' (first | ((with_reducible apply xsim); (first | ((with_reducible apply xo); exact rfl) | with_reducible apply xend | ((with_reducible apply xguardS); exact rfl; exact rfl) | ((with_reducible apply xbox); exact rfl; simp only [bkL, Nat.reduceAdd, Nat.reduceSub]) | ((with_reducible apply xcallIs); exact rfl; exact rfl; (first | exact c1 | exact c2); exact rfl) | ((with_reducible apply xcallOwn); exact rfl; exact rfl; exact c3; simp only [bkL, Nat.reduceAdd, Nat.reduceSub]))) | ((with_reducible apply xaw); (first | ((with_reducible apply xstepS); refine AW.step tok rfl ?_) | with_reducible (first | refine AW.seq ?_ | refine AW.skip ?_ | refine AW.ret ?_) | ((with_reducible apply xcond); exact rfl))) | with_reducible refine xthen ?_ | (with_reducible intro hc; (try simp only [hcL, reduceCtorEq] at hc); (try (exfalso; omega))) | with_reducible exact trivial | exact Eq.refl true)
      all_goals (refine xfinOwn [1] (by first | exact .inl rfl | exact .inr rfl) rfl (by repeat' (first | exact trivial | exact rfl | refine And.intro ?_ ?_)) (by decide) rfl ?_ ?_ <;> simp -implicitDefEqProofs only [go_sem])
end Go.Proofs.YtpfhnhhkfobjnaaGreat

namespace Go.Proofs.YtpfhnhhkfobjnaaGreat
open Go.Fw
attribute [local irreducible] Go.Fw.aops Go.Fw.arun

/-- Two rectangles have no points in common. -/
def Apart (a b : Rect) : Prop := min (a.x + a.w) (b.x + b.w) - max a.x b.x ≤ 0 ∨ min (a.y + a.h) (b.y + b.h) - max a.y b.y ≤ 0
end Go.Proofs.YtpfhnhhkfobjnaaGreat

namespace Go.Proofs.YtpfhnhhkfobjnaaGreat
open Go.Fw
def Ins (a b : Rect) : Prop := a.x ≤ b.x ∧ a.y ≤ b.y ∧ b.x + b.w ≤ a.x + a.w ∧ b.y + b.h ≤ a.y + a.h
theorem Apart.mono {a b c : Rect} (h : Apart a b) (hi : Ins b c) : Apart a c := by unfold Apart Ins at *; omega
theorem Apart.symm {a b : Rect} (h : Apart a b) : Apart b a := by unfold Apart at *; omega
end Go.Proofs.YtpfhnhhkfobjnaaGreat

namespace Go.Proofs.YtpfhnhhkfobjnaaGreat
open Go.Fw
attribute [local irreducible] Go.Fw.aops Go.Fw.arun

/-- The layout in the size that the root asks for. -/
def natural (t : List Node) : List Rect := layoutT t (reqOf t 0).1 (reqOf t 0).2
theorem c_NaturalI (t : List Node) (hL : TreeL t) : ACon Tryz.prog 36 [vTree t] [] (ORows encRect 4 (natural t)) := by
  have c1 := c_ReqOfI t hL 0
  have c2 := c_LayoutI t hL (reqOf t 0).1 (reqOf t 0).2
  refine ACon.introW tok (nt := 14) Tryz.func36 rfl rfl rfl (by kernel_rfl) rfl ?_
  repeat' (first | ((with_reducible apply xsim); (first | ((with_reducible apply xo); exact rfl) | with_reducible apply xend | ((with_reducible apply xbox); exact rfl; simp only [bkL, Nat.reduceAdd, Nat.reduceSub]) | ((with_reducible apply xcallIs); exact rfl; exact rfl; exact c1; exact rfl) | ((with_reducible apply xcallOwn); exact rfl; exact rfl; exact c2; simp only [bkL, Nat.reduceAdd, Nat.reduceSub]))) | ((with_reducible apply xaw); (first | ((with_reducible apply xstepS); refine AW.step tok rfl ?_) | with_reducible refine AW.ret ?_)) | with_reducible exact trivial | exact Eq.refl true)
  all_goals (refine xfinOwn [1] (by first | exact .inl rfl | exact .inr rfl) rfl (by repeat' (first | exact trivial | exact rfl | refine And.intro ?_ ?_)) (by decide) rfl ?_ ?_ <;> simp -implicitDefEqProofs only [go_sem, natural])
theorem c_NaturalS (t : List Node) (hL : TreeL t) : ACon Tryz.prog 35 [vTree t] [] (ORows encRect 4 (natural t)) := by
  have c1 := c_validTree t hL
  cases ht : treeOk t
  · rw [ht] at c1
    refine ACon.introW tok (nt := 21) Tryz.func35 rfl rfl rfl (by kernel_rfl) rfl ?_
    repeat' (first | ((with_reducible apply xsim); (first | ((with_reducible apply xo); exact rfl) | with_reducible apply xend | ((with_reducible apply xbox); exact rfl; simp only [bkL, Nat.reduceAdd, Nat.reduceSub]) | ((with_reducible apply xcallIs); exact rfl; exact rfl; exact c1; exact rfl))) | ((with_reducible apply xaw); (first | ((with_reducible apply xstepS); refine AW.step tok rfl ?_) | with_reducible (first | refine AW.seq ?_ | refine AW.ret ?_) | ((with_reducible apply xcond); exact rfl))) | with_reducible refine xthen_r ?_ | (with_reducible intro hc; (try simp only [hcL, reduceCtorEq] at hc); (try (exfalso; omega))) | with_reducible exact trivial | exact Eq.refl true)
    refine xfinW (Weak.own 2 4 rfl) ?_
    rw [show natural t = [] by rw [natural, layoutT, ht]; rfl]
    (refine xfinOwn [1] (by first | exact .inl rfl | exact .inr rfl) rfl (by repeat' (first | exact trivial | exact rfl | refine And.intro ?_ ?_)) (by decide) rfl ?_ ?_ <;> simp -implicitDefEqProofs only [go_sem])
  · rw [ht] at c1
    have hk := treeK ht
    have hlo := hk.lo
    have c2 := c_sizeOf t hk 0 hlo
    have e : reqOf t 0 = wish t 0 := by
      rw [reqOf, if_pos (goodN_iff.2 ⟨ht, Int.le_refl _, hlo⟩)]; rfl
    have c3 := c_goodRoom (wish t 0).1 (wish t 0).2
    cases hr : roomOk (wish t 0).1 (wish t 0).2
    · rw [hr] at c3
      refine ACon.introW tok (nt := 21) Tryz.func35 rfl rfl rfl (by kernel_rfl) rfl ?_
      repeat' (first | ((with_reducible apply xsim); (first | ((with_reducible apply xo); exact rfl) | with_reducible apply xend | ((with_reducible apply xbox); exact rfl; simp only [bkL, Nat.reduceAdd, Nat.reduceSub]) | ((with_reducible apply xcallIs); exact rfl; exact rfl; (first | exact c1 | exact c2 | exact c3); exact rfl))) | ((with_reducible apply xaw); (first | ((with_reducible apply xstepS); refine AW.step tok rfl ?_) | with_reducible (first | refine AW.seq ?_ | refine AW.skip ?_ | refine AW.ret ?_) | ((with_reducible apply xcond); exact rfl))) | with_reducible (first | refine xthen ?_ | refine xthen_r ?_) | (with_reducible intro hc; (try simp only [hcL, reduceCtorEq] at hc); (try (exfalso; omega))) | with_reducible exact trivial | exact Eq.refl true)
      refine xfinW (Weak.own 2 4 rfl) ?_
      rw [show natural t = [] by rw [natural, layoutT, e, hr, Bool.and_false]; rfl]
      (refine xfinOwn [1] (by first | exact .inl rfl | exact .inr rfl) rfl (by repeat' (first | exact trivial | exact rfl | refine And.intro ?_ ?_)) (by decide) rfl ?_ ?_ <;> simp -implicitDefEqProofs only [go_sem])
    · rw [hr] at c3
      have hrm := roomOk_iff hr
      have c4 := c_AlayoutS t hk (wish t 0).1 (wish t 0).2 (by omega) (by omega)
      rw [show natural t = layoutOf t (wish t 0).1 (wish t 0).2 by rw [natural, layoutT, e, ht, hr]; rfl]
      refine ACon.introW tok (nt := 21) Tryz.func35 rfl rfl rfl (by kernel_rfl) rfl ?_
      repeat' (first | ((with_reducible apply xsim); (first | ((with_reducible apply xo); exact rfl) | with_reducible apply xend | ((with_reducible apply xbox); exact rfl; simp only [bkL, Nat.reduceAdd, Nat.reduceSub]) | ((with_reducible apply xcallIs); exact rfl; exact rfl; (first | exact c1 | exact c2 | exact c3); exact rfl) | ((with_reducible apply xcallOwn); exact rfl; exact rfl; exact c4; simp only [bkL, Nat.reduceAdd, Nat.reduceSub]))) | ((with_reducible apply xaw); (first | ((with_reducible apply xstepS); refine AW.step tok rfl ?_) | with_reducible (first | refine AW.seq ?_ | refine AW.skip ?_ | refine AW.ret ?_) | ((with_reducible apply xcond); exact rfl))) | with_reducible refine xthen ?_ | (with_reducible intro hc; (try simp only [hcL, reduceCtorEq] at hc); (try (exfalso; omega))) | with_reducible exact trivial | exact Eq.refl true)
      all_goals (refine xfinOwn [1] (by first | exact .inl rfl | exact .inr rfl) rfl (by repeat' (first | exact trivial | exact rfl | refine And.intro ?_ ?_)) (by decide) rfl ?_ ?_ <;> simp -implicitDefEqProofs only [go_sem])
end Go.Proofs.YtpfhnhhkfobjnaaGreat

namespace Go.Proofs.YtpfhnhhkfobjnaaGreat
open Go.Fw
attribute [local irreducible] Go.Fw.aops Go.Fw.arun

/-- Values that a text of marks puts into a row, from v on. -/
def markRect (v : Int) : Rect := ⟨v, v + 1, v + 1 + 1, v + 1 + 1 + 1⟩

def marksRect (v : Int) (n : Nat) : List Rect := (List.range n).map fun (i : Nat) => markRect (v + 4 * i)
theorem marksRect_len {v : Int} {n : Nat} : (marksRect v n).length = n := by simp [marksRect]
theorem marksRect_at {v : Int} {n k : Nat} (h : k < (marksRect v n).length) : (marksRect v n)[k] = markRect (v + 4 * k) := by simp [marksRect]

theorem c_markRectS (xs : List Rect) (v : Int) (hv : 0 ≤ v ∧ v ≤ 2^40) (hl : xs.length < 2^40) : ACon Tryz.prog 33 [.msl 0 4 0 xs.length, .d (.int .i64 v)] [.arr 4 (xs.map encRect)]
    (Own (.d (.int .i64 (v + 4 * xs.length))) [.arr 4 ((marksRect v xs.length).map encRect)]) := by
  have hml := marksRect_len (v := v) (n := xs.length)
  refine ACon.introW tok (nt := 41) Tryz.func33 rfl rfl rfl (by kernel_rfl) rfl ?_
  repeat' (first | ((with_reducible apply xsim); (first | ((with_reducible apply xo); exact rfl) | with_reducible apply xend)) | ((with_reducible apply xaw); (first | ((with_reducible apply xstepS); refine AW.step tok rfl ?_) | with_reducible (first | refine AW.seq ?_ | refine AW.block ?_))) | with_reducible exact trivial)
  refine AW.loop (S := fun k : Nat => ⟨[(0, .msl 0 4 0 xs.length), (1, .d (.int .i64 (v + 4 * k))), (5, .d (.int .i64 k))], [.arr 4 ((mix (marksRect v xs.length) xs k).map encRect)], 41, .p 1⟩)
    (Pre := fun k => k ≤ xs.length) (μ := fun k => xs.length - k) 0 (Nat.zero_le _) ?_ ?_
  · (refine xwk (π := [0]) (by decide) rfl ?_ ?_; (first | simp -implicitDefEqProofs only [go_sem, mix_zero, Int.natCast_zero, Int.mul_zero, Int.add_zero]); repeat' (first | exact renE_n | ((with_reducible apply renE_c); exact rfl; focus (first | (simp -implicitDefEqProofs only [go_sem, mix_zero, Int.natCast_zero, Int.mul_zero, Int.add_zero]; done)))))
  · intro k hk
    by_cases hlt : k < xs.length
    · have hmx := mixmap_at (f := encRect) (ys := marksRect v xs.length) (zs := xs) (k := k) hml hlt
      have hset := mixmap_set (f := encRect) (ys := marksRect v xs.length) (zs := xs) (k := k) hml (by omega)
      have hlen : k < ((mix (marksRect v xs.length) xs k).map encRect).length := by rw [List.length_map, mix_len hml (by omega)]; exact hlt
      rw [marksRect_at] at hset
      simp only [encRect, markRect] at hset
      repeat' (first | ((with_reducible apply xsim); (first | ((with_reducible apply xo); exact rfl) | with_reducible apply xend | ((with_reducible apply xidxM); exact rfl; exact rfl; exact rfl; omega; omega; exact rfl) | ((with_reducible apply xstA); exact rfl; exact rfl; exact rfl; exact rfl; (first | exact hmx | exact (List.getElem?_set_self (by simpa [idxAdd] using hlen))); exact rfl; exact rfl; exact rfl; exact rfl; (try simp only [List.set_cons_zero, List.set_cons_succ])))) | ((with_reducible apply xaw); (first | ((with_reducible apply xstepS); refine AW.step tok rfl ?_) | ((with_reducible apply xstep); refine AW.region tok rfl ?_) | with_reducible (first | refine AW.seq ?_ | refine AW.block ?_ | refine AW.skip ?_) | ((with_reducible apply xcond); exact rfl))) | with_reducible (first | refine xthen ?_ | refine xblock ?_) | (with_reducible intro hc; (try simp only [hcL, reduceCtorEq] at hc); (try (exfalso; omega))) | with_reducible (first | exact trivial | refine And.intro ?_ ?_ | exact rfl) | exact Eq.refl true | (refine inR_i64.mpr ?_; first | omega | (simp only [List.length_map]; omega)))
      refine round_end (k+1) hlt (by omega) (by (refine xwk (π := [0]) (by decide) rfl ?_ ?_; (first | simp -implicitDefEqProofs only [go_sem, List.set_set, hset]); repeat' (first | exact renE_n | ((with_reducible apply renE_c); exact rfl; focus (first | (simp -implicitDefEqProofs only [go_sem, List.set_set, hset]; done) | (simp -implicitDefEqProofs only [go_sem, List.set_set, hset]; omega))))))
    · have hk' : k = xs.length := by omega
      subst hk'
      have hall := mix_all (ys := marksRect v xs.length) (zs := xs) hml
      rw [hml] at hall
      repeat' (first | ((with_reducible apply xsim); (first | ((with_reducible apply xo); exact rfl) | with_reducible apply xend)) | ((with_reducible apply xaw); (first | ((with_reducible apply xstepS); refine AW.step tok rfl ?_) | with_reducible (first | refine AW.seq ?_ | refine AW.ret ?_ | refine AW.exit ?_) | ((with_reducible apply xcond); exact rfl))) | with_reducible (first | refine xthen ?_ | refine xthen_e ?_ | refine xblock_e ?_ | refine xround_e ?_) | (with_reducible intro hc; (try simp only [hcL, reduceCtorEq] at hc); (try (exfalso; omega))) | with_reducible (first | exact trivial | refine And.intro ?_ ?_ | exact rfl) | exact Eq.refl true)
      (refine xfinOwn [0] (by first | exact .inl rfl | exact .inr rfl) rfl (by repeat' (first | exact trivial | exact rfl | refine And.intro ?_ ?_)) (by decide) rfl ?_ ?_ <;> simp -implicitDefEqProofs only [go_sem, hall])

theorem c_heldRectS (v : Int) (n : Nat) (hv : 0 ≤ v ∧ v ≤ 2^40) (hl : n < 2^40) : ACon Tryz.prog 34 [.d (.lst ((marksRect v n).map encRect)), .d (.int .i64 v)] [] (Is (.d (.int .i64 (v + 4 * n)))) := by
  have hml := marksRect_len (v := v) (n := n)
  refine ACon.introW tok (nt := 49) Tryz.func34 rfl rfl rfl (by kernel_rfl) rfl ?_
  repeat' (first | ((with_reducible apply xsim); (first | ((with_reducible apply xo); exact rfl) | with_reducible apply xend)) | ((with_reducible apply xaw); (first | ((with_reducible apply xstepS); refine AW.step tok rfl ?_) | with_reducible (first | refine AW.seq ?_ | refine AW.block ?_))) | with_reducible exact trivial)
  refine AW.loop (S := fun k : Nat => ⟨[(0, .d (.lst ((marksRect v n).map encRect))), (1, .d (.int .i64 (v + 4 * k))), (5, .d (.int .i64 k))], [], 49, .p 0⟩)
    (Pre := fun k => k ≤ n) (μ := fun k => n - k) 0 (Nat.zero_le _) ?_ ?_
  · (refine xwk (π := []) (by decide) rfl ?_ ?_; (first | exact trivial); repeat' (first | exact renE_n | ((with_reducible apply renE_c); exact rfl; focus (first | (simp -implicitDefEqProofs only [go_sem, Int.natCast_zero, Int.mul_zero, Int.add_zero]; done)))))
  · intro k hk
    by_cases hlt : k < n
    · have hrow := at_map (f := encRect) (xs := marksRect v n) (k := k) (by omega)
      rw [marksRect_at] at hrow
      repeat' (first | ((with_reducible apply xsim); (first | ((with_reducible apply xlenM); exact rfl; exact rfl) | ((with_reducible apply xo); exact rfl) | with_reducible apply xend | ((with_reducible apply xidxL); exact rfl; exact rfl; exact rfl; (first | exact hrow); omega; first | exact rfl | simp only [hsz]))) | ((with_reducible apply xaw); (first | ((with_reducible apply xstepS); refine AW.step tok rfl ?_) | ((with_reducible apply xstep); refine AW.region tok rfl ?_) | with_reducible (first | refine AW.seq ?_ | refine AW.block ?_ | refine AW.skip ?_) | ((with_reducible apply xcond); exact rfl))) | with_reducible (first | refine xthen ?_ | refine xblock ?_) | (with_reducible intro hc; (try simp only [hcL, reduceCtorEq, markRect] at hc); (try (exfalso; omega))) | with_reducible (first | exact trivial | refine And.intro ?_ ?_ | exact rfl) | (refine inR_i64.mpr ?_; first | omega | (simp only [List.length_map, markRect]; omega)))
      refine round_end (k+1) hlt (by omega) (by (refine xwk (π := []) (by decide) rfl ?_ ?_; (first | exact trivial); repeat' (first | exact renE_n | ((with_reducible apply renE_c); exact rfl; focus (first | (simp -implicitDefEqProofs only [go_sem]; done) | (simp -implicitDefEqProofs only [go_sem]; omega))))))
    · have hk' : k = n := by omega
      subst hk'
      repeat' (first | ((with_reducible apply xsim); (first | ((with_reducible apply xlenM); exact rfl; exact rfl) | ((with_reducible apply xo); exact rfl) | with_reducible apply xend)) | ((with_reducible apply xaw); (first | ((with_reducible apply xstepS); refine AW.step tok rfl ?_) | with_reducible (first | refine AW.seq ?_ | refine AW.ret ?_ | refine AW.exit ?_) | ((with_reducible apply xcond); exact rfl))) | with_reducible (first | refine xthen ?_ | refine xthen_e ?_ | refine xblock_e ?_ | refine xround_e ?_) | (with_reducible intro hc; (try simp only [hcL, reduceCtorEq] at hc); (try (exfalso; omega))) | with_reducible (first | exact trivial | refine And.intro ?_ ?_ | exact rfl))
      (refine xfinIs (by first | exact .inl rfl | exact .inr rfl) rfl (by repeat' (first | exact trivial | exact rfl | refine And.intro ?_ ?_)) rfl ?_ rfl; first | with_reducible exact rfl)
set_option maxHeartbeats 4000000 in
theorem c_FnExactNaturalLayout (t : List Node) (ht : okTree t) : ACon Tryz.prog 9 [vTree t] [] (Is (.d (.bool true))) := by
  obtain ⟨b1, b2⟩ := okTree_szT ht
  have c1 := c_szTree t b1 b2
  by_cases hz : szT t (2^20) < 0
  · generalize szT t (2^20) = r at *
    refine ACon.introW tok (nt := 69) Tryz.func9 rfl rfl rfl (by kernel_rfl) rfl ?_
    (refine AW.step tok rfl ?_; repeat' (first | ((with_reducible apply xsim); (first | ((with_reducible apply xo); exact rfl) | with_reducible apply xend | ((with_reducible apply xbox); exact rfl; simp only [bkL, Nat.reduceAdd, Nat.reduceSub]))) | with_reducible (first | exact trivial | refine And.intro ?_ ?_ | exact rfl)))
    refine AW.weak (Weak.freezeBox 1 0 (cells := encTree t) rfl rfl) ?_
    repeat' (first | ((with_reducible apply xsim); (first | ((with_reducible apply xo); exact rfl) | with_reducible apply xend | ((with_reducible apply xcallIs); exact rfl; exact rfl; exact c1; exact rfl))) | ((with_reducible apply xaw); (first | ((with_reducible apply xstepS); refine AW.step tok rfl ?_) | with_reducible (first | refine AW.seq ?_ | refine AW.ret ?_) | ((with_reducible apply xcond); exact rfl))) | with_reducible refine xthen_r ?_ | (with_reducible intro hc; (try simp only [hcL, reduceCtorEq] at hc); (try (exfalso; omega))) | with_reducible (first | exact trivial | refine And.intro ?_ ?_ | exact rfl) | exact Eq.refl true)
    all_goals (refine xfinIs (by first | exact .inl rfl | exact .inr rfl) rfl (by repeat' (first | exact trivial | exact rfl | refine And.intro ?_ ?_)) rfl ?_ rfl; first | with_reducible exact rfl)
  · have l1 := szT_le hz
    have hL := small_L l1
    have c2 := c_toTree t l1.1 l1.2
    have c3 := c_eqTree t b1 b2
    have cI := c_NaturalI t hL
    have cS := c_NaturalS t hL
    have hys : (natural t).length ≤ 10 := layoutT_small
    generalize natural t = ys at *
    generalize szT t (2^20) = r at *
    have hn := marksRect_len (v := 1) (n := ys.length)
    have htk : List.take ys.length ((marksRect 1 ys.length).map encRect) = (marksRect 1 ys.length).map encRect := List.take_of_length_le (by simp [hn])
    refine ACon.introL tok (nt := 69) (fun m => [.agg [.ld m (.lst (t.map encNode))]]) (fun m => ⟨LA.one _, trivial⟩) Tryz.func9 rfl rfl rfl (by kernel_rfl) rfl ?_
    intro m
    have c4 := c_toTreeH m t l1.1 l1.2
    repeat' (first | ((with_reducible apply xsim); (first | ((with_reducible apply xo); exact rfl) | ((with_reducible apply xst); exact rfl) | with_reducible apply xend | ((with_reducible apply xalloc); exact rfl; simp only [bkL, Nat.reduceAdd, Nat.reduceSub]) | ((with_reducible apply xbox); exact rfl; simp only [bkL, Nat.reduceAdd, Nat.reduceSub]) | ((with_reducible apply xcallHi); exact rfl; exact rfl; exact rfl; exact c4; (first | exact .inl rfl | exact .inr rfl); exact rfl) | ((with_reducible apply xcallIs); exact rfl; exact rfl; (first | exact c1 | exact c2 | exact c3); exact rfl) | ((with_reducible apply xcallLend [3, 1]); exact rfl; exact c_eqRectS ys (by omega); (focus (first | exact rfl | (simp -implicitDefEqProofs only [go_sem, ↓reduceIte, Nat.reduceEqDiff, htk, hn]; done))); exact rfl; exact rfl) | ((with_reducible apply xcallOwn); exact rfl; exact rfl; exact cS; simp only [bkL, Nat.reduceAdd, Nat.reduceSub]) | ((with_reducible apply xcallOwn); exact rfl; exact rfl; exact cI; simp only [bkL, Nat.reduceAdd, Nat.reduceSub]) | simp -implicitDefEqProofs only [go_sem, htk, hn])) | ((with_reducible apply xaw); (first | ((with_reducible apply xstepS); refine AW.step tok rfl ?_) | with_reducible (first | refine AW.seq ?_ | refine AW.skip ?_) | ((with_reducible apply xcond); exact rfl) | ((with_reducible apply xdraw (id := 10)); refine AW.draw (id := 10) (.q 0 (.q 1 (.q 2 (.q 3 (.q 4 (.fin)))))) tok (by kernel_rfl) rfl (by kernel_rfl) ?_))) | ((with_reducible apply xarun); (first | ((with_reducible apply xrun_q); exact rfl; exact rfl; exact rfl) | ((with_reducible apply xrun_c); exact rfl; exact rfl; exact rfl; exact rfl; exact rfl; exact rfl; (first | exact c1 | exact c2 | exact c3); exact rfl) | with_reducible apply xrun_f)) | with_reducible refine xthen ?_ | (with_reducible intro hc; (try simp only [hcL, reduceCtorEq, htk, hn] at hc); (try (exfalso; omega))) | with_reducible (first | exact trivial | refine And.intro ?_ ?_ | exact rfl) | exact Eq.refl true)
    with_reducible apply xcallMk [1, 4, 6] (objs' := [.box [.ld m (.lst (t.map encNode))], .arr 4 (ys.map encRect), .dead, .arr 4 (ys.map encRect)])
    · exact rfl
    · exact rfl
    · exact c_markTreeW
    · exact wasTree l1.1 l1.2
    · exact IntB.flat
    · exact ⟨⟨rfl, rfl, trivial⟩, loArr (fun _ => rfl), trivial, loArr (fun _ => rfl), trivial⟩
    · repeat' (first | exact trivial | exact rfl | refine And.intro ?_ ?_)
    rintro _ ⟨k1, rfl, k2, k3⟩
    simp -implicitDefEqProofs only [go_sem]
    repeat' (first | ((with_reducible apply xsim); (first | ((with_reducible apply xo); exact rfl) | with_reducible apply xend | ((with_reducible apply xguardS); exact rfl; exact rfl) | ((with_reducible apply xcallHi); exact rfl; exact rfl; exact rfl; exact c4; (first | exact .inl rfl | exact .inr rfl); exact rfl) | ((with_reducible apply xcallLend [3, 1]); exact rfl; exact c_eqRectS ys (by omega); (focus (first | exact rfl | (simp -implicitDefEqProofs only [go_sem, ↓reduceIte, Nat.reduceEqDiff, htk, hn]; done))); exact rfl; exact rfl) | ((with_reducible apply xcallLend [4, 1]); exact rfl; exact c_eqRectS ys (by omega); (focus (first | exact rfl | (simp -implicitDefEqProofs only [go_sem, ↓reduceIte, Nat.reduceEqDiff, htk, hn]; done))); exact rfl; exact rfl) | ((with_reducible apply xcallLend [3]); exact rfl; exact c_heldRectS 1 ys.length (by omega) (by omega); (focus (first | exact rfl | (simp -implicitDefEqProofs only [go_sem, ↓reduceIte, Nat.reduceEqDiff, htk, hn]; done))); exact rfl; exact rfl) | ((with_reducible apply xcallOwn); exact rfl; exact rfl; exact cI; simp only [bkL, Nat.reduceAdd, Nat.reduceSub]) | ((with_reducible apply xcallHand 3); exact rfl; exact rfl; exact c_markRectS ys 1 (by omega) (by omega); (focus (first | exact rfl | (simp -implicitDefEqProofs only [go_sem, ↓reduceIte, Nat.reduceEqDiff, htk, hn]; done))); exact rfl; (first | exact .inl rfl | exact .inr ⟨_, _, rfl⟩); (try simp only [List.set_cons_zero, List.set_cons_succ])))) | ((with_reducible apply xaw); (first | ((with_reducible apply xstepS); refine AW.step tok rfl ?_) | with_reducible (first | refine AW.seq ?_ | refine AW.skip ?_ | refine AW.ret ?_) | ((with_reducible apply xcond); exact rfl))) | with_reducible refine xthen ?_ | (with_reducible intro hc; (try simp only [hcL, reduceCtorEq, htk, hn] at hc); (try (exfalso; omega))) | with_reducible (first | exact trivial | refine And.intro ?_ ?_ | exact rfl) | exact Eq.refl true)
    all_goals (refine xfinIs (by first | exact .inl rfl | exact .inr rfl) rfl (by repeat' (first | exact trivial | exact rfl | refine And.intro ?_ ?_)) rfl ?_ rfl; first | with_reducible exact rfl)
end Go.Proofs.YtpfhnhhkfobjnaaGreat

