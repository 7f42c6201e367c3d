import Derived.Test.YtiajmkppilmjdaaD3
import Derived.Test.YtiajmkppilmjdaaQ9
set_option linter.unusedSimpArgs false
set_option linter.unusedVariables false
namespace Go.Proofs.Ytiajmkppilmjdaa
open Go.Fw
@[go_sem] def lv30 : List (List Nat) := [[0, 1, 4], [4]]
@[go_sem] def lv32 : List (List Nat) := [[1], [2]]
@[go_sem] def lv31 : List (List Nat) := [[2, 3], [4]]
@[go_sem] def lv28 : List (List Nat) := [[2, 3], [4]]
@[go_sem] def lv29 : List (List Nat) := [[0, 1, 2], [0, 1, 2, 7], [0, 1, 2, 7, 11], [0, 1, 2, 7], [0, 1, 2, 7, 19], [6], [6]]


/-- b lies in a. -/
def Ins (a b : Rect) : Prop := a.x ≤ b.x ∧ a.y ≤ b.y ∧ b.x + b.w ≤ a.x + a.w ∧ b.y + b.h ≤ a.y + a.h
theorem Ins.rfl' {a : Rect} : Ins a a := by unfold Ins; omega
theorem Ins.tr {a b c : Rect} (h : Ins a b) (h' : Ins b c) : Ins a c := by unfold Ins at *; omega

theorem cut_ins {r : Rect} {side n : Int} (h : RectIn r) (hn : 0 ≤ n) : Ins r (cut r side n).1 ∧ Ins r (cut r side n).2 := by
  obtain ⟨h1, h2, h3, h4, h5, h6⟩ := h
  unfold cut Ins
  split
  · refine ⟨?_, ?_⟩ <;> dsimp only <;> omega
  · split
    · refine ⟨?_, ?_⟩ <;> dsimp only <;> omega
    · split
      · refine ⟨?_, ?_⟩ <;> dsimp only <;> omega
      · refine ⟨?_, ?_⟩ <;> dsimp only <;> omega

theorem parTo_ins {xs : List Pack} {r : Rect} (hl : xs.length ≤ 7) (hv : xs.all validPack = true) (hr : RectIn r) : ∀ k, k ≤ xs.length → Ins r (parTo xs r k).2 ∧ ∀ q ∈ (parTo xs r k).1, Ins r q := by
  intro k
  induction k with
  | zero => intro _; exact ⟨Ins.rfl', fun q hq => by cases hq⟩
  | succ k ih =>
    intro hk
    obtain ⟨h1, h2⟩ := ih (by omega)
    have hin := (parTo_inv hl hv hr k (by omega)).2.1
    have hc := cut_ins (side := xs[k].side) hin (parNeed_bd (k := k) hl hv (by omega) hin).1
    rw [parTo_succ (by omega)]
    refine ⟨h1.tr hc.2, fun q hq => ?_⟩
    rcases List.mem_append.1 hq with hq | hq
    · exact h2 q hq
    · rw [List.mem_singleton.1 hq]; exact h1.tr hc.1

/-- Behind a last item with Expand nothing is left. -/
theorem rest_zero {xs : List Pack} {r : Rect} (hl : xs.length ≤ 7) (hv : xs.all validPack = true) (hr : RectIn r) {k : Nat} (hk : xs.length = k + 1) (he : (xs[k]'(by omega)).expand = true) : (parcels xs r).2.w * (parcels xs r).2.h = 0 := by
  have hlt : k < xs.length := by omega
  have hin := (parTo_inv hl hv hr k (by omega)).2.1
  obtain ⟨h1, h2, h3, h4, h5, h6⟩ := hin
  have hn := need_le (d := down xs[k]) (all_at hv hlt)
  have hsh : share (xs.drop k) (roomOf xs[k] (parTo xs r k).2) (down xs[k]) = min (roomOf xs[k] (parTo xs r k).2) (max (roomOf xs[k] (parTo xs r k).2 - need xs[k] (down xs[k])) 0) := by
    have hd : xs.drop k = [xs[k]] := by
      rw [List.drop_eq_getElem_cons hlt, show xs.drop (k + 1) = [] from List.drop_eq_nil_of_le (by omega)]
    rw [hd]
    simp [share, shAll, shStep, he]
  have hpn : roomOf xs[k] (parTo xs r k).2 ≤ parNeed xs k xs[k] (parTo xs r k).2 := by
    unfold parNeed
    rw [if_pos he, hsh]
    have : 0 ≤ roomOf xs[k] (parTo xs r k).2 := by unfold roomOf; split <;> omega
    omega
  unfold parcels
  rw [hk, parTo_succ hlt]
  dsimp only
  unfold roomOf at hpn
  unfold cut
  have hdef : down xs[k] = decide (xs[k].side = 0 ∨ xs[k].side = 1) := rfl
  by_cases hd : down xs[k] = true
  · rw [if_pos hd] at hpn
    rw [hdef, decide_eq_true_eq] at hd
    have hz : (parTo xs r k).2.h - min (parNeed xs k xs[k] (parTo xs r k).2) (parTo xs r k).2.h = 0 := by omega
    rcases hd with hd | hd
    · rw [if_pos hd]; dsimp only; rw [hz, Int.mul_zero]
    · rw [if_neg (by omega), if_pos hd]; dsimp only; rw [hz, Int.mul_zero]
  · rw [if_neg hd] at hpn
    rw [hdef, decide_eq_true_eq, not_or] at hd
    have hz : (parTo xs r k).2.w - min (parNeed xs k xs[k] (parTo xs r k).2) (parTo xs r k).2.w = 0 := by omega
    rw [if_neg hd.1, if_neg hd.2]
    split
    · dsimp only; rw [hz, Int.zero_mul]
    · dsimp only; rw [hz, Int.zero_mul]

theorem mul400 {a b : Int} (ha : 0 ≤ a ∧ a ≤ 400) (hb : 0 ≤ b ∧ b ≤ 400) : 0 ≤ a * b ∧ a * b ≤ 160000 := by
  have h1 := Int.mul_nonneg ha.1 hb.1
  have h2 := Int.mul_le_mul ha.2 hb.2 hb.1 (by omega)
  omega

theorem c_room (w h : Int) : ACon Try.prog 30 [.d (.int .i64 w), .d (.int .i64 h)] [] (Is (vRect ⟨0, 0, w, h⟩)) := by
  refine ACon.introW tok (nt := 8) Try.func30 rfl rfl rfl (by kernel_rfl) rfl ?_
  repeat' (first | ((with_reducible apply xsim); (first | ((with_reducible apply xo); exact rfl) | ((with_reducible apply xst); exact rfl) | with_reducible apply xend | ((with_reducible apply xalloc); exact rfl; simp only [backV, backVs, backVs_mapd, backId, backO, List.map_cons, List.map_nil, List.getElem?_nil, List.length_cons, List.length_nil, Nat.reduceAdd, Nat.reduceSub, List.cons_append, List.nil_append, List.append_nil]) | simp -implicitDefEqProofs only [go_sem, Int.reduceEq, Int.reduceLT, Int.reduceLE, Nat.reduceAdd, Nat.reduceSub, Nat.reduceMul, Nat.reduceEqDiff, Nat.reduceLeDiff, Nat.reducePow, ↓reduceIte, reduceCtorEq])) | ((with_reducible apply xaw); (first | ((with_reducible apply xstepS); refine AW.step tok rfl ?_) | ((with_reducible apply xstep); refine AW.region tok rfl ?_) | with_reducible (first | refine AW.seq ?_ | refine AW.block ?_ | refine AW.skip ?_ | refine AW.ret ?_ | refine AW.exit ?_) | ((with_reducible apply xcond); exact rfl))) | with_reducible (first | refine xthen ?_ | refine xthen_r ?_ | refine xthen_e ?_ | refine xblock ?_ | refine xblock_r ?_ | refine xblock_e ?_ | refine xblock_n rfl ?_ | refine xround_r ?_ | refine xround_e ?_) | (with_reducible intro hc; (try simp only [decide_eq_true_eq, decide_eq_false_iff_not, Bool.not_true, Bool.not_false, Bool.not_eq_true', Bool.not_eq_false', ne_eq, not_true, reduceCtorEq] at hc); (try (exfalso; omega))) | with_reducible (first | exact trivial | refine And.intro ?_ ?_ | exact rfl | exact Nat.le_refl _) | exact Eq.refl true | exact (rfl : (_ : List Nat) = _) | exact Nat.le_of_ble_eq_true rfl | (refine inR_i64.mpr ?_; first | omega | (simp only [List.length_map]; omega)) | omega)
  all_goals (refine xfinIs (by first | exact .inl rfl | exact .inr rfl) rfl (by repeat' (first | exact trivial | exact rfl | refine And.intro ?_ ?_)) rfl ?_ rfl; first | with_reducible exact rfl | (simp -implicitDefEqProofs only [go_sem, Int.reduceEq, Int.reduceLT, Int.reduceLE, Nat.reduceAdd, Nat.reduceSub, Nat.reduceMul, Nat.reduceEqDiff, Nat.reduceLeDiff, Nat.reducePow, ↓reduceIte, reduceCtorEq] <;> (first | rfl | omega | exact decide_eq_decide.2 (by omega) | exact decide_eq_false (by omega) | exact decide_eq_true (by omega) | (symm; first | exact decide_eq_false (by omega) | exact decide_eq_true (by omega)) | (rw [Bool.eq_iff_iff]; simp only [Bool.not_eq_true', Bool.not_eq_false', Bool.and_eq_true, Bool.or_eq_true, decide_eq_true_eq, decide_eq_false_iff_not, reduceCtorEq, true_iff, iff_true, false_iff, iff_false]; omega))))

theorem c_area (r : Rect) (hw : 0 ≤ r.w ∧ r.w ≤ 400) (hh : 0 ≤ r.h ∧ r.h ≤ 400) : ACon Try.prog 32 [vRect r] [] (Is (.d (.int .i64 (r.w * r.h)))) := by
  have := mul400 hw hh
  refine ACon.introW tok (nt := 8) Try.func32 rfl rfl rfl (by kernel_rfl) rfl ?_
  repeat' (first | ((with_reducible apply xsim); (first | ((with_reducible apply xo); exact rfl) | with_reducible apply xend | ((with_reducible apply xbox); exact rfl; simp only [backV, backVs, backVs_mapd, backId, backO, List.map_cons, List.map_nil, List.getElem?_nil, List.length_cons, List.length_nil, Nat.reduceAdd, Nat.reduceSub, List.cons_append, List.nil_append, List.append_nil]) | simp -implicitDefEqProofs only [go_sem, Int.reduceEq, Int.reduceLT, Int.reduceLE, Nat.reduceAdd, Nat.reduceSub, Nat.reduceMul, Nat.reduceEqDiff, Nat.reduceLeDiff, Nat.reducePow, ↓reduceIte, reduceCtorEq])) | ((with_reducible apply xaw); (first | ((with_reducible apply xstepS); refine AW.step tok rfl ?_) | ((with_reducible apply xstep); refine AW.region tok rfl ?_) | with_reducible (first | refine AW.seq ?_ | refine AW.block ?_ | refine AW.skip ?_ | refine AW.ret ?_ | refine AW.exit ?_) | ((with_reducible apply xcond); exact rfl))) | with_reducible (first | refine xthen ?_ | refine xthen_r ?_ | refine xthen_e ?_ | refine xblock ?_ | refine xblock_r ?_ | refine xblock_e ?_ | refine xblock_n rfl ?_ | refine xround_r ?_ | refine xround_e ?_) | (with_reducible intro hc; (try simp only [decide_eq_true_eq, decide_eq_false_iff_not, Bool.not_true, Bool.not_false, Bool.not_eq_true', Bool.not_eq_false', ne_eq, not_true, reduceCtorEq] at hc); (try (exfalso; omega))) | with_reducible (first | exact trivial | refine And.intro ?_ ?_ | exact rfl | exact Nat.le_refl _) | exact Eq.refl true | exact (rfl : (_ : List Nat) = _) | exact Nat.le_of_ble_eq_true rfl | (refine inR_i64.mpr ?_; first | omega | (simp only [List.length_map]; omega)) | omega)
  all_goals (refine xfinIs (by first | exact .inl rfl | exact .inr rfl) rfl (by repeat' (first | exact trivial | exact rfl | refine And.intro ?_ ?_)) rfl ?_ rfl; first | with_reducible exact rfl | (simp -implicitDefEqProofs only [go_sem, Int.reduceEq, Int.reduceLT, Int.reduceLE, Nat.reduceAdd, Nat.reduceSub, Nat.reduceMul, Nat.reduceEqDiff, Nat.reduceLeDiff, Nat.reducePow, ↓reduceIte, reduceCtorEq] <;> (first | rfl | omega | exact decide_eq_decide.2 (by omega) | exact decide_eq_false (by omega) | exact decide_eq_true (by omega) | (symm; first | exact decide_eq_false (by omega) | exact decide_eq_true (by omega)) | (rw [Bool.eq_iff_iff]; simp only [Bool.not_eq_true', Bool.not_eq_false', Bool.and_eq_true, Bool.or_eq_true, decide_eq_true_eq, decide_eq_false_iff_not, reduceCtorEq, true_iff, iff_true, false_iff, iff_false]; omega))))

theorem c_within2 (a b : Rect) (ha : RectSm a) (hb : RectSm b) : ACon Try.prog 31 [vRect a, vRect b] [] (Is (.d (.bool (decide (a.x ≤ b.x ∧ a.y ≤ b.y ∧ b.x + b.w ≤ a.x + a.w ∧ b.y + b.h ≤ a.y + a.h))))) := by
  have h1 := ha.x; have h2 := ha.y; have h3 := ha.w; have h4 := ha.h
  have g1 := hb.x; have g2 := hb.y; have g3 := hb.w; have g4 := hb.h
  refine ACon.introW tok (nt := 43) Try.func31 rfl rfl rfl (by kernel_rfl) rfl ?_
  repeat' (first | ((with_reducible apply xsim); (first | ((with_reducible apply xo); exact rfl) | with_reducible apply xend | ((with_reducible apply xguardS); exact rfl; exact rfl) | ((with_reducible apply xbox); exact rfl; simp only [backV, backVs, backVs_mapd, backId, backO, List.map_cons, List.map_nil, List.getElem?_nil, List.length_cons, List.length_nil, Nat.reduceAdd, Nat.reduceSub, List.cons_append, List.nil_append, List.append_nil]) | simp -implicitDefEqProofs only [go_sem, Int.reduceEq, Int.reduceLT, Int.reduceLE, Nat.reduceAdd, Nat.reduceSub, Nat.reduceMul, Nat.reduceEqDiff, Nat.reduceLeDiff, Nat.reducePow, ↓reduceIte, reduceCtorEq])) | ((with_reducible apply xaw); (first | ((with_reducible apply xstepS); refine AW.step tok rfl ?_) | ((with_reducible apply xstep); refine AW.region tok rfl ?_) | with_reducible (first | refine AW.seq ?_ | refine AW.block ?_ | refine AW.skip ?_ | refine AW.ret ?_ | refine AW.exit ?_) | ((with_reducible apply xcond); exact rfl))) | with_reducible (first | refine xthen ?_ | refine xthen_r ?_ | refine xthen_e ?_ | refine xblock ?_ | refine xblock_r ?_ | refine xblock_e ?_ | refine xblock_n rfl ?_ | refine xround_r ?_ | refine xround_e ?_) | (with_reducible intro hc; (try simp only [decide_eq_true_eq, decide_eq_false_iff_not, Bool.not_true, Bool.not_false, Bool.not_eq_true', Bool.not_eq_false', ne_eq, not_true, reduceCtorEq] at hc); (try (exfalso; omega))) | with_reducible (first | exact trivial | refine And.intro ?_ ?_ | exact rfl | exact Nat.le_refl _) | exact Eq.refl true | exact (rfl : (_ : List Nat) = _) | exact Nat.le_of_ble_eq_true rfl | (refine inR_i64.mpr ?_; first | omega | (simp only [List.length_map]; omega)) | omega)
  all_goals (refine xfinIs (by first | exact .inl rfl | exact .inr rfl) rfl (by repeat' (first | exact trivial | exact rfl | refine And.intro ?_ ?_)) rfl ?_ rfl; first | with_reducible exact rfl | (simp -implicitDefEqProofs only [go_sem, Int.reduceEq, Int.reduceLT, Int.reduceLE, Nat.reduceAdd, Nat.reduceSub, Nat.reduceMul, Nat.reduceEqDiff, Nat.reduceLeDiff, Nat.reducePow, ↓reduceIte, reduceCtorEq] <;> (first | rfl | omega | exact decide_eq_decide.2 (by omega) | exact decide_eq_false (by omega) | exact decide_eq_true (by omega) | (symm; first | exact decide_eq_false (by omega) | exact decide_eq_true (by omega)) | (rw [Bool.eq_iff_iff]; simp only [Bool.not_eq_true', Bool.not_eq_false', Bool.and_eq_true, Bool.or_eq_true, decide_eq_true_eq, decide_eq_false_iff_not, reduceCtorEq, true_iff, iff_true, false_iff, iff_false]; omega))))

theorem c_equalRect (r : Rect) : ACon Try.prog 28 [vRect r, vRect r] [] (Is (.d (.bool true))) := by
  refine ACon.introW tok (nt := 8) Try.func28 rfl rfl rfl (by kernel_rfl) rfl ?_
  repeat' (first | ((with_reducible apply xsim); (first | ((with_reducible apply xo); exact rfl) | with_reducible apply xend | ((with_reducible apply xbox); exact rfl; simp only [backV, backVs, backVs_mapd, backId, backO, List.map_cons, List.map_nil, List.getElem?_nil, List.length_cons, List.length_nil, Nat.reduceAdd, Nat.reduceSub, List.cons_append, List.nil_append, List.append_nil]) | simp -implicitDefEqProofs only [go_sem, Int.reduceEq, Int.reduceLT, Int.reduceLE, Nat.reduceAdd, Nat.reduceSub, Nat.reduceMul, Nat.reduceEqDiff, Nat.reduceLeDiff, Nat.reducePow, ↓reduceIte, reduceCtorEq])) | ((with_reducible apply xaw); (first | ((with_reducible apply xstepS); refine AW.step tok rfl ?_) | ((with_reducible apply xstep); refine AW.region tok rfl ?_) | with_reducible (first | refine AW.seq ?_ | refine AW.block ?_ | refine AW.skip ?_ | refine AW.ret ?_ | refine AW.exit ?_) | ((with_reducible apply xcond); exact rfl))) | with_reducible (first | refine xthen ?_ | refine xthen_r ?_ | refine xthen_e ?_ | refine xblock ?_ | refine xblock_r ?_ | refine xblock_e ?_ | refine xblock_n rfl ?_ | refine xround_r ?_ | refine xround_e ?_) | (with_reducible intro hc; (try simp only [decide_eq_true_eq, decide_eq_false_iff_not, Bool.not_true, Bool.not_false, Bool.not_eq_true', Bool.not_eq_false', ne_eq, not_true, reduceCtorEq] at hc); (try (exfalso; omega))) | with_reducible (first | exact trivial | refine And.intro ?_ ?_ | exact rfl | exact Nat.le_refl _) | exact Eq.refl true | exact (rfl : (_ : List Nat) = _) | exact Nat.le_of_ble_eq_true rfl | (refine inR_i64.mpr ?_; first | omega | (simp only [List.length_map]; omega)) | omega)
  all_goals (refine xfinIs (by first | exact .inl rfl | exact .inr rfl) rfl (by repeat' (first | exact trivial | exact rfl | refine And.intro ?_ ?_)) rfl ?_ rfl; first | with_reducible exact rfl | (simp -implicitDefEqProofs only [go_sem, Int.reduceEq, Int.reduceLT, Int.reduceLE, Nat.reduceAdd, Nat.reduceSub, Nat.reduceMul, Nat.reduceEqDiff, Nat.reduceLeDiff, Nat.reducePow, ↓reduceIte, reduceCtorEq, decide_true] <;> (first | rfl | omega | exact decide_eq_decide.2 (by omega) | exact decide_eq_false (by omega) | exact decide_eq_true (by omega) | (symm; first | exact decide_eq_false (by omega) | exact decide_eq_true (by omega)) | (rw [Bool.eq_iff_iff]; simp only [Bool.not_eq_true', Bool.not_eq_false', Bool.and_eq_true, Bool.or_eq_true, decide_eq_true_eq, decide_eq_false_iff_not, reduceCtorEq, true_iff, iff_true, false_iff, iff_false]; omega))))

theorem c_goodPacks (xs : List Pack) (w h : Int) (hl : xs.length < 2^63) : ACon Try.prog 29 [.d (.lst (xs.map encPack)), .d (.int .i64 w), .d (.int .i64 h)] [] (Is (.d (.bool (packsOk xs && roomOk w h)))) := by
  refine ACon.introW tok (nt := 39) Try.func29 rfl rfl rfl (by kernel_rfl) rfl ?_
  repeat' (first | ((with_reducible apply xsim); (first | ((with_reducible apply xlenM); exact rfl; exact rfl) | ((with_reducible apply xo); exact rfl) | with_reducible apply xend | ((with_reducible apply xguardS); exact rfl; exact rfl) | ((with_reducible apply xidxL); exact rfl; exact rfl; exact rfl; exact rfl; omega; first | exact rfl | simp only [hsz]) | ((with_reducible apply xidxM); exact rfl; exact rfl; exact rfl; omega; omega; exact rfl) | ((with_reducible apply xldA); exact rfl; exact rfl; exact rfl; exact rfl; exact rfl) | simp -implicitDefEqProofs only [go_sem, Int.reduceEq, Int.reduceLT, Int.reduceLE, Nat.reduceAdd, Nat.reduceSub, Nat.reduceMul, Nat.reduceEqDiff, Nat.reduceLeDiff, Nat.reducePow, ↓reduceIte, reduceCtorEq])) | ((with_reducible apply xaw); (first | ((with_reducible apply xstepS); refine AW.step tok rfl ?_) | ((with_reducible apply xstep); refine AW.region tok rfl ?_) | with_reducible (first | refine AW.seq ?_ | refine AW.block ?_ | refine AW.skip ?_ | refine AW.ret ?_ | refine AW.exit ?_) | ((with_reducible apply xcond); exact rfl))) | with_reducible (first | refine xthen ?_ | refine xthen_r ?_ | refine xthen_e ?_ | refine xblock ?_ | refine xblock_r ?_ | refine xblock_e ?_ | refine xblock_n rfl ?_ | refine xround_r ?_ | refine xround_e ?_) | (with_reducible intro hc; (try simp only [decide_eq_true_eq, decide_eq_false_iff_not, Bool.not_true, Bool.not_false, Bool.not_eq_true', Bool.not_eq_false', ne_eq, not_true, reduceCtorEq] at hc); (try (exfalso; omega))) | with_reducible (first | exact trivial | refine And.intro ?_ ?_ | exact rfl | exact Nat.le_refl _) | exact Eq.refl true | exact (rfl : (_ : List Nat) = _) | exact Nat.le_of_ble_eq_true rfl | (refine inR_i64.mpr ?_; first | omega | (simp only [List.length_map]; omega)) | omega)
  refine AW.loop (S := fun k : Nat => ⟨[(0, .d (.lst (xs.map encPack))), (1, .d (.int .i64 w)), (2, .d (.int .i64 h)), (7, .d (.int .i64 k))], [], 39, 0⟩)
    (Pre := fun k => k ≤ xs.length ∧ ∀ j (h : j < xs.length), j < k → validPack xs[j] = true) (μ := fun k => xs.length - k) 0 ⟨Nat.zero_le _, fun j _ h => absurd h (Nat.not_lt_zero _)⟩ ?_ ?_
  · (refine xwk (π := []) (by decide) rfl ?_ ?_; (first | exact trivial | simp -implicitDefEqProofs only [go_sem, Int.reduceEq, Int.reduceLT, Int.reduceLE, Nat.reduceAdd, Nat.reduceSub, Nat.reduceMul, Nat.reduceEqDiff, Nat.reduceLeDiff, Nat.reducePow, ↓reduceIte, reduceCtorEq]); repeat' (first | exact renE_n | ((with_reducible apply renE_c); exact rfl; focus (first | with_reducible exact rfl | (simp -implicitDefEqProofs only [go_sem, Int.reduceEq, Int.reduceLT, Int.reduceLE, Nat.reduceAdd, Nat.reduceSub, Nat.reduceMul, Nat.reduceEqDiff, Nat.reduceLeDiff, Nat.reducePow, ↓reduceIte, reduceCtorEq]; done) | (simp -implicitDefEqProofs only [go_sem, Int.reduceEq, Int.reduceLT, Int.reduceLE, Nat.reduceAdd, Nat.reduceSub, Nat.reduceMul, Nat.reduceEqDiff, Nat.reduceLeDiff, Nat.reducePow, ↓reduceIte, reduceCtorEq]; omega)))))
  · rintro k ⟨hk, hp⟩
    by_cases hlt : k < xs.length
    · have hrow := at_map (f := encPack) hlt
      repeat' (first | ((with_reducible apply xsim); (first | ((with_reducible apply xlenM); exact rfl; exact rfl) | ((with_reducible apply xo); exact rfl) | with_reducible apply xend | ((with_reducible apply xguardS); exact rfl; exact rfl) | ((with_reducible apply xidxL); exact rfl; exact rfl; exact rfl; (first | exact hrow); omega; first | exact rfl | simp only [hsz]) | ((with_reducible apply xidxM); exact rfl; exact rfl; exact rfl; omega; omega; exact rfl) | ((with_reducible apply xldA); exact rfl; exact rfl; exact rfl; (first | exact hrow); exact rfl) | ((with_reducible apply xcallIs); exact rfl; exact rfl; exact c_ValidPack xs[k]; exact rfl) | simp -implicitDefEqProofs only [go_sem, Int.reduceEq, Int.reduceLT, Int.reduceLE, Nat.reduceAdd, Nat.reduceSub, Nat.reduceMul, Nat.reduceEqDiff, Nat.reduceLeDiff, Nat.reducePow, ↓reduceIte, reduceCtorEq, List.length_map])) | ((with_reducible apply xaw); (first | ((with_reducible apply xstepS); refine AW.step tok rfl ?_) | ((with_reducible apply xstep); refine AW.region tok rfl ?_) | with_reducible (first | refine AW.seq ?_ | refine AW.block ?_ | refine AW.skip ?_ | refine AW.ret ?_ | refine AW.exit ?_) | ((with_reducible apply xcond); exact rfl))) | with_reducible (first | refine xthen ?_ | refine xthen_r ?_ | refine xthen_e ?_ | refine xblock ?_ | refine xblock_r ?_ | refine xblock_e ?_ | refine xblock_n rfl ?_ | refine xround_r ?_ | refine xround_e ?_) | (with_reducible intro hc; (try simp only [decide_eq_true_eq, decide_eq_false_iff_not, Bool.not_true, Bool.not_false, Bool.not_eq_true', Bool.not_eq_false', ne_eq, not_true, reduceCtorEq, List.length_map] at hc); (try (exfalso; omega))) | with_reducible (first | exact trivial | refine And.intro ?_ ?_ | exact rfl | exact Nat.le_refl _) | exact Eq.refl true | exact (rfl : (_ : List Nat) = _) | exact Nat.le_of_ble_eq_true rfl | (refine inR_i64.mpr ?_; first | omega | (simp only [List.length_map, List.length_map]; omega)) | omega)
      · have : packsOk xs = false := by
          have : xs.all validPack = false := List.all_eq_false.2 ⟨_, List.getElem_mem hlt, by simp [hc]⟩
          simp [packsOk, this]
        (refine xfinIs (by first | exact .inl rfl | exact .inr rfl) rfl (by repeat' (first | exact trivial | exact rfl | refine And.intro ?_ ?_)) rfl ?_ rfl; first | with_reducible exact rfl | (simp -implicitDefEqProofs only [go_sem, Int.reduceEq, Int.reduceLT, Int.reduceLE, Nat.reduceAdd, Nat.reduceSub, Nat.reduceMul, Nat.reduceEqDiff, Nat.reduceLeDiff, Nat.reducePow, ↓reduceIte, reduceCtorEq, this, Bool.false_and] <;> (first | rfl | omega | exact decide_eq_decide.2 (by omega) | exact decide_eq_false (by omega) | exact decide_eq_true (by omega) | (symm; first | exact decide_eq_false (by omega) | exact decide_eq_true (by omega)) | (rw [Bool.eq_iff_iff]; simp only [Bool.not_eq_true', Bool.not_eq_false', Bool.and_eq_true, Bool.or_eq_true, decide_eq_true_eq, decide_eq_false_iff_not, reduceCtorEq, true_iff, iff_true, false_iff, iff_false]; omega))))
      · refine round_end (k+1) ⟨by omega, ?_⟩ (by omega) (by (refine xwk (π := []) (by decide) rfl ?_ ?_; (first | exact trivial | simp -implicitDefEqProofs only [go_sem, Int.reduceEq, Int.reduceLT, Int.reduceLE, Nat.reduceAdd, Nat.reduceSub, Nat.reduceMul, Nat.reduceEqDiff, Nat.reduceLeDiff, Nat.reducePow, ↓reduceIte, reduceCtorEq]); repeat' (first | exact renE_n | ((with_reducible apply renE_c); exact rfl; focus (first | with_reducible exact rfl | (simp -implicitDefEqProofs only [go_sem, Int.reduceEq, Int.reduceLT, Int.reduceLE, Nat.reduceAdd, Nat.reduceSub, Nat.reduceMul, Nat.reduceEqDiff, Nat.reduceLeDiff, Nat.reducePow, ↓reduceIte, reduceCtorEq]; done) | (simp -implicitDefEqProofs only [go_sem, Int.reduceEq, Int.reduceLT, Int.reduceLE, Nat.reduceAdd, Nat.reduceSub, Nat.reduceMul, Nat.reduceEqDiff, Nat.reduceLeDiff, Nat.reducePow, ↓reduceIte, reduceCtorEq]; omega))))))
        intro j hj h; by_cases h' : j = k
        · subst h'; exact hc
        · exact hp j hj (by omega)
    · have hall : xs.all validPack = true := List.all_eq_true.2 fun x hx => by
        obtain ⟨j, hj, rfl⟩ := List.mem_iff_getElem.1 hx
        exact hp j hj (by omega)
      have hpk : packsOk xs = decide (xs.length ≤ 7) := by simp [packsOk, hall]
      repeat' (first | ((with_reducible apply xsim); (first | ((with_reducible apply xlenM); exact rfl; exact rfl) | ((with_reducible apply xo); exact rfl) | with_reducible apply xend | ((with_reducible apply xguardS); exact rfl; exact rfl) | ((with_reducible apply xidxL); exact rfl; exact rfl; exact rfl; exact rfl; omega; first | exact rfl | simp only [hsz]) | ((with_reducible apply xidxM); exact rfl; exact rfl; exact rfl; omega; omega; exact rfl) | ((with_reducible apply xldA); exact rfl; exact rfl; exact rfl; exact rfl; exact rfl) | simp -implicitDefEqProofs only [go_sem, Int.reduceEq, Int.reduceLT, Int.reduceLE, Nat.reduceAdd, Nat.reduceSub, Nat.reduceMul, Nat.reduceEqDiff, Nat.reduceLeDiff, Nat.reducePow, ↓reduceIte, reduceCtorEq, List.length_map])) | ((with_reducible apply xaw); (first | ((with_reducible apply xstepS); refine AW.step tok rfl ?_) | ((with_reducible apply xstep); refine AW.region tok rfl ?_) | with_reducible (first | refine AW.seq ?_ | refine AW.block ?_ | refine AW.skip ?_ | refine AW.ret ?_ | refine AW.exit ?_) | ((with_reducible apply xcond); exact rfl))) | with_reducible (first | refine xthen ?_ | refine xthen_r ?_ | refine xthen_e ?_ | refine xblock ?_ | refine xblock_r ?_ | refine xblock_e ?_ | refine xblock_n rfl ?_ | refine xround_r ?_ | refine xround_e ?_) | (with_reducible intro hc; (try simp only [decide_eq_true_eq, decide_eq_false_iff_not, Bool.not_true, Bool.not_false, Bool.not_eq_true', Bool.not_eq_false', ne_eq, not_true, reduceCtorEq, List.length_map] at hc); (try (exfalso; omega))) | with_reducible (first | exact trivial | refine And.intro ?_ ?_ | exact rfl | exact Nat.le_refl _) | exact Eq.refl true | exact (rfl : (_ : List Nat) = _) | exact Nat.le_of_ble_eq_true rfl | (refine inR_i64.mpr ?_; first | omega | (simp only [List.length_map, List.length_map]; omega)) | omega)
      all_goals (refine xfinIs (by first | exact .inl rfl | exact .inr rfl) rfl (by repeat' (first | exact trivial | exact rfl | refine And.intro ?_ ?_)) rfl ?_ rfl; first | with_reducible exact rfl | (simp -implicitDefEqProofs only [go_sem, Int.reduceEq, Int.reduceLT, Int.reduceLE, Nat.reduceAdd, Nat.reduceSub, Nat.reduceMul, Nat.reduceEqDiff, Nat.reduceLeDiff, Nat.reducePow, ↓reduceIte, reduceCtorEq, hpk, roomOk, ← Bool.decide_and] <;> (first | rfl | omega | exact decide_eq_decide.2 (by omega) | exact decide_eq_false (by omega) | exact decide_eq_true (by omega) | (symm; first | exact decide_eq_false (by omega) | exact decide_eq_true (by omega)) | (rw [Bool.eq_iff_iff]; simp only [Bool.not_eq_true', Bool.not_eq_false', Bool.and_eq_true, Bool.or_eq_true, decide_eq_true_eq, decide_eq_false_iff_not, reduceCtorEq, true_iff, iff_true, false_iff, iff_false]; omega))))
end Go.Proofs.Ytiajmkppilmjdaa
