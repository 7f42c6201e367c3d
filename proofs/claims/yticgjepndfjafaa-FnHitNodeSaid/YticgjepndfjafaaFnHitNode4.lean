/- Contracts of the functions and the plain law behind them, as far as FnHitNode needs them; joined out of the texts K8 T31 T18 T19 T21 L5. -/
import Derived.Deep.Slices
import Derived.Deep.Fields
import Derived.ChangeSame
import Derived.Below
import Derived.ProofKit
import Derived.Test.YticgjepndfjafaaFnHitNode3
set_option linter.unusedSimpArgs false
set_option linter.unusedVariables false
namespace Go.Proofs.Yticgjepndfjafaa
open Go.Fw
def Ins (a b : Rect) : Prop := a.x ≤ b.x ∧ a.y ≤ b.y ∧ b.x + b.w ≤ a.x + a.w ∧ b.y + b.h ≤ a.y + a.h
theorem Apart.mono {a b c : Rect} (h : Apart a b) (hi : Ins b c) : Apart a c := by unfold Apart Ins at *; omega
theorem Apart.symm {a b : Rect} (h : Apart a b) : Apart b a := by unfold Apart at *; omega
end Go.Proofs.Yticgjepndfjafaa

namespace Go.Proofs.Yticgjepndfjafaa
open Go.Fw

/-! What is seen, and what is hit. -/
def hasP (r : Rect) (x y : Int) : Prop := r.x ≤ x ∧ x < r.x + r.w ∧ r.y ≤ y ∧ y < r.y + r.h
instance (r : Rect) (x y : Int) : Decidable (hasP r x y) := by unfold hasP; infer_instance
theorem meet_has {a b : Rect} {x y : Int} : hasP (meetR a b) x y ↔ hasP a x y ∧ hasP b x y := by
  unfold hasP meetR
  dsimp only
  omega
theorem meets_of {a b : Rect} {x y : Int} (h : hasP a x y ∧ hasP b x y) : meets a b = true := by
  refine decide_eq_true ?_
  have := meet_has.2 h
  unfold hasP at this
  omega
/-- What a rectangle has in common with those of some nodes. -/
def seenL (R : Nat → Rect) : List Nat → Rect → Rect × Bool
  | [], r => (r, true)
  | k :: ks, r => if meets r (R k) = true then seenL R ks (meetR r (R k)) else (⟨0, 0, 0, 0⟩, false)
def seenOf (t : List Node) (R : Nat → Rect) (i : Nat) : Rect × Bool := seenL R (way t i) (R i)
theorem seenL_has {R : Nat → Rect} {x y : Int} : ∀ {ks : List Nat} {r : Rect}, hasP r x y → (∀ k ∈ ks, hasP (R k) x y) → (seenL R ks r).2 = true ∧ hasP (seenL R ks r).1 x y
  | [], r, h, _ => ⟨rfl, h⟩
  | k :: ks, r, h, hk => by
    have h1 := hk k (by simp)
    simp only [seenL]
    rw [if_pos (meets_of ⟨h, h1⟩)]
    exact seenL_has (meet_has.2 ⟨h, h1⟩) fun m hm => hk m (by simp [hm])
theorem seenL_no {R : Nat → Rect} : ∀ {ks : List Nat} {r : Rect}, (seenL R ks r).2 = false → (seenL R ks r).1 = ⟨0, 0, 0, 0⟩
  | [], r, h => by cases h
  | k :: ks, r, h => by
    simp only [seenL] at h ⊢
    by_cases hm : meets r (R k) = true
    · rw [if_pos hm] at h ⊢
      exact seenL_no h
    · rw [if_neg hm]

section
variable {t : List Node} {R : Nat → Rect} {i : Nat}
theorem seen_of_point (h : TreeK t) (hi : i < t.length) {x y : Int} (hp : ∀ k ∈ way t i, hasP (R k) x y) : (seenOf t R i).2 = true ∧ hasP (seenOf t R i).1 x y := by
  obtain ⟨r, hr⟩ := way_head h hi
  exact seenL_has (hp i (by rw [hr]; simp)) hp
end

/-- The kids that a point hits. -/
def hitKids (t : List Node) (R : Nat → Rect) (x y : Int) (i : Nat) : List Nat := (kids t i).filter fun k => decide (hasP (R k) x y)
def hitF (t : List Node) (R : Nat → Rect) (x y : Int) : Nat → Nat → Nat
  | 0, i => i
  | f + 1, i => match (hitKids t R x y i).getLast? with
    | none => i
    | some k => hitF t R x y f k
def hit (t : List Node) (R : Nat → Rect) (x y : Int) (i : Nat) : Nat := hitF t R x y t.length i
section
variable {t : List Node} {R : Nat → Rect} {x y : Int}
theorem hitKids_mem {i k : Nat} : k ∈ hitKids t R x y i ↔ k ∈ kids t i ∧ hasP (R k) x y := by simp [hitKids]
theorem hitLast {i k : Nat} (h : (hitKids t R x y i).getLast? = some k) : k ∈ kids t i ∧ hasP (R k) x y := hitKids_mem.1 (List.mem_of_getLast? h)
theorem hitF_fuel (h : TreeK t) : ∀ (f g i : Nat), i < t.length → t.length - i ≤ f → t.length - i ≤ g → hitF t R x y f i = hitF t R x y g i := by
  intro f
  induction f with
  | zero => intro g i hi h1; omega
  | succ f ih =>
    intro g i hi h1 h2
    cases g with
    | zero => omega
    | succ g =>
      simp only [hitF]
      cases hl : (hitKids t R x y i).getLast? with
      | none => rfl
      | some k =>
        obtain ⟨a, b, _⟩ := h.kid (hitLast hl).1
        exact ih g k a (by omega) (by omega)
theorem hit_eq (h : TreeK t) {i : Nat} (hi : i < t.length) : hit t R x y i = match (hitKids t R x y i).getLast? with
    | none => i
    | some k => hit t R x y k := by
  unfold hit
  obtain ⟨n, hn⟩ : ∃ n, t.length = n + 1 := ⟨t.length - 1, by omega⟩
  rw [hn]
  simp only [hitF]
  cases hl : (hitKids t R x y i).getLast? with
  | none => rfl
  | some k =>
    obtain ⟨a, b, _⟩ := h.kid (hitLast hl).1
    exact hitF_fuel h n (n + 1) k a (by omega) (by omega)
/-- All nodes above the node that is hit have the point, none of its kids has it. -/
theorem hit_spec (h : TreeK t) : ∀ m i : Nat, t.length - i ≤ m → i < t.length → (∀ k ∈ way t i, hasP (R k) x y) → hit t R x y i < t.length ∧ (∀ k ∈ way t (hit t R x y i), hasP (R k) x y) ∧ hitKids t R x y (hit t R x y i) = [] := by
  intro m
  induction m with
  | zero => intro i h1 h2; omega
  | succ m ih =>
    intro i h1 h2 hw
    rw [hit_eq h h2]
    cases hl : (hitKids t R x y i).getLast? with
    | none => exact ⟨h2, hw, List.getLast?_eq_none_iff.1 hl⟩
    | some k =>
      obtain ⟨c, d⟩ := hitLast hl
      obtain ⟨a, b, e⟩ := h.kid c
      refine ih k (by omega) a fun m hm => ?_
      rw [way_succ h a (by omega)] at hm
      have e' : t[k].parent.toNat = i := by omega
      rw [e'] at hm
      rcases List.mem_cons.1 hm with rfl | hm
      · exact d
      · exact hw m hm
end
end Go.Proofs.Yticgjepndfjafaa

namespace Go.Proofs.Yticgjepndfjafaa
open Go.Fw
attribute [local irreducible] Go.Fw.aops Go.Fw.arun

theorem c_meetI (a b : Rect) (ha : RectIn a) (hb : RectIn b) : ACon Try.prog 76 [vRect a, vRect b] [] (Is (.tup [vRect (meetOr a b), .d (.bool (meets a b))])) := by
  obtain ⟨h1, h2, h3, h4, h5, h6⟩ := ha
  obtain ⟨g1, g2, g3, g4, g5, g6⟩ := hb
  by_cases hm : 1 ≤ (meetR a b).w ∧ 1 ≤ (meetR a b).h
  · have e : meets a b = true := decide_eq_true hm
    have e2 : meetOr a b = meetR a b := by rw [meetOr, if_pos e]
    rw [e, e2]
    simp only [meetR] at hm
    refine ACon.introW tok (nt := 58) Try.func76 rfl rfl rfl (by kernel_rfl) rfl ?_
    repeat' (first | ((with_reducible apply xsim); (first | ((with_reducible apply xbld); exact rfl; exact rfl; exact rfl; (try simp only [List.set_cons_zero, List.set_cons_succ])) | ((with_reducible apply xo); exact rfl) | ((with_reducible apply xst); exact rfl) | with_reducible apply xend | ((with_reducible apply xguardS); exact rfl; exact rfl) | ((with_reducible apply xalloc); exact rfl; simp only [backV, backVs, backVs_mapd, backId, backO, List.map_cons, List.map_nil, List.getElem?_nil, List.length_cons, List.length_nil, Nat.reduceAdd, Nat.reduceSub, List.cons_append, List.nil_append, List.append_nil]) | ((with_reducible apply xbox); exact rfl; simp only [backV, backVs, backVs_mapd, backId, backO, List.map_cons, List.map_nil, List.getElem?_nil, List.length_cons, List.length_nil, Nat.reduceAdd, Nat.reduceSub, List.cons_append, List.nil_append, List.append_nil]))) | ((with_reducible apply xaw); (first | ((with_reducible apply xstepS); refine AW.step tok rfl ?_) | with_reducible (first | refine AW.seq ?_ | refine AW.skip ?_ | refine AW.ret ?_) | ((with_reducible apply xcond); exact rfl) | ((with_reducible apply xdraw (id := 1)); refine AW.draw (id := 1) (.q 0 (.q 1 (.q 2 (.q 3 (.q 4 (.q 5 (.q 6 (.q 7 (.q 8 (.q 9 (.q 10 (.q 11 (.fin))))))))))))) tok (by kernel_rfl) rfl (by kernel_rfl) ?_))) | ((with_reducible apply xarun); (first | ((with_reducible apply xrun_q); exact rfl; exact rfl; exact rfl) | with_reducible apply xrun_f)) | with_reducible refine xthen ?_ | (with_reducible intro hc; (try simp only [decide_eq_true_eq, decide_eq_false_iff_not, Bool.not_true, Bool.not_false, Bool.not_eq_true', Bool.not_eq_false', ne_eq, not_true, reduceCtorEq] at hc); (try (exfalso; omega))) | with_reducible (first | exact trivial | refine And.intro ?_ ?_ | exact rfl) | exact Eq.refl true | (refine inR_i64.mpr ?_; first | omega | (simp only [List.length_map]; omega)))
    all_goals (refine xfinIs (by first | exact .inl rfl | exact .inr rfl) rfl (by repeat' (first | exact trivial | exact rfl | refine And.intro ?_ ?_)) rfl ?_ rfl; first | (simp -implicitDefEqProofs only [go_sem, Int.reduceEq, Int.reduceLT, Int.reduceLE, Nat.reduceAdd, Nat.reduceSub, Nat.reduceMul, Nat.reduceEqDiff, Nat.reduceLeDiff, Nat.reducePow, ↓reduceIte, reduceCtorEq, meetR] <;> (first | rfl | omega | exact decide_eq_decide.2 (by omega) | exact decide_eq_false (by omega) | exact decide_eq_true (by omega) | (symm; first | exact decide_eq_false (by omega) | exact decide_eq_true (by omega)) | (rw [Bool.eq_iff_iff]; simp only [Bool.not_eq_true', Bool.not_eq_false', Bool.and_eq_true, Bool.or_eq_true, decide_eq_true_eq, decide_eq_false_iff_not, reduceCtorEq, true_iff, iff_true, false_iff, iff_false]; omega))))
  · have e : meets a b = false := decide_eq_false hm
    have e2 : meetOr a b = ⟨0, 0, 0, 0⟩ := by rw [meetOr, e]; rfl
    rw [e, e2]
    simp only [meetR] at hm
    refine ACon.introW tok (nt := 58) Try.func76 rfl rfl rfl (by kernel_rfl) rfl ?_
    repeat' (first | ((with_reducible apply xsim); (first | ((with_reducible apply xbld); exact rfl; exact rfl; exact rfl; (try simp only [List.set_cons_zero, List.set_cons_succ])) | ((with_reducible apply xo); exact rfl) | ((with_reducible apply xst); exact rfl) | with_reducible apply xend | ((with_reducible apply xguardS); exact rfl; exact rfl) | ((with_reducible apply xalloc); exact rfl; simp only [backV, backVs, backVs_mapd, backId, backO, List.map_cons, List.map_nil, List.getElem?_nil, List.length_cons, List.length_nil, Nat.reduceAdd, Nat.reduceSub, List.cons_append, List.nil_append, List.append_nil]) | ((with_reducible apply xbox); exact rfl; simp only [backV, backVs, backVs_mapd, backId, backO, List.map_cons, List.map_nil, List.getElem?_nil, List.length_cons, List.length_nil, Nat.reduceAdd, Nat.reduceSub, List.cons_append, List.nil_append, List.append_nil]))) | ((with_reducible apply xaw); (first | ((with_reducible apply xstepS); refine AW.step tok rfl ?_) | with_reducible (first | refine AW.seq ?_ | refine AW.ret ?_) | ((with_reducible apply xcond); exact rfl) | ((with_reducible apply xdraw (id := 1)); refine AW.draw (id := 1) (.q 0 (.q 1 (.q 2 (.q 3 (.q 4 (.q 5 (.q 6 (.q 7 (.q 8 (.q 9 (.q 10 (.q 11 (.fin))))))))))))) tok (by kernel_rfl) rfl (by kernel_rfl) ?_))) | ((with_reducible apply xarun); (first | ((with_reducible apply xrun_q); exact rfl; exact rfl; exact rfl) | with_reducible apply xrun_f)) | with_reducible (first | refine xthen ?_ | refine xthen_r ?_) | (with_reducible intro hc; (try simp only [decide_eq_true_eq, decide_eq_false_iff_not, Bool.not_true, Bool.not_false, Bool.not_eq_true', Bool.not_eq_false', ne_eq, not_true, reduceCtorEq] at hc); (try (exfalso; omega))) | with_reducible (first | exact trivial | refine And.intro ?_ ?_ | exact rfl) | exact Eq.refl true | (refine inR_i64.mpr ?_; first | omega | (simp only [List.length_map]; omega)))
    all_goals (refine xfinIs (by first | exact .inl rfl | exact .inr rfl) rfl (by repeat' (first | exact trivial | exact rfl | refine And.intro ?_ ?_)) rfl ?_ rfl; first | (simp -implicitDefEqProofs only [go_sem, Int.reduceEq, Int.reduceLT, Int.reduceLE, Nat.reduceAdd, Nat.reduceSub, Nat.reduceMul, Nat.reduceEqDiff, Nat.reduceLeDiff, Nat.reducePow, ↓reduceIte, reduceCtorEq] <;> (first | rfl | omega | exact decide_eq_decide.2 (by omega) | exact decide_eq_false (by omega) | exact decide_eq_true (by omega) | (symm; first | exact decide_eq_false (by omega) | exact decide_eq_true (by omega)) | (rw [Bool.eq_iff_iff]; simp only [Bool.not_eq_true', Bool.not_eq_false', Bool.and_eq_true, Bool.or_eq_true, decide_eq_true_eq, decide_eq_false_iff_not, reduceCtorEq, true_iff, iff_true, false_iff, iff_false]; omega))))
theorem c_hasI (r : Rect) (x y : Int) (hr : RectIn r) : ACon Try.prog 80 [vRect r, .d (.int .i64 x), .d (.int .i64 y)] [] (Is (.d (.bool (decide (hasP r x y))))) := by
  obtain ⟨h1, h2, h3, h4, h5, h6⟩ := hr
  refine ACon.introW tok (nt := 35) Try.func80 rfl rfl rfl (by kernel_rfl) rfl ?_
  repeat' (first | ((with_reducible apply xsim); (first | ((with_reducible apply xo); exact rfl) | with_reducible apply xend | ((with_reducible apply xguardS); exact rfl; exact rfl) | ((with_reducible apply xbox); exact rfl; simp only [backV, backVs, backVs_mapd, backId, backO, List.map_cons, List.map_nil, List.getElem?_nil, List.length_cons, List.length_nil, Nat.reduceAdd, Nat.reduceSub, List.cons_append, List.nil_append, List.append_nil]))) | ((with_reducible apply xaw); (first | ((with_reducible apply xstepS); refine AW.step tok rfl ?_) | with_reducible refine AW.ret ?_)) | (with_reducible intro hc; (try simp only [decide_eq_true_eq, decide_eq_false_iff_not, Bool.not_true, Bool.not_false, Bool.not_eq_true', Bool.not_eq_false', ne_eq, not_true, reduceCtorEq] at hc); (try (exfalso; omega))) | with_reducible (first | exact trivial | refine And.intro ?_ ?_ | exact rfl) | (refine inR_i64.mpr ?_; first | omega | (simp only [List.length_map]; omega)))
  all_goals (refine xfinIs (by first | exact .inl rfl | exact .inr rfl) rfl (by repeat' (first | exact trivial | exact rfl | refine And.intro ?_ ?_)) rfl ?_ rfl; first | (simp -implicitDefEqProofs only [go_sem, Int.reduceEq, Int.reduceLT, Int.reduceLE, Nat.reduceAdd, Nat.reduceSub, Nat.reduceMul, Nat.reduceEqDiff, Nat.reduceLeDiff, Nat.reducePow, ↓reduceIte, reduceCtorEq, hasP] <;> (first | rfl | omega | exact decide_eq_decide.2 (by omega) | exact decide_eq_false (by omega) | exact decide_eq_true (by omega) | (symm; first | exact decide_eq_false (by omega) | exact decide_eq_true (by omega)) | (rw [Bool.eq_iff_iff]; simp only [Bool.not_eq_true', Bool.not_eq_false', Bool.and_eq_true, Bool.or_eq_true, decide_eq_true_eq, decide_eq_false_iff_not, reduceCtorEq, true_iff, iff_true, false_iff, iff_false]; omega))))
theorem c_hasS (r : Rect) (x y : Int) (hr : RectIn r) : ACon Try.prog 104 [vRect r, .d (.int .i64 x), .d (.int .i64 y)] [] (Is (.d (.bool (decide (hasP r x y))))) := by
  obtain ⟨h1, h2, h3, h4, h5, h6⟩ := hr
  refine ACon.introW tok (nt := 29) Try.func104 rfl rfl rfl (by kernel_rfl) rfl ?_
  repeat' (first | ((with_reducible apply xsim); (first | ((with_reducible apply xo); exact rfl) | with_reducible apply xend | ((with_reducible apply xguardS); exact rfl; exact rfl) | ((with_reducible apply xbox); exact rfl; simp only [backV, backVs, backVs_mapd, backId, backO, List.map_cons, List.map_nil, List.getElem?_nil, List.length_cons, List.length_nil, Nat.reduceAdd, Nat.reduceSub, List.cons_append, List.nil_append, List.append_nil]) | ((with_reducible apply xcallIs); exact rfl; exact rfl; exact c_inRange _ _ _; exact rfl))) | ((with_reducible apply xaw); (first | ((with_reducible apply xstepS); refine AW.step tok rfl ?_) | with_reducible refine AW.ret ?_)) | (with_reducible intro hc; (try simp only [decide_eq_true_eq, decide_eq_false_iff_not, Bool.not_true, Bool.not_false, Bool.not_eq_true', Bool.not_eq_false', ne_eq, not_true, reduceCtorEq] at hc); (try (exfalso; omega))) | with_reducible (first | exact trivial | refine And.intro ?_ ?_ | exact rfl) | (refine inR_i64.mpr ?_; first | omega | (simp only [List.length_map]; omega)))
  all_goals (refine xfinIs (by first | exact .inl rfl | exact .inr rfl) rfl (by repeat' (first | exact trivial | exact rfl | refine And.intro ?_ ?_)) rfl ?_ rfl; first | (simp -implicitDefEqProofs only [go_sem, Int.reduceEq, Int.reduceLT, Int.reduceLE, Nat.reduceAdd, Nat.reduceSub, Nat.reduceMul, Nat.reduceEqDiff, Nat.reduceLeDiff, Nat.reducePow, ↓reduceIte, reduceCtorEq, hasP] <;> (first | rfl | omega | exact decide_eq_decide.2 (by omega) | exact decide_eq_false (by omega) | exact decide_eq_true (by omega) | (symm; first | exact decide_eq_false (by omega) | exact decide_eq_true (by omega)) | (rw [Bool.eq_iff_iff]; simp only [Bool.not_eq_true', Bool.not_eq_false', Bool.and_eq_true, Bool.or_eq_true, decide_eq_true_eq, decide_eq_false_iff_not, reduceCtorEq, true_iff, iff_true, false_iff, iff_false]; omega))))

theorem zero_in : RectIn ⟨0, 0, 0, 0⟩ := by constructor <;> dsimp only <;> omega
theorem meetOr_in {a b : Rect} (ha : RectIn a) (hb : RectIn b) : RectIn (meetOr a b) := by
  unfold meetOr
  split
  · rename_i h
    have h := of_decide_eq_true h
    obtain ⟨h1, h2, h3, h4, h5, h6⟩ := ha
    obtain ⟨g1, g2, g3, g4, g5, g6⟩ := hb
    simp only [meetR] at h ⊢
    constructor <;> dsimp only <;> omega
  · exact zero_in
theorem seenL_app {R : Nat → Rect} : ∀ {a b : List Nat} {r : Rect}, seenL R (a ++ b) r = if (seenL R a r).2 = true then seenL R b (seenL R a r).1 else (⟨0, 0, 0, 0⟩, false)
  | [], b, r => by simp [seenL]
  | k :: a, b, r => by
    by_cases hm : meets r (R k) = true
    · have e : ∀ xs, seenL R (k :: xs) r = seenL R xs (meetR r (R k)) := fun xs => by simp only [seenL]; rw [if_pos hm]
      simp only [List.cons_append, e]
      exact seenL_app
    · have e : ∀ xs, seenL R (k :: xs) r = (⟨0, 0, 0, 0⟩, false) := fun xs => by simp only [seenL]; rw [if_neg hm]
      simp only [List.cons_append, e]
      simp
/-- What is seen as far as the first ones on the way. -/
def seenT (t : List Node) (R : Nat → Rect) (i j : Nat) : Rect × Bool := seenL R ((way t i).take j) (R i)
section
variable {t : List Node} {R : Nat → Rect} {i : Nat}
theorem seenT_all : seenT t R i (way t i).length = seenOf t R i := by rw [seenT, List.take_length]; rfl
theorem seenT_no {j : Nat} (h : (seenT t R i j).2 = false) : seenOf t R i = (⟨0, 0, 0, 0⟩, false) := by
  unfold seenOf
  rw [← List.take_append_drop j (way t i), seenL_app, if_neg (by rw [show seenL R ((way t i).take j) (R i) = seenT t R i j from rfl, h]; simp)]
theorem seenT_zero {j : Nat} (h : (seenT t R i j).2 = false) : (seenT t R i j).1 = ⟨0, 0, 0, 0⟩ := seenL_no h
theorem seenT_step {j : Nat} (hj : j < (way t i).length) (h : (seenT t R i j).2 = true) : seenT t R i (j + 1) = (meetOr (seenT t R i j).1 (R (way t i)[j]), meets (seenT t R i j).1 (R (way t i)[j])) := by
  have e : seenT t R i (j + 1) = seenL R ([(way t i)[j]]) (seenT t R i j).1 := by
    unfold seenT at h ⊢
    rw [way_take hj, seenL_app, if_pos h]
  rw [e]
  simp only [seenL, meetOr]
  split <;> simp_all
theorem seenT_one (h : TreeK t) (hi : i < t.length) : seenT t R i 1 = (meetOr (R i) (R i), meets (R i) (R i)) := by
  obtain ⟨r, hr⟩ := way_head h hi
  have e := seenT_step (t := t) (R := R) (i := i) (j := 0) (by rw [hr]; simp) rfl
  rw [e]
  have e0 : (way t i)[0]'(by rw [hr]; simp) = i := by simp [hr]
  simp only [e0]
  rfl
theorem seenT_in (hR : ∀ k, k < t.length → RectIn (R k)) (h : TreeK t) (hi : i < t.length) : ∀ j, j ≤ (way t i).length → RectIn (seenT t R i j).1 := by
  intro j
  induction j with
  | zero => intro _; exact hR i hi
  | succ j ih =>
    intro hj
    have h1 := ih (by omega)
    by_cases ho : (seenT t R i j).2 = true
    · rw [seenT_step (by omega) ho]
      have := way_le h i hi _ (List.getElem_mem (show j < (way t i).length by omega))
      exact meetOr_in h1 (hR _ (by omega))
    · have ho : (seenT t R i j).2 = false := by simpa using ho
      have e : (seenT t R i (j + 1)).1 = ⟨0, 0, 0, 0⟩ := by
        unfold seenT at ho ⊢
        rw [way_take (by omega), seenL_app, if_neg (by rw [ho]; simp)]
      rw [e]; exact zero_in
end

theorem lay_get {t : List Node} {w h : Int} {k : Nat} (hk : k < t.length) : ((layoutOf t w h).map encRect)[k]? = some (encRect (rectAt t w h k)) := by
  rw [List.getElem?_map, layoutOf, List.getElem?_map, List.getElem?_range hk]; rfl
theorem layoutOf_len {t : List Node} {w h : Int} : (layoutOf t w h).length = t.length := by simp [layoutOf]
theorem rects_in {t : List Node} (hk : TreeK t) {w h : Int} (hw : 0 ≤ w ∧ w ≤ 400) (hh : 0 ≤ h ∧ h ≤ 400) : ∀ k, k < t.length → RectIn (rectAt t w h k) := fun k hkl => (rect_bd hk hw hh k hkl).in (by have := hk.hi; omega)

def seenV (s : Rect × Bool) : V := .tup [vRect s.1, .d (.bool s.2)]
set_option maxRecDepth 8000 in
set_option maxHeartbeats 4000000 in
theorem c_seenI (t : List Node) (hk : TreeK t) (w h : Int) (hw : 0 ≤ w ∧ w ≤ 400) (hh : 0 ≤ h ∧ h ≤ 400) (i : Nat) (hi : i < t.length) :
    ACon Try.prog 83 [vTree t, .d (.lst ((layoutOf t w h).map encRect)), .d (.int .i64 (i : Int))] [] (Is (seenV (seenOf t (rectAt t w h) i))) := by
  have hhi := hk.hi
  have hR := rects_in hk hw hh
  have hri := lay_get (w := w) (h := h) hi
  have hrow := at_map (f := encNode) hi
  have hone := seenT_one (R := rectAt t w h) hk hi
  have hwl := way_len hk i hi
  have hpar : t[i].parent = cur (way t i) 1 := by
    obtain ⟨r, hr⟩ := way_head hk hi
    obtain ⟨_, e⟩ := way_cur hk hi (k := 0) (by rw [hr]; simp)
    have e0 : (way t i)[0]'(by rw [hr]; simp) = i := by simp [hr]
    simp only [e0] at e
    exact e
  have hpos : 1 ≤ (way t i).length := by
    obtain ⟨r, hr⟩ := way_head hk hi
    rw [hr]; simp
  generalize hRg : rectAt t w h = R at *
  refine ACon.introW tok (nt := 51) Try.func83 rfl rfl rfl (by kernel_rfl) rfl ?_
  repeat' (first | ((with_reducible apply xsim); (first | ((with_reducible apply xo); exact rfl) | ((with_reducible apply xst); exact rfl) | with_reducible apply xend | ((with_reducible apply xalloc); exact rfl; simp only [backV, backVs, backVs_mapd, backId, backO, List.map_cons, List.map_nil, List.getElem?_nil, List.length_cons, List.length_nil, Nat.reduceAdd, Nat.reduceSub, List.cons_append, List.nil_append, List.append_nil]) | ((with_reducible apply xbox); exact rfl; simp only [backV, backVs, backVs_mapd, backId, backO, List.map_cons, List.map_nil, List.getElem?_nil, List.length_cons, List.length_nil, Nat.reduceAdd, Nat.reduceSub, List.cons_append, List.nil_append, List.append_nil]) | ((with_reducible apply xidxL); exact rfl; exact rfl; exact rfl; (first | exact hri | exact hrow); omega; first | exact rfl | simp only [hsz]))) | ((with_reducible apply xaw); (first | ((with_reducible apply xstepS); refine AW.step tok rfl ?_) | with_reducible (first | refine AW.seq ?_ | refine AW.block ?_) | ((with_reducible apply xdraw (id := 1)); refine AW.draw (id := 1) (.q 0 (.q 1 (.q 2 (.q 3 (.q 4 (.q 5 (.q 6 (.q 7 (.q 8 (.q 9 (.q 10 (.q 11 (.e 12 (.e 13 (.q 14 (.fin)))))))))))))))) tok (by kernel_rfl) rfl (by kernel_rfl) ?_))) | ((with_reducible apply xarun); (first | ((with_reducible apply xrun_q); exact rfl; exact rfl; exact rfl) | ((with_reducible apply xrun_c); exact rfl; exact rfl; exact rfl; exact rfl; exact rfl; exact rfl; exact c_meetI _ _ (hR i hi) (hR i hi); exact rfl) | ((with_reducible apply xrun_e); exact rfl) | with_reducible apply xrun_f)) | with_reducible refine xthen ?_ | with_reducible (first | exact trivial | refine And.intro ?_ ?_) | exact Eq.refl true)
  refine AW.loop (S := fun j : Nat => ⟨[(1, .d (.lst ((layoutOf t w h).map encRect))), (3, .oref 0 0), (6, .oref 1 0), (8, .oref 2 0), (9, .d (.bool (seenT t R i j).2)), (10, .d (.int .i64 (cur (way t i) j)))],
      [.box [.d (.lst (t.map encNode))], .box [.d (.int .i64 0), .d (.int .i64 0), .d (.int .i64 0), .d (.int .i64 0)], .box ((encRect (seenT t R i j).1).map .d)], 51, 0⟩)
    (Pre := fun j => 1 ≤ j ∧ j ≤ (way t i).length) (μ := fun j => (way t i).length - j) 1 ⟨Nat.le_refl _, hpos⟩ ?_ ?_
  · (refine xwk (π := [0, 1, 2]) (by decide) rfl ?_ ?_; (first | simp -implicitDefEqProofs only [go_sem, Int.reduceEq, Int.reduceLT, Int.reduceLE, Nat.reduceAdd, Nat.reduceSub, Nat.reduceMul, Nat.reduceEqDiff, Nat.reduceLeDiff, Nat.reducePow, ↓reduceIte, reduceCtorEq, hone, hpar]); repeat' (first | exact renE_n | ((with_reducible apply renE_c); exact rfl; focus (first | (simp -implicitDefEqProofs only [go_sem, Int.reduceEq, Int.reduceLT, Int.reduceLE, Nat.reduceAdd, Nat.reduceSub, Nat.reduceMul, Nat.reduceEqDiff, Nat.reduceLeDiff, Nat.reducePow, ↓reduceIte, reduceCtorEq, hone, hpar]; done)))))
  rintro j ⟨hj1, hj⟩
  have hin := seenT_in hR hk hi j hj
  by_cases hok : (seenT t R i j).2 = true
  · rw [hok]
    by_cases hlt : j < (way t i).length
    · obtain ⟨hm, hn⟩ := way_cur hk hi hlt
      have hrj := lay_get (w := w) (h := h) hm
      rw [hRg] at hrj
      have hrn := at_map (f := encNode) hm
      have hst := seenT_step (R := R) hlt hok
      rw [cur_at hlt]
      have cm := c_meetI _ _ hin (hR _ hm)
      generalize (seenT t R i j).1 = q at *
      repeat' (first | ((with_reducible apply xsim); (first | ((with_reducible apply xo); exact rfl) | ((with_reducible apply xst); exact rfl) | with_reducible apply xend | ((with_reducible apply xguardS); exact rfl; exact rfl) | ((with_reducible apply xidxL); exact rfl; exact rfl; exact rfl; (first | exact hrj | exact hrn); omega; first | exact rfl | simp only [hsz]))) | ((with_reducible apply xaw); (first | ((with_reducible apply xstepS); refine AW.step tok rfl ?_) | ((with_reducible apply xstep); refine AW.region tok rfl ?_) | with_reducible (first | refine AW.seq ?_ | refine AW.block ?_ | refine AW.skip ?_) | ((with_reducible apply xcond); exact rfl) | ((with_reducible apply xdraw (id := 5)); refine AW.draw (id := 5) (.q 0 (.q 1 (.q 2 (.q 3 (.q 4 (.q 5 (.q 6 (.q 7 (.q 8 (.e 9 (.q 10 (.fin)))))))))))) tok (by kernel_rfl) rfl (by kernel_rfl) ?_))) | ((with_reducible apply xarun); (first | ((with_reducible apply xrun_q); exact rfl; exact rfl; exact rfl) | ((with_reducible apply xrun_c); exact rfl; exact rfl; exact rfl; exact rfl; exact rfl; exact rfl; exact cm; exact rfl) | ((with_reducible apply xrun_e); exact rfl) | with_reducible apply xrun_f)) | with_reducible (first | refine xthen ?_ | refine xblock ?_) | (with_reducible intro hc; (try simp only [decide_eq_true_eq, decide_eq_false_iff_not, Bool.not_true, Bool.not_false, Bool.not_eq_true', Bool.not_eq_false', ne_eq, not_true, reduceCtorEq, List.length_map] at hc); (try (exfalso; omega))) | with_reducible (first | exact trivial | refine And.intro ?_ ?_ | exact rfl) | exact Eq.refl true)
      refine round_end (j+1) ⟨by omega, hlt⟩ (by omega) (by (refine xwk (π := [0, 1, 2]) (by decide) rfl ?_ ?_; (first | simp -implicitDefEqProofs only [go_sem, Int.reduceEq, Int.reduceLT, Int.reduceLE, Nat.reduceAdd, Nat.reduceSub, Nat.reduceMul, Nat.reduceEqDiff, Nat.reduceLeDiff, Nat.reducePow, ↓reduceIte, reduceCtorEq, hst, hn]); repeat' (first | exact renE_n | ((with_reducible apply renE_c); exact rfl; focus (first | (simp -implicitDefEqProofs only [go_sem, Int.reduceEq, Int.reduceLT, Int.reduceLE, Nat.reduceAdd, Nat.reduceSub, Nat.reduceMul, Nat.reduceEqDiff, Nat.reduceLeDiff, Nat.reducePow, ↓reduceIte, reduceCtorEq, hst, hn]; done))))))
    · have hj' : j = (way t i).length := by omega
      subst hj'
      rw [cur_end]
      have hall := seenT_all (t := t) (R := R) (i := i)
      have e2 : (seenOf t R i).2 = true := by rw [← hall]; exact hok
      rw [hall]
      repeat' (first | ((with_reducible apply xsim); (first | ((with_reducible apply xo); exact rfl) | ((with_reducible apply xst); exact rfl) | with_reducible apply xend | ((with_reducible apply xguardS); exact rfl; exact rfl))) | ((with_reducible apply xaw); (first | ((with_reducible apply xstepS); refine AW.step tok rfl ?_) | with_reducible (first | refine AW.seq ?_ | refine AW.ret ?_ | refine AW.exit ?_) | ((with_reducible apply xcond); exact rfl))) | with_reducible (first | refine xthen ?_ | refine xthen_e ?_ | refine xblock_e ?_ | refine xround_e ?_) | (with_reducible intro hc; (try simp only [decide_eq_true_eq, decide_eq_false_iff_not, Bool.not_true, Bool.not_false, Bool.not_eq_true', Bool.not_eq_false', ne_eq, not_true, reduceCtorEq, List.length_map] at hc); (try (exfalso; omega))) | with_reducible (first | exact trivial | refine And.intro ?_ ?_ | exact rfl) | exact Eq.refl true)
      (refine xfinIs (by first | exact .inl rfl | exact .inr rfl) rfl (by repeat' (first | exact trivial | exact rfl | refine And.intro ?_ ?_)) rfl ?_ rfl; first | (simp -implicitDefEqProofs only [go_sem, Int.reduceEq, Int.reduceLT, Int.reduceLE, Nat.reduceAdd, Nat.reduceSub, Nat.reduceMul, Nat.reduceEqDiff, Nat.reduceLeDiff, Nat.reducePow, ↓reduceIte, reduceCtorEq, seenV, e2] <;> (first | rfl | omega | exact decide_eq_decide.2 (by omega) | exact decide_eq_false (by omega) | exact decide_eq_true (by omega) | (symm; first | exact decide_eq_false (by omega) | exact decide_eq_true (by omega)) | (rw [Bool.eq_iff_iff]; simp only [Bool.not_eq_true', Bool.not_eq_false', Bool.and_eq_true, Bool.or_eq_true, decide_eq_true_eq, decide_eq_false_iff_not, reduceCtorEq, true_iff, iff_true, false_iff, iff_false]; omega))))
  · have hok : (seenT t R i j).2 = false := by simpa using hok
    have hno := seenT_no hok
    rw [hno, hok, seenT_zero hok]
    repeat' (first | ((with_reducible apply xsim); (first | ((with_reducible apply xo); exact rfl) | ((with_reducible apply xst); exact rfl) | with_reducible apply xend | ((with_reducible apply xguardS); exact rfl; exact rfl))) | ((with_reducible apply xaw); (first | ((with_reducible apply xstepS); refine AW.step tok rfl ?_) | with_reducible (first | refine AW.seq ?_ | refine AW.ret ?_ | refine AW.exit ?_) | ((with_reducible apply xcond); exact rfl))) | with_reducible (first | refine xthen ?_ | refine xthen_e ?_ | refine xblock_e ?_ | refine xround_e ?_) | (with_reducible intro hc; (try simp only [decide_eq_true_eq, decide_eq_false_iff_not, Bool.not_true, Bool.not_false, Bool.not_eq_true', Bool.not_eq_false', ne_eq, not_true, reduceCtorEq, List.length_map] at hc); (try (exfalso; omega))) | with_reducible (first | exact trivial | refine And.intro ?_ ?_) | exact Eq.refl true)
    (refine xfinIs (by first | exact .inl rfl | exact .inr rfl) rfl (by repeat' (first | exact trivial | exact rfl | refine And.intro ?_ ?_)) rfl ?_ rfl; first | (simp -implicitDefEqProofs only [go_sem, Int.reduceEq, Int.reduceLT, Int.reduceLE, Nat.reduceAdd, Nat.reduceSub, Nat.reduceMul, Nat.reduceEqDiff, Nat.reduceLeDiff, Nat.reducePow, ↓reduceIte, reduceCtorEq, seenV] <;> (first | rfl | omega | exact decide_eq_decide.2 (by omega) | exact decide_eq_false (by omega) | exact decide_eq_true (by omega) | (symm; first | exact decide_eq_false (by omega) | exact decide_eq_true (by omega)) | (rw [Bool.eq_iff_iff]; simp only [Bool.not_eq_true', Bool.not_eq_false', Bool.and_eq_true, Bool.or_eq_true, decide_eq_true_eq, decide_eq_false_iff_not, reduceCtorEq, true_iff, iff_true, false_iff, iff_false]; omega))))

set_option maxRecDepth 8000 in
set_option maxHeartbeats 4000000 in
theorem c_hit (t : List Node) (hk : TreeK t) (w h x y : Int) (hw : 0 ≤ w ∧ w ≤ 400) (hh : 0 ≤ h ∧ h ≤ 400) : ∀ m i : Nat, t.length - i ≤ m → i < t.length →
    ACon Try.prog 82 [vTree t, .d (.lst ((layoutOf t w h).map encRect)), .d (.int .i64 (i : Int)), .d (.int .i64 x), .d (.int .i64 y)] [] (Is (.d (.int .i64 ((hit t (rectAt t w h) x y i : Nat) : Int)))) := by
  intro m
  induction m with
  | zero => intro i h1 h2; omega
  | succ m ih =>
    intro i h1 hi
    have hhi := hk.hi
    have hR := rects_in hk hw hh
    have hkl : (kids t i).length ≤ 10 := by have := kids_len t i t.length; unfold kids; omega
    have c1 := c_kidsS t hk i
    have he := hit_eq (R := rectAt t w h) (x := x) (y := y) hk hi
    refine ACon.introW tok (nt := 43) Try.func82 rfl rfl rfl (by kernel_rfl) rfl ?_
    repeat' (first | ((with_reducible apply xsim); (first | ((with_reducible apply xlenM); exact rfl; exact rfl) | ((with_reducible apply xo); exact rfl) | with_reducible apply xend | ((with_reducible apply xbox); exact rfl; simp only [backV, backVs, backVs_mapd, backId, backO, List.map_cons, List.map_nil, List.getElem?_nil, List.length_cons, List.length_nil, Nat.reduceAdd, Nat.reduceSub, List.cons_append, List.nil_append, List.append_nil]) | ((with_reducible apply xcallIs); exact rfl; exact rfl; exact c1; exact rfl))) | ((with_reducible apply xaw); (first | ((with_reducible apply xstepS); refine AW.step tok rfl ?_) | with_reducible (first | refine AW.seq ?_ | refine AW.block ?_))) | with_reducible (first | exact trivial | refine And.intro ?_ ?_ | exact rfl) | exact Eq.refl true | (refine inR_i64.mpr ?_; first | omega | (simp only [List.length_map, List.length_map]; omega)))
    refine AW.loop (S := fun k : Nat => ⟨[(1, .d (.lst ((layoutOf t w h).map encRect))), (2, .d (.int .i64 (i : Int))), (3, .d (.int .i64 x)), (4, .d (.int .i64 y)), (5, .oref 0 0), (11, .d (.lst ((kids t i).map encK))), (12, .d (.int .i64 ((k : Int) - 1)))], [.box [.d (.lst (t.map encNode))]], 43, 0⟩)
      (Pre := fun k => k ≤ (kids t i).length ∧ ((kids t i).drop k).filter (fun k => decide (hasP (rectAt t w h k) x y)) = []) (μ := fun k => k) (kids t i).length ⟨Nat.le_refl _, by rw [List.drop_length]; rfl⟩ ?_ ?_
    · (refine xwk (π := [0]) (by decide) rfl ?_ ?_; (first | simp -implicitDefEqProofs only [go_sem, Int.reduceEq, Int.reduceLT, Int.reduceLE, Nat.reduceAdd, Nat.reduceSub, Nat.reduceMul, Nat.reduceEqDiff, Nat.reduceLeDiff, Nat.reducePow, ↓reduceIte, reduceCtorEq]); repeat' (first | exact renE_n | ((with_reducible apply renE_c); exact rfl; focus (first | (simp -implicitDefEqProofs only [go_sem, Int.reduceEq, Int.reduceLT, Int.reduceLE, Nat.reduceAdd, Nat.reduceSub, Nat.reduceMul, Nat.reduceEqDiff, Nat.reduceLeDiff, Nat.reducePow, ↓reduceIte, reduceCtorEq]; done)))))
    rintro k ⟨hkk, hno⟩
    by_cases h0 : k = 0
    · subst h0
      rw [List.drop_zero] at hno
      rw [he, show (hitKids t (rectAt t w h) x y i).getLast? = none by unfold hitKids; rw [hno]; rfl]
      repeat' (first | ((with_reducible apply xsim); (first | ((with_reducible apply xo); exact rfl) | with_reducible apply xend)) | ((with_reducible apply xaw); (first | ((with_reducible apply xstepS); refine AW.step tok rfl ?_) | with_reducible (first | refine AW.seq ?_ | refine AW.ret ?_ | refine AW.exit ?_) | ((with_reducible apply xcond); exact rfl))) | with_reducible (first | refine xthen ?_ | refine xthen_e ?_ | refine xblock_e ?_ | refine xround_e ?_) | (with_reducible intro hc; (try simp only [decide_eq_true_eq, decide_eq_false_iff_not, Bool.not_true, Bool.not_false, Bool.not_eq_true', Bool.not_eq_false', ne_eq, not_true, reduceCtorEq, List.length_map] at hc); (try (exfalso; omega))) | with_reducible (first | exact trivial | refine And.intro ?_ ?_ | exact rfl))
      (refine xfinIs (by first | exact .inl rfl | exact .inr rfl) rfl (by repeat' (first | exact trivial | exact rfl | refine And.intro ?_ ?_)) rfl ?_ rfl; first | with_reducible exact rfl)
    · obtain ⟨j, rfl⟩ : ∃ j, k = j + 1 := ⟨k - 1, by omega⟩
      have hj : j < (kids t i).length := by omega
      have hrk := at_map (f := encK) hj
      have hrk2 : ((kids t i).map encK)[(((j + 1 : Nat) : Int) - 1).toNat]? = some (encK (kids t i)[j]) := by rw [show (((j + 1 : Nat) : Int) - 1).toNat = j by omega]; exact hrk
      obtain ⟨hm, hik, _⟩ := hk.kid (List.getElem_mem hj)
      have hrr := lay_get (w := w) (h := h) hm
      have ch := c_hasS _ x y (hR _ hm)
      have cr := ih _ (by omega) hm
      have hd : (kids t i).drop j = (kids t i)[j] :: (kids t i).drop (j + 1) := List.drop_eq_getElem_cons hj
      by_cases hp : hasP (rectAt t w h (kids t i)[j]) x y
      · have hl : (hitKids t (rectAt t w h) x y i).getLast? = some (kids t i)[j] := by
          have hf : (kids t i).filter (fun k => decide (hasP (rectAt t w h k) x y)) = ((kids t i).take j).filter (fun k => decide (hasP (rectAt t w h k) x y)) ++ [(kids t i)[j]] := by
            conv => lhs; rw [← List.take_append_drop j (kids t i), hd]
            rw [List.filter_append, List.filter_cons, if_pos (decide_eq_true hp), hno]
          unfold hitKids
          rw [hf, List.getLast?_append]
          rfl
        rw [decide_eq_true hp] at ch
        rw [he, hl]
        repeat' (first | ((with_reducible apply xsim); (first | ((with_reducible apply xo); exact rfl) | with_reducible apply xend | ((with_reducible apply xidxL); exact rfl; exact rfl; exact rfl; (first | exact hrk2 | exact hrr); omega; first | exact rfl | simp only [hsz]) | ((with_reducible apply xcallIs); exact rfl; exact rfl; (first | exact ch | exact cr); exact rfl))) | ((with_reducible apply xaw); (first | ((with_reducible apply xstepS); refine AW.step tok rfl ?_) | with_reducible (first | refine AW.seq ?_ | refine AW.block ?_ | refine AW.skip ?_ | refine AW.ret ?_) | ((with_reducible apply xcond); exact rfl) | ((with_reducible apply xdraw (id := 6)); refine AW.draw (id := 6) (.q 0 (.q 1 (.q 2 (.q 3 (.q 4 (.q 5 (.q 6 (.q 7 (.q 8 (.q 9 (.fin))))))))))) tok (by kernel_rfl) rfl (by kernel_rfl) ?_))) | ((with_reducible apply xarun); (first | ((with_reducible apply xrun_q); exact rfl; exact rfl; exact rfl) | ((with_reducible apply xrun_c); exact rfl; exact rfl; exact rfl; exact rfl; exact rfl; exact rfl; (first | exact ch | exact cr); exact rfl) | with_reducible apply xrun_f)) | with_reducible (first | refine xthen ?_ | refine xthen_r ?_ | refine xblock_r ?_ | refine xround_r ?_) | (with_reducible intro hc; (try simp only [decide_eq_true_eq, decide_eq_false_iff_not, Bool.not_true, Bool.not_false, Bool.not_eq_true', Bool.not_eq_false', ne_eq, not_true, reduceCtorEq, List.length_map] at hc); (try (exfalso; omega))) | with_reducible (first | exact trivial | refine And.intro ?_ ?_ | exact rfl) | exact Eq.refl true)
        (refine xfinIs (by first | exact .inl rfl | exact .inr rfl) rfl (by repeat' (first | exact trivial | exact rfl | refine And.intro ?_ ?_)) rfl ?_ rfl; first | with_reducible exact rfl)
      · rw [decide_eq_false hp] at ch
        repeat' (first | ((with_reducible apply xsim); (first | ((with_reducible apply xo); exact rfl) | with_reducible apply xend | ((with_reducible apply xidxL); exact rfl; exact rfl; exact rfl; (first | exact hrk2 | exact hrr); omega; first | exact rfl | simp only [hsz]) | ((with_reducible apply xcallIs); exact rfl; exact rfl; exact ch; exact rfl))) | ((with_reducible apply xaw); (first | ((with_reducible apply xstepS); refine AW.step tok rfl ?_) | ((with_reducible apply xstep); refine AW.region tok rfl ?_) | with_reducible (first | refine AW.seq ?_ | refine AW.block ?_ | refine AW.skip ?_) | ((with_reducible apply xcond); exact rfl))) | with_reducible (first | refine xthen ?_ | refine xblock ?_) | (with_reducible intro hc; (try simp only [decide_eq_true_eq, decide_eq_false_iff_not, Bool.not_true, Bool.not_false, Bool.not_eq_true', Bool.not_eq_false', ne_eq, not_true, reduceCtorEq, List.length_map] at hc); (try (exfalso; omega))) | with_reducible (first | exact trivial | refine And.intro ?_ ?_ | exact rfl) | exact Eq.refl true | (refine inR_i64.mpr ?_; first | omega | (simp only [List.length_map, List.length_map]; omega)))
        refine round_end j ⟨by omega, by rw [hd, List.filter_cons, if_neg (by simpa using hp)]; exact hno⟩ (by omega) (by (refine xwk (π := [0]) (by decide) rfl ?_ ?_; (first | simp -implicitDefEqProofs only [go_sem, Int.reduceEq, Int.reduceLT, Int.reduceLE, Nat.reduceAdd, Nat.reduceSub, Nat.reduceMul, Nat.reduceEqDiff, Nat.reduceLeDiff, Nat.reducePow, ↓reduceIte, reduceCtorEq]); repeat' (first | exact renE_n | ((with_reducible apply renE_c); exact rfl; focus (first | (simp -implicitDefEqProofs only [go_sem, Int.reduceEq, Int.reduceLT, Int.reduceLE, Nat.reduceAdd, Nat.reduceSub, Nat.reduceMul, Nat.reduceEqDiff, Nat.reduceLeDiff, Nat.reducePow, ↓reduceIte, reduceCtorEq]; done) | (simp -implicitDefEqProofs only [go_sem, Int.reduceEq, Int.reduceLT, Int.reduceLE, Nat.reduceAdd, Nat.reduceSub, Nat.reduceMul, Nat.reduceEqDiff, Nat.reduceLeDiff, Nat.reducePow, ↓reduceIte, reduceCtorEq]; omega))))))
end Go.Proofs.Yticgjepndfjafaa

namespace Go.Proofs.Yticgjepndfjafaa
open Go.Fw
attribute [local irreducible] Go.Fw.aops Go.Fw.arun

theorem c_LayoutNo (t : List Node) (hL : TreeL t) (w h : Int) (hb : (treeOk t && roomOk w h) = false) : ACon Try.prog 34 [vTree t, .d (.int .i64 w), .d (.int .i64 h)] [] (Is .nils) := by
  have c1 := c_ValidTree t hL
  have c2 := c_sizeOk w h
  cases ht : treeOk t
  · rw [ht] at c1
    refine ACon.introW tok (nt := 20) Try.func34 rfl rfl rfl (by kernel_rfl) rfl ?_
    repeat' (first | ((with_reducible apply xsim); (first | ((with_reducible apply xo); exact rfl) | with_reducible apply xend | ((with_reducible apply xguardS); exact rfl; exact rfl) | ((with_reducible apply xbox); exact rfl; simp only [backV, backVs, backVs_mapd, backId, backO, List.map_cons, List.map_nil, List.getElem?_nil, List.length_cons, List.length_nil, Nat.reduceAdd, Nat.reduceSub, List.cons_append, List.nil_append, List.append_nil]) | ((with_reducible apply xcallIs); exact rfl; exact rfl; exact c1; exact rfl))) | ((with_reducible apply xaw); (first | ((with_reducible apply xstepS); refine AW.step tok rfl ?_) | with_reducible (first | refine AW.seq ?_ | refine AW.ret ?_) | ((with_reducible apply xcond); exact rfl))) | with_reducible refine xthen_r ?_ | (with_reducible intro hc; (try simp only [decide_eq_true_eq, decide_eq_false_iff_not, Bool.not_true, Bool.not_false, Bool.not_eq_true', Bool.not_eq_false', ne_eq, not_true, reduceCtorEq] at hc); (try (exfalso; omega))) | with_reducible exact trivial | exact Eq.refl true)
    (refine xfinIs (by first | exact .inl rfl | exact .inr rfl) rfl (by repeat' (first | exact trivial | exact rfl | refine And.intro ?_ ?_)) rfl ?_ rfl; first | with_reducible exact rfl)
  · rw [ht] at c1 hb
    rw [Bool.true_and] at hb
    rw [hb] at c2
    refine ACon.introW tok (nt := 20) Try.func34 rfl rfl rfl (by kernel_rfl) rfl ?_
    repeat' (first | ((with_reducible apply xsim); (first | ((with_reducible apply xo); exact rfl) | with_reducible apply xend | ((with_reducible apply xguardS); exact rfl; exact rfl) | ((with_reducible apply xbox); exact rfl; simp only [backV, backVs, backVs_mapd, backId, backO, List.map_cons, List.map_nil, List.getElem?_nil, List.length_cons, List.length_nil, Nat.reduceAdd, Nat.reduceSub, List.cons_append, List.nil_append, List.append_nil]) | ((with_reducible apply xcallIs); exact rfl; exact rfl; (first | exact c1 | exact c2); exact rfl))) | ((with_reducible apply xaw); (first | ((with_reducible apply xstepS); refine AW.step tok rfl ?_) | with_reducible (first | refine AW.seq ?_ | refine AW.ret ?_) | ((with_reducible apply xcond); exact rfl))) | with_reducible refine xthen_r ?_ | (with_reducible intro hc; (try simp only [decide_eq_true_eq, decide_eq_false_iff_not, Bool.not_true, Bool.not_false, Bool.not_eq_true', Bool.not_eq_false', ne_eq, not_true, reduceCtorEq] at hc); (try (exfalso; omega))) | with_reducible exact trivial | exact Eq.refl true)
    (refine xfinIs (by first | exact .inl rfl | exact .inr rfl) rfl (by repeat' (first | exact trivial | exact rfl | refine And.intro ?_ ?_)) rfl ?_ rfl; first | with_reducible exact rfl)
theorem c_LayoutYes (t : List Node) (hL : TreeL t) (w h : Int) (hb : (treeOk t && roomOk w h) = true) : ACon Try.prog 34 [vTree t, .d (.int .i64 w), .d (.int .i64 h)] [] (Own (.msl 0 4 0 t.length) [.arr 4 ((layoutOf t w h).map encRect)]) := by
  have c := c_LayoutI t hL w h
  rw [show layoutT t w h = layoutOf t w h by rw [layoutT, if_pos hb]] at c
  rw [ORows, layoutOf_len] at c
  exact c

/-- The node that a point hits, or -1. -/
def hitOf (t : List Node) (w h x y : Int) : Int := if (treeOk t && roomOk w h && decide (hasP ⟨0, 0, w, h⟩ x y)) = true then ((hit t (rectAt t w h) x y 0 : Nat) : Int) else -1
def optI : Option Nat → Int
  | some k => (k : Int)
  | none => -1
theorem take_hit {t : List Node} {R : Nat → Rect} {x y : Int} {ks : List Nat} {m : Nat} (h : m < ks.length) : (ks.take (m + 1)).filter (fun k => decide (hasP (R k) x y)) = (ks.take m).filter (fun k => decide (hasP (R k) x y)) ++ if hasP (R ks[m]) x y then [ks[m]] else [] := by
  rw [List.take_succ_eq_append_getElem h, List.filter_append, List.filter_cons]
  by_cases hp : hasP (R ks[m]) x y
  · rw [if_pos (decide_eq_true hp), if_pos hp]; rfl
  · rw [if_neg (by simpa using hp), if_neg hp]; rfl

set_option maxRecDepth 8000 in
set_option maxHeartbeats 4000000 in
theorem c_HitI (t : List Node) (hL : TreeL t) (w h x y : Int) : ACon Try.prog 49 [vTree t, .d (.int .i64 w), .d (.int .i64 h), .d (.int .i64 x), .d (.int .i64 y)] [] (Is (.d (.int .i64 (hitOf t w h x y)))) := by
  cases hb : (treeOk t && roomOk w h)
  · have c1 := c_LayoutNo t hL w h hb
    rw [show hitOf t w h x y = -1 by rw [hitOf, hb, Bool.false_and]; rfl]
    refine ACon.introW tok (nt := 52) Try.func49 rfl rfl rfl (by kernel_rfl) rfl ?_
    repeat' (first | ((with_reducible apply xsim); (first | ((with_reducible apply xo); exact rfl) | with_reducible apply xend | ((with_reducible apply xguardS); exact rfl; exact rfl) | ((with_reducible apply xbox); exact rfl; simp only [backV, backVs, backVs_mapd, backId, backO, List.map_cons, List.map_nil, List.getElem?_nil, List.length_cons, List.length_nil, Nat.reduceAdd, Nat.reduceSub, List.cons_append, List.nil_append, List.append_nil]) | ((with_reducible apply xcallIs); exact rfl; exact rfl; exact c1; exact rfl))) | ((with_reducible apply xaw); (first | ((with_reducible apply xstepS); refine AW.step tok rfl ?_) | with_reducible (first | refine AW.seq ?_ | refine AW.ret ?_) | ((with_reducible apply xcond); exact rfl))) | with_reducible refine xthen_r ?_ | (with_reducible intro hc; (try simp only [decide_eq_true_eq, decide_eq_false_iff_not, Bool.not_true, Bool.not_false, Bool.not_eq_true', Bool.not_eq_false', ne_eq, not_true, reduceCtorEq] at hc); (try (exfalso; omega))) | with_reducible exact trivial | exact Eq.refl true)
    all_goals (refine xfinIs (by first | exact .inl rfl | exact .inr rfl) rfl (by repeat' (first | exact trivial | exact rfl | refine And.intro ?_ ?_)) rfl ?_ rfl; first | with_reducible exact rfl)
  · have c1 := c_LayoutYes t hL w h hb
    have hb' := hb
    rw [Bool.and_eq_true] at hb'
    have hk := treeK hb'.1
    have hrm := roomOk_iff hb'.2
    have hlo := hk.lo; have hhi := hk.hi
    have hR := rects_in hk (w := w) (h := h) (by omega) (by omega)
    have hr0 := lay_get (w := w) (h := h) (show 0 < t.length from hlo)
    have c2 := c_hasI _ x y (hR 0 hlo)
    rw [rectAt_zero] at c2 hr0
    by_cases hp : hasP ⟨0, 0, w, h⟩ x y
    · rw [decide_eq_true hp] at c2
      rw [show hitOf t w h x y = ((hit t (rectAt t w h) x y 0 : Nat) : Int) by rw [hitOf, hb, decide_eq_true hp]; rfl]
      generalize hg0 : hit t (rectAt t w h) x y 0 = g
      refine ACon.introW tok (nt := 52) Try.func49 rfl rfl rfl (by kernel_rfl) rfl ?_
      repeat' (first | ((with_reducible apply xsim); (first | ((with_reducible apply xo); exact rfl) | with_reducible apply xend | ((with_reducible apply xguardS); exact rfl; exact rfl) | ((with_reducible apply xbox); exact rfl; simp only [backV, backVs, backVs_mapd, backId, backO, List.map_cons, List.map_nil, List.getElem?_nil, List.length_cons, List.length_nil, Nat.reduceAdd, Nat.reduceSub, List.cons_append, List.nil_append, List.append_nil]) | ((with_reducible apply xidxM); exact rfl; exact rfl; exact rfl; omega; omega; exact rfl) | ((with_reducible apply xldA); exact rfl; exact rfl; exact rfl; (first | exact hr0); exact rfl) | ((with_reducible apply xcallIs); exact rfl; exact rfl; exact c2; exact rfl) | ((with_reducible apply xcallOwn); exact rfl; exact rfl; exact c1; simp only [backV, backVs, backVs_mapd, backId, backO, List.map_cons, List.map_nil, List.getElem?_nil, List.length_cons, List.length_nil, Nat.reduceAdd, Nat.reduceSub, List.cons_append, List.nil_append, List.append_nil]))) | ((with_reducible apply xaw); (first | ((with_reducible apply xstepS); refine AW.step tok rfl ?_) | with_reducible (first | refine AW.seq ?_ | refine AW.block ?_ | refine AW.skip ?_) | ((with_reducible apply xcond); exact rfl))) | with_reducible refine xthen ?_ | (with_reducible intro hc; (try simp only [decide_eq_true_eq, decide_eq_false_iff_not, Bool.not_true, Bool.not_false, Bool.not_eq_true', Bool.not_eq_false', ne_eq, not_true, reduceCtorEq] at hc); (try (exfalso; omega))) | with_reducible (first | exact trivial | refine And.intro ?_ ?_) | exact Eq.refl true | omega)
      refine AW.loop (S := fun i : Nat => ⟨[(3, .d (.int .i64 x)), (4, .d (.int .i64 y)), (5, .oref 0 0), (11, .msl 1 4 0 t.length), (12, .d (.int .i64 (i : Int)))], [.box [.d (.lst (t.map encNode))], .arr 4 ((layoutOf t w h).map encRect)], 52, 0⟩)
        (Pre := fun i => i < t.length ∧ hit t (rectAt t w h) x y i = g) (μ := fun i => t.length - i) 0 ⟨hlo, hg0⟩ ?_ ?_
      · (refine xwk (π := [0, 1]) (by decide) rfl ?_ ?_; (first | simp -implicitDefEqProofs only [go_sem, Int.reduceEq, Int.reduceLT, Int.reduceLE, Nat.reduceAdd, Nat.reduceSub, Nat.reduceMul, Nat.reduceEqDiff, Nat.reduceLeDiff, Nat.reducePow, ↓reduceIte, reduceCtorEq]); repeat' (first | exact renE_n | ((with_reducible apply renE_c); exact rfl; focus (first | (simp -implicitDefEqProofs only [go_sem, Int.reduceEq, Int.reduceLT, Int.reduceLE, Nat.reduceAdd, Nat.reduceSub, Nat.reduceMul, Nat.reduceEqDiff, Nat.reduceLeDiff, Nat.reducePow, ↓reduceIte, reduceCtorEq]; done)))))
      rintro i ⟨hi, hit0⟩
      have hkl : (kids t i).length ≤ 10 := by have := kids_len t i t.length; unfold kids; omega
      have c3 := c_kidsI t hk i
      have he := hit_eq (R := rectAt t w h) (x := x) (y := y) hk hi
      repeat' (first | ((with_reducible apply xsim); (first | ((with_reducible apply xlenM); exact rfl; exact rfl) | ((with_reducible apply xo); exact rfl) | with_reducible apply xend | ((with_reducible apply xcallIs); exact rfl; exact rfl; exact c3; exact rfl))) | ((with_reducible apply xaw); (first | ((with_reducible apply xstepS); refine AW.step tok rfl ?_) | with_reducible (first | refine AW.seq ?_ | refine AW.block ?_))) | with_reducible exact trivial | exact Eq.refl true)
      refine AW.loop (S := fun m : Nat => ⟨[(3, .d (.int .i64 x)), (4, .d (.int .i64 y)), (5, .oref 0 0), (11, .msl 1 4 0 t.length), (12, .d (.int .i64 (i : Int))), (13, .d (.int .i64 (optI (((kids t i).take m).filter fun k => decide (hasP (rectAt t w h k) x y)).getLast?))), (33, .d (.lst ((kids t i).map encK))), (34, .d (.int .i64 (kids t i).length)), (35, .d (.int .i64 m))],
          [.box [.d (.lst (t.map encNode))], .arr 4 ((layoutOf t w h).map encRect)], 52, 0⟩)
        (Pre := fun m => m ≤ (kids t i).length) (μ := fun m => (kids t i).length - m) 0 (Nat.zero_le _) ?_ ?_
      · (refine xwk (π := [0, 1]) (by decide) rfl ?_ ?_; (first | simp -implicitDefEqProofs only [go_sem, Int.reduceEq, Int.reduceLT, Int.reduceLE, Nat.reduceAdd, Nat.reduceSub, Nat.reduceMul, Nat.reduceEqDiff, Nat.reduceLeDiff, Nat.reducePow, ↓reduceIte, reduceCtorEq, List.take_zero, List.filter_nil, List.getLast?_nil, optI]); repeat' (first | exact renE_n | ((with_reducible apply renE_c); exact rfl; focus (first | (simp -implicitDefEqProofs only [go_sem, Int.reduceEq, Int.reduceLT, Int.reduceLE, Nat.reduceAdd, Nat.reduceSub, Nat.reduceMul, Nat.reduceEqDiff, Nat.reduceLeDiff, Nat.reducePow, ↓reduceIte, reduceCtorEq, List.take_zero, List.filter_nil, List.getLast?_nil, optI]; done)))))
      intro m hm
      by_cases hmt : m < (kids t i).length
      · have hrk := at_map (f := encK) hmt
        obtain ⟨hkm, hik, _⟩ := hk.kid (List.getElem_mem hmt)
        have hrr := lay_get (w := w) (h := h) hkm
        have ch := c_hasI _ x y (hR _ hkm)
        have ht := take_hit (t := t) (R := rectAt t w h) (x := x) (y := y) hmt
        by_cases hpk : hasP (rectAt t w h (kids t i)[m]) x y
        · rw [decide_eq_true hpk] at ch
          rw [if_pos hpk] at ht
          have hg : optI (((kids t i).take (m + 1)).filter fun k => decide (hasP (rectAt t w h k) x y)).getLast? = (((kids t i)[m] : Nat) : Int) := by rw [ht, List.getLast?_append]; rfl
          repeat' (first | ((with_reducible apply xsim); (first | ((with_reducible apply xo); exact rfl) | with_reducible apply xend | ((with_reducible apply xidxL); exact rfl; exact rfl; exact rfl; (first | exact hrk | exact hrr); omega; first | exact rfl | simp only [hsz]) | ((with_reducible apply xidxM); exact rfl; exact rfl; exact rfl; omega; omega; exact rfl) | ((with_reducible apply xldA); exact rfl; exact rfl; exact rfl; (first | exact hrk | exact hrr); exact rfl) | ((with_reducible apply xcallIs); exact rfl; exact rfl; exact ch; exact rfl))) | ((with_reducible apply xaw); (first | ((with_reducible apply xstepS); refine AW.step tok rfl ?_) | ((with_reducible apply xstep); refine AW.region tok rfl ?_) | with_reducible (first | refine AW.seq ?_ | refine AW.block ?_ | refine AW.skip ?_) | ((with_reducible apply xcond); exact rfl))) | with_reducible (first | refine xthen ?_ | refine xblock ?_) | (with_reducible intro hc; (try simp only [decide_eq_true_eq, decide_eq_false_iff_not, Bool.not_true, Bool.not_false, Bool.not_eq_true', Bool.not_eq_false', ne_eq, not_true, reduceCtorEq, List.length_map] at hc); (try (exfalso; omega))) | with_reducible (first | exact trivial | refine And.intro ?_ ?_ | exact rfl) | exact Eq.refl true | (refine inR_i64.mpr ?_; first | omega | (simp only [List.length_map, List.length_map]; omega)))
          refine round_end (m+1) hmt (by omega) (by (refine xwk (π := [0, 1]) (by decide) rfl ?_ ?_; (first | simp -implicitDefEqProofs only [go_sem, Int.reduceEq, Int.reduceLT, Int.reduceLE, Nat.reduceAdd, Nat.reduceSub, Nat.reduceMul, Nat.reduceEqDiff, Nat.reduceLeDiff, Nat.reducePow, ↓reduceIte, reduceCtorEq, hg]); repeat' (first | exact renE_n | ((with_reducible apply renE_c); exact rfl; focus (first | (simp -implicitDefEqProofs only [go_sem, Int.reduceEq, Int.reduceLT, Int.reduceLE, Nat.reduceAdd, Nat.reduceSub, Nat.reduceMul, Nat.reduceEqDiff, Nat.reduceLeDiff, Nat.reducePow, ↓reduceIte, reduceCtorEq, hg]; done))))))
        · rw [decide_eq_false hpk] at ch
          rw [if_neg hpk, List.append_nil] at ht
          repeat' (first | ((with_reducible apply xsim); (first | ((with_reducible apply xo); exact rfl) | with_reducible apply xend | ((with_reducible apply xidxL); exact rfl; exact rfl; exact rfl; (first | exact hrk | exact hrr); omega; first | exact rfl | simp only [hsz]) | ((with_reducible apply xidxM); exact rfl; exact rfl; exact rfl; omega; omega; exact rfl) | ((with_reducible apply xldA); exact rfl; exact rfl; exact rfl; (first | exact hrk | exact hrr); exact rfl) | ((with_reducible apply xcallIs); exact rfl; exact rfl; exact ch; exact rfl))) | ((with_reducible apply xaw); (first | ((with_reducible apply xstepS); refine AW.step tok rfl ?_) | ((with_reducible apply xstep); refine AW.region tok rfl ?_) | with_reducible (first | refine AW.seq ?_ | refine AW.block ?_ | refine AW.skip ?_) | ((with_reducible apply xcond); exact rfl))) | with_reducible (first | refine xthen ?_ | refine xblock ?_) | (with_reducible intro hc; (try simp only [decide_eq_true_eq, decide_eq_false_iff_not, Bool.not_true, Bool.not_false, Bool.not_eq_true', Bool.not_eq_false', ne_eq, not_true, reduceCtorEq, List.length_map] at hc); (try (exfalso; omega))) | with_reducible (first | exact trivial | refine And.intro ?_ ?_ | exact rfl) | exact Eq.refl true | (refine inR_i64.mpr ?_; first | omega | (simp only [List.length_map, List.length_map]; omega)))
          refine round_end (m+1) hmt (by omega) (by (refine xwk (π := [0, 1]) (by decide) rfl ?_ ?_; (first | simp -implicitDefEqProofs only [go_sem, Int.reduceEq, Int.reduceLT, Int.reduceLE, Nat.reduceAdd, Nat.reduceSub, Nat.reduceMul, Nat.reduceEqDiff, Nat.reduceLeDiff, Nat.reducePow, ↓reduceIte, reduceCtorEq, ht]); repeat' (first | exact renE_n | ((with_reducible apply renE_c); exact rfl; focus (first | (simp -implicitDefEqProofs only [go_sem, Int.reduceEq, Int.reduceLT, Int.reduceLE, Nat.reduceAdd, Nat.reduceSub, Nat.reduceMul, Nat.reduceEqDiff, Nat.reduceLeDiff, Nat.reducePow, ↓reduceIte, reduceCtorEq, ht]; done))))))
      have hm' : m = (kids t i).length := by omega
      subst hm'
      rw [List.take_length, show ((kids t i).filter fun k => decide (hasP (rectAt t w h k) x y)) = hitKids t (rectAt t w h) x y i from rfl]
      cases hl : (hitKids t (rectAt t w h) x y i).getLast? with
      | none =>
        rw [hl] at he
        rw [he] at hit0
        subst hit0
        simp only [optI]
        repeat' (first | ((with_reducible apply xsim); (first | ((with_reducible apply xo); exact rfl) | with_reducible apply xend)) | ((with_reducible apply xaw); (first | ((with_reducible apply xstepS); refine AW.step tok rfl ?_) | with_reducible (first | refine AW.seq ?_ | refine AW.ret ?_ | refine AW.exit ?_) | ((with_reducible apply xcond); exact rfl))) | with_reducible (first | refine xthen ?_ | refine xthen_r ?_ | refine xthen_e ?_ | refine xblock_r ?_ | refine xblock_e ?_ | refine xround_r ?_ | refine xround_e ?_) | (with_reducible intro hc; (try simp only [decide_eq_true_eq, decide_eq_false_iff_not, Bool.not_true, Bool.not_false, Bool.not_eq_true', Bool.not_eq_false', ne_eq, not_true, reduceCtorEq, List.length_map] at hc); (try (exfalso; omega))) | with_reducible (first | exact trivial | refine And.intro ?_ ?_ | exact rfl))
        (refine xfinIs (by first | exact .inl rfl | exact .inr rfl) rfl (by repeat' (first | exact trivial | exact rfl | refine And.intro ?_ ?_)) rfl ?_ rfl; first | with_reducible exact rfl)
      | some k =>
        rw [hl] at he
        obtain ⟨a, b, _⟩ := hk.kid (hitLast hl).1
        simp only [optI]
        repeat' (first | ((with_reducible apply xsim); (first | ((with_reducible apply xo); exact rfl) | with_reducible apply xend)) | ((with_reducible apply xaw); (first | ((with_reducible apply xstepS); refine AW.step tok rfl ?_) | ((with_reducible apply xstep); refine AW.region tok rfl ?_) | with_reducible (first | refine AW.seq ?_ | refine AW.skip ?_ | refine AW.exit ?_) | ((with_reducible apply xcond); exact rfl))) | with_reducible (first | refine xthen ?_ | refine xthen_e ?_ | refine xblock ?_ | refine xblock_e ?_ | refine xround_e ?_) | (with_reducible intro hc; (try simp only [decide_eq_true_eq, decide_eq_false_iff_not, Bool.not_true, Bool.not_false, Bool.not_eq_true', Bool.not_eq_false', ne_eq, not_true, reduceCtorEq, List.length_map] at hc); (try (exfalso; omega))) | with_reducible (first | exact trivial | refine And.intro ?_ ?_ | exact rfl))
        refine round_end k ⟨a, he.symm.trans hit0⟩ (by omega) (by (refine xwk (π := [0, 1]) (by decide) rfl ?_ ?_; (first | simp -implicitDefEqProofs only [go_sem, Int.reduceEq, Int.reduceLT, Int.reduceLE, Nat.reduceAdd, Nat.reduceSub, Nat.reduceMul, Nat.reduceEqDiff, Nat.reduceLeDiff, Nat.reducePow, ↓reduceIte, reduceCtorEq]); repeat' (first | exact renE_n | ((with_reducible apply renE_c); exact rfl; focus (first | (simp -implicitDefEqProofs only [go_sem, Int.reduceEq, Int.reduceLT, Int.reduceLE, Nat.reduceAdd, Nat.reduceSub, Nat.reduceMul, Nat.reduceEqDiff, Nat.reduceLeDiff, Nat.reducePow, ↓reduceIte, reduceCtorEq]; done))))))
    · rw [decide_eq_false hp] at c2
      rw [show hitOf t w h x y = -1 by rw [hitOf, hb, decide_eq_false hp]; rfl]
      refine ACon.introW tok (nt := 52) Try.func49 rfl rfl rfl (by kernel_rfl) rfl ?_
      repeat' (first | ((with_reducible apply xsim); (first | ((with_reducible apply xo); exact rfl) | with_reducible apply xend | ((with_reducible apply xguardS); exact rfl; exact rfl) | ((with_reducible apply xbox); exact rfl; simp only [backV, backVs, backVs_mapd, backId, backO, List.map_cons, List.map_nil, List.getElem?_nil, List.length_cons, List.length_nil, Nat.reduceAdd, Nat.reduceSub, List.cons_append, List.nil_append, List.append_nil]) | ((with_reducible apply xidxM); exact rfl; exact rfl; exact rfl; omega; omega; exact rfl) | ((with_reducible apply xldA); exact rfl; exact rfl; exact rfl; (first | exact hr0); exact rfl) | ((with_reducible apply xcallIs); exact rfl; exact rfl; exact c2; exact rfl) | ((with_reducible apply xcallOwn); exact rfl; exact rfl; exact c1; simp only [backV, backVs, backVs_mapd, backId, backO, List.map_cons, List.map_nil, List.getElem?_nil, List.length_cons, List.length_nil, Nat.reduceAdd, Nat.reduceSub, List.cons_append, List.nil_append, List.append_nil]))) | ((with_reducible apply xaw); (first | ((with_reducible apply xstepS); refine AW.step tok rfl ?_) | with_reducible (first | refine AW.seq ?_ | refine AW.ret ?_) | ((with_reducible apply xcond); exact rfl))) | with_reducible refine xthen_r ?_ | (with_reducible intro hc; (try simp only [decide_eq_true_eq, decide_eq_false_iff_not, Bool.not_true, Bool.not_false, Bool.not_eq_true', Bool.not_eq_false', ne_eq, not_true, reduceCtorEq] at hc); (try (exfalso; omega))) | with_reducible (first | exact trivial | refine And.intro ?_ ?_) | exact Eq.refl true | omega)
      all_goals (refine xfinIs (by first | exact .inl rfl | exact .inr rfl) rfl (by repeat' (first | exact trivial | exact rfl | refine And.intro ?_ ?_)) rfl ?_ rfl; first | with_reducible exact rfl)

theorem c_HitS (t : List Node) (hL : TreeL t) (w h x y : Int) : ACon Try.prog 50 [vTree t, .d (.int .i64 w), .d (.int .i64 h), .d (.int .i64 x), .d (.int .i64 y)] [] (Is (.d (.int .i64 (hitOf t w h x y)))) := by
  have c1 := c_validTree t hL
  have c2 := c_goodRoom w h
  cases ht : treeOk t
  · rw [ht] at c1
    rw [show hitOf t w h x y = -1 by rw [hitOf, ht]; rfl]
    refine ACon.introW tok (nt := 42) Try.func50 rfl rfl rfl (by kernel_rfl) rfl ?_
    repeat' (first | ((with_reducible apply xsim); (first | ((with_reducible apply xo); exact rfl) | with_reducible apply xend | ((with_reducible apply xguardS); exact rfl; exact rfl) | ((with_reducible apply xbox); exact rfl; simp only [backV, backVs, backVs_mapd, backId, backO, List.map_cons, List.map_nil, List.getElem?_nil, List.length_cons, List.length_nil, Nat.reduceAdd, Nat.reduceSub, List.cons_append, List.nil_append, List.append_nil]) | ((with_reducible apply xcallIs); exact rfl; exact rfl; exact c1; exact rfl))) | ((with_reducible apply xaw); (first | ((with_reducible apply xstepS); refine AW.step tok rfl ?_) | with_reducible (first | refine AW.seq ?_ | refine AW.ret ?_) | ((with_reducible apply xcond); exact rfl))) | with_reducible refine xthen_r ?_ | (with_reducible intro hc; (try simp only [decide_eq_true_eq, decide_eq_false_iff_not, Bool.not_true, Bool.not_false, Bool.not_eq_true', Bool.not_eq_false', ne_eq, not_true, reduceCtorEq] at hc); (try (exfalso; omega))) | with_reducible exact trivial | exact Eq.refl true)
    all_goals (refine xfinIs (by first | exact .inl rfl | exact .inr rfl) rfl (by repeat' (first | exact trivial | exact rfl | refine And.intro ?_ ?_)) rfl ?_ rfl; first | with_reducible exact rfl)
  · cases hr : roomOk w h
    · rw [ht] at c1
      rw [hr] at c2
      rw [show hitOf t w h x y = -1 by rw [hitOf, ht, hr]; rfl]
      refine ACon.introW tok (nt := 42) Try.func50 rfl rfl rfl (by kernel_rfl) rfl ?_
      repeat' (first | ((with_reducible apply xsim); (first | ((with_reducible apply xo); exact rfl) | with_reducible apply xend | ((with_reducible apply xguardS); exact rfl; exact rfl) | ((with_reducible apply xbox); exact rfl; simp only [backV, backVs, backVs_mapd, backId, backO, List.map_cons, List.map_nil, List.getElem?_nil, List.length_cons, List.length_nil, Nat.reduceAdd, Nat.reduceSub, List.cons_append, List.nil_append, List.append_nil]) | ((with_reducible apply xcallIs); exact rfl; exact rfl; (first | exact c1 | exact c2); exact rfl))) | ((with_reducible apply xaw); (first | ((with_reducible apply xstepS); refine AW.step tok rfl ?_) | with_reducible (first | refine AW.seq ?_ | refine AW.ret ?_) | ((with_reducible apply xcond); exact rfl))) | with_reducible refine xthen_r ?_ | (with_reducible intro hc; (try simp only [decide_eq_true_eq, decide_eq_false_iff_not, Bool.not_true, Bool.not_false, Bool.not_eq_true', Bool.not_eq_false', ne_eq, not_true, reduceCtorEq] at hc); (try (exfalso; omega))) | with_reducible exact trivial | exact Eq.refl true)
      all_goals (refine xfinIs (by first | exact .inl rfl | exact .inr rfl) rfl (by repeat' (first | exact trivial | exact rfl | refine And.intro ?_ ?_)) rfl ?_ rfl; first | with_reducible exact rfl)
    · rw [ht] at c1
      rw [hr] at c2
      have hk := treeK ht
      have hrm := roomOk_iff hr
      have hlo := hk.lo
      have c3 := ORows.data (c_AlayoutS t hk w h (by omega) (by omega))
      have c4 := c_hit t hk w h x y (by omega) (by omega) _ 0 (Nat.le_refl _) hlo
      by_cases hx : 0 ≤ x ∧ x ≤ w - 1
      · by_cases hy : 0 ≤ y ∧ y ≤ h - 1
        · rw [show hitOf t w h x y = ((hit t (rectAt t w h) x y 0 : Nat) : Int) by rw [hitOf, ht, hr, decide_eq_true (show hasP ⟨0, 0, w, h⟩ x y by unfold hasP; dsimp only; omega)]; rfl]
          refine ACon.introW tok (nt := 42) Try.func50 rfl rfl rfl (by kernel_rfl) rfl ?_
          repeat' (first | ((with_reducible apply xsim); (first | ((with_reducible apply xo); exact rfl) | with_reducible apply xend | ((with_reducible apply xguardS); exact rfl; exact rfl) | ((with_reducible apply xbox); exact rfl; simp only [backV, backVs, backVs_mapd, backId, backO, List.map_cons, List.map_nil, List.getElem?_nil, List.length_cons, List.length_nil, Nat.reduceAdd, Nat.reduceSub, List.cons_append, List.nil_append, List.append_nil]) | ((with_reducible apply xcallIs); exact rfl; exact rfl; (first | exact c1 | exact c2 | exact c_inRange _ _ _ | exact c3 | exact c4); exact rfl))) | ((with_reducible apply xaw); (first | ((with_reducible apply xstepS); refine AW.step tok rfl ?_) | with_reducible (first | refine AW.seq ?_ | refine AW.skip ?_ | refine AW.ret ?_) | ((with_reducible apply xcond); exact rfl) | ((with_reducible apply xdraw (id := 3)); refine AW.draw (id := 3) (.q 0 (.q 1 (.q 2 (.q 3 (.q 4 (.q 5 (.q 6 (.q 7 (.q 8 (.fin)))))))))) tok (by kernel_rfl) rfl (by kernel_rfl) ?_))) | ((with_reducible apply xarun); (first | ((with_reducible apply xrun_q); exact rfl; exact rfl; exact rfl) | ((with_reducible apply xrun_c); exact rfl; exact rfl; exact rfl; exact rfl; exact rfl; exact rfl; (first | exact c1 | exact c2 | exact c_inRange _ _ _ | exact c3 | exact c4); exact rfl) | with_reducible apply xrun_f)) | with_reducible refine xthen ?_ | (with_reducible intro hc; (try simp only [decide_eq_true_eq, decide_eq_false_iff_not, Bool.not_true, Bool.not_false, Bool.not_eq_true', Bool.not_eq_false', ne_eq, not_true, reduceCtorEq] at hc); (try (exfalso; omega))) | with_reducible (first | exact trivial | refine And.intro ?_ ?_ | exact rfl) | exact Eq.refl true | (refine inR_i64.mpr ?_; first | omega | (simp only [List.length_map]; omega)))
          all_goals (refine xfinIs (by first | exact .inl rfl | exact .inr rfl) rfl (by repeat' (first | exact trivial | exact rfl | refine And.intro ?_ ?_)) rfl ?_ rfl; first | with_reducible exact rfl)
        · rw [show hitOf t w h x y = -1 by rw [hitOf, ht, hr, decide_eq_false (show ¬ hasP ⟨0, 0, w, h⟩ x y by unfold hasP; dsimp only; omega)]; rfl]
          refine ACon.introW tok (nt := 42) Try.func50 rfl rfl rfl (by kernel_rfl) rfl ?_
          repeat' (first | ((with_reducible apply xsim); (first | ((with_reducible apply xo); exact rfl) | with_reducible apply xend | ((with_reducible apply xguardS); exact rfl; exact rfl) | ((with_reducible apply xbox); exact rfl; simp only [backV, backVs, backVs_mapd, backId, backO, List.map_cons, List.map_nil, List.getElem?_nil, List.length_cons, List.length_nil, Nat.reduceAdd, Nat.reduceSub, List.cons_append, List.nil_append, List.append_nil]) | ((with_reducible apply xcallIs); exact rfl; exact rfl; (first | exact c1 | exact c2 | exact c_inRange _ _ _); exact rfl))) | ((with_reducible apply xaw); (first | ((with_reducible apply xstepS); refine AW.step tok rfl ?_) | with_reducible (first | refine AW.seq ?_ | refine AW.ret ?_) | ((with_reducible apply xcond); exact rfl))) | with_reducible refine xthen_r ?_ | (with_reducible intro hc; (try simp only [decide_eq_true_eq, decide_eq_false_iff_not, Bool.not_true, Bool.not_false, Bool.not_eq_true', Bool.not_eq_false', ne_eq, not_true, reduceCtorEq] at hc); (try (exfalso; omega))) | with_reducible (first | exact trivial | refine And.intro ?_ ?_ | exact rfl) | exact Eq.refl true | (refine inR_i64.mpr ?_; first | omega | (simp only [List.length_map]; omega)))
          all_goals (refine xfinIs (by first | exact .inl rfl | exact .inr rfl) rfl (by repeat' (first | exact trivial | exact rfl | refine And.intro ?_ ?_)) rfl ?_ rfl; first | with_reducible exact rfl)
      · rw [show hitOf t w h x y = -1 by rw [hitOf, ht, hr, decide_eq_false (show ¬ hasP ⟨0, 0, w, h⟩ x y by unfold hasP; dsimp only; omega)]; rfl]
        refine ACon.introW tok (nt := 42) Try.func50 rfl rfl rfl (by kernel_rfl) rfl ?_
        repeat' (first | ((with_reducible apply xsim); (first | ((with_reducible apply xo); exact rfl) | with_reducible apply xend | ((with_reducible apply xguardS); exact rfl; exact rfl) | ((with_reducible apply xbox); exact rfl; simp only [backV, backVs, backVs_mapd, backId, backO, List.map_cons, List.map_nil, List.getElem?_nil, List.length_cons, List.length_nil, Nat.reduceAdd, Nat.reduceSub, List.cons_append, List.nil_append, List.append_nil]) | ((with_reducible apply xcallIs); exact rfl; exact rfl; (first | exact c1 | exact c2 | exact c_inRange _ _ _); exact rfl))) | ((with_reducible apply xaw); (first | ((with_reducible apply xstepS); refine AW.step tok rfl ?_) | with_reducible (first | refine AW.seq ?_ | refine AW.ret ?_) | ((with_reducible apply xcond); exact rfl))) | with_reducible refine xthen_r ?_ | (with_reducible intro hc; (try simp only [decide_eq_true_eq, decide_eq_false_iff_not, Bool.not_true, Bool.not_false, Bool.not_eq_true', Bool.not_eq_false', ne_eq, not_true, reduceCtorEq] at hc); (try (exfalso; omega))) | with_reducible (first | exact trivial | refine And.intro ?_ ?_ | exact rfl) | exact Eq.refl true | (refine inR_i64.mpr ?_; first | omega | (simp only [List.length_map]; omega)))
        all_goals (refine xfinIs (by first | exact .inl rfl | exact .inr rfl) rfl (by repeat' (first | exact trivial | exact rfl | refine And.intro ?_ ?_)) rfl ?_ rfl; first | with_reducible exact rfl)

/-- The part of a node that is seen. -/
def seenP (t : List Node) (w h i : Int) : Rect × Bool := if (goodN t i && roomOk w h) = true then seenOf t (rectAt t w h) i.toNat else (⟨0, 0, 0, 0⟩, false)
theorem c_SeenPartI (t : List Node) (hL : TreeL t) (w h i : Int) : ACon Try.prog 51 [vTree t, .d (.int .i64 w), .d (.int .i64 h), .d (.int .i64 i)] [] (Is (seenV (seenP t w h i))) := by
  have c1 := ORows.data (c_LayoutI t hL w h)
  have hsm := layoutT_small (t := t) (w := w) (h := h)
  cases hb : (treeOk t && roomOk w h)
  · have e : layoutT t w h = [] := by rw [layoutT, hb]; rfl
    rw [e] at c1
    have e2 : (goodN t i && roomOk w h) = false := by
      rw [goodN]
      cases h1 : treeOk t
      · rfl
      · rw [h1, Bool.true_and] at hb
        rw [hb, Bool.and_false]
    rw [show seenP t w h i = (⟨0, 0, 0, 0⟩, false) by rw [seenP, e2]; rfl]
    refine ACon.introW tok (nt := 28) Try.func51 rfl rfl rfl (by kernel_rfl) rfl ?_
    repeat' (first | ((with_reducible apply xsim); (first | ((with_reducible apply xlenM); exact rfl; exact rfl) | ((with_reducible apply xo); exact rfl) | ((with_reducible apply xst); exact rfl) | with_reducible apply xend | ((with_reducible apply xalloc); exact rfl; simp only [backV, backVs, backVs_mapd, backId, backO, List.map_cons, List.map_nil, List.getElem?_nil, List.length_cons, List.length_nil, Nat.reduceAdd, Nat.reduceSub, List.cons_append, List.nil_append, List.append_nil]) | ((with_reducible apply xbox); exact rfl; simp only [backV, backVs, backVs_mapd, backId, backO, List.map_cons, List.map_nil, List.getElem?_nil, List.length_cons, List.length_nil, Nat.reduceAdd, Nat.reduceSub, List.cons_append, List.nil_append, List.append_nil]) | ((with_reducible apply xcallIs); exact rfl; exact rfl; (first | exact c1 | exact c_within _ _ _); exact rfl))) | ((with_reducible apply xaw); (first | ((with_reducible apply xstepS); refine AW.step tok rfl ?_) | with_reducible (first | refine AW.seq ?_ | refine AW.ret ?_) | ((with_reducible apply xcond); exact rfl))) | with_reducible refine xthen_r ?_ | (with_reducible intro hc; (try simp only [decide_eq_true_eq, decide_eq_false_iff_not, Bool.not_true, Bool.not_false, Bool.not_eq_true', Bool.not_eq_false', ne_eq, not_true, reduceCtorEq, List.length_map, List.length_nil] at hc); (try (exfalso; omega))) | with_reducible (first | exact trivial | refine And.intro ?_ ?_ | exact rfl) | exact Eq.refl true | (refine inR_i64.mpr ?_; first | omega | (simp only [List.length_map, List.length_map, List.length_nil]; omega)))
    all_goals (refine xfinIs (by first | exact .inl rfl | exact .inr rfl) rfl (by repeat' (first | exact trivial | exact rfl | refine And.intro ?_ ?_)) rfl ?_ rfl; first | (simp -implicitDefEqProofs only [go_sem, Int.reduceEq, Int.reduceLT, Int.reduceLE, Nat.reduceAdd, Nat.reduceSub, Nat.reduceMul, Nat.reduceEqDiff, Nat.reduceLeDiff, Nat.reducePow, ↓reduceIte, reduceCtorEq, seenV] <;> (first | rfl | omega | exact decide_eq_decide.2 (by omega) | exact decide_eq_false (by omega) | exact decide_eq_true (by omega) | (symm; first | exact decide_eq_false (by omega) | exact decide_eq_true (by omega)) | (rw [Bool.eq_iff_iff]; simp only [Bool.not_eq_true', Bool.not_eq_false', Bool.and_eq_true, Bool.or_eq_true, decide_eq_true_eq, decide_eq_false_iff_not, reduceCtorEq, true_iff, iff_true, false_iff, iff_false]; omega))))
  · have hb' := hb
    rw [Bool.and_eq_true] at hb'
    have hk := treeK hb'.1
    have hrm := roomOk_iff hb'.2
    have hhi := hk.hi
    have hll := layoutOf_len (t := t) (w := w) (h := h)
    rw [show layoutT t w h = layoutOf t w h by rw [layoutT, if_pos hb]] at c1
    by_cases hi : 0 ≤ i ∧ i ≤ (t.length : Int) - 1
    · have e2 : (goodN t i && roomOk w h) = true := by rw [goodN, hb'.1, hb'.2, decide_eq_true hi]; rfl
      have c2 := c_seenI t hk w h (by omega) (by omega) i.toNat (by omega)
      rw [Int.toNat_of_nonneg hi.1] at c2
      rw [show seenP t w h i = seenOf t (rectAt t w h) i.toNat by rw [seenP, if_pos e2]]
      refine ACon.introW tok (nt := 28) Try.func51 rfl rfl rfl (by kernel_rfl) rfl ?_
      repeat' (first | ((with_reducible apply xsim); (first | ((with_reducible apply xlenM); exact rfl; exact rfl) | ((with_reducible apply xo); exact rfl) | ((with_reducible apply xst); exact rfl) | with_reducible apply xend | ((with_reducible apply xalloc); exact rfl; simp only [backV, backVs, backVs_mapd, backId, backO, List.map_cons, List.map_nil, List.getElem?_nil, List.length_cons, List.length_nil, Nat.reduceAdd, Nat.reduceSub, List.cons_append, List.nil_append, List.append_nil]) | ((with_reducible apply xbox); exact rfl; simp only [backV, backVs, backVs_mapd, backId, backO, List.map_cons, List.map_nil, List.getElem?_nil, List.length_cons, List.length_nil, Nat.reduceAdd, Nat.reduceSub, List.cons_append, List.nil_append, List.append_nil]) | ((with_reducible apply xcallIs); exact rfl; exact rfl; (first | exact c1 | exact c_within _ _ _ | exact c2); exact rfl))) | ((with_reducible apply xaw); (first | ((with_reducible apply xstepS); refine AW.step tok rfl ?_) | with_reducible (first | refine AW.seq ?_ | refine AW.skip ?_ | refine AW.ret ?_) | ((with_reducible apply xcond); exact rfl))) | with_reducible refine xthen ?_ | (with_reducible intro hc; (try simp only [decide_eq_true_eq, decide_eq_false_iff_not, Bool.not_true, Bool.not_false, Bool.not_eq_true', Bool.not_eq_false', ne_eq, not_true, reduceCtorEq, List.length_map, hll] at hc); (try (exfalso; omega))) | with_reducible (first | exact trivial | refine And.intro ?_ ?_ | exact rfl) | exact Eq.refl true | (refine inR_i64.mpr ?_; first | omega | (simp only [List.length_map, List.length_map, hll]; omega)))
      all_goals (refine xfinIs (by first | exact .inl rfl | exact .inr rfl) rfl (by repeat' (first | exact trivial | exact rfl | refine And.intro ?_ ?_)) rfl ?_ rfl; first | (simp -implicitDefEqProofs only [go_sem, Int.reduceEq, Int.reduceLT, Int.reduceLE, Nat.reduceAdd, Nat.reduceSub, Nat.reduceMul, Nat.reduceEqDiff, Nat.reduceLeDiff, Nat.reducePow, ↓reduceIte, reduceCtorEq, seenV] <;> (first | rfl | omega | exact decide_eq_decide.2 (by omega) | exact decide_eq_false (by omega) | exact decide_eq_true (by omega) | (symm; first | exact decide_eq_false (by omega) | exact decide_eq_true (by omega)) | (rw [Bool.eq_iff_iff]; simp only [Bool.not_eq_true', Bool.not_eq_false', Bool.and_eq_true, Bool.or_eq_true, decide_eq_true_eq, decide_eq_false_iff_not, reduceCtorEq, true_iff, iff_true, false_iff, iff_false]; omega))))
    · have e2 : (goodN t i && roomOk w h) = false := by rw [goodN, decide_eq_false hi, Bool.and_false, Bool.false_and]
      rw [show seenP t w h i = (⟨0, 0, 0, 0⟩, false) by rw [seenP, e2]; rfl]
      refine ACon.introW tok (nt := 28) Try.func51 rfl rfl rfl (by kernel_rfl) rfl ?_
      repeat' (first | ((with_reducible apply xsim); (first | ((with_reducible apply xlenM); exact rfl; exact rfl) | ((with_reducible apply xo); exact rfl) | ((with_reducible apply xst); exact rfl) | with_reducible apply xend | ((with_reducible apply xalloc); exact rfl; simp only [backV, backVs, backVs_mapd, backId, backO, List.map_cons, List.map_nil, List.getElem?_nil, List.length_cons, List.length_nil, Nat.reduceAdd, Nat.reduceSub, List.cons_append, List.nil_append, List.append_nil]) | ((with_reducible apply xbox); exact rfl; simp only [backV, backVs, backVs_mapd, backId, backO, List.map_cons, List.map_nil, List.getElem?_nil, List.length_cons, List.length_nil, Nat.reduceAdd, Nat.reduceSub, List.cons_append, List.nil_append, List.append_nil]) | ((with_reducible apply xcallIs); exact rfl; exact rfl; (first | exact c1 | exact c_within _ _ _); exact rfl))) | ((with_reducible apply xaw); (first | ((with_reducible apply xstepS); refine AW.step tok rfl ?_) | with_reducible (first | refine AW.seq ?_ | refine AW.ret ?_) | ((with_reducible apply xcond); exact rfl))) | with_reducible refine xthen_r ?_ | (with_reducible intro hc; (try simp only [decide_eq_true_eq, decide_eq_false_iff_not, Bool.not_true, Bool.not_false, Bool.not_eq_true', Bool.not_eq_false', ne_eq, not_true, reduceCtorEq, List.length_map, hll] at hc); (try (exfalso; omega))) | with_reducible (first | exact trivial | refine And.intro ?_ ?_ | exact rfl) | exact Eq.refl true | (refine inR_i64.mpr ?_; first | omega | (simp only [List.length_map, List.length_map, hll]; omega)))
      all_goals (refine xfinIs (by first | exact .inl rfl | exact .inr rfl) rfl (by repeat' (first | exact trivial | exact rfl | refine And.intro ?_ ?_)) rfl ?_ rfl; first | (simp -implicitDefEqProofs only [go_sem, Int.reduceEq, Int.reduceLT, Int.reduceLE, Nat.reduceAdd, Nat.reduceSub, Nat.reduceMul, Nat.reduceEqDiff, Nat.reduceLeDiff, Nat.reducePow, ↓reduceIte, reduceCtorEq, seenV] <;> (first | rfl | omega | exact decide_eq_decide.2 (by omega) | exact decide_eq_false (by omega) | exact decide_eq_true (by omega) | (symm; first | exact decide_eq_false (by omega) | exact decide_eq_true (by omega)) | (rw [Bool.eq_iff_iff]; simp only [Bool.not_eq_true', Bool.not_eq_false', Bool.and_eq_true, Bool.or_eq_true, decide_eq_true_eq, decide_eq_false_iff_not, reduceCtorEq, true_iff, iff_true, false_iff, iff_false]; omega))))

end Go.Proofs.Yticgjepndfjafaa

namespace Go.Proofs.Yticgjepndfjafaa
open Go.Fw
attribute [local irreducible] Go.Fw.aops Go.Fw.arun
theorem TreeB.L {t : List Node} (h : TreeB t) : TreeL t := ⟨by have := h.2.1; omega, fun i hi => by have := h.2.2 _ (List.getElem_mem hi); omega⟩
/-- A tree that was drawn, and a room. -/
def ARoom (r : V) : Prop := ∃ (t : List Node) (w h : Int), r = .tup [vTree t, .d (.int .i64 w), .d (.int .i64 h)] ∧ TreeB t ∧ -1 ≤ w ∧ w ≤ 2000 ∧ -1 ≤ h ∧ h ≤ 2000
set_option maxHeartbeats 4000000 in
theorem c_treeRoom (bs : List Byte) (p : Int) (hb : bs.length ≤ 2000) (hp : 0 ≤ p ∧ p < 2^26) :
    ACon Try.prog 69 [.oref 0 0] [.box [.d (.lst (bs.map encByte)), .d (.int .i64 p)]] (Rd (.lst (bs.map encByte)) p (p + 1320) ARoom) := by
  refine ACon.introW tok (nt := 35) Try.func69 rfl rfl rfl (by kernel_rfl) rfl ?_
  repeat' ((fail_if_success (with_reducible apply xnocond)); first | ((with_reducible apply xsim); (first | ((with_reducible apply xo); exact rfl) | ((with_reducible apply xst); exact rfl) | with_reducible apply xend | ((with_reducible apply xalloc); exact rfl; simp only [backV, backVs, backVs_mapd, backId, backO, List.map_cons, List.map_nil, List.getElem?_nil, List.length_cons, List.length_nil, Nat.reduceAdd, Nat.reduceSub, List.cons_append, List.nil_append, List.append_nil]) | ((with_reducible apply xbuild); exact rfl; exact rfl; exact rfl; exact rfl; exact rfl; simp only [backV, backVs, backVs_mapd, backId, backO, List.map_cons, List.map_nil, List.getElem?_nil, List.length_cons, List.length_nil, Nat.reduceAdd, Nat.reduceSub, List.cons_append, List.nil_append, List.append_nil]) | ((with_reducible apply xcallRd); exact rfl; exact rfl; exact rfl; exact c_someTree bs _ hb (by omega); rintro _ p' _ _ ⟨t, rfl, ht⟩; (try simp only [List.set_cons_zero, List.set_cons_succ])) | ((with_reducible apply xcallOne); exact rfl; exact rfl; exact rfl; exact rfl; exact c_one rfl rfl hb (by omega) rfl rfl; rintro _ p' _ _ ⟨v, rfl, h1⟩; (try simp only [List.set_cons_zero, List.set_cons_succ])))) | ((with_reducible apply xaw); ((with_reducible apply xstepS); refine AW.step tok rfl ?_)) | with_reducible (first | exact trivial | refine And.intro ?_ ?_) | exact Eq.refl true)
  refine AW.seq ?_
  rename_i w h0 _ _
  have hL := ht.L
  have c1 := c_validTree t hL
  simp only [List.mem_cons, List.not_mem_nil, or_false] at h0 h1
  cases hv : treeOk t
  · rw [hv] at c1
    repeat' (first | ((with_reducible apply xsim); (first | ((with_reducible apply xo); exact rfl) | ((with_reducible apply xst); exact rfl) | with_reducible apply xend | ((with_reducible apply xguardS); exact rfl; exact rfl) | ((with_reducible apply xcallIs); exact rfl; exact rfl; exact c1; exact rfl))) | ((with_reducible apply xaw); (first | ((with_reducible apply xstepS); refine AW.step tok rfl ?_) | with_reducible (first | refine AW.skip ?_ | refine AW.ret ?_) | ((with_reducible apply xcond); exact rfl))) | with_reducible refine xthen ?_ | (with_reducible intro hc; (try simp only [decide_eq_true_eq, decide_eq_false_iff_not, Bool.not_true, Bool.not_false, Bool.not_eq_true', Bool.not_eq_false', ne_eq, not_true, reduceCtorEq, List.length_map] at hc); (try (exfalso; omega))) | with_reducible (first | exact trivial | refine And.intro ?_ ?_) | exact Eq.refl true)
    all_goals refine xfinRd (by first | exact .inl rfl | exact .inr rfl) rfl (by repeat' (first | exact trivial | exact rfl | refine And.intro ?_ ?_)) rfl (by omega) (by omega) ?_
    all_goals exact ⟨t, _, _, rfl, ht, by omega, by omega, by omega, by omega⟩
  · rw [hv] at c1
    have hk := treeK hv
    have c2 := c_sizeOf t hk 0 hk.lo
    have hw := wish_le hk (i := 0) hk.lo
    repeat' (first | ((with_reducible apply xsim); (first | ((with_reducible apply xo); exact rfl) | ((with_reducible apply xst); exact rfl) | with_reducible apply xend | ((with_reducible apply xguardS); exact rfl; exact rfl) | ((with_reducible apply xcallIs); exact rfl; exact rfl; (first | exact c1 | exact c2); exact rfl) | ((with_reducible apply xcallRd); exact rfl; exact rfl; exact rfl; exact c_pick bs _ _ hb (by omega) (by omega); rintro _ p' _ _ ⟨v, rfl, h1, h2, h3⟩; (try simp only [List.set_cons_zero, List.set_cons_succ])))) | ((with_reducible apply xaw); (first | ((with_reducible apply xstepS); refine AW.step tok rfl ?_) | ((with_reducible apply xstep); refine AW.region tok rfl ?_) | with_reducible (first | refine AW.skip ?_ | refine AW.ret ?_) | ((with_reducible apply xcond); exact rfl))) | with_reducible refine xthen ?_ | (with_reducible intro hc; (try simp only [decide_eq_true_eq, decide_eq_false_iff_not, Bool.not_true, Bool.not_false, Bool.not_eq_true', Bool.not_eq_false', ne_eq, not_true, reduceCtorEq, List.length_map] at hc); (try (exfalso; omega))) | with_reducible (first | exact trivial | refine And.intro ?_ ?_ | exact rfl) | exact Eq.refl true)
    all_goals refine xfinRd (by first | exact .inl rfl | exact .inr rfl) rfl (by repeat' (first | exact trivial | exact rfl | refine And.intro ?_ ?_)) rfl (by omega) (by omega) ?_
    all_goals exact ⟨t, _, _, rfl, ht, by omega, by omega, by omega, by omega⟩
/-- A tree that was drawn, a room, and a point. -/
def AHit (r : V) : Prop := ∃ (t : List Node) (w h x y : Int), r = .tup [vTree t, .d (.int .i64 w), .d (.int .i64 h), .d (.int .i64 x), .d (.int .i64 y)] ∧ TreeB t ∧ -1 ≤ w ∧ w ≤ 2000 ∧ -1 ≤ h ∧ h ≤ 2000
theorem layI {t : List Node} {w h : Int} {i : Int} (hi : 0 ≤ i ∧ i < t.length) : ((layoutOf t w h).map encRect)[i.toNat]? = some (encRect (rectAt t w h i.toNat)) := lay_get (by omega)
set_option maxHeartbeats 4000000 in
theorem c_DrawHitNode (cs : List Byte) (hl : cs.length < 2^63) : ACon Try.prog 48 [.d (.lst (cs.map encByte))] [] (Sm AHit) := by
  have hb : (cs.take 2000).length ≤ 2000 := by rw [List.length_take]; omega
  refine ACon.introW tok (nt := 74) Try.func48 rfl rfl rfl (by kernel_rfl) rfl ?_
  repeat' ((fail_if_success (with_reducible apply xnocond)); first | ((with_reducible apply xsim); (first | ((with_reducible apply xo); exact rfl) | ((with_reducible apply xst); exact rfl) | with_reducible apply xend | ((with_reducible apply xalloc); exact rfl; simp only [backV, backVs, backVs_mapd, backId, backO, List.map_cons, List.map_nil, List.getElem?_nil, List.length_cons, List.length_nil, Nat.reduceAdd, Nat.reduceSub, List.cons_append, List.nil_append, List.append_nil]) | ((with_reducible apply xbuild); exact rfl; exact rfl; exact rfl; exact rfl; exact rfl; simp only [backV, backVs, backVs_mapd, backId, backO, List.map_cons, List.map_nil, List.getElem?_nil, List.length_cons, List.length_nil, Nat.reduceAdd, Nat.reduceSub, List.cons_append, List.nil_append, List.append_nil]) | ((with_reducible apply xcallOwn); exact rfl; exact rfl; exact c_newReader cs hl; simp only [backV, backVs, backVs_mapd, backId, backO, List.map_cons, List.map_nil, List.getElem?_nil, List.length_cons, List.length_nil, Nat.reduceAdd, Nat.reduceSub, List.cons_append, List.nil_append, List.append_nil]) | ((with_reducible apply xcallRd); exact rfl; exact rfl; exact rfl; exact c_treeRoom _ _ hb (by omega); rintro _ p' _ _ ⟨t, w, h, rfl, ht, hr1, hr2, hr3, hr4⟩; (try simp only [List.set_cons_zero, List.set_cons_succ])) | ((with_reducible apply xcallOne); exact rfl; exact rfl; exact rfl; exact rfl; exact c_one rfl rfl hb (by omega) rfl rfl; rintro _ p' _ _ ⟨v, rfl, h1⟩; (try simp only [List.set_cons_zero, List.set_cons_succ])))) | ((with_reducible apply xaw); ((with_reducible apply xstepS); refine AW.step tok rfl ?_)) | with_reducible (first | exact trivial | refine And.intro ?_ ?_ | exact rfl) | exact Eq.refl true | (refine inR_i64.mpr ?_; first | omega | (simp only [List.length_map, List.length_map]; omega)))
  refine AW.seq ?_
  have hL := ht.L
  have c1 := c_validTree t hL
  have c2 := c_goodRoom w h
  refine AW.weak (Weak.freezeBox 8 2 (cells := [.lst (t.map encNode)]) rfl rfl) ?_
  cases hv : treeOk t
  · rw [hv] at c1
    repeat' (first | ((with_reducible apply xsim); (first | ((with_reducible apply xo); exact rfl) | ((with_reducible apply xst); exact rfl) | with_reducible apply xend | ((with_reducible apply xguardS); exact rfl; exact rfl) | ((with_reducible apply xcallIs); exact rfl; exact rfl; exact c1; exact rfl))) | ((with_reducible apply xaw); (first | ((with_reducible apply xstepS); refine AW.step tok rfl ?_) | with_reducible (first | refine AW.skip ?_ | refine AW.ret ?_) | ((with_reducible apply xcond); exact rfl))) | with_reducible refine xthen ?_ | (with_reducible intro hc; (try simp only [decide_eq_true_eq, decide_eq_false_iff_not, Bool.not_true, Bool.not_false, Bool.not_eq_true', Bool.not_eq_false', ne_eq, not_true, reduceCtorEq, List.length_map] at hc); (try (exfalso; omega))) | with_reducible (first | exact trivial | refine And.intro ?_ ?_) | exact Eq.refl true)
    all_goals refine xfinSm (by first | exact .inl rfl | exact .inr rfl) rfl (by repeat' (first | exact trivial | exact rfl | refine And.intro ?_ ?_)) rfl ?_
    all_goals exact ⟨t, _, _, _, _, rfl, ht, hr1, hr2, hr3, hr4⟩
  · rw [hv] at c1
    have hk := treeK hv
    have hlo := hk.lo; have hhi := hk.hi
    cases hrm : roomOk w h
    · rw [hrm] at c2
      repeat' (first | ((with_reducible apply xsim); (first | ((with_reducible apply xo); exact rfl) | ((with_reducible apply xst); exact rfl) | with_reducible apply xend | ((with_reducible apply xguardS); exact rfl; exact rfl) | ((with_reducible apply xcallIs); exact rfl; exact rfl; (first | exact c1 | exact c2); exact rfl))) | ((with_reducible apply xaw); (first | ((with_reducible apply xstepS); refine AW.step tok rfl ?_) | with_reducible (first | refine AW.skip ?_ | refine AW.ret ?_) | ((with_reducible apply xcond); exact rfl))) | with_reducible refine xthen ?_ | (with_reducible intro hc; (try simp only [decide_eq_true_eq, decide_eq_false_iff_not, Bool.not_true, Bool.not_false, Bool.not_eq_true', Bool.not_eq_false', ne_eq, not_true, reduceCtorEq, List.length_map] at hc); (try (exfalso; omega))) | with_reducible (first | exact trivial | refine And.intro ?_ ?_) | exact Eq.refl true)
      all_goals refine xfinSm (by first | exact .inl rfl | exact .inr rfl) rfl (by repeat' (first | exact trivial | exact rfl | refine And.intro ?_ ?_)) rfl ?_
      all_goals exact ⟨t, _, _, _, _, rfl, ht, hr1, hr2, hr3, hr4⟩
    · rw [hrm] at c2
      have hb2 := roomOk_iff hrm
      have c3 := ORows.data (c_AlayoutS t hk w h (by omega) (by omega))
      have hR : ∀ i : Int, 0 ≤ i ∧ i < t.length → RectIn (rectAt t w h i.toNat) := fun i hi => rects_in hk (by omega) (by omega) _ (by omega)
      repeat' (first | ((with_reducible apply xsim); (first | ((with_reducible apply xlenM); exact rfl; exact rfl) | ((with_reducible apply xo); exact rfl) | ((with_reducible apply xst); exact rfl) | with_reducible apply xend | ((with_reducible apply xguardS); exact rfl; exact rfl) | ((with_reducible apply xalloc); exact rfl; simp only [backV, backVs, backVs_mapd, backId, backO, List.map_cons, List.map_nil, List.getElem?_nil, List.length_cons, List.length_nil, Nat.reduceAdd, Nat.reduceSub, List.cons_append, List.nil_append, List.append_nil]) | ((with_reducible apply xidxL); exact rfl; exact rfl; exact rfl; (first | exact (layI (by omega))); omega; first | exact rfl | simp only [hsz]) | ((with_reducible apply xcallIs); exact rfl; exact rfl; (first | exact c1 | exact c2 | exact c3); exact rfl) | ((with_reducible apply xcallRd); exact rfl; exact rfl; exact rfl; exact c_pick _ _ _ hb (by omega) (by omega); rintro _ p' _ _ ⟨v, rfl, h1, h2, h3⟩; (try simp only [List.set_cons_zero, List.set_cons_succ])))) | ((with_reducible apply xaw); (first | ((with_reducible apply xstepS); refine AW.step tok rfl ?_) | ((with_reducible apply xstep); refine AW.region tok rfl ?_) | with_reducible (first | refine AW.seq ?_ | refine AW.skip ?_ | refine AW.ret ?_) | ((with_reducible apply xcond); exact rfl) | ((with_reducible apply xdraw (id := 6)); refine AW.draw (id := 6) (.l 0 (.q 1 (.q 2 (.q 3 (.q 4 (.q 5 (.l 6 (.q 7 (.two 8 (.q 9 (.q 10 (.e 11 (.e 12 (.fin))))) 11 (.e 8 (.q 9 (.q 10 (.e 12 (.fin)))))))))))))) tok (by kernel_rfl) rfl (by kernel_rfl) ?_))) | ((with_reducible apply xarun); (first | ((with_reducible apply xrun_q); exact rfl; exact rfl; exact rfl) | ((with_reducible apply xrun_c); exact rfl; exact rfl; exact rfl; exact rfl; exact rfl; exact rfl; (first | exact c1 | exact c2 | exact c3); exact rfl) | ((with_reducible apply xrun_l); exact rfl; exact rfl; exact rfl; exact rfl; exact rfl; exact rfl; focus (repeat (first | exact trivial | exact rfl | refine And.intro ?_ ?_))) | ((with_reducible apply xrun_e); exact rfl) | with_reducible apply xrun_f | ((with_reducible apply xrun_2); exact rfl; exact rfl))) | with_reducible refine xthen ?_ | (with_reducible intro hc; (try simp only [decide_eq_true_eq, decide_eq_false_iff_not, Bool.not_true, Bool.not_false, Bool.not_eq_true', Bool.not_eq_false', ne_eq, not_true, reduceCtorEq, List.length_map, layoutOf_len] at hc); (try (exfalso; omega))) | with_reducible (first | exact trivial | refine And.intro ?_ ?_ | exact rfl) | exact Eq.refl true | omega | ((have hq := (hR v (by omega)); obtain ⟨q1, q2, q3, q4, q5, q6⟩ := hq; have d1 := tdiv2 q3; have d2 := tdiv2 q4; refine inR_i64.mpr ?_; omega)))
      all_goals refine xfinSm (by first | exact .inl rfl | exact .inr rfl) rfl (by repeat' (first | exact trivial | exact rfl | refine And.intro ?_ ?_)) rfl ?_
      all_goals exact ⟨t, _, _, _, _, rfl, ht, hr1, hr2, hr3, hr4⟩
end Go.Proofs.Yticgjepndfjafaa

namespace Go.Proofs.Yticgjepndfjafaa
open Go.Fw
attribute [local irreducible] Go.Fw.aops Go.Fw.arun

/-- A node that is hit is seen there. -/
theorem hit_good {t : List Node} {w h x y : Int} (h0 : ¬ hitOf t w h x y < 0) : (treeOk t && roomOk w h) = true ∧ hasP ⟨0, 0, w, h⟩ x y ∧ hitOf t w h x y = ((hit t (rectAt t w h) x y 0 : Nat) : Int) := by
  unfold hitOf at h0 ⊢
  split at h0
  · rename_i hc
    rw [if_pos hc]
    rw [Bool.and_eq_true] at hc
    exact ⟨hc.1, of_decide_eq_true hc.2, rfl⟩
  · exact absurd (by decide) h0
set_option maxRecDepth 8000 in
set_option maxHeartbeats 4000000 in
theorem c_FnHitNode (cs : List Byte) (hl : cs.length < 2^63) : ACon Try.prog 13 [.d (.lst (cs.map encByte))] [] (Is (.d (.bool true))) := by
  refine ACon.introW tok (nt := 145) Try.func13 rfl rfl rfl (by kernel_rfl) rfl ?_
  repeat' (first | ((with_reducible apply xsim); (first | ((with_reducible apply xlenM); exact rfl; exact rfl) | ((with_reducible apply xo); exact rfl) | with_reducible apply xend)) | ((with_reducible apply xaw); (first | ((with_reducible apply xstepS); refine AW.step tok rfl ?_) | with_reducible (first | refine AW.seq ?_ | refine AW.skip ?_ | refine AW.ret ?_) | ((with_reducible apply xcond); exact rfl))) | with_reducible (first | refine xthen ?_ | refine xthen_r ?_) | (with_reducible intro hc; (try simp only [decide_eq_true_eq, decide_eq_false_iff_not, Bool.not_true, Bool.not_false, Bool.not_eq_true', Bool.not_eq_false', ne_eq, not_true, reduceCtorEq, List.length_map] at hc); (try (exfalso; omega))) | with_reducible (first | exact trivial | refine And.intro ?_ ?_ | exact rfl))
  · (refine xfinIs (by first | exact .inl rfl | exact .inr rfl) rfl (by repeat' (first | exact trivial | exact rfl | refine And.intro ?_ ?_)) rfl ?_ rfl; first | with_reducible exact rfl)
  repeat' ((fail_if_success (with_reducible apply xnocond)); first | ((with_reducible apply xsim); (first | ((with_reducible apply xo); exact rfl) | ((with_reducible apply xst); exact rfl) | with_reducible apply xend | ((with_reducible apply xalloc); exact rfl; simp only [backV, backVs, backVs_mapd, backId, backO, List.map_cons, List.map_nil, List.getElem?_nil, List.length_cons, List.length_nil, Nat.reduceAdd, Nat.reduceSub, List.cons_append, List.nil_append, List.append_nil]) | ((with_reducible apply xcallIs); exact rfl; exact rfl; exact c_HitI _ (TreeB.L (by assumption)) _ _ _ _; exact rfl) | ((with_reducible apply xcallSm); exact rfl; exact rfl; exact c_DrawHitNode cs hl; rintro _ ⟨t, w, h, x, y, rfl, ht, hr1, hr2, hr3, hr4⟩))) | ((with_reducible apply xaw); ((with_reducible apply xstepS); refine AW.step tok rfl ?_)) | with_reducible (first | exact trivial | refine And.intro ?_ ?_) | exact Eq.refl true)
  have hL := ht.L
  have cS := c_HitS t hL w h x y
  refine AW.seq ?_
  by_cases h0 : hitOf t w h x y < 0
  · repeat' (first | ((with_reducible apply xsim); (first | ((with_reducible apply xo); exact rfl) | with_reducible apply xend | ((with_reducible apply xguardS); exact rfl; exact rfl) | ((with_reducible apply xcallIs); exact rfl; exact rfl; exact cS; exact rfl))) | ((with_reducible apply xaw); (first | ((with_reducible apply xstepS); refine AW.step tok rfl ?_) | with_reducible refine AW.ret ?_ | ((with_reducible apply xcond); exact rfl))) | with_reducible refine xthen_r ?_ | (with_reducible intro hc; (try simp only [decide_eq_true_eq, decide_eq_false_iff_not, Bool.not_true, Bool.not_false, Bool.not_eq_true', Bool.not_eq_false', ne_eq, not_true, reduceCtorEq] at hc); (try (exfalso; omega))) | with_reducible (first | exact trivial | refine And.intro ?_ ?_ | exact rfl) | exact Eq.refl true)
    all_goals (refine xfinIs (by first | exact .inl rfl | exact .inr rfl) rfl (by repeat' (first | exact trivial | exact rfl | refine And.intro ?_ ?_)) rfl ?_ rfl; first | (simp -implicitDefEqProofs only [go_sem, Int.reduceEq, Int.reduceLT, Int.reduceLE, Nat.reduceAdd, Nat.reduceSub, Nat.reduceMul, Nat.reduceEqDiff, Nat.reduceLeDiff, Nat.reducePow, ↓reduceIte, reduceCtorEq] <;> (first | rfl | omega | exact decide_eq_decide.2 (by omega) | exact decide_eq_false (by omega) | exact decide_eq_true (by omega) | (symm; first | exact decide_eq_false (by omega) | exact decide_eq_true (by omega)) | (rw [Bool.eq_iff_iff]; simp only [Bool.not_eq_true', Bool.not_eq_false', Bool.and_eq_true, Bool.or_eq_true, decide_eq_true_eq, decide_eq_false_iff_not, reduceCtorEq, true_iff, iff_true, false_iff, iff_false]; omega))))
  obtain ⟨hb, hp, e⟩ := hit_good h0
  rw [e] at cS
  rw [e]
  clear h0 e
  have hb' := hb
  rw [Bool.and_eq_true] at hb'
  have hk := treeK hb'.1
  have hrm := roomOk_iff hb'.2
  have hlo := hk.lo; have hhi := hk.hi
  have hll := layoutOf_len (t := t) (w := w) (h := h)
  have hR := rects_in hk (w := w) (h := h) (by omega) (by omega)
  have cL := ORows.data (c_LayoutI t hL w h)
  rw [show layoutT t w h = layoutOf t w h by rw [layoutT, if_pos hb]] at cL
  obtain ⟨k1, k2, k3⟩ := hit_spec (R := rectAt t w h) (x := x) (y := y) hk _ 0 (Nat.le_refl _) hlo (fun k hm => by
    rw [way_zero, List.mem_singleton] at hm
    subst hm
    rw [rectAt_zero]; exact hp)
  have hsn : seenP t w h ((hit t (rectAt t w h) x y 0 : Nat) : Int) = seenOf t (rectAt t w h) (hit t (rectAt t w h) x y 0) := by
    unfold seenP
    rw [if_pos (by rw [Bool.and_eq_true]; exact ⟨goodN_iff.2 ⟨hb'.1, by omega, by simpa using k1⟩, hb'.2⟩), Int.toNat_natCast]
  have cP := c_SeenPartI t hL w h ((hit t (rectAt t w h) x y 0 : Nat) : Int)
  rw [hsn] at cP
  obtain ⟨s1, s2⟩ := seen_of_point (R := rectAt t w h) hk k1 k2
  have hqi := seenT_in hR hk k1 _ (Nat.le_refl _)
  rw [seenT_all] at hqi
  rw [seenV, s1] at cP
  have hno : ∀ k, k < t.length → (nodeAt t k).parent = ((hit t (rectAt t w h) x y 0 : Nat) : Int) → ¬ hasP (rectAt t w h k) x y := fun k hkl hpp hh => by
    have : k ∈ hitKids t (rectAt t w h) x y (hit t (rectAt t w h) x y 0) := hitKids_mem.2 ⟨mem_kids.2 ⟨hkl, hpp⟩, hh⟩
    rw [k3] at this
    cases this
  clear k2 k3 hsn
  generalize (seenOf t (rectAt t w h) (hit t (rectAt t w h) x y 0)).1 = q at *
  generalize hit t (rectAt t w h) x y 0 = m at *
  obtain ⟨q1, q2, q3, q4, q5, q6⟩ := hqi
  unfold hasP at s2
  repeat' (first | ((with_reducible apply xsim); (first | ((with_reducible apply xo); exact rfl) | ((with_reducible apply xst); exact rfl) | with_reducible apply xend | ((with_reducible apply xguardS); exact rfl; exact rfl) | ((with_reducible apply xalloc); exact rfl; simp only [backV, backVs, backVs_mapd, backId, backO, List.map_cons, List.map_nil, List.getElem?_nil, List.length_cons, List.length_nil, Nat.reduceAdd, Nat.reduceSub, List.cons_append, List.nil_append, List.append_nil]) | ((with_reducible apply xcallIs); exact rfl; exact rfl; (first | exact cS | exact cL | exact cP); exact rfl))) | ((with_reducible apply xaw); (first | ((with_reducible apply xstepS); refine AW.step tok rfl ?_) | with_reducible (first | refine AW.seq ?_ | refine AW.block ?_ | refine AW.skip ?_) | ((with_reducible apply xcond); exact rfl))) | with_reducible refine xthen ?_ | (with_reducible intro hc; (try simp only [decide_eq_true_eq, decide_eq_false_iff_not, Bool.not_true, Bool.not_false, Bool.not_eq_true', Bool.not_eq_false', ne_eq, not_true, reduceCtorEq, List.length_map, hll] at hc); (try (exfalso; omega))) | with_reducible (first | exact trivial | refine And.intro ?_ ?_ | exact rfl) | exact Eq.refl true | (refine inR_i64.mpr ?_; first | omega | (simp only [List.length_map, List.length_map, hll]; omega)))
  refine AW.loop (S := fun k : Nat => ⟨[(3, .oref 0 0), (6, .d (.int .i64 x)), (7, .d (.int .i64 y)), (8, .d (.int .i64 (m : Int))), (9, .d (.lst ((layoutOf t w h).map encRect))), (12, .d (.int .i64 k))], [.box [.d (.lst (t.map encNode))]], 145, 0⟩)
    (Pre := fun k => k ≤ t.length) (μ := fun k => t.length - k) (m + 1) k1 ?_ ?_
  · (refine xwk (π := [0]) (by decide) rfl ?_ ?_; (first | simp -implicitDefEqProofs only [go_sem, Int.reduceEq, Int.reduceLT, Int.reduceLE, Nat.reduceAdd, Nat.reduceSub, Nat.reduceMul, Nat.reduceEqDiff, Nat.reduceLeDiff, Nat.reducePow, ↓reduceIte, reduceCtorEq, Int.natCast_add, Int.natCast_one]); repeat' (first | exact renE_n | ((with_reducible apply renE_c); exact rfl; focus (first | (simp -implicitDefEqProofs only [go_sem, Int.reduceEq, Int.reduceLT, Int.reduceLE, Nat.reduceAdd, Nat.reduceSub, Nat.reduceMul, Nat.reduceEqDiff, Nat.reduceLeDiff, Nat.reducePow, ↓reduceIte, reduceCtorEq, Int.natCast_add, Int.natCast_one]; done)))))
  intro k hkk
  by_cases hlt : k < t.length
  · have hrr := lay_get (w := w) (h := h) hlt
    have hrk := at_map (f := encNode) hlt
    have hn := hno k hlt
    rw [nodeAt_eq hlt] at hn
    obtain ⟨g1, g2, g3, g4, g5, g6⟩ := hR k hlt
    by_cases hpp : t[k].parent = (m : Int)
    · have hn := hn hpp
      unfold hasP at hn
      repeat' (first | ((with_reducible apply xsim); (first | ((with_reducible apply xlenM); exact rfl; exact rfl) | ((with_reducible apply xo); exact rfl) | ((with_reducible apply xst); exact rfl) | with_reducible apply xend | ((with_reducible apply xguardS); exact rfl; exact rfl) | ((with_reducible apply xalloc); exact rfl; simp only [backV, backVs, backVs_mapd, backId, backO, List.map_cons, List.map_nil, List.getElem?_nil, List.length_cons, List.length_nil, Nat.reduceAdd, Nat.reduceSub, List.cons_append, List.nil_append, List.append_nil]) | ((with_reducible apply xidxL); exact rfl; exact rfl; exact rfl; (first | exact hrr | exact hrk); omega; first | exact rfl | simp only [hsz]))) | ((with_reducible apply xaw); (first | ((with_reducible apply xstepS); refine AW.step tok rfl ?_) | ((with_reducible apply xstep); refine AW.region tok rfl ?_) | with_reducible (first | refine AW.seq ?_ | refine AW.block ?_ | refine AW.skip ?_) | ((with_reducible apply xcond); exact rfl))) | with_reducible (first | refine xthen ?_ | refine xblock ?_) | (with_reducible intro hc; (try simp only [decide_eq_true_eq, decide_eq_false_iff_not, Bool.not_true, Bool.not_false, Bool.not_eq_true', Bool.not_eq_false', ne_eq, not_true, reduceCtorEq, List.length_map, hll] at hc); (try (exfalso; omega))) | with_reducible (first | exact trivial | refine And.intro ?_ ?_ | exact rfl) | exact Eq.refl true | (refine inR_i64.mpr ?_; first | omega | (simp only [List.length_map, List.length_map, hll]; omega)))
      all_goals refine round_end (k+1) hlt (by omega) (by (refine xwk (π := [0]) (by decide) rfl ?_ ?_; (first | simp -implicitDefEqProofs only [go_sem, Int.reduceEq, Int.reduceLT, Int.reduceLE, Nat.reduceAdd, Nat.reduceSub, Nat.reduceMul, Nat.reduceEqDiff, Nat.reduceLeDiff, Nat.reducePow, ↓reduceIte, reduceCtorEq]); repeat' (first | exact renE_n | ((with_reducible apply renE_c); exact rfl; focus (first | (simp -implicitDefEqProofs only [go_sem, Int.reduceEq, Int.reduceLT, Int.reduceLE, Nat.reduceAdd, Nat.reduceSub, Nat.reduceMul, Nat.reduceEqDiff, Nat.reduceLeDiff, Nat.reducePow, ↓reduceIte, reduceCtorEq]; done))))))
    · clear hn
      repeat' (first | ((with_reducible apply xsim); (first | ((with_reducible apply xlenM); exact rfl; exact rfl) | ((with_reducible apply xo); exact rfl) | ((with_reducible apply xst); exact rfl) | with_reducible apply xend | ((with_reducible apply xguardS); exact rfl; exact rfl) | ((with_reducible apply xalloc); exact rfl; simp only [backV, backVs, backVs_mapd, backId, backO, List.map_cons, List.map_nil, List.getElem?_nil, List.length_cons, List.length_nil, Nat.reduceAdd, Nat.reduceSub, List.cons_append, List.nil_append, List.append_nil]) | ((with_reducible apply xidxL); exact rfl; exact rfl; exact rfl; (first | exact hrr | exact hrk); omega; first | exact rfl | simp only [hsz]))) | ((with_reducible apply xaw); (first | ((with_reducible apply xstepS); refine AW.step tok rfl ?_) | ((with_reducible apply xstep); refine AW.region tok rfl ?_) | with_reducible (first | refine AW.seq ?_ | refine AW.block ?_ | refine AW.skip ?_) | ((with_reducible apply xcond); exact rfl))) | with_reducible (first | refine xthen ?_ | refine xblock ?_) | (with_reducible intro hc; (try simp only [decide_eq_true_eq, decide_eq_false_iff_not, Bool.not_true, Bool.not_false, Bool.not_eq_true', Bool.not_eq_false', ne_eq, not_true, reduceCtorEq, List.length_map, hll] at hc); (try (exfalso; omega))) | with_reducible (first | exact trivial | refine And.intro ?_ ?_ | exact rfl) | exact Eq.refl true | (refine inR_i64.mpr ?_; first | omega | (simp only [List.length_map, List.length_map, hll]; omega)))
      all_goals refine round_end (k+1) hlt (by omega) (by (refine xwk (π := [0]) (by decide) rfl ?_ ?_; (first | simp -implicitDefEqProofs only [go_sem, Int.reduceEq, Int.reduceLT, Int.reduceLE, Nat.reduceAdd, Nat.reduceSub, Nat.reduceMul, Nat.reduceEqDiff, Nat.reduceLeDiff, Nat.reducePow, ↓reduceIte, reduceCtorEq]); repeat' (first | exact renE_n | ((with_reducible apply renE_c); exact rfl; focus (first | (simp -implicitDefEqProofs only [go_sem, Int.reduceEq, Int.reduceLT, Int.reduceLE, Nat.reduceAdd, Nat.reduceSub, Nat.reduceMul, Nat.reduceEqDiff, Nat.reduceLeDiff, Nat.reducePow, ↓reduceIte, reduceCtorEq]; done))))))
  have hk' : k = t.length := by omega
  subst hk'
  repeat' (first | ((with_reducible apply xsim); (first | ((with_reducible apply xlenM); exact rfl; exact rfl) | ((with_reducible apply xo); exact rfl) | with_reducible apply xend)) | ((with_reducible apply xaw); (first | ((with_reducible apply xstepS); refine AW.step tok rfl ?_) | with_reducible (first | refine AW.seq ?_ | refine AW.ret ?_ | refine AW.exit ?_) | ((with_reducible apply xcond); exact rfl))) | with_reducible (first | refine xthen ?_ | refine xthen_e ?_ | refine xblock_e ?_ | refine xround_e ?_) | (with_reducible intro hc; (try simp only [decide_eq_true_eq, decide_eq_false_iff_not, Bool.not_true, Bool.not_false, Bool.not_eq_true', Bool.not_eq_false', ne_eq, not_true, reduceCtorEq, List.length_map, hll] at hc); (try (exfalso; omega))) | with_reducible (first | exact trivial | refine And.intro ?_ ?_ | exact rfl))
  (refine xfinIs (by first | exact .inl rfl | exact .inr rfl) rfl (by repeat' (first | exact trivial | exact rfl | refine And.intro ?_ ?_)) rfl ?_ rfl; first | with_reducible exact rfl)
end Go.Proofs.Yticgjepndfjafaa

