/- Contracts of the functions and the plain law behind them, as far as FnRunDesk needs them; joined out of the texts Q1 R8 R9 R10 R2 S1 K1 S7 S10 S11 S12 S13 S14 S15 S16 S17 S18. -/
import Derived.Deep.Slices
import Derived.Deep.Fields
import Derived.ChangeSame
import Derived.Below
import Derived.ProofKit
import Derived.Lib.ItoaNum
import Derived.Lib.SplitLaws
import Derived.Lib.Split
import Derived.Lib.AtoiAllCases
import Derived.WalkKit
import Derived.BigCall
import Derived.Lib.AtoiErrMem
import Derived.Laws.NewBlocks
import Derived.Lib.Join
import Derived.Test.YtmjofbjglhdkjaaGreatDoorShelf
import Derived.Test.YtmjofbjglhdkjaaGreatDoorTt
set_option linter.unusedSimpArgs false
set_option linter.unusedVariables false
namespace Go.Proofs.YtmjofbjglhdkjaaGreatDoor
open Go.Fw
attribute [local irreducible] Go.Fw.aops Go.Fw.arun
@[go_sem] def lv66 : List (List Nat) := [[0, 1, 2], [6]]
@[go_sem] def lv74 : List (List Nat) := [[0, 1, 2], [6]]
@[go_sem] def lv112 : List (List Nat) := [[0, 1], [0, 1, 7, 8], [0, 1, 7, 8, 9], [0, 1, 5, 7, 8], [0, 1, 5, 7, 8, 16], [4], [0, 1, 7, 8], [4]]
@[go_sem] def lv89 : List (List Nat) := [[0, 1], [4]]

theorem c_within (n lo hi : Int) : ACon Tryz.prog 66 [.d (.int .i64 n), .d (.int .i64 lo), .d (.int .i64 hi)] [] (Is (.d (.bool (decide (lo ≤ n ∧ n ≤ hi))))) := by
  refine ACon.introW tok (nt := 15) Tryz.func66 rfl rfl rfl (by kernel_rfl) rfl ?_
  repeat' (first | ((with_reducible apply xsim); (first | ((with_reducible apply xo); exact rfl) | with_reducible apply xend | ((with_reducible apply xguardTS); exact rfl; exact rfl) | ((with_reducible apply xguardS); exact rfl; exact rfl) | simp -implicitDefEqProofs only [go_sem, Int.reduceEq, Int.reduceLT, Int.reduceLE, Nat.reduceAdd, Nat.reduceSub, Nat.reduceMul, Nat.reduceEqDiff, Nat.reduceLeDiff, Nat.reducePow, ↓reduceIte, reduceCtorEq])) | ((with_reducible apply xaw); (first | ((with_reducible apply xstepS); refine AW.step tok rfl ?_) | ((with_reducible apply xstep); refine AW.region tok rfl ?_) | with_reducible (first | refine AW.seq ?_ | refine AW.block ?_ | refine AW.skip ?_ | refine AW.ret ?_ | refine AW.exit ?_) | ((with_reducible apply xcond); exact rfl))) | with_reducible (first | refine xthen ?_ | refine xthen_r ?_ | refine xthen_e ?_ | refine xblock ?_ | refine xblock_r ?_ | refine xblock_e ?_ | refine xblock_n rfl ?_ | refine xround_r ?_ | refine xround_e ?_) | (with_reducible intro hc; (try simp only [decide_eq_true_eq, decide_eq_false_iff_not, Bool.not_true, Bool.not_false, Bool.not_eq_true', Bool.not_eq_false', ne_eq, not_true, reduceCtorEq] at hc); (try (exfalso; omega))) | with_reducible (first | exact trivial | refine And.intro ?_ ?_ | exact rfl | exact Nat.le_refl _) | exact Eq.refl true | exact (rfl : (_ : List Nat) = _) | exact Nat.le_of_ble_eq_true rfl | (refine inR_i64.mpr ?_; first | omega | (simp only [List.length_map]; omega)) | omega)
  all_goals (refine xfinIs (by first | exact .inl rfl | exact .inr rfl) rfl (by repeat' (first | exact trivial | exact rfl | refine And.intro ?_ ?_)) rfl ?_ rfl; first | with_reducible exact rfl | (simp -implicitDefEqProofs only [go_sem, Int.reduceEq, Int.reduceLT, Int.reduceLE, Nat.reduceAdd, Nat.reduceSub, Nat.reduceMul, Nat.reduceEqDiff, Nat.reduceLeDiff, Nat.reducePow, ↓reduceIte, reduceCtorEq] <;> (first | rfl | omega | exact decide_eq_decide.2 (by omega) | exact decide_eq_false (by omega) | exact decide_eq_true (by omega) | (symm; first | exact decide_eq_false (by omega) | exact decide_eq_true (by omega)) | (rw [Bool.eq_iff_iff]; simp only [Bool.not_eq_true', Bool.not_eq_false', Bool.and_eq_true, Bool.or_eq_true, decide_eq_true_eq, decide_eq_false_iff_not, reduceCtorEq, true_iff, iff_true, false_iff, iff_false]; omega))))

theorem c_inRange (n lo hi : Int) : ACon Tryz.prog 74 [.d (.int .i64 n), .d (.int .i64 lo), .d (.int .i64 hi)] [] (Is (.d (.bool (decide (lo ≤ n ∧ n ≤ hi))))) := by
  refine ACon.introW tok (nt := 15) Tryz.func74 rfl rfl rfl (by kernel_rfl) rfl ?_
  repeat' (first | ((with_reducible apply xsim); (first | ((with_reducible apply xo); exact rfl) | with_reducible apply xend | ((with_reducible apply xguardTS); exact rfl; exact rfl) | ((with_reducible apply xguardS); exact rfl; exact rfl) | simp -implicitDefEqProofs only [go_sem, Int.reduceEq, Int.reduceLT, Int.reduceLE, Nat.reduceAdd, Nat.reduceSub, Nat.reduceMul, Nat.reduceEqDiff, Nat.reduceLeDiff, Nat.reducePow, ↓reduceIte, reduceCtorEq])) | ((with_reducible apply xaw); (first | ((with_reducible apply xstepS); refine AW.step tok rfl ?_) | ((with_reducible apply xstep); refine AW.region tok rfl ?_) | with_reducible (first | refine AW.seq ?_ | refine AW.block ?_ | refine AW.skip ?_ | refine AW.ret ?_ | refine AW.exit ?_) | ((with_reducible apply xcond); exact rfl))) | with_reducible (first | refine xthen ?_ | refine xthen_r ?_ | refine xthen_e ?_ | refine xblock ?_ | refine xblock_r ?_ | refine xblock_e ?_ | refine xblock_n rfl ?_ | refine xround_r ?_ | refine xround_e ?_) | (with_reducible intro hc; (try simp only [decide_eq_true_eq, decide_eq_false_iff_not, Bool.not_true, Bool.not_false, Bool.not_eq_true', Bool.not_eq_false', ne_eq, not_true, reduceCtorEq] at hc); (try (exfalso; omega))) | with_reducible (first | exact trivial | refine And.intro ?_ ?_ | exact rfl | exact Nat.le_refl _) | exact Eq.refl true | exact (rfl : (_ : List Nat) = _) | exact Nat.le_of_ble_eq_true rfl | (refine inR_i64.mpr ?_; first | omega | (simp only [List.length_map]; omega)) | omega)
  all_goals (refine xfinIs (by first | exact .inl rfl | exact .inr rfl) rfl (by repeat' (first | exact trivial | exact rfl | refine And.intro ?_ ?_)) rfl ?_ rfl; first | with_reducible exact rfl | (simp -implicitDefEqProofs only [go_sem, Int.reduceEq, Int.reduceLT, Int.reduceLE, Nat.reduceAdd, Nat.reduceSub, Nat.reduceMul, Nat.reduceEqDiff, Nat.reduceLeDiff, Nat.reducePow, ↓reduceIte, reduceCtorEq] <;> (first | rfl | omega | exact decide_eq_decide.2 (by omega) | exact decide_eq_false (by omega) | exact decide_eq_true (by omega) | (symm; first | exact decide_eq_false (by omega) | exact decide_eq_true (by omega)) | (rw [Bool.eq_iff_iff]; simp only [Bool.not_eq_true', Bool.not_eq_false', Bool.and_eq_true, Bool.or_eq_true, decide_eq_true_eq, decide_eq_false_iff_not, reduceCtorEq, true_iff, iff_true, false_iff, iff_false]; omega))))

def idxOf {α : Type} (p : α → Bool) (xs : List α) : Int := match xs.findIdx? p with | some i => i | none => -1

theorem idxOf_at {α : Type} {p : α → Bool} {xs : List α} {k : Nat} (hlt : k < xs.length) (hp : ∀ j (h : j < xs.length), j < k → p xs[j] = false) (h : p xs[k] = true) : idxOf p xs = k := by
  have : xs.findIdx? p = some k := by
    rw [List.findIdx?_eq_some_iff_getElem]
    exact ⟨hlt, h, fun j hj => by simp [hp j (by omega) hj]⟩
  simp [idxOf, this]
theorem idxOf_none {α : Type} {p : α → Bool} {xs : List α} {k : Nat} (hlt : ¬ k < xs.length) (hp : ∀ j (h : j < xs.length), j < k → p xs[j] = false) : idxOf p xs = -1 := by
  have : xs.findIdx? p = none := by
    rw [List.findIdx?_eq_none_iff]
    intro x hx
    obtain ⟨j, hj, rfl⟩ := List.mem_iff_getElem.1 hx
    exact hp j hj (by omega)
  simp [idxOf, this]
theorem idxOf_any {α : Type} {p : α → Bool} {xs : List α} : decide (idxOf p xs ≥ 0) = xs.any p := by
  unfold idxOf
  cases h : xs.findIdx? p with
  | none =>
    rw [List.findIdx?_eq_none_iff] at h
    rw [show xs.any p = false by simpa [List.any_eq_false] using h]
    decide
  | some i =>
    have : xs.any p = true := by
      rw [List.findIdx?_eq_some_iff_getElem] at h
      obtain ⟨h1, h2, _⟩ := h
      exact List.any_eq_true.2 ⟨_, List.getElem_mem h1, h2⟩
    rw [this]; simp

theorem c_IndexFuncPack {α : Type} (enc : α → List D) (xs : List α) (g : Nat) (cap : List D) (p : α → Bool) (hsz : ∀ x, (enc x).length = 9) (hlen : xs.length < 2^63)
    (hg : ∀ x ∈ xs, ACon Tryz.prog g (.agg ((enc x).map .d) :: cap.map .d) [] (Is (.d (.bool (p x))))) :
    ACon Tryz.prog 112 [.d (.lst (xs.map enc)), .d (.fn g cap)] [] (Is (.d (.int .i64 (idxOf p xs)))) := by
  refine ACon.introW tok (nt := 19) Tryz.func112 rfl rfl rfl (by kernel_rfl) rfl ?_
  repeat' (first | ((first | refine AW.stepL lv112 tok rfl ?_ | refine AW.region tok rfl ?_ | refine AW.condE ?_ | refine AW.skip ?_ | refine AW.ret ?_ | refine AW.exit ?_) <;> simp -implicitDefEqProofs only [go_sem, Int.reduceEq, Int.reduceLT, Int.reduceLE, Nat.reduceAdd, Nat.reduceSub, Nat.reduceMul, Nat.reduceEqDiff, Nat.reduceLeDiff, Nat.reducePow, ↓reduceIte, reduceCtorEq]) | refine AW.seq ?_ | refine AW.block ?_ | refine And.intro ?_ ?_ | exact fun h => (h trivial).elim | exact fun h => h.elim | refine fun _ => ?_ | exact rfl | exact Nat.le_of_ble_eq_true rfl | omega | exact ⟨_, rfl, fun r hr => (by simp at hr; obtain ⟨a, _, rfl⟩ := hr; rfl)⟩ | (rename_i hm; simp only [List.take_succ_cons, List.take_zero, List.drop_zero, List.mem_singleton] at hm; subst hm; rfl) | (simp only [List.take_succ_cons, List.take_zero, List.drop_zero, List.length_cons, List.length_nil]; omega))
  refine AW.loop (S := fun k : Nat => ⟨[(0, .d (.lst (xs.map enc))), (1, .d (.fn g cap)), (7, .d (.int .i64 xs.length)), (8, .d (.int .i64 k))], [], 19, 0⟩)
    (Pre := fun k => k ≤ xs.length ∧ ∀ j (h : j < xs.length), j < k → p xs[j] = false) (μ := fun k => xs.length - k) 0 ⟨Nat.zero_le _, fun j _ h => absurd h (Nat.not_lt_zero _)⟩ ?_ ?_
  · (refine xwk (π := []) (by decide) rfl ?_ ?_; (first | exact trivial | simp -implicitDefEqProofs only [go_sem, Int.reduceEq, Int.reduceLT, Int.reduceLE, Nat.reduceAdd, Nat.reduceSub, Nat.reduceMul, Nat.reduceEqDiff, Nat.reduceLeDiff, Nat.reducePow, ↓reduceIte, reduceCtorEq, List.length_map]); repeat' (first | exact renE_n | ((with_reducible apply renE_c); exact rfl; focus (first | with_reducible exact rfl | (simp -implicitDefEqProofs only [go_sem, Int.reduceEq, Int.reduceLT, Int.reduceLE, Nat.reduceAdd, Nat.reduceSub, Nat.reduceMul, Nat.reduceEqDiff, Nat.reduceLeDiff, Nat.reducePow, ↓reduceIte, reduceCtorEq, List.length_map]; done) | (simp -implicitDefEqProofs only [go_sem, Int.reduceEq, Int.reduceLT, Int.reduceLE, Nat.reduceAdd, Nat.reduceSub, Nat.reduceMul, Nat.reduceEqDiff, Nat.reduceLeDiff, Nat.reducePow, ↓reduceIte, reduceCtorEq, List.length_map]; omega)))))
  · rintro k ⟨hk, hp⟩
    by_cases hlt : k < xs.length
    · have hrow := at_map (f := enc) hlt
      have hrow2 : List.take 9 (List.map V.d (enc xs[k])) = List.map V.d (enc xs[k]) := by rw [List.take_of_length_le]; rw [List.length_map, hsz]; omega
      repeat' (first | ((first | refine AW.stepL lv112 tok rfl ?_ | refine AW.region tok rfl ?_ | refine AW.condE ?_ | refine AW.skip ?_ | refine AW.ret ?_ | refine AW.exit ?_ | refine ACall.is (by first | rfl | simp -implicitDefEqProofs only [go_sem, ↓reduceIte, Nat.reduceEqDiff, ltT hlt, not_true, hrow, hrow2, hsz, List.length_map]) (hg _ (List.getElem_mem hlt)) ?_) <;> simp -implicitDefEqProofs only [go_sem, Int.reduceEq, Int.reduceLT, Int.reduceLE, Nat.reduceAdd, Nat.reduceSub, Nat.reduceMul, Nat.reduceEqDiff, Nat.reduceLeDiff, Nat.reducePow, ↓reduceIte, reduceCtorEq, ltT hlt, not_true, hrow, hrow2, hsz, List.length_map]) | refine AW.seq ?_ | refine AW.block ?_ | refine And.intro ?_ ?_ | exact fun h => (h trivial).elim | exact fun h => h.elim | refine fun _ => ?_ | exact rfl | exact Nat.le_of_ble_eq_true rfl | omega | exact ⟨_, rfl, fun r hr => (by simp at hr; obtain ⟨a, _, rfl⟩ := hr; rfl)⟩ | (rename_i hm; simp only [List.take_succ_cons, List.take_zero, List.drop_zero, List.mem_singleton] at hm; subst hm; rfl) | (simp only [List.take_succ_cons, List.take_zero, List.drop_zero, List.length_cons, List.length_nil]; omega))
      · rename_i hpk
        (refine xfinIs (by first | exact .inl rfl | exact .inr rfl) rfl (by repeat' (first | exact trivial | exact rfl | refine And.intro ?_ ?_)) rfl ?_ rfl; first | with_reducible exact rfl | (simp -implicitDefEqProofs only [go_sem, Int.reduceEq, Int.reduceLT, Int.reduceLE, Nat.reduceAdd, Nat.reduceSub, Nat.reduceMul, Nat.reduceEqDiff, Nat.reduceLeDiff, Nat.reducePow, ↓reduceIte, reduceCtorEq, idxOf_at hlt hp hpk] <;> (first | rfl | omega | exact decide_eq_decide.2 (by omega) | exact decide_eq_false (by omega) | exact decide_eq_true (by omega) | (symm; first | exact decide_eq_false (by omega) | exact decide_eq_true (by omega)) | (rw [Bool.eq_iff_iff]; simp only [Bool.not_eq_true', Bool.not_eq_false', Bool.and_eq_true, Bool.or_eq_true, decide_eq_true_eq, decide_eq_false_iff_not, reduceCtorEq, true_iff, iff_true, false_iff, iff_false]; omega))))
      · rename_i hpk
        refine round_end (k+1) ⟨by omega, ?_⟩ (by omega) (Weak.of [] rfl rfl List.nodup_nil rfl trivial ?_)
        · intro j hj h; by_cases h' : j = k
          · subst h'; exact hpk
          · exact hp j hj (by omega)
        · simp -implicitDefEqProofs only [go_sem, Int.reduceEq, Int.reduceLT, Int.reduceLE, Nat.reduceAdd, Nat.reduceSub, Nat.reduceMul, Nat.reduceEqDiff, Nat.reduceLeDiff, Nat.reducePow, ↓reduceIte, reduceCtorEq]
    · repeat' (first | ((with_reducible apply xsim); (first | ((with_reducible apply xlenM); exact rfl; exact rfl) | ((with_reducible apply xo); exact rfl) | with_reducible apply xend | ((with_reducible apply xidxL); exact rfl; exact rfl; exact rfl; exact rfl; omega; first | exact rfl | simp only [hsz]) | ((with_reducible apply xidxM); exact rfl; exact rfl; exact rfl; omega; omega; exact rfl) | ((with_reducible apply xldA); exact rfl; exact rfl; exact rfl; exact rfl; exact rfl) | simp -implicitDefEqProofs only [go_sem, Int.reduceEq, Int.reduceLT, Int.reduceLE, Nat.reduceAdd, Nat.reduceSub, Nat.reduceMul, Nat.reduceEqDiff, Nat.reduceLeDiff, Nat.reducePow, ↓reduceIte, reduceCtorEq, List.length_map])) | ((with_reducible apply xaw); (first | ((with_reducible apply xstepS); refine AW.step tok rfl ?_) | ((with_reducible apply xstep); refine AW.region tok rfl ?_) | with_reducible (first | refine AW.seq ?_ | refine AW.block ?_ | refine AW.skip ?_ | refine AW.ret ?_ | refine AW.exit ?_) | ((with_reducible apply xcond); exact rfl))) | with_reducible (first | refine xthen ?_ | refine xthen_r ?_ | refine xthen_e ?_ | refine xblock ?_ | refine xblock_r ?_ | refine xblock_e ?_ | refine xblock_n rfl ?_ | refine xround_r ?_ | refine xround_e ?_) | (with_reducible intro hc; (try simp only [decide_eq_true_eq, decide_eq_false_iff_not, Bool.not_true, Bool.not_false, Bool.not_eq_true', Bool.not_eq_false', ne_eq, not_true, reduceCtorEq, List.length_map] at hc); (try (exfalso; omega))) | with_reducible (first | exact trivial | refine And.intro ?_ ?_ | exact rfl | exact Nat.le_refl _) | exact Eq.refl true | exact (rfl : (_ : List Nat) = _) | exact Nat.le_of_ble_eq_true rfl | (refine inR_i64.mpr ?_; first | omega | (simp only [List.length_map, List.length_map]; omega)) | omega)
      (refine xfinIs (by first | exact .inl rfl | exact .inr rfl) rfl (by repeat' (first | exact trivial | exact rfl | refine And.intro ?_ ?_)) rfl ?_ rfl; first | with_reducible exact rfl | (simp -implicitDefEqProofs only [go_sem, Int.reduceEq, Int.reduceLT, Int.reduceLE, Nat.reduceAdd, Nat.reduceSub, Nat.reduceMul, Nat.reduceEqDiff, Nat.reduceLeDiff, Nat.reducePow, ↓reduceIte, reduceCtorEq, idxOf_none hlt hp] <;> (first | rfl | omega | exact decide_eq_decide.2 (by omega) | exact decide_eq_false (by omega) | exact decide_eq_true (by omega) | (symm; first | exact decide_eq_false (by omega) | exact decide_eq_true (by omega)) | (rw [Bool.eq_iff_iff]; simp only [Bool.not_eq_true', Bool.not_eq_false', Bool.and_eq_true, Bool.or_eq_true, decide_eq_true_eq, decide_eq_false_iff_not, reduceCtorEq, true_iff, iff_true, false_iff, iff_false]; omega))))

theorem c_ContainsFuncPack {α : Type} (enc : α → List D) (xs : List α) (g : Nat) (cap : List D) (p : α → Bool) (hsz : ∀ x, (enc x).length = 9) (hlen : xs.length < 2^63)
    (hg : ∀ x ∈ xs, ACon Tryz.prog g (.agg ((enc x).map .d) :: cap.map .d) [] (Is (.d (.bool (p x))))) :
    ACon Tryz.prog 89 [.d (.lst (xs.map enc)), .d (.fn g cap)] [] (Is (.d (.bool (xs.any p)))) := by
  refine ACon.introW tok (nt := 9) Tryz.func89 rfl rfl rfl (by kernel_rfl) rfl ?_
  repeat' (first | ((with_reducible apply xsim); (first | ((with_reducible apply xo); exact rfl) | with_reducible apply xend | ((with_reducible apply xcallIs); exact rfl; exact rfl; exact c_IndexFuncPack enc xs g cap p hsz hlen hg; exact rfl) | simp -implicitDefEqProofs only [go_sem, Int.reduceEq, Int.reduceLT, Int.reduceLE, Nat.reduceAdd, Nat.reduceSub, Nat.reduceMul, Nat.reduceEqDiff, Nat.reduceLeDiff, Nat.reducePow, ↓reduceIte, reduceCtorEq])) | ((with_reducible apply xaw); (first | ((with_reducible apply xstepS); refine AW.step tok rfl ?_) | ((with_reducible apply xstep); refine AW.region tok rfl ?_) | with_reducible (first | refine AW.seq ?_ | refine AW.block ?_ | refine AW.skip ?_ | refine AW.ret ?_ | refine AW.exit ?_) | ((with_reducible apply xcond); exact rfl))) | with_reducible (first | refine xthen ?_ | refine xthen_r ?_ | refine xthen_e ?_ | refine xblock ?_ | refine xblock_r ?_ | refine xblock_e ?_ | refine xblock_n rfl ?_ | refine xround_r ?_ | refine xround_e ?_) | (with_reducible intro hc; (try simp only [decide_eq_true_eq, decide_eq_false_iff_not, Bool.not_true, Bool.not_false, Bool.not_eq_true', Bool.not_eq_false', ne_eq, not_true, reduceCtorEq] at hc); (try (exfalso; omega))) | with_reducible (first | exact trivial | refine And.intro ?_ ?_ | exact rfl | exact Nat.le_refl _) | exact Eq.refl true | exact (rfl : (_ : List Nat) = _) | exact Nat.le_of_ble_eq_true rfl | (refine inR_i64.mpr ?_; first | omega | (simp only [List.length_map]; omega)) | omega)
  (refine xfinIs (by first | exact .inl rfl | exact .inr rfl) rfl (by repeat' (first | exact trivial | exact rfl | refine And.intro ?_ ?_)) rfl ?_ rfl; first | with_reducible exact rfl | (simp -implicitDefEqProofs only [go_sem, Int.reduceEq, Int.reduceLT, Int.reduceLE, Nat.reduceAdd, Nat.reduceSub, Nat.reduceMul, Nat.reduceEqDiff, Nat.reduceLeDiff, Nat.reducePow, ↓reduceIte, reduceCtorEq, idxOf_any] <;> (first | rfl | omega | exact decide_eq_decide.2 (by omega) | exact decide_eq_false (by omega) | exact decide_eq_true (by omega) | (symm; first | exact decide_eq_false (by omega) | exact decide_eq_true (by omega)) | (rw [Bool.eq_iff_iff]; simp only [Bool.not_eq_true', Bool.not_eq_false', Bool.and_eq_true, Bool.or_eq_true, decide_eq_true_eq, decide_eq_false_iff_not, reduceCtorEq, true_iff, iff_true, false_iff, iff_false]; omega))))

end Go.Proofs.YtmjofbjglhdkjaaGreatDoor

namespace Go.Proofs.YtmjofbjglhdkjaaGreatDoor
open Go.Fw

/-- A slice of rows that is handed over. -/
def ORows {α : Type} (enc : α → List D) (sz : Nat) (xs : List α) : V → List O → Prop := Own (.msl 0 sz 0 xs.length) [.arr sz (xs.map enc)]

theorem ORows.data {α : Type} {P : Program} {f : Nat} {args : List V} {sz : Nat} {enc : α → List D} {xs : List α} (h : ACon P f args [] (ORows enc sz xs)) : ACon P f args [] (Is (.d (.lst (xs.map enc)))) := by
  have h2 : ACon P f args [] (fun r os => r = .d (.lst (xs.map enc)) ∧ os = [.dead]) := by
    refine h.frz ?_
    rintro r os ⟨rfl, rfl⟩
    exact ⟨0, sz, xs.map enc, by rw [List.length_map], rfl, rfl, rfl⟩
  refine h2.ren ?_
  rintro r os ⟨rfl, rfl⟩
  exact ⟨[], .d (.lst (xs.map enc)), [], by decide, rfl, trivial, rfl, rfl, rfl⟩

end Go.Proofs.YtmjofbjglhdkjaaGreatDoor

namespace Go.Proofs.YtmjofbjglhdkjaaGreatDoor
open Go.Fw Go.ChangeShapes Go.WideShapes Go.Deep Go.RowKit Go.ChangeAt

section
variable {H : Type} {enc : TypeId × Value → H} {P : Program} {w : World} {base : Nat} {spare : Nat → Bool} {held : Bool}

theorem list_of {α : Type} {R : Nat → α → Prop} : ∀ n : Nat, (∀ i, i < n → ∃ p, R i p) → ∃ xs : List α, xs.length = n ∧ ∀ (i : Nat) (p : α), xs[i]? = some p → R i p := by
  intro n
  induction n with
  | zero => intro _; exact ⟨[], rfl, fun i p h => by simp at h⟩
  | succ n ih =>
    intro h
    obtain ⟨xs, h1, h2⟩ := ih fun i hi => h i (by omega)
    obtain ⟨p, hp⟩ := h n (by omega)
    refine ⟨xs ++ [p], by simp [h1], fun i q hq => ?_⟩
    rcases Nat.lt_or_ge i xs.length with hl | hl
    · rw [List.getElem?_append_left hl] at hq; exact h2 i q hq
    · rw [List.getElem?_append_right hl] at hq
      have : i - xs.length = 0 := by
        rcases Nat.eq_zero_or_pos (i - xs.length) with e | e
        · exact e
        · rw [List.getElem?_eq_none (by simp; omega)] at hq; cases hq
      rw [this] at hq
      simp only [List.getElem?_cons_zero, Option.some.injEq] at hq
      subst hq
      rw [show i = n by omega]
      exact hp

/-- A slice of records that the input brings. -/
theorem open_recs {α : Type} {encR : α → List D} {nf : Nat} {t e : TypeId} {fuel : Nat} {v : Value} {x : DataW H × List MemPlace} (ht : P.underlying t = some (.slice e)) (hC : P.cellsOf e = nf) (hnf : 0 < nf)
    (hlen : ∀ p, (encR p).length = nf)
    (hdec : ∀ (n : Nat) (cs : List Value) (y : DataW H × List MemPlace), DataW.trod enc P w base spare held n e cs = some y → ∃ p : α, ∀ (j : Nat) (d : D), (encR p)[j]? = some d → ∃ u : Value, cs[j]? = some u ∧ DRep w (· < w.heap.size) d u)
    (h : DataW.trod enc P w base spare held fuel t [v] = some x) : ∃ xs : List α, DRep w (· < w.heap.size) (.lst (xs.map encR)) v ∧ xs.length ≤ maxLen := by
  rcases open_slice ht h with ⟨h0, _⟩ | ⟨a, len, cap, m, n, D0, Pl, hcs, hb, hl, hm, hmm, hx, hi⟩
  · obtain rfl : v = .slice none 0 0 := by simpa using h0
    exact ⟨[], .nil, Nat.zero_le _⟩
  · obtain rfl : v = .slice (some a) len cap := by simpa using hcs
    have hlm : len ≤ m := by rw [hmm]; split <;> omega
    obtain ⟨xs, h1, h2⟩ := list_of (R := fun i (p : α) => ∀ (j : Nat) (d : D), (encR p)[j]? = some d → ∃ u : Value, w.cell? (a.add (i * nf + j)) = some u ∧ DRep w (· < w.heap.size) d u) len fun i hil => by
      obtain ⟨cs', hc, htr⟩ := hi i (by omega)
      obtain ⟨p, hp⟩ := hdec _ _ _ htr
      rw [hC] at hc
      obtain ⟨_, hcl, hat⟩ := World.cells?_some hc
      refine ⟨p, fun j d hd => ?_⟩
      obtain ⟨u, hu, hr⟩ := hp j d hd
      have hj : j < nf := by rw [← hlen p]; exact (List.getElem?_eq_some_iff.1 hd).1
      refine ⟨u, ?_, hr⟩
      rw [← Go.Deep.add_add, hat j hj, hu]
    refine ⟨xs, ?_, by omega⟩
    subst h1
    cases xs with
    | nil => exact .nil
    | cons p0 xs =>
      have hfirst : ∃ u, w.cell? (a.add 0) = some u := by
        have hd : (encR p0)[0]? = some ((encR p0)[0]'(by rw [hlen]; exact hnf)) := List.getElem?_eq_getElem _
        obtain ⟨u, hu, _⟩ := h2 0 p0 rfl 0 _ hd
        exact ⟨u, by simpa using hu⟩
      obtain ⟨u, hu⟩ := hfirst
      obtain ⟨b, off, spot⟩ := a
      have hs : spot = none ∧ b < w.heap.size := by
        unfold World.cell? Addr.add at hu
        simp only at hu
        split at hu
        · rename_i c _ _ hb
          refine ⟨?_, (Array.getElem?_eq_some_iff.1 hb).1⟩
          cases spot with
          | none => rfl
          | some q => simp at hu
        · cases hu
      obtain ⟨rfl, hbl⟩ := hs
      have := DRep.lst (w := w) (ok := (· < w.heap.size)) (rows := (p0 :: xs).map encR) (sz := nf) (b := b) (off := off) (cap := cap)
        (vs := fun i j => (w.cell? ⟨b, off + (i * nf + j), none⟩).getD undef) hbl
        (fun r hr => by obtain ⟨p, _, rfl⟩ := List.mem_map.1 hr; exact hlen p) (by rw [List.length_map]; exact hl)
        (fun i j r d hi hj => by
          rw [List.getElem?_map, Option.map_eq_some_iff] at hi
          obtain ⟨p, hp, rfl⟩ := hi
          obtain ⟨u, hu, _⟩ := h2 i p hp j d hj
          have hu : w.cell? ⟨b, off + (i * nf + j), none⟩ = some u := by rw [addr_add] at hu; exact hu
          rw [hu]; rfl)
        (fun i j r d hi hj => by
          rw [List.getElem?_map, Option.map_eq_some_iff] at hi
          obtain ⟨p, hp, rfl⟩ := hi
          obtain ⟨u, hu, hr⟩ := h2 i p hp j d hj
          have hu : w.cell? ⟨b, off + (i * nf + j), none⟩ = some u := by rw [addr_add] at hu; exact hu
          rw [hu]; exact hr)
      rwa [List.length_map] at this

end

/-- A law that is proved on the abstract machine, as the row asks for it. -/
theorem bridge {P : Program} {f : Nat} {args : List V} {vs : Array Value} {W : World} (hc : ACon P f args [] (Is (.d (.bool true)))) (hG : GlobG W (· < W.heap.size)) (hs : vs.size = args.length)
    (hv : ∀ (i : Nat) x, args[i]? = some x → VRep W (· < W.heap.size) [] x (vs.getD i undef)) : Calls P f vs W fun e W' => e = .returned (.bool true) ∧ Below W.heap.size W W' := by
  refine (hc.run W (· < W.heap.size) [] vs ⟨rfl, fun _ h => h, fun id o h => by simp at h, fun i j oi oj b h => by simp at h, fun i o b h => by simp at h, hG⟩ hs hv).mono ?_
  rintro e W' ⟨v, r, os, ok', ρ', rfl, ⟨rfl, rfl⟩, hI, hV, hF⟩
  cases hV with
  | d h =>
    cases h
    exact ⟨rfl, hF.os, hF.tape, hF.output, hF.size, fun k hk => hF.block k hk (fun id o h => by simp at h)⟩

section
variable {H : Type} {enc : TypeId × Value → H} {w : World} {base : Nat} {spare : Nat → Bool} {held : Bool}

/-- What a record's cells hold. -/
def DecR {α : Type} (w : World) (encR : α → List D) (ok : α → Prop) (cs : List Value) : Prop :=
  ∃ p : α, ok p ∧ ∀ (j : Nat) (d : D), (encR p)[j]? = some d → ∃ u : Value, cs[j]? = some u ∧ DRep w (· < w.heap.size) d u

theorem decByte (n : Nat) (cs : List Value) (y : DataW H × List MemPlace) (h : DataW.trod enc Tryz.prog w base spare held n 5 cs = some y) :
    DecR w encByte (fun _ => True) cs := by
  obtain ⟨k, rfl, _, hw⟩ := DataW.trod_int Tryz.underlying5 h
  have hb : 0 ≤ k ∧ k < 256 := by
    simp only [Lit.wf, Bool.and_eq_true, decide_eq_true_eq] at hw
    have h1 : IntKind.u8.min = 0 := by decide
    have h2 : IntKind.u8.max = 255 := by decide
    omega
  refine ⟨⟨k, hb⟩, trivial, fun j d hd => ?_⟩
  match j with
  | 0 => cases hd; exact ⟨_, rfl, .int⟩
  | n + 1 => simp [encByte] at hd

end
end Go.Proofs.YtmjofbjglhdkjaaGreatDoor

namespace Go.Proofs.YtmjofbjglhdkjaaGreatDoor
open Go.Fw

/-- Rows of which the first ones are done. -/
def mix {α : Type} (ys zs : List α) (k : Nat) : List α := ys.take k ++ zs.drop k
theorem mix_at {α : Type} {ys zs : List α} {k : Nat} (h : ys.length = zs.length) (hk : k < zs.length) : (mix ys zs k)[k]? = some zs[k] := by
  unfold mix
  rw [List.getElem?_append_right (by simp; omega)]
  simp only [List.length_take]
  rw [show k - min k ys.length = 0 by omega, List.getElem?_drop, Nat.add_zero, List.getElem?_eq_getElem hk]
theorem mix_set {α : Type} {ys zs : List α} {k : Nat} (h : ys.length = zs.length) (hk : k < ys.length) : (mix ys zs k).set k ys[k] = mix ys zs (k + 1) := by
  unfold mix
  rw [List.set_append_right _ _ (by simp; omega)]
  simp only [List.length_take]
  rw [show k - min k ys.length = 0 by omega, List.drop_eq_getElem_cons (show k < zs.length by omega), List.set_cons_zero, List.take_succ_eq_append_getElem hk, List.append_assoc]
  rfl
theorem mixmap_at {α β : Type} {f : α → β} {ys zs : List α} {k : Nat} (h : ys.length = zs.length) (hk : k < zs.length) : ((mix ys zs k).map f)[k]? = some (f zs[k]) := by
  rw [List.getElem?_map, mix_at h hk, Option.map_some]
theorem mixmap_set {α β : Type} {f : α → β} {ys zs : List α} {k : Nat} (h : ys.length = zs.length) (hk : k < ys.length) : ((mix ys zs k).map f).set k (f ys[k]) = (mix ys zs (k + 1)).map f := by
  rw [← List.map_set, mix_set h hk]
theorem mix_all {α : Type} {ys zs : List α} (h : ys.length = zs.length) : mix ys zs ys.length = ys := by unfold mix; rw [List.take_length, h, List.drop_length, List.append_nil]
theorem mix_zero {α : Type} {ys zs : List α} : mix ys zs 0 = zs := by simp [mix]

end Go.Proofs.YtmjofbjglhdkjaaGreatDoor

namespace Go.Proofs.YtmjofbjglhdkjaaGreatDoor
open Go.Fw
attribute [local irreducible] Go.Fw.aops Go.Fw.arun

structure Rect where
  x : Int
  y : Int
  w : Int
  h : Int
@[go_sem] def encRect (r : Rect) : List D := [.int .i64 r.x, .int .i64 r.y, .int .i64 r.w, .int .i64 r.h]
@[go_sem] def vRect (r : Rect) : V := .agg ((encRect r).map .d)

/-- The numbers are small. -/
structure RectSm (r : Rect) : Prop where
  x : -2^40 < r.x ∧ r.x < 2^40
  y : -2^40 < r.y ∧ r.y < 2^40
  w : -2^40 < r.w ∧ r.w < 2^40
  h : -2^40 < r.h ∧ r.h < 2^40

/-- A rectangle in the room. -/
structure RectIn (r : Rect) : Prop where
  x : 0 ≤ r.x
  y : 0 ≤ r.y
  w : 0 ≤ r.w
  h : 0 ≤ r.h
  xw : r.x + r.w ≤ 400
  yh : r.y + r.h ≤ 400
theorem RectIn.sm {r : Rect} (h : RectIn r) : RectSm r := by
  obtain ⟨h1, h2, h3, h4, h5, h6⟩ := h
  constructor <;> omega

def roomOk (w h : Int) : Bool := decide (0 ≤ w ∧ w ≤ 400 ∧ 0 ≤ h ∧ h ≤ 400)
theorem roomOk_iff {w h : Int} (hr : roomOk w h = true) : 0 ≤ w ∧ w ≤ 400 ∧ 0 ≤ h ∧ h ≤ 400 := by simpa [roomOk] using hr
theorem c_sizeOk (w h : Int) : ACon Tryz.prog 38 [.d (.int .i64 w), .d (.int .i64 h)] [] (Is (.d (.bool (roomOk w h)))) := by
  refine ACon.introW tok (nt := 11) Tryz.func38 rfl rfl rfl (by kernel_rfl) rfl ?_
  repeat' (first | ((with_reducible apply xsim); (first | ((with_reducible apply xo); exact rfl) | with_reducible apply xend | ((with_reducible apply xguardTS); exact rfl; exact rfl) | ((with_reducible apply xguardS); exact rfl; exact rfl) | ((with_reducible apply xcallIs); exact rfl; exact rfl; exact c_within _ _ _; exact rfl) | simp -implicitDefEqProofs only [go_sem, Int.reduceEq, Int.reduceLT, Int.reduceLE, Nat.reduceAdd, Nat.reduceSub, Nat.reduceMul, Nat.reduceEqDiff, Nat.reduceLeDiff, Nat.reducePow, ↓reduceIte, reduceCtorEq])) | ((with_reducible apply xaw); (first | ((with_reducible apply xstepS); refine AW.step tok rfl ?_) | ((with_reducible apply xstep); refine AW.region tok rfl ?_) | with_reducible (first | refine AW.seq ?_ | refine AW.block ?_ | refine AW.skip ?_ | refine AW.ret ?_ | refine AW.exit ?_) | ((with_reducible apply xcond); exact rfl))) | with_reducible (first | refine xthen ?_ | refine xthen_r ?_ | refine xthen_e ?_ | refine xblock ?_ | refine xblock_r ?_ | refine xblock_e ?_ | refine xblock_n rfl ?_ | refine xround_r ?_ | refine xround_e ?_) | (with_reducible intro hc; (try simp only [decide_eq_true_eq, decide_eq_false_iff_not, Bool.not_true, Bool.not_false, Bool.not_eq_true', Bool.not_eq_false', ne_eq, not_true, reduceCtorEq] at hc); (try (exfalso; omega))) | with_reducible (first | exact trivial | refine And.intro ?_ ?_ | exact rfl | exact Nat.le_refl _) | exact Eq.refl true | exact (rfl : (_ : List Nat) = _) | exact Nat.le_of_ble_eq_true rfl | (refine inR_i64.mpr ?_; first | omega | (simp only [List.length_map]; omega)) | omega)
  all_goals (refine xfinIs (by first | exact .inl rfl | exact .inr rfl) rfl (by repeat' (first | exact trivial | exact rfl | refine And.intro ?_ ?_)) rfl ?_ rfl; first | with_reducible exact rfl | (simp -implicitDefEqProofs only [go_sem, Int.reduceEq, Int.reduceLT, Int.reduceLE, Nat.reduceAdd, Nat.reduceSub, Nat.reduceMul, Nat.reduceEqDiff, Nat.reduceLeDiff, Nat.reducePow, ↓reduceIte, reduceCtorEq, roomOk] <;> (first | rfl | omega | exact decide_eq_decide.2 (by omega) | exact decide_eq_false (by omega) | exact decide_eq_true (by omega) | (symm; first | exact decide_eq_false (by omega) | exact decide_eq_true (by omega)) | (rw [Bool.eq_iff_iff]; simp only [Bool.not_eq_true', Bool.not_eq_false', Bool.and_eq_true, Bool.or_eq_true, decide_eq_true_eq, decide_eq_false_iff_not, reduceCtorEq, true_iff, iff_true, false_iff, iff_false]; omega))))
theorem c_goodRoom (w h : Int) : ACon Tryz.prog 52 [.d (.int .i64 w), .d (.int .i64 h)] [] (Is (.d (.bool (roomOk w h)))) := by
  refine ACon.introW tok (nt := 11) Tryz.func52 rfl rfl rfl (by kernel_rfl) rfl ?_
  repeat' (first | ((with_reducible apply xsim); (first | ((with_reducible apply xo); exact rfl) | with_reducible apply xend | ((with_reducible apply xguardTS); exact rfl; exact rfl) | ((with_reducible apply xguardS); exact rfl; exact rfl) | ((with_reducible apply xcallIs); exact rfl; exact rfl; exact c_inRange _ _ _; exact rfl) | simp -implicitDefEqProofs only [go_sem, Int.reduceEq, Int.reduceLT, Int.reduceLE, Nat.reduceAdd, Nat.reduceSub, Nat.reduceMul, Nat.reduceEqDiff, Nat.reduceLeDiff, Nat.reducePow, ↓reduceIte, reduceCtorEq])) | ((with_reducible apply xaw); (first | ((with_reducible apply xstepS); refine AW.step tok rfl ?_) | ((with_reducible apply xstep); refine AW.region tok rfl ?_) | with_reducible (first | refine AW.seq ?_ | refine AW.block ?_ | refine AW.skip ?_ | refine AW.ret ?_ | refine AW.exit ?_) | ((with_reducible apply xcond); exact rfl))) | with_reducible (first | refine xthen ?_ | refine xthen_r ?_ | refine xthen_e ?_ | refine xblock ?_ | refine xblock_r ?_ | refine xblock_e ?_ | refine xblock_n rfl ?_ | refine xround_r ?_ | refine xround_e ?_) | (with_reducible intro hc; (try simp only [decide_eq_true_eq, decide_eq_false_iff_not, Bool.not_true, Bool.not_false, Bool.not_eq_true', Bool.not_eq_false', ne_eq, not_true, reduceCtorEq] at hc); (try (exfalso; omega))) | with_reducible (first | exact trivial | refine And.intro ?_ ?_ | exact rfl | exact Nat.le_refl _) | exact Eq.refl true | exact (rfl : (_ : List Nat) = _) | exact Nat.le_of_ble_eq_true rfl | (refine inR_i64.mpr ?_; first | omega | (simp only [List.length_map]; omega)) | omega)
  all_goals (refine xfinIs (by first | exact .inl rfl | exact .inr rfl) rfl (by repeat' (first | exact trivial | exact rfl | refine And.intro ?_ ?_)) rfl ?_ rfl; first | with_reducible exact rfl | (simp -implicitDefEqProofs only [go_sem, Int.reduceEq, Int.reduceLT, Int.reduceLE, Nat.reduceAdd, Nat.reduceSub, Nat.reduceMul, Nat.reduceEqDiff, Nat.reduceLeDiff, Nat.reducePow, ↓reduceIte, reduceCtorEq, roomOk] <;> (first | rfl | omega | exact decide_eq_decide.2 (by omega) | exact decide_eq_false (by omega) | exact decide_eq_true (by omega) | (symm; first | exact decide_eq_false (by omega) | exact decide_eq_true (by omega)) | (rw [Bool.eq_iff_iff]; simp only [Bool.not_eq_true', Bool.not_eq_false', Bool.and_eq_true, Bool.or_eq_true, decide_eq_true_eq, decide_eq_false_iff_not, reduceCtorEq, true_iff, iff_true, false_iff, iff_false]; omega))))

def inset (r : Rect) (px py : Int) : Rect := ⟨r.x + min px (r.w.tdiv 2), r.y + min py (r.h.tdiv 2), max 0 (r.w - 2 * px), max 0 (r.h - 2 * py)⟩
theorem tdiv2 {n : Int} (h : 0 ≤ n) : 2 * n.tdiv 2 ≤ n ∧ n < 2 * n.tdiv 2 + 2 := by
  rw [Int.tdiv_eq_ediv_of_nonneg h]; omega
theorem c_insetI (r : Rect) (px py : Int) (hr : RectSm r) (h3 : 0 ≤ r.w) (h4 : 0 ≤ r.h) (hx : 0 ≤ px ∧ px ≤ 10) (hy : 0 ≤ py ∧ py ≤ 10) :
    ACon Tryz.prog 68 [vRect r, .d (.int .i64 px), .d (.int .i64 py)] [] (Is (vRect (inset r px py))) := by
  have ⟨h1, h2, g3, g4⟩ := hr
  have e1 := tdiv2 h3
  have e2 := tdiv2 h4
  refine ACon.introW tok (nt := 36) Tryz.func68 rfl rfl rfl (by kernel_rfl) rfl ?_
  repeat' (first | ((with_reducible apply xsim); (first | ((with_reducible apply xbld); exact rfl; exact rfl; exact rfl; (try simp only [List.set_cons_zero, List.set_cons_succ])) | ((with_reducible apply xo); exact rfl) | ((with_reducible apply xst); exact rfl) | with_reducible apply xend | ((with_reducible apply xalloc); exact rfl; simp only [backV, backVs, backVs_mapd, backId, backO, List.map_cons, List.map_nil, List.getElem?_nil, List.length_cons, List.length_nil, Nat.reduceAdd, Nat.reduceSub, List.cons_append, List.nil_append, List.append_nil]) | ((with_reducible apply xbox); exact rfl; simp only [backV, backVs, backVs_mapd, backId, backO, List.map_cons, List.map_nil, List.getElem?_nil, List.length_cons, List.length_nil, Nat.reduceAdd, Nat.reduceSub, List.cons_append, List.nil_append, List.append_nil]) | simp -implicitDefEqProofs only [go_sem, Int.reduceEq, Int.reduceLT, Int.reduceLE, Nat.reduceAdd, Nat.reduceSub, Nat.reduceMul, Nat.reduceEqDiff, Nat.reduceLeDiff, Nat.reducePow, ↓reduceIte, reduceCtorEq])) | ((with_reducible apply xaw); (first | ((with_reducible apply xstepS); refine AW.step tok rfl ?_) | ((with_reducible apply xstep); refine AW.region tok rfl ?_) | with_reducible (first | refine AW.seq ?_ | refine AW.block ?_ | refine AW.skip ?_ | refine AW.ret ?_ | refine AW.exit ?_) | ((with_reducible apply xcond); exact rfl))) | with_reducible (first | refine xthen ?_ | refine xthen_r ?_ | refine xthen_e ?_ | refine xblock ?_ | refine xblock_r ?_ | refine xblock_e ?_ | refine xblock_n rfl ?_ | refine xround_r ?_ | refine xround_e ?_) | (with_reducible intro hc; (try simp only [decide_eq_true_eq, decide_eq_false_iff_not, Bool.not_true, Bool.not_false, Bool.not_eq_true', Bool.not_eq_false', ne_eq, not_true, reduceCtorEq] at hc); (try (exfalso; omega))) | with_reducible (first | exact trivial | refine And.intro ?_ ?_ | exact rfl | exact Nat.le_refl _) | exact Eq.refl true | exact (rfl : (_ : List Nat) = _) | exact Nat.le_of_ble_eq_true rfl | (refine inR_i64.mpr ?_; first | omega | (simp only [List.length_map]; omega)) | omega)
  all_goals (refine xfinIs (by first | exact .inl rfl | exact .inr rfl) rfl (by repeat' (first | exact trivial | exact rfl | refine And.intro ?_ ?_)) rfl ?_ rfl; first | with_reducible exact rfl | (simp -implicitDefEqProofs only [go_sem, Int.reduceEq, Int.reduceLT, Int.reduceLE, Nat.reduceAdd, Nat.reduceSub, Nat.reduceMul, Nat.reduceEqDiff, Nat.reduceLeDiff, Nat.reducePow, ↓reduceIte, reduceCtorEq, inset, Int.max_comm] <;> (first | rfl | omega | exact decide_eq_decide.2 (by omega) | exact decide_eq_false (by omega) | exact decide_eq_true (by omega) | (symm; first | exact decide_eq_false (by omega) | exact decide_eq_true (by omega)) | (rw [Bool.eq_iff_iff]; simp only [Bool.not_eq_true', Bool.not_eq_false', Bool.and_eq_true, Bool.or_eq_true, decide_eq_true_eq, decide_eq_false_iff_not, reduceCtorEq, true_iff, iff_true, false_iff, iff_false]; omega))))
theorem c_insetS (r : Rect) (px py : Int) (hr : RectSm r) (h3 : 0 ≤ r.w) (h4 : 0 ≤ r.h) (hx : 0 ≤ px ∧ px ≤ 10) (hy : 0 ≤ py ∧ py ≤ 10) :
    ACon Tryz.prog 91 [vRect r, .d (.int .i64 px), .d (.int .i64 py)] [] (Is (vRect (inset r px py))) := by
  have ⟨h1, h2, g3, g4⟩ := hr
  have e1 := tdiv2 h3
  have e2 := tdiv2 h4
  refine ACon.introW tok (nt := 36) Tryz.func91 rfl rfl rfl (by kernel_rfl) rfl ?_
  repeat' (first | ((with_reducible apply xsim); (first | ((with_reducible apply xbld); exact rfl; exact rfl; exact rfl; (try simp only [List.set_cons_zero, List.set_cons_succ])) | ((with_reducible apply xo); exact rfl) | ((with_reducible apply xst); exact rfl) | with_reducible apply xend | ((with_reducible apply xalloc); exact rfl; simp only [backV, backVs, backVs_mapd, backId, backO, List.map_cons, List.map_nil, List.getElem?_nil, List.length_cons, List.length_nil, Nat.reduceAdd, Nat.reduceSub, List.cons_append, List.nil_append, List.append_nil]) | ((with_reducible apply xbox); exact rfl; simp only [backV, backVs, backVs_mapd, backId, backO, List.map_cons, List.map_nil, List.getElem?_nil, List.length_cons, List.length_nil, Nat.reduceAdd, Nat.reduceSub, List.cons_append, List.nil_append, List.append_nil]) | simp -implicitDefEqProofs only [go_sem, Int.reduceEq, Int.reduceLT, Int.reduceLE, Nat.reduceAdd, Nat.reduceSub, Nat.reduceMul, Nat.reduceEqDiff, Nat.reduceLeDiff, Nat.reducePow, ↓reduceIte, reduceCtorEq])) | ((with_reducible apply xaw); (first | ((with_reducible apply xstepS); refine AW.step tok rfl ?_) | ((with_reducible apply xstep); refine AW.region tok rfl ?_) | with_reducible (first | refine AW.seq ?_ | refine AW.block ?_ | refine AW.skip ?_ | refine AW.ret ?_ | refine AW.exit ?_) | ((with_reducible apply xcond); exact rfl))) | with_reducible (first | refine xthen ?_ | refine xthen_r ?_ | refine xthen_e ?_ | refine xblock ?_ | refine xblock_r ?_ | refine xblock_e ?_ | refine xblock_n rfl ?_ | refine xround_r ?_ | refine xround_e ?_) | (with_reducible intro hc; (try simp only [decide_eq_true_eq, decide_eq_false_iff_not, Bool.not_true, Bool.not_false, Bool.not_eq_true', Bool.not_eq_false', ne_eq, not_true, reduceCtorEq] at hc); (try (exfalso; omega))) | with_reducible (first | exact trivial | refine And.intro ?_ ?_ | exact rfl | exact Nat.le_refl _) | exact Eq.refl true | exact (rfl : (_ : List Nat) = _) | exact Nat.le_of_ble_eq_true rfl | (refine inR_i64.mpr ?_; first | omega | (simp only [List.length_map]; omega)) | omega)
  all_goals (refine xfinIs (by first | exact .inl rfl | exact .inr rfl) rfl (by repeat' (first | exact trivial | exact rfl | refine And.intro ?_ ?_)) rfl ?_ rfl; first | with_reducible exact rfl | (simp -implicitDefEqProofs only [go_sem, Int.reduceEq, Int.reduceLT, Int.reduceLE, Nat.reduceAdd, Nat.reduceSub, Nat.reduceMul, Nat.reduceEqDiff, Nat.reduceLeDiff, Nat.reducePow, ↓reduceIte, reduceCtorEq, inset] <;> (first | rfl | omega | exact decide_eq_decide.2 (by omega) | exact decide_eq_false (by omega) | exact decide_eq_true (by omega) | (symm; first | exact decide_eq_false (by omega) | exact decide_eq_true (by omega)) | (rw [Bool.eq_iff_iff]; simp only [Bool.not_eq_true', Bool.not_eq_false', Bool.and_eq_true, Bool.or_eq_true, decide_eq_true_eq, decide_eq_false_iff_not, reduceCtorEq, true_iff, iff_true, false_iff, iff_false]; omega))))

end Go.Proofs.YtmjofbjglhdkjaaGreatDoor

namespace Go.Proofs.YtmjofbjglhdkjaaGreatDoor
open Go.Fw
attribute [local irreducible] Go.Fw.aops Go.Fw.arun

/-! Numbers in decimal. -/
theorem nDigits_le : ∀ (k u : Nat), u < 10 ^ (k + 1) → Lib.nDigits u ≤ k + 1
  | 0, u, h => by rw [Lib.nDigits_small (by simpa using h)]; omega
  | k + 1, u, h => by
    by_cases hu : u < 10
    · rw [Lib.nDigits_small hu]; omega
    · rw [Lib.nDigits_big hu]
      have := nDigits_le k (u / 10) (by rw [Nat.pow_succ] at h; omega)
      omega
theorem itoa_len {n : Int} (h : -2^63 ≤ n ∧ n < 2^63) : (Lib.itoa n).length ≤ 20 := by
  have e : (10 : Nat) ^ 19 = 10000000000000000000 := by decide
  unfold Lib.itoa
  split
  · simp only [List.length_cons, Lib.decDigits_length]
    have := nDigits_le 18 n.natAbs (by rw [e]; omega)
    omega
  · rw [Lib.decDigits_length]
    have := nDigits_le 18 n.toNat (by rw [e]; omega)
    omega
theorem itoa_neg {n : Int} (h : n < 0) : Lib.itoa n = 45 :: Lib.itoa (0 - n) := by
  unfold Lib.itoa
  rw [if_pos h, if_neg (by omega)]
  rw [show n.natAbs = (0 - n).toNat by omega]
theorem itoa_big {n : Int} (h : ¬ n < 10) : Lib.itoa n = Lib.itoa (n.tdiv 10) ++ Lib.itoa (n.tmod 10) := by
  have e1 : n.tdiv 10 = n / 10 := Int.tdiv_eq_ediv_of_nonneg (by omega)
  have e2 : n.tmod 10 = n % 10 := Int.tmod_eq_emod_of_nonneg (by omega)
  rw [e1, e2]
  unfold Lib.itoa
  rw [if_neg (by omega), if_neg (by omega), if_neg (by omega)]
  rw [Lib.decDigits, dif_neg (by omega), show (n / 10).toNat = n.toNat / 10 by omega, show (n % 10).toNat = n.toNat % 10 by omega, Lib.decDigits_one (i := n.toNat % 10) (by omega)]

theorem below_grow (w : World) (k : Nat) (os : Array Obj) : Go.RowKit.Below w.heap.size w (Go.Sort.grow (w.drewN k) os) :=
  ⟨rfl, rfl, rfl, by show w.heap.size ≤ (w.heap ++ os).size; rw [Array.size_append]; omega, fun j hj => by show (w.heap ++ os)[j]? = _; rw [Array.getElem?_append_left hj]⟩
theorem arg_int {w : World} {ok : Nat → Prop} {vs : Array Value} {n : Int} (hs : vs.size = [V.d (.int .i64 n)].length) (hv : ∀ (i : Nat) x, [V.d (.int .i64 n)][i]? = some x → VRep w ok [] x (vs.getD i undef)) : vs = #[.int .i64 n] := by
  have h0 := hv 0 _ rfl
  obtain ⟨l⟩ := vs
  match l, hs with
  | [v], _ =>
    have h0 : VRep w ok [] (.d (.int .i64 n)) v := h0
    cases h0 with | d h0 => cases h0; rfl
theorem c_Itoa (n : Int) (h : -2^63 ≤ n ∧ n < 2^63) : ACon Tryz.prog 36 [.d (.int .i64 n)] [] (Is (.d (.str (Lib.itoa n)))) := by
  refine ACon.libF (by kernel_rfl) rfl fun w ok vs hG hs hv => ?_
  rw [arg_int hs hv]
  refine (Tryz.strconv_Itoa n (by omega) (by omega) w (tabPow hG)).mono ?_
  rintro e w' ⟨rfl, k, os, rfl⟩
  exact ⟨below_grow w k os, _, rfl, fun _ _ => .d .str⟩
theorem c_numberP : ∀ (k : Nat) (n : Int), n.natAbs < k → 0 ≤ n ∧ n < 2^60 → ACon Tryz.prog 25 [.d (.int .i64 n)] [] (Is (.d (.str (Lib.itoa n)))) := by
  intro k
  induction k with
  | zero => intro n hk; omega
  | succ k ih =>
    intro n hk hn
    by_cases h1 : n < 10
    · have hc : n = 0 ∨ n = 1 ∨ n = 2 ∨ n = 3 ∨ n = 4 ∨ n = 5 ∨ n = 6 ∨ n = 7 ∨ n = 8 ∨ n = 9 := by omega
      have e : ∀ i : Nat, i < 10 → Lib.itoa (i : Int) = [UInt8.ofNat (48 + i)] := fun i hi => by
        unfold Lib.itoa
        rw [if_neg (by omega), Int.toNat_natCast, Lib.decDigits_one hi]
      have e0 := e 0 (by decide)
      have e1 := e 1 (by decide)
      have e2 := e 2 (by decide)
      have e3 := e 3 (by decide)
      have e4 := e 4 (by decide)
      have e5 := e 5 (by decide)
      have e6 := e 6 (by decide)
      have e7 := e 7 (by decide)
      have e8 := e 8 (by decide)
      have e9 := e 9 (by decide)
      clear e
      rcases hc with rfl | rfl | rfl | rfl | rfl | rfl | rfl | rfl | rfl | rfl
      all_goals first | rw [show Lib.itoa 0 = [48] from e0] | rw [show Lib.itoa 1 = [49] from e1] | rw [show Lib.itoa 2 = [50] from e2] | rw [show Lib.itoa 3 = [51] from e3] | rw [show Lib.itoa 4 = [52] from e4] | rw [show Lib.itoa 5 = [53] from e5] | rw [show Lib.itoa 6 = [54] from e6] | rw [show Lib.itoa 7 = [55] from e7] | rw [show Lib.itoa 8 = [56] from e8] | rw [show Lib.itoa 9 = [57] from e9]
      all_goals
        refine ACon.introW tok (nt := 22) Tryz.func25 rfl rfl rfl (by kernel_rfl) rfl ?_
        repeat' (first | ((with_reducible apply xsim); (first | ((with_reducible apply xo); exact rfl) | with_reducible apply xend | ((with_reducible apply xslcSLo); exact rfl; exact rfl; exact rfl; (first | omega | (simp only [List.length_append, List.length_cons, List.length_nil]; omega))) | ((with_reducible apply xslcSHi); exact rfl; exact rfl; exact rfl; (first | omega | (simp only [List.length_append, List.length_cons, List.length_nil]; omega))) | ((with_reducible apply xslcSB); exact rfl; exact rfl; exact rfl; exact rfl; (first | omega | (simp only [List.length_append, List.length_cons, List.length_nil]; omega))) | ((with_reducible apply xslcLo); exact rfl; exact rfl; exact rfl; exact (fun r hr => by obtain ⟨a, _, rfl⟩ := List.mem_map.1 hr; rfl); first | omega | (simp only [List.length_cons, List.length_nil]; omega)) | ((with_reducible apply xslcHi); exact rfl; exact rfl; exact rfl; exact (fun r hr => by obtain ⟨a, _, rfl⟩ := List.mem_map.1 hr; rfl); first | omega | (simp only [List.length_cons, List.length_nil]; omega)) | ((with_reducible apply xslcB); exact rfl; exact rfl; exact rfl; exact rfl; exact (fun r hr => by obtain ⟨a, _, rfl⟩ := List.mem_map.1 hr; rfl); first | omega | (simp only [List.length_cons, List.length_nil]; omega)) | ((with_reducible apply xslcMHi); exact rfl; exact rfl; exact rfl; (first | omega | (simp only [List.length_cons, List.length_nil]; omega))) | ((with_reducible apply xslcMLo); exact rfl; exact rfl; exact rfl; (first | omega | (simp only [List.length_cons, List.length_nil]; omega))) | ((with_reducible apply xslcMB); exact rfl; exact rfl; exact rfl; exact rfl; (first | omega | (simp only [List.length_cons, List.length_nil]; omega))) | simp -implicitDefEqProofs only [go_sem, Int.reduceEq, Int.reduceLT, Int.reduceLE, Nat.reduceAdd, Nat.reduceSub, Nat.reduceMul, Nat.reduceEqDiff, Nat.reduceLeDiff, Nat.reducePow, ↓reduceIte, reduceCtorEq, Int.reduceToNat, Int.reduceAdd, List.take_succ_cons, List.take_zero, List.drop_zero, List.drop_succ_cons])) | ((with_reducible apply xaw); (first | ((with_reducible apply xstepS); refine AW.step tok rfl ?_) | ((with_reducible apply xstep); refine AW.region tok rfl ?_) | with_reducible (first | refine AW.seq ?_ | refine AW.block ?_ | refine AW.skip ?_ | refine AW.ret ?_ | refine AW.exit ?_) | ((with_reducible apply xcond); exact rfl))) | with_reducible (first | refine xthen ?_ | refine xthen_r ?_ | refine xthen_e ?_ | refine xblock ?_ | refine xblock_r ?_ | refine xblock_e ?_ | refine xblock_n rfl ?_ | refine xround_r ?_ | refine xround_e ?_) | (with_reducible intro hc; (try simp only [decide_eq_true_eq, decide_eq_false_iff_not, Bool.not_true, Bool.not_false, Bool.not_eq_true', Bool.not_eq_false', ne_eq, not_true, reduceCtorEq, Int.reduceToNat, Int.reduceAdd, List.take_succ_cons, List.take_zero, List.drop_zero, List.drop_succ_cons] at hc); (try (exfalso; omega))) | with_reducible (first | exact trivial | refine And.intro ?_ ?_ | exact rfl | exact Nat.le_refl _) | exact Eq.refl true | exact (rfl : (_ : List Nat) = _) | exact Nat.le_of_ble_eq_true rfl | (refine inR_i64.mpr ?_; first | omega | (simp only [List.length_map, Int.reduceToNat, Int.reduceAdd, List.take_succ_cons, List.take_zero, List.drop_zero, List.drop_succ_cons]; omega)) | omega)
      all_goals (refine xfinIs (by first | exact .inl rfl | exact .inr rfl) rfl (by repeat' (first | exact trivial | exact rfl | refine And.intro ?_ ?_)) rfl ?_ rfl; first | with_reducible exact rfl | (simp -implicitDefEqProofs only [go_sem, Int.reduceEq, Int.reduceLT, Int.reduceLE, Nat.reduceAdd, Nat.reduceSub, Nat.reduceMul, Nat.reduceEqDiff, Nat.reduceLeDiff, Nat.reducePow, ↓reduceIte, reduceCtorEq] <;> (first | rfl | omega | exact decide_eq_decide.2 (by omega) | exact decide_eq_false (by omega) | exact decide_eq_true (by omega) | (symm; first | exact decide_eq_false (by omega) | exact decide_eq_true (by omega)) | (rw [Bool.eq_iff_iff]; simp only [Bool.not_eq_true', Bool.not_eq_false', Bool.and_eq_true, Bool.or_eq_true, decide_eq_true_eq, decide_eq_false_iff_not, reduceCtorEq, true_iff, iff_true, false_iff, iff_false]; omega))))
    · have q : 0 ≤ n.tdiv 10 ∧ n.tdiv 10 < n := by
        rw [Int.tdiv_eq_ediv_of_nonneg (by omega)]; omega
      have q2 : 0 ≤ n.tmod 10 ∧ n.tmod 10 < 10 := by
        rw [Int.tmod_eq_emod_of_nonneg (by omega)]; omega
      have c1 := ih (n.tdiv 10) (by omega) (by omega)
      have c2 := ih (n.tmod 10) (by omega) (by omega)
      have l1 := itoa_len (n := n.tdiv 10) (by omega)
      have l2 := itoa_len (n := n.tmod 10) (by omega)
      rw [itoa_big h1]
      refine ACon.introW tok (nt := 22) Tryz.func25 rfl rfl rfl (by kernel_rfl) rfl ?_
      repeat' (first | ((with_reducible apply xsim); (first | ((with_reducible apply xo); exact rfl) | with_reducible apply xend | ((with_reducible apply xslcSLo); exact rfl; exact rfl; exact rfl; (first | omega | (simp only [List.length_append, List.length_cons, List.length_nil]; omega))) | ((with_reducible apply xslcSHi); exact rfl; exact rfl; exact rfl; (first | omega | (simp only [List.length_append, List.length_cons, List.length_nil]; omega))) | ((with_reducible apply xslcSB); exact rfl; exact rfl; exact rfl; exact rfl; (first | omega | (simp only [List.length_append, List.length_cons, List.length_nil]; omega))) | ((with_reducible apply xslcLo); exact rfl; exact rfl; exact rfl; exact (fun r hr => by obtain ⟨a, _, rfl⟩ := List.mem_map.1 hr; rfl); first | omega | (simp only [List.length_cons, List.length_nil]; omega)) | ((with_reducible apply xslcHi); exact rfl; exact rfl; exact rfl; exact (fun r hr => by obtain ⟨a, _, rfl⟩ := List.mem_map.1 hr; rfl); first | omega | (simp only [List.length_cons, List.length_nil]; omega)) | ((with_reducible apply xslcB); exact rfl; exact rfl; exact rfl; exact rfl; exact (fun r hr => by obtain ⟨a, _, rfl⟩ := List.mem_map.1 hr; rfl); first | omega | (simp only [List.length_cons, List.length_nil]; omega)) | ((with_reducible apply xslcMHi); exact rfl; exact rfl; exact rfl; (first | omega | (simp only [List.length_cons, List.length_nil]; omega))) | ((with_reducible apply xslcMLo); exact rfl; exact rfl; exact rfl; (first | omega | (simp only [List.length_cons, List.length_nil]; omega))) | ((with_reducible apply xslcMB); exact rfl; exact rfl; exact rfl; exact rfl; (first | omega | (simp only [List.length_cons, List.length_nil]; omega))) | ((with_reducible apply xcallIs); exact rfl; exact rfl; (first | exact c1 | exact c2); exact rfl) | simp -implicitDefEqProofs only [go_sem, Int.reduceEq, Int.reduceLT, Int.reduceLE, Nat.reduceAdd, Nat.reduceSub, Nat.reduceMul, Nat.reduceEqDiff, Nat.reduceLeDiff, Nat.reducePow, ↓reduceIte, reduceCtorEq])) | ((with_reducible apply xaw); (first | ((with_reducible apply xstepS); refine AW.step tok rfl ?_) | ((with_reducible apply xstep); refine AW.region tok rfl ?_) | with_reducible (first | refine AW.seq ?_ | refine AW.block ?_ | refine AW.skip ?_ | refine AW.ret ?_ | refine AW.exit ?_) | ((with_reducible apply xcond); exact rfl))) | with_reducible (first | refine xthen ?_ | refine xthen_r ?_ | refine xthen_e ?_ | refine xblock ?_ | refine xblock_r ?_ | refine xblock_e ?_ | refine xblock_n rfl ?_ | refine xround_r ?_ | refine xround_e ?_) | (with_reducible intro hc; (try simp only [decide_eq_true_eq, decide_eq_false_iff_not, Bool.not_true, Bool.not_false, Bool.not_eq_true', Bool.not_eq_false', ne_eq, not_true, reduceCtorEq] at hc); (try (exfalso; omega))) | with_reducible (first | exact trivial | refine And.intro ?_ ?_ | exact rfl | exact Nat.le_refl _) | exact Eq.refl true | exact (rfl : (_ : List Nat) = _) | exact Nat.le_of_ble_eq_true rfl | (refine inR_i64.mpr ?_; first | omega | (simp only [List.length_map]; omega)) | omega)
      all_goals (refine xfinIs (by first | exact .inl rfl | exact .inr rfl) rfl (by repeat' (first | exact trivial | exact rfl | refine And.intro ?_ ?_)) rfl ?_ rfl; first | with_reducible exact rfl | (simp -implicitDefEqProofs only [go_sem, Int.reduceEq, Int.reduceLT, Int.reduceLE, Nat.reduceAdd, Nat.reduceSub, Nat.reduceMul, Nat.reduceEqDiff, Nat.reduceLeDiff, Nat.reducePow, ↓reduceIte, reduceCtorEq] <;> (first | rfl | omega | exact decide_eq_decide.2 (by omega) | exact decide_eq_false (by omega) | exact decide_eq_true (by omega) | (symm; first | exact decide_eq_false (by omega) | exact decide_eq_true (by omega)) | (rw [Bool.eq_iff_iff]; simp only [Bool.not_eq_true', Bool.not_eq_false', Bool.and_eq_true, Bool.or_eq_true, decide_eq_true_eq, decide_eq_false_iff_not, reduceCtorEq, true_iff, iff_true, false_iff, iff_false]; omega))))
theorem c_number (n : Int) (hn : -2^60 < n ∧ n < 2^60) : ACon Tryz.prog 25 [.d (.int .i64 n)] [] (Is (.d (.str (Lib.itoa n)))) := by
  by_cases h0 : n < 0
  · have c1 := c_numberP ((0 - n).natAbs + 1) (0 - n) (by omega) (by omega)
    have l1 := itoa_len (n := 0 - n) (by omega)
    rw [itoa_neg h0]
    refine ACon.introW tok (nt := 22) Tryz.func25 rfl rfl rfl (by kernel_rfl) rfl ?_
    repeat' (first | ((with_reducible apply xsim); (first | ((with_reducible apply xo); exact rfl) | with_reducible apply xend | ((with_reducible apply xslcSLo); exact rfl; exact rfl; exact rfl; (first | omega | (simp only [List.length_append, List.length_cons, List.length_nil]; omega))) | ((with_reducible apply xslcSHi); exact rfl; exact rfl; exact rfl; (first | omega | (simp only [List.length_append, List.length_cons, List.length_nil]; omega))) | ((with_reducible apply xslcSB); exact rfl; exact rfl; exact rfl; exact rfl; (first | omega | (simp only [List.length_append, List.length_cons, List.length_nil]; omega))) | ((with_reducible apply xslcLo); exact rfl; exact rfl; exact rfl; exact (fun r hr => by obtain ⟨a, _, rfl⟩ := List.mem_map.1 hr; rfl); first | omega | (simp only [List.length_cons, List.length_nil]; omega)) | ((with_reducible apply xslcHi); exact rfl; exact rfl; exact rfl; exact (fun r hr => by obtain ⟨a, _, rfl⟩ := List.mem_map.1 hr; rfl); first | omega | (simp only [List.length_cons, List.length_nil]; omega)) | ((with_reducible apply xslcB); exact rfl; exact rfl; exact rfl; exact rfl; exact (fun r hr => by obtain ⟨a, _, rfl⟩ := List.mem_map.1 hr; rfl); first | omega | (simp only [List.length_cons, List.length_nil]; omega)) | ((with_reducible apply xslcMHi); exact rfl; exact rfl; exact rfl; (first | omega | (simp only [List.length_cons, List.length_nil]; omega))) | ((with_reducible apply xslcMLo); exact rfl; exact rfl; exact rfl; (first | omega | (simp only [List.length_cons, List.length_nil]; omega))) | ((with_reducible apply xslcMB); exact rfl; exact rfl; exact rfl; exact rfl; (first | omega | (simp only [List.length_cons, List.length_nil]; omega))) | ((with_reducible apply xcallIs); exact rfl; exact rfl; exact c1; exact rfl) | simp -implicitDefEqProofs only [go_sem, Int.reduceEq, Int.reduceLT, Int.reduceLE, Nat.reduceAdd, Nat.reduceSub, Nat.reduceMul, Nat.reduceEqDiff, Nat.reduceLeDiff, Nat.reducePow, ↓reduceIte, reduceCtorEq])) | ((with_reducible apply xaw); (first | ((with_reducible apply xstepS); refine AW.step tok rfl ?_) | ((with_reducible apply xstep); refine AW.region tok rfl ?_) | with_reducible (first | refine AW.seq ?_ | refine AW.block ?_ | refine AW.skip ?_ | refine AW.ret ?_ | refine AW.exit ?_) | ((with_reducible apply xcond); exact rfl))) | with_reducible (first | refine xthen ?_ | refine xthen_r ?_ | refine xthen_e ?_ | refine xblock ?_ | refine xblock_r ?_ | refine xblock_e ?_ | refine xblock_n rfl ?_ | refine xround_r ?_ | refine xround_e ?_) | (with_reducible intro hc; (try simp only [decide_eq_true_eq, decide_eq_false_iff_not, Bool.not_true, Bool.not_false, Bool.not_eq_true', Bool.not_eq_false', ne_eq, not_true, reduceCtorEq] at hc); (try (exfalso; omega))) | with_reducible (first | exact trivial | refine And.intro ?_ ?_ | exact rfl | exact Nat.le_refl _) | exact Eq.refl true | exact (rfl : (_ : List Nat) = _) | exact Nat.le_of_ble_eq_true rfl | (refine inR_i64.mpr ?_; first | omega | (simp only [List.length_map]; omega)) | omega | (simp only [List.length_cons, List.length_nil]; omega))
    all_goals (refine xfinIs (by first | exact .inl rfl | exact .inr rfl) rfl (by repeat' (first | exact trivial | exact rfl | refine And.intro ?_ ?_)) rfl ?_ rfl; first | with_reducible exact rfl | (simp -implicitDefEqProofs only [go_sem, Int.reduceEq, Int.reduceLT, Int.reduceLE, Nat.reduceAdd, Nat.reduceSub, Nat.reduceMul, Nat.reduceEqDiff, Nat.reduceLeDiff, Nat.reducePow, ↓reduceIte, reduceCtorEq] <;> (first | rfl | omega | exact decide_eq_decide.2 (by omega) | exact decide_eq_false (by omega) | exact decide_eq_true (by omega) | (symm; first | exact decide_eq_false (by omega) | exact decide_eq_true (by omega)) | (rw [Bool.eq_iff_iff]; simp only [Bool.not_eq_true', Bool.not_eq_false', Bool.and_eq_true, Bool.or_eq_true, decide_eq_true_eq, decide_eq_false_iff_not, reduceCtorEq, true_iff, iff_true, false_iff, iff_false]; omega))))
  · exact c_numberP (n.natAbs + 1) n (by omega) (by omega)
end Go.Proofs.YtmjofbjglhdkjaaGreatDoor

namespace Go.Proofs.YtmjofbjglhdkjaaGreatDoor
open Go.Fw
attribute [local irreducible] Go.Fw.aops Go.Fw.arun

structure Pack where
  w : Int
  h : Int
  side : Int
  fillX : Bool
  fillY : Bool
  expand : Bool
  anchor : Int
  padX : Int
  padY : Int

@[go_sem] def encPack (p : Pack) : List D := [.int .i64 p.w, .int .i64 p.h, .int .i64 p.side, .bool p.fillX, .bool p.fillY, .bool p.expand, .int .i64 p.anchor, .int .i64 p.padX, .int .i64 p.padY]
@[go_sem] def vPack (p : Pack) : V := .agg ((encPack p).map .d)

def validPack (p : Pack) : Bool := decide (0 ≤ p.w ∧ p.w ≤ 30 ∧ 0 ≤ p.h ∧ p.h ≤ 30 ∧ 0 ≤ p.side ∧ p.side ≤ 3 ∧ 0 ≤ p.anchor ∧ p.anchor ≤ 8 ∧ 0 ≤ p.padX ∧ p.padX ≤ 10 ∧ 0 ≤ p.padY ∧ p.padY ≤ 10)

theorem validPack_iff {p : Pack} : validPack p = true ↔ (0 ≤ p.w ∧ p.w ≤ 30 ∧ 0 ≤ p.h ∧ p.h ≤ 30 ∧ 0 ≤ p.side ∧ p.side ≤ 3 ∧ 0 ≤ p.anchor ∧ p.anchor ≤ 8 ∧ 0 ≤ p.padX ∧ p.padX ≤ 10 ∧ 0 ≤ p.padY ∧ p.padY ≤ 10) := by
  simp [validPack]

theorem c_ValidPack (p : Pack) : ACon Tryz.prog 60 [vPack p] [] (Is (.d (.bool (validPack p)))) := by
  refine ACon.introW tok (nt := 31) Tryz.func60 rfl rfl rfl (by kernel_rfl) rfl ?_
  repeat' (first | ((with_reducible apply xsim); (first | ((with_reducible apply xo); exact rfl) | with_reducible apply xend | ((with_reducible apply xguardTS); exact rfl; exact rfl) | ((with_reducible apply xguardS); exact rfl; exact rfl) | ((with_reducible apply xbox); exact rfl; simp only [backV, backVs, backVs_mapd, backId, backO, List.map_cons, List.map_nil, List.getElem?_nil, List.length_cons, List.length_nil, Nat.reduceAdd, Nat.reduceSub, List.cons_append, List.nil_append, List.append_nil]) | ((with_reducible apply xcallIs); exact rfl; exact rfl; exact c_within _ _ _; exact rfl) | simp -implicitDefEqProofs only [go_sem, Int.reduceEq, Int.reduceLT, Int.reduceLE, Nat.reduceAdd, Nat.reduceSub, Nat.reduceMul, Nat.reduceEqDiff, Nat.reduceLeDiff, Nat.reducePow, ↓reduceIte, reduceCtorEq])) | ((with_reducible apply xaw); (first | ((with_reducible apply xstepS); refine AW.step tok rfl ?_) | ((with_reducible apply xstep); refine AW.region tok rfl ?_) | with_reducible (first | refine AW.seq ?_ | refine AW.block ?_ | refine AW.skip ?_ | refine AW.ret ?_ | refine AW.exit ?_) | ((with_reducible apply xcond); exact rfl))) | with_reducible (first | refine xthen ?_ | refine xthen_r ?_ | refine xthen_e ?_ | refine xblock ?_ | refine xblock_r ?_ | refine xblock_e ?_ | refine xblock_n rfl ?_ | refine xround_r ?_ | refine xround_e ?_) | (with_reducible intro hc; (try simp only [decide_eq_true_eq, decide_eq_false_iff_not, Bool.not_true, Bool.not_false, Bool.not_eq_true', Bool.not_eq_false', ne_eq, not_true, reduceCtorEq] at hc); (try (exfalso; omega))) | with_reducible (first | exact trivial | refine And.intro ?_ ?_ | exact rfl | exact Nat.le_refl _) | exact Eq.refl true | exact (rfl : (_ : List Nat) = _) | exact Nat.le_of_ble_eq_true rfl | (refine inR_i64.mpr ?_; first | omega | (simp only [List.length_map]; omega)) | omega)
  all_goals (refine xfinIs (by first | exact .inl rfl | exact .inr rfl) rfl (by repeat' (first | exact trivial | exact rfl | refine And.intro ?_ ?_)) rfl ?_ rfl; first | with_reducible exact rfl | (simp -implicitDefEqProofs only [go_sem, Int.reduceEq, Int.reduceLT, Int.reduceLE, Nat.reduceAdd, Nat.reduceSub, Nat.reduceMul, Nat.reduceEqDiff, Nat.reduceLeDiff, Nat.reducePow, ↓reduceIte, reduceCtorEq, validPack] <;> (first | rfl | omega | exact decide_eq_decide.2 (by omega) | exact decide_eq_false (by omega) | exact decide_eq_true (by omega) | (symm; first | exact decide_eq_false (by omega) | exact decide_eq_true (by omega)) | (rw [Bool.eq_iff_iff]; simp only [Bool.not_eq_true', Bool.not_eq_false', Bool.and_eq_true, Bool.or_eq_true, decide_eq_true_eq, decide_eq_false_iff_not, reduceCtorEq, true_iff, iff_true, false_iff, iff_false]; omega))))

theorem c_validSide (n : Int) : ACon Tryz.prog 75 [.d (.int .i64 n)] [] (Is (.d (.bool (decide (0 ≤ n ∧ n ≤ 3))))) := by
  refine ACon.introW tok (nt := 5) Tryz.func75 rfl rfl rfl (by kernel_rfl) rfl ?_
  repeat' (first | ((with_reducible apply xsim); (first | ((with_reducible apply xo); exact rfl) | with_reducible apply xend | ((with_reducible apply xcallIs); exact rfl; exact rfl; exact c_inRange _ _ _; exact rfl) | simp -implicitDefEqProofs only [go_sem, Int.reduceEq, Int.reduceLT, Int.reduceLE, Nat.reduceAdd, Nat.reduceSub, Nat.reduceMul, Nat.reduceEqDiff, Nat.reduceLeDiff, Nat.reducePow, ↓reduceIte, reduceCtorEq])) | ((with_reducible apply xaw); (first | ((with_reducible apply xstepS); refine AW.step tok rfl ?_) | ((with_reducible apply xstep); refine AW.region tok rfl ?_) | with_reducible (first | refine AW.seq ?_ | refine AW.block ?_ | refine AW.skip ?_ | refine AW.ret ?_ | refine AW.exit ?_) | ((with_reducible apply xcond); exact rfl))) | with_reducible (first | refine xthen ?_ | refine xthen_r ?_ | refine xthen_e ?_ | refine xblock ?_ | refine xblock_r ?_ | refine xblock_e ?_ | refine xblock_n rfl ?_ | refine xround_r ?_ | refine xround_e ?_) | (with_reducible intro hc; (try simp only [decide_eq_true_eq, decide_eq_false_iff_not, Bool.not_true, Bool.not_false, Bool.not_eq_true', Bool.not_eq_false', ne_eq, not_true, reduceCtorEq] at hc); (try (exfalso; omega))) | with_reducible (first | exact trivial | refine And.intro ?_ ?_ | exact rfl | exact Nat.le_refl _) | exact Eq.refl true | exact (rfl : (_ : List Nat) = _) | exact Nat.le_of_ble_eq_true rfl | (refine inR_i64.mpr ?_; first | omega | (simp only [List.length_map]; omega)) | omega)
  all_goals (refine xfinIs (by first | exact .inl rfl | exact .inr rfl) rfl (by repeat' (first | exact trivial | exact rfl | refine And.intro ?_ ?_)) rfl ?_ rfl; first | with_reducible exact rfl | (simp -implicitDefEqProofs only [go_sem, Int.reduceEq, Int.reduceLT, Int.reduceLE, Nat.reduceAdd, Nat.reduceSub, Nat.reduceMul, Nat.reduceEqDiff, Nat.reduceLeDiff, Nat.reducePow, ↓reduceIte, reduceCtorEq] <;> (first | rfl | omega | exact decide_eq_decide.2 (by omega) | exact decide_eq_false (by omega) | exact decide_eq_true (by omega) | (symm; first | exact decide_eq_false (by omega) | exact decide_eq_true (by omega)) | (rw [Bool.eq_iff_iff]; simp only [Bool.not_eq_true', Bool.not_eq_false', Bool.and_eq_true, Bool.or_eq_true, decide_eq_true_eq, decide_eq_false_iff_not, reduceCtorEq, true_iff, iff_true, false_iff, iff_false]; omega))))

theorem c_validAnchor (n : Int) : ACon Tryz.prog 76 [.d (.int .i64 n)] [] (Is (.d (.bool (decide (0 ≤ n ∧ n ≤ 8))))) := by
  refine ACon.introW tok (nt := 5) Tryz.func76 rfl rfl rfl (by kernel_rfl) rfl ?_
  repeat' (first | ((with_reducible apply xsim); (first | ((with_reducible apply xo); exact rfl) | with_reducible apply xend | ((with_reducible apply xcallIs); exact rfl; exact rfl; exact c_inRange _ _ _; exact rfl) | simp -implicitDefEqProofs only [go_sem, Int.reduceEq, Int.reduceLT, Int.reduceLE, Nat.reduceAdd, Nat.reduceSub, Nat.reduceMul, Nat.reduceEqDiff, Nat.reduceLeDiff, Nat.reducePow, ↓reduceIte, reduceCtorEq])) | ((with_reducible apply xaw); (first | ((with_reducible apply xstepS); refine AW.step tok rfl ?_) | ((with_reducible apply xstep); refine AW.region tok rfl ?_) | with_reducible (first | refine AW.seq ?_ | refine AW.block ?_ | refine AW.skip ?_ | refine AW.ret ?_ | refine AW.exit ?_) | ((with_reducible apply xcond); exact rfl))) | with_reducible (first | refine xthen ?_ | refine xthen_r ?_ | refine xthen_e ?_ | refine xblock ?_ | refine xblock_r ?_ | refine xblock_e ?_ | refine xblock_n rfl ?_ | refine xround_r ?_ | refine xround_e ?_) | (with_reducible intro hc; (try simp only [decide_eq_true_eq, decide_eq_false_iff_not, Bool.not_true, Bool.not_false, Bool.not_eq_true', Bool.not_eq_false', ne_eq, not_true, reduceCtorEq] at hc); (try (exfalso; omega))) | with_reducible (first | exact trivial | refine And.intro ?_ ?_ | exact rfl | exact Nat.le_refl _) | exact Eq.refl true | exact (rfl : (_ : List Nat) = _) | exact Nat.le_of_ble_eq_true rfl | (refine inR_i64.mpr ?_; first | omega | (simp only [List.length_map]; omega)) | omega)
  all_goals (refine xfinIs (by first | exact .inl rfl | exact .inr rfl) rfl (by repeat' (first | exact trivial | exact rfl | refine And.intro ?_ ?_)) rfl ?_ rfl; first | with_reducible exact rfl | (simp -implicitDefEqProofs only [go_sem, Int.reduceEq, Int.reduceLT, Int.reduceLE, Nat.reduceAdd, Nat.reduceSub, Nat.reduceMul, Nat.reduceEqDiff, Nat.reduceLeDiff, Nat.reducePow, ↓reduceIte, reduceCtorEq] <;> (first | rfl | omega | exact decide_eq_decide.2 (by omega) | exact decide_eq_false (by omega) | exact decide_eq_true (by omega) | (symm; first | exact decide_eq_false (by omega) | exact decide_eq_true (by omega)) | (rw [Bool.eq_iff_iff]; simp only [Bool.not_eq_true', Bool.not_eq_false', Bool.and_eq_true, Bool.or_eq_true, decide_eq_true_eq, decide_eq_false_iff_not, reduceCtorEq, true_iff, iff_true, false_iff, iff_false]; omega))))

theorem c_validPack (p : Pack) : ACon Tryz.prog 49 [vPack p] [] (Is (.d (.bool (validPack p)))) := by
  refine ACon.introW tok (nt := 31) Tryz.func49 rfl rfl rfl (by kernel_rfl) rfl ?_
  repeat' (first | ((with_reducible apply xsim); (first | ((with_reducible apply xo); exact rfl) | with_reducible apply xend | ((with_reducible apply xguardTS); exact rfl; exact rfl) | ((with_reducible apply xguardS); exact rfl; exact rfl) | ((with_reducible apply xbox); exact rfl; simp only [backV, backVs, backVs_mapd, backId, backO, List.map_cons, List.map_nil, List.getElem?_nil, List.length_cons, List.length_nil, Nat.reduceAdd, Nat.reduceSub, List.cons_append, List.nil_append, List.append_nil]) | ((with_reducible apply xcallIs); exact rfl; exact rfl; (first | exact c_inRange _ _ _ | exact c_validSide _ | exact c_validAnchor _); exact rfl) | simp -implicitDefEqProofs only [go_sem, Int.reduceEq, Int.reduceLT, Int.reduceLE, Nat.reduceAdd, Nat.reduceSub, Nat.reduceMul, Nat.reduceEqDiff, Nat.reduceLeDiff, Nat.reducePow, ↓reduceIte, reduceCtorEq])) | ((with_reducible apply xaw); (first | ((with_reducible apply xstepS); refine AW.step tok rfl ?_) | ((with_reducible apply xstep); refine AW.region tok rfl ?_) | with_reducible (first | refine AW.seq ?_ | refine AW.block ?_ | refine AW.skip ?_ | refine AW.ret ?_ | refine AW.exit ?_) | ((with_reducible apply xcond); exact rfl))) | with_reducible (first | refine xthen ?_ | refine xthen_r ?_ | refine xthen_e ?_ | refine xblock ?_ | refine xblock_r ?_ | refine xblock_e ?_ | refine xblock_n rfl ?_ | refine xround_r ?_ | refine xround_e ?_) | (with_reducible intro hc; (try simp only [decide_eq_true_eq, decide_eq_false_iff_not, Bool.not_true, Bool.not_false, Bool.not_eq_true', Bool.not_eq_false', ne_eq, not_true, reduceCtorEq] at hc); (try (exfalso; omega))) | with_reducible (first | exact trivial | refine And.intro ?_ ?_ | exact rfl | exact Nat.le_refl _) | exact Eq.refl true | exact (rfl : (_ : List Nat) = _) | exact Nat.le_of_ble_eq_true rfl | (refine inR_i64.mpr ?_; first | omega | (simp only [List.length_map]; omega)) | omega)
  all_goals (refine xfinIs (by first | exact .inl rfl | exact .inr rfl) rfl (by repeat' (first | exact trivial | exact rfl | refine And.intro ?_ ?_)) rfl ?_ rfl; first | with_reducible exact rfl | (simp -implicitDefEqProofs only [go_sem, Int.reduceEq, Int.reduceLT, Int.reduceLE, Nat.reduceAdd, Nat.reduceSub, Nat.reduceMul, Nat.reduceEqDiff, Nat.reduceLeDiff, Nat.reducePow, ↓reduceIte, reduceCtorEq, validPack] <;> (first | rfl | omega | exact decide_eq_decide.2 (by omega) | exact decide_eq_false (by omega) | exact decide_eq_true (by omega) | (symm; first | exact decide_eq_false (by omega) | exact decide_eq_true (by omega)) | (rw [Bool.eq_iff_iff]; simp only [Bool.not_eq_true', Bool.not_eq_false', Bool.and_eq_true, Bool.or_eq_true, decide_eq_true_eq, decide_eq_false_iff_not, reduceCtorEq, true_iff, iff_true, false_iff, iff_false]; omega))))

end Go.Proofs.YtmjofbjglhdkjaaGreatDoor

namespace Go.Proofs.YtmjofbjglhdkjaaGreatDoor
open Go.Fw
attribute [local irreducible] Go.Fw.aops Go.Fw.arun

/-! Items' texts. -/
@[go_sem] def encStr (s : List UInt8) : List D := [.str s]
def sideT : List (List UInt8) := [[116, 111, 112], [98, 111, 116, 116, 111, 109], [108, 101, 102, 116], [114, 105, 103, 104, 116]]
theorem c_sidesS : ACon Tryz.prog 47 [] [] (Is (.d (.lst (sideT.map encStr)))) := by
  refine ACon.introW tok (nt := 2) Tryz.func47 rfl rfl rfl (by kernel_rfl) rfl ?_
  repeat' (first | ((with_reducible apply xsim); (first | ((with_reducible apply xo); exact rfl) | with_reducible apply xend | ((with_reducible apply xbuild); exact rfl; exact rfl; exact rfl; exact rfl; exact rfl; simp only [backV, backVs, backVs_mapd, backId, backO, List.map_cons, List.map_nil, List.getElem?_nil, List.length_cons, List.length_nil, Nat.reduceAdd, Nat.reduceSub, List.cons_append, List.nil_append, List.append_nil]) | simp -implicitDefEqProofs only [go_sem, Int.reduceEq, Int.reduceLT, Int.reduceLE, Nat.reduceAdd, Nat.reduceSub, Nat.reduceMul, Nat.reduceEqDiff, Nat.reduceLeDiff, Nat.reducePow, ↓reduceIte, reduceCtorEq])) | ((with_reducible apply xaw); (first | ((with_reducible apply xstepS); refine AW.step tok rfl ?_) | ((with_reducible apply xstep); refine AW.region tok rfl ?_) | with_reducible (first | refine AW.seq ?_ | refine AW.block ?_ | refine AW.skip ?_ | refine AW.ret ?_ | refine AW.exit ?_) | ((with_reducible apply xcond); exact rfl))) | with_reducible (first | refine xthen ?_ | refine xthen_r ?_ | refine xthen_e ?_ | refine xblock ?_ | refine xblock_r ?_ | refine xblock_e ?_ | refine xblock_n rfl ?_ | refine xround_r ?_ | refine xround_e ?_) | (with_reducible intro hc; (try simp only [decide_eq_true_eq, decide_eq_false_iff_not, Bool.not_true, Bool.not_false, Bool.not_eq_true', Bool.not_eq_false', ne_eq, not_true, reduceCtorEq] at hc); (try (exfalso; omega))) | with_reducible (first | exact trivial | refine And.intro ?_ ?_ | exact rfl | exact Nat.le_refl _) | exact Eq.refl true | exact (rfl : (_ : List Nat) = _) | exact Nat.le_of_ble_eq_true rfl | (refine inR_i64.mpr ?_; first | omega | (simp only [List.length_map]; omega)) | omega)
  refine xfinW (Weak.freezeA 0 0 1 rfl rfl (by simp)) ?_
  (refine xfinIs (by first | exact .inl rfl | exact .inr rfl) rfl (by repeat' (first | exact trivial | exact rfl | refine And.intro ?_ ?_)) rfl ?_ rfl; first | with_reducible exact rfl | (simp -implicitDefEqProofs only [go_sem, Int.reduceEq, Int.reduceLT, Int.reduceLE, Nat.reduceAdd, Nat.reduceSub, Nat.reduceMul, Nat.reduceEqDiff, Nat.reduceLeDiff, Nat.reducePow, ↓reduceIte, reduceCtorEq, sideT, List.map_cons, List.map_nil, encStr] <;> (first | rfl | omega | exact decide_eq_decide.2 (by omega) | exact decide_eq_false (by omega) | exact decide_eq_true (by omega) | (symm; first | exact decide_eq_false (by omega) | exact decide_eq_true (by omega)) | (rw [Bool.eq_iff_iff]; simp only [Bool.not_eq_true', Bool.not_eq_false', Bool.and_eq_true, Bool.or_eq_true, decide_eq_true_eq, decide_eq_false_iff_not, reduceCtorEq, true_iff, iff_true, false_iff, iff_false]; omega))))
theorem c_sidesI : ACon Tryz.prog 59 [] [] (Is (.d (.lst (sideT.map encStr)))) := by
  refine ACon.introW tok (nt := 2) Tryz.func59 rfl rfl rfl (by kernel_rfl) rfl ?_
  repeat' (first | ((with_reducible apply xsim); (first | ((with_reducible apply xo); exact rfl) | with_reducible apply xend | ((with_reducible apply xbuild); exact rfl; exact rfl; exact rfl; exact rfl; exact rfl; simp only [backV, backVs, backVs_mapd, backId, backO, List.map_cons, List.map_nil, List.getElem?_nil, List.length_cons, List.length_nil, Nat.reduceAdd, Nat.reduceSub, List.cons_append, List.nil_append, List.append_nil]) | simp -implicitDefEqProofs only [go_sem, Int.reduceEq, Int.reduceLT, Int.reduceLE, Nat.reduceAdd, Nat.reduceSub, Nat.reduceMul, Nat.reduceEqDiff, Nat.reduceLeDiff, Nat.reducePow, ↓reduceIte, reduceCtorEq])) | ((with_reducible apply xaw); (first | ((with_reducible apply xstepS); refine AW.step tok rfl ?_) | ((with_reducible apply xstep); refine AW.region tok rfl ?_) | with_reducible (first | refine AW.seq ?_ | refine AW.block ?_ | refine AW.skip ?_ | refine AW.ret ?_ | refine AW.exit ?_) | ((with_reducible apply xcond); exact rfl))) | with_reducible (first | refine xthen ?_ | refine xthen_r ?_ | refine xthen_e ?_ | refine xblock ?_ | refine xblock_r ?_ | refine xblock_e ?_ | refine xblock_n rfl ?_ | refine xround_r ?_ | refine xround_e ?_) | (with_reducible intro hc; (try simp only [decide_eq_true_eq, decide_eq_false_iff_not, Bool.not_true, Bool.not_false, Bool.not_eq_true', Bool.not_eq_false', ne_eq, not_true, reduceCtorEq] at hc); (try (exfalso; omega))) | with_reducible (first | exact trivial | refine And.intro ?_ ?_ | exact rfl | exact Nat.le_refl _) | exact Eq.refl true | exact (rfl : (_ : List Nat) = _) | exact Nat.le_of_ble_eq_true rfl | (refine inR_i64.mpr ?_; first | omega | (simp only [List.length_map]; omega)) | omega)
  refine xfinW (Weak.freezeA 0 0 1 rfl rfl (by simp)) ?_
  (refine xfinIs (by first | exact .inl rfl | exact .inr rfl) rfl (by repeat' (first | exact trivial | exact rfl | refine And.intro ?_ ?_)) rfl ?_ rfl; first | with_reducible exact rfl | (simp -implicitDefEqProofs only [go_sem, Int.reduceEq, Int.reduceLT, Int.reduceLE, Nat.reduceAdd, Nat.reduceSub, Nat.reduceMul, Nat.reduceEqDiff, Nat.reduceLeDiff, Nat.reducePow, ↓reduceIte, reduceCtorEq, sideT, List.map_cons, List.map_nil, encStr] <;> (first | rfl | omega | exact decide_eq_decide.2 (by omega) | exact decide_eq_false (by omega) | exact decide_eq_true (by omega) | (symm; first | exact decide_eq_false (by omega) | exact decide_eq_true (by omega)) | (rw [Bool.eq_iff_iff]; simp only [Bool.not_eq_true', Bool.not_eq_false', Bool.and_eq_true, Bool.or_eq_true, decide_eq_true_eq, decide_eq_false_iff_not, reduceCtorEq, true_iff, iff_true, false_iff, iff_false]; omega))))
def sideW (n : Int) : List UInt8 := (sideT[n.toNat]?).getD []
def fxW : List UInt8 := [32, 102, 105, 108, 108, 120]
def fyW : List UInt8 := [32, 102, 105, 108, 108, 121]
def exW : List UInt8 := [32, 101, 120, 112, 97, 110, 100]
def anW : List UInt8 := [32, 97, 110, 99, 104, 111, 114, 32]
def pxW : List UInt8 := [32, 112, 97, 100, 120, 32]
def pyW : List UInt8 := [32, 112, 97, 100, 121, 32]
def iff (b : Bool) (s : List UInt8) : List UInt8 := cond b s []
def ptext (p : Pack) : List UInt8 :=
  sideW p.side ++ (32 :: (Lib.itoa p.w ++ (32 :: (Lib.itoa p.h ++ (iff p.fillX fxW ++ (iff p.fillY fyW ++ (iff p.expand exW ++
    (iff (!decide (p.anchor = 4)) (anW ++ Lib.itoa p.anchor) ++ (iff (!decide (p.padX = 0)) (pxW ++ Lib.itoa p.padX) ++ iff (!decide (p.padY = 0)) (pyW ++ Lib.itoa p.padY))))))))))
set_option maxHeartbeats 4000000 in
theorem c_PTextI (p : Pack) (h : validPack p = true) : ACon Tryz.prog 61 [vPack p] [] (Is (.d (.str (ptext p)))) := by
  have h := validPack_iff.1 h
  have l1 := itoa_len (n := p.w) (by omega)
  have l2 := itoa_len (n := p.h) (by omega)
  have l3 := itoa_len (n := p.anchor) (by omega)
  have l4 := itoa_len (n := p.padX) (by omega)
  have l5 := itoa_len (n := p.padY) (by omega)
  have hs : ∃ s, (sideT.map encStr)[p.side.toNat]? = some (encStr s) ∧ sideW p.side = s ∧ s.length ≤ 20 := by
    have e : p.side = 0 ∨ p.side = 1 ∨ p.side = 2 ∨ p.side = 3 := by omega
    rcases e with e | e | e | e <;> (rw [e]; exact ⟨_, rfl, rfl, by decide⟩)
  obtain ⟨s, hrow, es, l0⟩ := hs
  refine ACon.introW tok (nt := 59) Tryz.func61 rfl rfl rfl (by kernel_rfl) rfl ?_
  repeat' (first | ((with_reducible apply xsim); (first | ((with_reducible apply xo); exact rfl) | with_reducible apply xend | ((with_reducible apply xbox); exact rfl; simp only [backV, backVs, backVs_mapd, backId, backO, List.map_cons, List.map_nil, List.getElem?_nil, List.length_cons, List.length_nil, Nat.reduceAdd, Nat.reduceSub, List.cons_append, List.nil_append, List.append_nil]) | ((with_reducible apply xidxL); exact rfl; exact rfl; exact rfl; (first | exact hrow); omega; first | exact rfl | simp only [hsz]) | ((with_reducible apply xidxM); exact rfl; exact rfl; exact rfl; omega; omega; exact rfl) | ((with_reducible apply xldA); exact rfl; exact rfl; exact rfl; (first | exact hrow); exact rfl) | ((with_reducible apply xcallIs); exact rfl; exact rfl; (first | exact c_Itoa p.w (by omega) | exact c_Itoa p.h (by omega) | exact c_Itoa p.anchor (by omega) | exact c_Itoa p.padX (by omega) | exact c_Itoa p.padY (by omega) | exact c_sidesI); exact rfl) | simp -implicitDefEqProofs only [go_sem, Int.reduceEq, Int.reduceLT, Int.reduceLE, Nat.reduceAdd, Nat.reduceSub, Nat.reduceMul, Nat.reduceEqDiff, Nat.reduceLeDiff, Nat.reducePow, ↓reduceIte, reduceCtorEq])) | ((with_reducible apply xaw); (first | ((with_reducible apply xstepS); refine AW.step tok rfl ?_) | ((with_reducible apply xstep); refine AW.region tok rfl ?_) | with_reducible (first | refine AW.seq ?_ | refine AW.block ?_ | refine AW.skip ?_ | refine AW.ret ?_ | refine AW.exit ?_) | ((with_reducible apply xcond); exact rfl) | ((with_reducible apply xdrawS (id := 1)); refine AW.drawS (id := 1) (.q 0 (.q 1 (.q 2 (.q 3 (.q 4 (.q 5 (.q 6 (.q 7 (.q 8 (.q 9 (.q 10 (.q 11 (.q 12 (.q 13 (.q 14 (.q 15 (.fin))))))))))))))))) tok (by kernel_rfl) rfl (by kernel_rfl) ?_) | ((with_reducible apply xdraw (id := 1)); refine AW.draw (id := 1) (.q 0 (.q 1 (.q 2 (.q 3 (.q 4 (.q 5 (.q 6 (.q 7 (.q 8 (.q 9 (.q 10 (.q 11 (.q 12 (.q 13 (.q 14 (.q 15 (.fin))))))))))))))))) tok (by kernel_rfl) rfl (by kernel_rfl) ?_))) | ((with_reducible apply xarun); (first | ((with_reducible apply xrun_q); exact rfl; exact rfl; exact rfl) | ((with_reducible apply xrun_c); exact rfl; exact rfl; exact rfl; exact rfl; exact rfl; exact rfl; (first | exact c_Itoa p.w (by omega) | exact c_Itoa p.h (by omega) | exact c_Itoa p.anchor (by omega) | exact c_Itoa p.padX (by omega) | exact c_Itoa p.padY (by omega) | exact c_sidesI); exact rfl) | ((with_reducible apply xrun_e); exact rfl) | with_reducible apply xrun_f)) | with_reducible (first | refine xthen ?_ | refine xthen_r ?_ | refine xthen_e ?_ | refine xblock ?_ | refine xblock_r ?_ | refine xblock_e ?_ | refine xblock_n rfl ?_ | refine xround_r ?_ | refine xround_e ?_) | (with_reducible intro hc; (try simp only [decide_eq_true_eq, decide_eq_false_iff_not, Bool.not_true, Bool.not_false, Bool.not_eq_true', Bool.not_eq_false', ne_eq, not_true, reduceCtorEq] at hc); (try (exfalso; omega))) | with_reducible (first | exact trivial | refine And.intro ?_ ?_ | exact rfl | exact Nat.le_refl _) | exact Eq.refl true | exact (rfl : (_ : List Nat) = _) | exact Nat.le_of_ble_eq_true rfl | (refine inR_i64.mpr ?_; first | omega | (simp only [List.length_map]; omega)) | omega | (simp only [List.length_append, List.length_cons, List.length_nil]; omega))
  all_goals (try simp only [Decidable.not_not] at *)
  all_goals (first | have e1 : p.padX = 0 := by omega | have e1 : ¬ p.padX = 0 := by omega)
  all_goals (first | have e2 : p.padY = 0 := by omega | have e2 : ¬ p.padY = 0 := by omega)
  all_goals (refine xfinIs (by first | exact .inl rfl | exact .inr rfl) rfl (by repeat' (first | exact trivial | exact rfl | refine And.intro ?_ ?_)) rfl ?_ rfl; first | with_reducible exact rfl | (simp -implicitDefEqProofs only [go_sem, Int.reduceEq, Int.reduceLT, Int.reduceLE, Nat.reduceAdd, Nat.reduceSub, Nat.reduceMul, Nat.reduceEqDiff, Nat.reduceLeDiff, Nat.reducePow, ↓reduceIte, reduceCtorEq, ptext, es, iff, fxW, fyW, exW, anW, pxW, pyW, *, decide_true, decide_false, not_false_eq_true, Bool.not_true, Bool.not_false, cond_true, cond_false, List.append_assoc, List.nil_append, List.append_nil, List.cons_append] <;> (first | rfl | omega | exact decide_eq_decide.2 (by omega) | exact decide_eq_false (by omega) | exact decide_eq_true (by omega) | (symm; first | exact decide_eq_false (by omega) | exact decide_eq_true (by omega)) | (rw [Bool.eq_iff_iff]; simp only [Bool.not_eq_true', Bool.not_eq_false', Bool.and_eq_true, Bool.or_eq_true, decide_eq_true_eq, decide_eq_false_iff_not, reduceCtorEq, true_iff, iff_true, false_iff, iff_false]; omega))))
set_option maxHeartbeats 4000000 in
theorem c_PTextS (p : Pack) (h : validPack p = true) : ACon Tryz.prog 44 [vPack p] [] (Is (.d (.str (ptext p)))) := by
  have h := validPack_iff.1 h
  have l1 := itoa_len (n := p.w) (by omega)
  have l2 := itoa_len (n := p.h) (by omega)
  have l3 := itoa_len (n := p.anchor) (by omega)
  have l4 := itoa_len (n := p.padX) (by omega)
  have l5 := itoa_len (n := p.padY) (by omega)
  have hs : ∃ s, (sideT.map encStr)[p.side.toNat]? = some (encStr s) ∧ sideW p.side = s ∧ s.length ≤ 20 := by
    have e : p.side = 0 ∨ p.side = 1 ∨ p.side = 2 ∨ p.side = 3 := by omega
    rcases e with e | e | e | e <;> (rw [e]; exact ⟨_, rfl, rfl, by decide⟩)
  obtain ⟨s, hrow, es, l0⟩ := hs
  refine ACon.introW tok (nt := 59) Tryz.func44 rfl rfl rfl (by kernel_rfl) rfl ?_
  repeat' (first | ((with_reducible apply xsim); (first | ((with_reducible apply xo); exact rfl) | with_reducible apply xend | ((with_reducible apply xbox); exact rfl; simp only [backV, backVs, backVs_mapd, backId, backO, List.map_cons, List.map_nil, List.getElem?_nil, List.length_cons, List.length_nil, Nat.reduceAdd, Nat.reduceSub, List.cons_append, List.nil_append, List.append_nil]) | ((with_reducible apply xidxL); exact rfl; exact rfl; exact rfl; (first | exact hrow); omega; first | exact rfl | simp only [hsz]) | ((with_reducible apply xidxM); exact rfl; exact rfl; exact rfl; omega; omega; exact rfl) | ((with_reducible apply xldA); exact rfl; exact rfl; exact rfl; (first | exact hrow); exact rfl) | ((with_reducible apply xcallIs); exact rfl; exact rfl; (first | exact c_number p.w (by omega) | exact c_number p.h (by omega) | exact c_number p.anchor (by omega) | exact c_number p.padX (by omega) | exact c_number p.padY (by omega) | exact c_sidesS); exact rfl) | simp -implicitDefEqProofs only [go_sem, Int.reduceEq, Int.reduceLT, Int.reduceLE, Nat.reduceAdd, Nat.reduceSub, Nat.reduceMul, Nat.reduceEqDiff, Nat.reduceLeDiff, Nat.reducePow, ↓reduceIte, reduceCtorEq])) | ((with_reducible apply xaw); (first | ((with_reducible apply xstepS); refine AW.step tok rfl ?_) | ((with_reducible apply xstep); refine AW.region tok rfl ?_) | with_reducible (first | refine AW.seq ?_ | refine AW.block ?_ | refine AW.skip ?_ | refine AW.ret ?_ | refine AW.exit ?_) | ((with_reducible apply xcond); exact rfl) | ((with_reducible apply xdrawS (id := 1)); refine AW.drawS (id := 1) (.q 0 (.q 1 (.q 2 (.q 3 (.q 4 (.q 5 (.q 6 (.q 7 (.q 8 (.q 9 (.q 10 (.q 11 (.q 12 (.q 13 (.q 14 (.q 15 (.fin))))))))))))))))) tok (by kernel_rfl) rfl (by kernel_rfl) ?_) | ((with_reducible apply xdraw (id := 1)); refine AW.draw (id := 1) (.q 0 (.q 1 (.q 2 (.q 3 (.q 4 (.q 5 (.q 6 (.q 7 (.q 8 (.q 9 (.q 10 (.q 11 (.q 12 (.q 13 (.q 14 (.q 15 (.fin))))))))))))))))) tok (by kernel_rfl) rfl (by kernel_rfl) ?_))) | ((with_reducible apply xarun); (first | ((with_reducible apply xrun_q); exact rfl; exact rfl; exact rfl) | ((with_reducible apply xrun_c); exact rfl; exact rfl; exact rfl; exact rfl; exact rfl; exact rfl; (first | exact c_number p.w (by omega) | exact c_number p.h (by omega) | exact c_number p.anchor (by omega) | exact c_number p.padX (by omega) | exact c_number p.padY (by omega) | exact c_sidesS); exact rfl) | ((with_reducible apply xrun_e); exact rfl) | with_reducible apply xrun_f)) | with_reducible (first | refine xthen ?_ | refine xthen_r ?_ | refine xthen_e ?_ | refine xblock ?_ | refine xblock_r ?_ | refine xblock_e ?_ | refine xblock_n rfl ?_ | refine xround_r ?_ | refine xround_e ?_) | (with_reducible intro hc; (try simp only [decide_eq_true_eq, decide_eq_false_iff_not, Bool.not_true, Bool.not_false, Bool.not_eq_true', Bool.not_eq_false', ne_eq, not_true, reduceCtorEq] at hc); (try (exfalso; omega))) | with_reducible (first | exact trivial | refine And.intro ?_ ?_ | exact rfl | exact Nat.le_refl _) | exact Eq.refl true | exact (rfl : (_ : List Nat) = _) | exact Nat.le_of_ble_eq_true rfl | (refine inR_i64.mpr ?_; first | omega | (simp only [List.length_map]; omega)) | omega | (simp only [List.length_append, List.length_cons, List.length_nil]; omega))
  all_goals (try simp only [Decidable.not_not] at *)
  all_goals (first | have e1 : p.padX = 0 := by omega | have e1 : ¬ p.padX = 0 := by omega)
  all_goals (first | have e2 : p.padY = 0 := by omega | have e2 : ¬ p.padY = 0 := by omega)
  all_goals (refine xfinIs (by first | exact .inl rfl | exact .inr rfl) rfl (by repeat' (first | exact trivial | exact rfl | refine And.intro ?_ ?_)) rfl ?_ rfl; first | with_reducible exact rfl | (simp -implicitDefEqProofs only [go_sem, Int.reduceEq, Int.reduceLT, Int.reduceLE, Nat.reduceAdd, Nat.reduceSub, Nat.reduceMul, Nat.reduceEqDiff, Nat.reduceLeDiff, Nat.reducePow, ↓reduceIte, reduceCtorEq, ptext, es, iff, fxW, fyW, exW, anW, pxW, pyW, *, decide_true, decide_false, not_false_eq_true, Bool.not_true, Bool.not_false, cond_true, cond_false, List.append_assoc, List.nil_append, List.append_nil, List.cons_append] <;> (first | rfl | omega | exact decide_eq_decide.2 (by omega) | exact decide_eq_false (by omega) | exact decide_eq_true (by omega) | (symm; first | exact decide_eq_false (by omega) | exact decide_eq_true (by omega)) | (rw [Bool.eq_iff_iff]; simp only [Bool.not_eq_true', Bool.not_eq_false', Bool.and_eq_true, Bool.or_eq_true, decide_eq_true_eq, decide_eq_false_iff_not, reduceCtorEq, true_iff, iff_true, false_iff, iff_false]; omega))))
end Go.Proofs.YtmjofbjglhdkjaaGreatDoor

namespace Go.Proofs.YtmjofbjglhdkjaaGreatDoor
open Go.Fw

/-! Words and numbers: what is read (no program). -/
def splitL (c : UInt8) : List UInt8 → List (List UInt8)
  | [] => [[]]
  | b :: l => if b = c then [] :: splitL c l else (b :: (splitL c l).headD []) :: (splitL c l).tail
theorem splitL_ne (c : UInt8) (l : List UInt8) : splitL c l ≠ [] := by
  cases l with
  | nil => simp [splitL]
  | cons b l => unfold splitL; split <;> simp
theorem splitL_app {c : UInt8} {a : List UInt8} (b : List UInt8) (h : c ∉ a) : splitL c (a ++ c :: b) = a :: splitL c b := by
  induction a with
  | nil => simp [splitL]
  | cons x a ih =>
    have h1 : ¬ x = c := fun e => h (by simp [e])
    have h2 : c ∉ a := fun e => h (by simp [e])
    rw [List.cons_append, splitL, if_neg h1, ih h2]
    rfl
theorem splitL_one {c : UInt8} {a : List UInt8} (h : c ∉ a) : splitL c a = [a] := by
  induction a with
  | nil => rfl
  | cons x a ih =>
    have h1 : ¬ x = c := fun e => h (by simp [e])
    have h2 : c ∉ a := fun e => h (by simp [e])
    rw [splitL, if_neg h1, ih h2]
    rfl
theorem splitK_eq (c : UInt8) : ∀ l, Lib.splitK [c] 0 (Lib.count l [c]) l = splitL c l
  | [] => rfl
  | b :: l => by
    have ih := splitK_eq c l
    by_cases h : b = c
    · subst h
      have hi : Lib.index (b :: l) [b] = 0 := by unfold Lib.index; simp
      rw [Lib.count_cons_eq, Nat.add_comm, Lib.splitK, hi, splitL, if_pos rfl, ← ih]
      simp
    · have hp : ([c].isPrefixOf (b :: l)) = false := by simp [List.isPrefixOf, Ne.symm h]
      have hi : Lib.index (b :: l) [c] = if Lib.index l [c] == -1 then -1 else Lib.index l [c] + 1 := by
        rw [Lib.index, hp]; rfl
      rw [Lib.count_cons_ne _ _ _ h, splitL, if_neg h, ← ih]
      cases hk : Lib.count l [c] with
      | zero => rfl
      | succ k =>
        have hne : ¬ (Lib.index l [c] == -1) = true := fun e => by
          have := Lib.count_miss (beq_iff_eq.1 e)
          omega
        have hne' : ¬ Lib.index l [c] = -1 := fun e => hne (beq_iff_eq.2 e)
        have hge := Lib.index_ge l [c]
        have hne2 : ¬ (Lib.index l [c] + 1 == -1) = true := fun e => by have := beq_iff_eq.1 e; omega
        rw [if_neg hne] at hi
        have e1 : (Lib.index l [c] + 1).toNat = (Lib.index l [c]).toNat + 1 := by omega
        rw [Lib.splitK, hi, if_neg hne2, Lib.splitK, if_neg hne, e1]
        simp only [List.headD_cons, List.tail_cons, Nat.add_zero, List.take_succ_cons, List.length_cons, List.length_nil, List.drop_succ_cons]
theorem splitB_eq (c : UInt8) (s : List UInt8) : (Lib.splitB ⟨#[c]⟩ 0 (Lib.countB (bytesOf s) ⟨#[c]⟩) (bytesOf s)).map (·.data.toList) = splitL c s := by
  rw [Lib.splitB_data]
  exact splitK_eq c s

/-! Numbers. -/
theorem decDigits_dig (u : Nat) : ∀ b ∈ Lib.decDigits u, 48 ≤ b.toNat ∧ b.toNat ≤ 57 := by
  induction u using Nat.strongRecOn with
  | _ u ih =>
    intro b hb
    rw [Lib.decDigits] at hb
    split at hb
    · simp only [List.mem_singleton] at hb
      subst hb
      rw [UInt8.toNat_ofNat']
      omega
    · rw [List.mem_append, List.mem_singleton] at hb
      rcases hb with hb | rfl
      · exact ih (u / 10) (by omega) b hb
      · rw [UInt8.toNat_ofNat']
        omega
theorem decDigits_ne (u : Nat) : Lib.decDigits u ≠ [] := by
  rw [Lib.decDigits]; split <;> simp
theorem itoa_dig {n : Int} (h : 0 ≤ n) : ∀ b ∈ Lib.itoa n, 48 ≤ b.toNat ∧ b.toNat ≤ 57 := by
  unfold Lib.itoa
  rw [if_neg (by omega)]
  exact decDigits_dig _
theorem itoa_ne (n : Int) : Lib.itoa n ≠ [] := by
  unfold Lib.itoa
  split
  · simp
  · exact decDigits_ne _
theorem parse_dig (u : Nat) : ∀ r, u < 10^17 → Lib.parseUint10 0 (Lib.decDigits u ++ r) = Lib.parseUint10 u r := by
  induction u using Nat.strongRecOn with
  | _ u ih =>
    intro r hu
    rw [Lib.decDigits]
    split
    · rw [List.cons_append, List.nil_append, Lib.parseUint10, UInt8.toNat_ofNat']
      rw [if_pos (by omega), if_neg (by omega), if_neg (by omega)]
      congr 1
      omega
    · rw [List.append_assoc, ih (u / 10) (by omega) _ (by omega), List.cons_append, List.nil_append, Lib.parseUint10, UInt8.toNat_ofNat']
      rw [if_pos (by omega), if_neg (by omega), if_neg (by omega)]
      congr 1
      omega
theorem atoi_itoa {n : Int} (h : 0 ≤ n ∧ n < 10^17) : Lib.atoiAll (Lib.itoa n) = .ok n := by
  have hd := itoa_dig h.1
  have e : Lib.itoa n = Lib.decDigits n.toNat := by unfold Lib.itoa; rw [if_neg (by omega)]
  rw [e] at hd ⊢
  have hp := parse_dig n.toNat [] (by omega)
  rw [List.append_nil, Lib.parseUint10] at hp
  cases hl : Lib.decDigits n.toNat with
  | nil => exact absurd hl (decDigits_ne _)
  | cons c r =>
    rw [hl] at hd hp
    have := hd c (by simp)
    rw [Lib.atoiAll_plain c r (by omega) (by omega), Lib.parseMag, if_neg (by simp), hp, Lib.signless, if_neg (by omega)]
    congr 1
    omega
def numI (s : List UInt8) : Int × Bool := match Lib.atoiAll s with
  | .ok v => (v, decide (0 ≤ v) && decide (Lib.itoa v = s))
  | .syntax => (0, false)
  | .range => (Lib.atoiSat s, false)
theorem numI_itoa {n : Int} (h : 0 ≤ n ∧ n < 10^17) : numI (Lib.itoa n) = (n, true) := by
  unfold numI
  rw [atoi_itoa h]
  simp [h.1]
theorem numI_true {s : List UInt8} (h : (numI s).2 = true) : s = Lib.itoa (numI s).1 ∧ 0 ≤ (numI s).1 := by
  unfold numI at h ⊢
  split
  · rename_i v hv
    rw [hv] at h
    simp only [Bool.and_eq_true, decide_eq_true_eq] at h
    exact ⟨h.2.symm, h.1⟩
  · rename_i hv; rw [hv] at h; simp at h
  · rename_i hv; rw [hv] at h; simp at h
def rgo : Int → List UInt8 → Option Int
  | n, [] => some n
  | n, b :: l => if b.toNat < 48 ∨ 57 < b.toNat ∨ 99 < n then none else rgo (10 * n + ((b.toNat : Int) - 48)) l
def rnum (s : List UInt8) : Int := match rgo 0 s with
  | none => -1
  | some n => if s = [] ∨ s ≠ Lib.itoa n then -1 else n
theorem rgo_dig (u : Nat) : ∀ r, u ≤ 999 → rgo 0 (Lib.decDigits u ++ r) = rgo u r := by
  induction u using Nat.strongRecOn with
  | _ u ih =>
    intro r hu
    rw [Lib.decDigits]
    split
    · rw [List.cons_append, List.nil_append, rgo, UInt8.toNat_ofNat']
      rw [if_neg (by omega)]
      congr 1
      omega
    · rw [List.append_assoc, ih (u / 10) (by omega) _ (by omega), List.cons_append, List.nil_append, rgo, UInt8.toNat_ofNat']
      rw [if_neg (by omega)]
      congr 1
      omega
theorem rnum_itoa {n : Int} (h : 0 ≤ n ∧ n ≤ 999) : rnum (Lib.itoa n) = n := by
  have e : Lib.itoa n = Lib.decDigits n.toNat := by unfold Lib.itoa; rw [if_neg (by omega)]
  have hp := rgo_dig n.toNat [] (by omega)
  rw [List.append_nil, ← e, rgo, show ((n.toNat : Nat) : Int) = n by omega] at hp
  unfold rnum
  rw [hp]
  have := itoa_ne n
  simp [this]
theorem rnum_eq {s : List UInt8} (h : 0 ≤ rnum s) : s = Lib.itoa (rnum s) := by
  unfold rnum at h ⊢
  split
  · rename_i e; rw [e] at h; simp at h
  · rename_i n e
    rw [e] at h
    simp only at h
    split
    · rename_i h2; rw [if_pos h2] at h; omega
    · rename_i h2
      have := not_or.1 h2
      exact Classical.not_not.1 this.2
end Go.Proofs.YtmjofbjglhdkjaaGreatDoor

namespace Go.Proofs.YtmjofbjglhdkjaaGreatDoor
open Go.Fw

/-! What is read of an item's text (no program). -/
def fxT : List UInt8 := [102, 105, 108, 108, 120]
def fyT : List UInt8 := [102, 105, 108, 108, 121]
def exT : List UInt8 := [101, 120, 112, 97, 110, 100]
def anT : List UInt8 := [97, 110, 99, 104, 111, 114]
def pxT : List UInt8 := [112, 97, 100, 120]
def pyT : List UInt8 := [112, 97, 100, 121]
def sp (ws : List (List UInt8)) : List UInt8 := ws.flatMap (32 :: ·)
theorem sp_cons (w : List UInt8) (ws : List (List UInt8)) : sp (w :: ws) = 32 :: (w ++ sp ws) := by simp [sp]
theorem sp_app (a b : List (List UInt8)) : sp (a ++ b) = sp a ++ sp b := by simp [sp]
theorem sp_split {c : UInt8} (hc : c = 32) : ∀ (ws : List (List UInt8)) (a : List UInt8), c ∉ a → (∀ w ∈ ws, c ∉ w) → splitL c (a ++ sp ws) = a :: ws
  | [], a, h, _ => by rw [show sp [] = [] from rfl, List.append_nil]; exact splitL_one h
  | w :: ws, a, h, hw => by
    rw [sp_cons, ← hc, splitL_app _ h, sp_split hc ws w (hw w (by simp)) (fun x hx => hw x (by simp [hx]))]
def iw (b : Bool) (w : List UInt8) : List (List UInt8) := cond b [w] []
def inn (b : Bool) (w x : List UInt8) : List (List UInt8) := cond b [w, x] []
def pwords (p : Pack) : List (List UInt8) :=
  iw p.fillX fxT ++ (iw p.fillY fyT ++ (iw p.expand exT ++ (inn (!decide (p.anchor = 4)) anT (Lib.itoa p.anchor) ++ (inn (!decide (p.padX = 0)) pxT (Lib.itoa p.padX) ++ inn (!decide (p.padY = 0)) pyT (Lib.itoa p.padY)))))
theorem sp_iw (b : Bool) (w : List UInt8) : sp (iw b w) = iff b (32 :: w) := by cases b <;> simp [sp, iw, iff]
theorem sp_inn (b : Bool) (w x : List UInt8) : sp (inn b w x) = iff b (32 :: (w ++ (32 :: x))) := by cases b <;> simp [sp, inn, iff]
theorem ptext_sp (p : Pack) : ptext p = sideW p.side ++ sp (Lib.itoa p.w :: Lib.itoa p.h :: pwords p) := by
  unfold ptext pwords
  rw [sp_cons, sp_cons, sp_app, sp_app, sp_app, sp_app, sp_app, sp_iw, sp_iw, sp_iw, sp_inn, sp_inn, sp_inn]
  rfl
theorem sideW_mem {n : Int} (h : 0 ≤ n ∧ n ≤ 3) : sideW n ∈ sideT := by
  have e : n = 0 ∨ n = 1 ∨ n = 2 ∨ n = 3 := by omega
  rcases e with e | e | e | e <;> subst e <;> decide
theorem sideT_low : ∀ w ∈ sideT, ∀ b ∈ w, 97 ≤ b.toNat := by decide
/-- The text's words have no byte below the digits. -/
theorem words_low {p : Pack} (h : validPack p = true) : (∀ b ∈ sideW p.side, 48 ≤ b.toNat) ∧ ∀ w ∈ Lib.itoa p.w :: Lib.itoa p.h :: pwords p, ∀ b ∈ w, 48 ≤ b.toNat := by
  have h := validPack_iff.1 h
  refine ⟨fun b hb => by have := sideT_low _ (sideW_mem (by omega)) b hb; omega, ?_⟩
  have hi : ∀ n : Int, 0 ≤ n → ∀ b ∈ Lib.itoa n, 48 ≤ b.toNat := fun n hn b hb => (itoa_dig hn b hb).1
  have hw : ∀ (b : Bool) (w : List UInt8), (∀ x ∈ w, 48 ≤ x.toNat) → ∀ v ∈ iw b w, ∀ x ∈ v, 48 ≤ x.toNat := fun b w hx v hv => by
    cases b <;> simp [iw] at hv
    subst hv; exact hx
  have hn : ∀ (b : Bool) (w x : List UInt8), (∀ y ∈ w, 48 ≤ y.toNat) → (∀ y ∈ x, 48 ≤ y.toNat) → ∀ v ∈ inn b w x, ∀ y ∈ v, 48 ≤ y.toNat := fun b w x h1 h2 v hv => by
    cases b <;> simp [inn] at hv
    rcases hv with rfl | rfl
    · exact h1
    · exact h2
  intro w hw'
  simp only [List.mem_cons, pwords, List.mem_append] at hw'
  rcases hw' with rfl | rfl | hw' | hw' | hw' | hw' | hw' | hw'
  · exact hi _ (by omega)
  · exact hi _ (by omega)
  · exact hw _ _ (by decide) w hw'
  · exact hw _ _ (by decide) w hw'
  · exact hw _ _ (by decide) w hw'
  · exact hn _ _ _ (by decide) (hi _ (by omega)) w hw'
  · exact hn _ _ _ (by decide) (hi _ (by omega)) w hw'
  · exact hn _ _ _ (by decide) (hi _ (by omega)) w hw'
theorem words_split {p : Pack} (h : validPack p = true) : splitL 32 (ptext p) = sideW p.side :: Lib.itoa p.w :: Lib.itoa p.h :: pwords p := by
  have hl := words_low h
  rw [ptext_sp]
  refine sp_split rfl _ _ (fun e => ?_) (fun w hw e => ?_)
  · have := hl.1 _ e; simp at this
  · have := hl.2 w hw _ e; simp at this
def zeroP : Pack := ⟨0, 0, 0, false, false, false, 0, 0, 0⟩
def idxT (a : List UInt8) : Int := if a = [116, 111, 112] then 0 else if a = [98, 111, 116, 116, 111, 109] then 1 else if a = [108, 101, 102, 116] then 2 else if a = [114, 105, 103, 104, 116] then 3 else -1
theorem idxT_side {n : Int} (h : 0 ≤ n ∧ n ≤ 3) : idxT (sideW n) = n := by
  have e : n = 0 ∨ n = 1 ∨ n = 2 ∨ n = 3 := by omega
  rcases e with e | e | e | e <;> subst e <;> decide
def nx (l : List (List UInt8)) : Int := match l with
  | [] => -1
  | x :: _ => rnum x
def sGo : List (List UInt8) → Pack → Option Pack
  | [], p => some p
  | w :: l, p =>
    if w = fxT then sGo l { p with fillX := true }
    else if w = fyT then sGo l { p with fillY := true }
    else if w = exT then sGo l { p with expand := true }
    else if w = anT then sGo l.tail { p with anchor := nx l }
    else if w = pxT then sGo l.tail { p with padX := nx l }
    else if w = pyT then sGo l.tail { p with padY := nx l }
    else none
termination_by l => l.length
decreasing_by all_goals (simp only [List.length_cons, List.length_tail]; omega)
def iGo : List (List UInt8) → Pack → Option Pack
  | [], p => some p
  | w :: l, p =>
    if w = fxT then iGo l { p with fillX := true }
    else if w = fyT then iGo l { p with fillY := true }
    else if w = exT then iGo l { p with expand := true }
    else match l with
      | [] => none
      | x :: l => if (numI x).2 = false then none
        else if w = anT then iGo l { p with anchor := (numI x).1 }
        else if w = pxT then iGo l { p with padX := (numI x).1 }
        else if w = pyT then iGo l { p with padY := (numI x).1 }
        else none
def sRes (s : List UInt8) : Pack × Bool := match splitL 32 s with
  | a :: b :: c :: l => (match sGo l ⟨rnum b, rnum c, idxT a, false, false, false, 4, 0, 0⟩ with
    | some p => (p, validPack p && decide (ptext p = s))
    | none => (zeroP, false))
  | _ => (zeroP, false)
def iRes (s : List UInt8) : Pack × Bool := match splitL 32 s with
  | a :: b :: c :: l => if (numI b).2 = true ∧ (numI c).2 = true then (match iGo l ⟨(numI b).1, (numI c).1, idxT a, false, false, false, 4, 0, 0⟩ with
      | some p => if validPack p = true ∧ ptext p = s then (p, true) else (zeroP, false)
      | none => (zeroP, false))
    else (zeroP, false)
  | _ => (zeroP, false)
theorem sGo_iw (b : Bool) (l : List (List UInt8)) (p : Pack) : sGo (iw b fxT ++ l) p = sGo l { p with fillX := cond b true p.fillX } ∧ sGo (iw b fyT ++ l) p = sGo l { p with fillY := cond b true p.fillY } ∧ sGo (iw b exT ++ l) p = sGo l { p with expand := cond b true p.expand } := by
  cases b
  · exact ⟨rfl, rfl, rfl⟩
  · refine ⟨?_, ?_, ?_⟩ <;> (show sGo (_ :: l) p = _; rw [sGo]; rfl)
theorem sGo_inn (b : Bool) (n : Int) (hn : 0 ≤ n ∧ n ≤ 999) (l : List (List UInt8)) (p : Pack) : sGo (inn b anT (Lib.itoa n) ++ l) p = sGo l { p with anchor := cond b n p.anchor } ∧ sGo (inn b pxT (Lib.itoa n) ++ l) p = sGo l { p with padX := cond b n p.padX } ∧ sGo (inn b pyT (Lib.itoa n) ++ l) p = sGo l { p with padY := cond b n p.padY } := by
  have hr := rnum_itoa hn
  cases b
  · exact ⟨rfl, rfl, rfl⟩
  · refine ⟨?_, ?_, ?_⟩ <;> (show sGo (_ :: Lib.itoa n :: l) p = _; rw [sGo]; simp only [nx, hr, List.tail_cons, cond_true]; rfl)
theorem iGo_iw (b : Bool) (l : List (List UInt8)) (p : Pack) : iGo (iw b fxT ++ l) p = iGo l { p with fillX := cond b true p.fillX } ∧ iGo (iw b fyT ++ l) p = iGo l { p with fillY := cond b true p.fillY } ∧ iGo (iw b exT ++ l) p = iGo l { p with expand := cond b true p.expand } := by
  cases b
  · exact ⟨rfl, rfl, rfl⟩
  · refine ⟨?_, ?_, ?_⟩ <;> (show iGo (_ :: l) p = _; rw [iGo.eq_def]; rfl)
theorem iGo_inn (b : Bool) (n : Int) (hn : 0 ≤ n ∧ n ≤ 999) (l : List (List UInt8)) (p : Pack) : iGo (inn b anT (Lib.itoa n) ++ l) p = iGo l { p with anchor := cond b n p.anchor } ∧ iGo (inn b pxT (Lib.itoa n) ++ l) p = iGo l { p with padX := cond b n p.padX } ∧ iGo (inn b pyT (Lib.itoa n) ++ l) p = iGo l { p with padY := cond b n p.padY } := by
  have hr := numI_itoa (n := n) (by omega)
  cases b
  · exact ⟨rfl, rfl, rfl⟩
  · refine ⟨?_, ?_, ?_⟩ <;> (show iGo (_ :: Lib.itoa n :: l) p = _; rw [iGo.eq_def]; simp only [hr]; rfl)
theorem pack_end (p : Pack) : (⟨p.w, p.h, p.side, cond p.fillX true false, cond p.fillY true false, cond p.expand true false, cond (!decide (p.anchor = 4)) p.anchor 4, cond (!decide (p.padX = 0)) p.padX 0, cond (!decide (p.padY = 0)) p.padY 0⟩ : Pack) = p := by
  obtain ⟨w, h, s, a, b, c, d, e, f⟩ := p
  have hb : ∀ b : Bool, cond b true false = b := fun b => by cases b <;> rfl
  have hn : ∀ n m : Int, cond (!decide (n = m)) n m = n := fun n m => by by_cases h : n = m <;> simp [h]
  simp only [hb, hn]
theorem sGo_words {p : Pack} (h : validPack p = true) : sGo (pwords p) ⟨p.w, p.h, p.side, false, false, false, 4, 0, 0⟩ = some p := by
  have hv := validPack_iff.1 h
  have e := fun l q => (sGo_inn (!decide (p.padY = 0)) p.padY (by omega) l q).2.2
  unfold pwords
  rw [(sGo_iw _ _ _).1, (sGo_iw _ _ _).2.1, (sGo_iw _ _ _).2.2, (sGo_inn _ _ (by omega) _ _).1, (sGo_inn _ _ (by omega) _ _).2.1, ← List.append_nil (inn _ pyT _), e, sGo]
  exact congrArg some (pack_end p)
theorem iGo_words {p : Pack} (h : validPack p = true) : iGo (pwords p) ⟨p.w, p.h, p.side, false, false, false, 4, 0, 0⟩ = some p := by
  have hv := validPack_iff.1 h
  have e := fun l q => (iGo_inn (!decide (p.padY = 0)) p.padY (by omega) l q).2.2
  unfold pwords
  rw [(iGo_iw _ _ _).1, (iGo_iw _ _ _).2.1, (iGo_iw _ _ _).2.2, (iGo_inn _ _ (by omega) _ _).1, (iGo_inn _ _ (by omega) _ _).2.1, ← List.append_nil (inn _ pyT _), e, iGo.eq_def]
  exact congrArg some (pack_end p)
theorem sRes_text {p : Pack} (h : validPack p = true) : sRes (ptext p) = (p, true) := by
  have hv := validPack_iff.1 h
  unfold sRes
  rw [words_split h]
  simp only [rnum_itoa (n := p.w) (by omega), rnum_itoa (n := p.h) (by omega), idxT_side (n := p.side) (by omega), sGo_words h, h, decide_true, Bool.and_self]
theorem iRes_text {p : Pack} (h : validPack p = true) : iRes (ptext p) = (p, true) := by
  have hv := validPack_iff.1 h
  unfold iRes
  rw [words_split h]
  simp only [numI_itoa (n := p.w) (by omega), numI_itoa (n := p.h) (by omega), idxT_side (n := p.side) (by omega), iGo_words h, h, and_self, if_true]
theorem sRes_true {s : List UInt8} (h : (sRes s).2 = true) : validPack (sRes s).1 = true ∧ ptext (sRes s).1 = s := by
  unfold sRes at h ⊢
  split
  · rename_i a b c l e
    rw [e] at h
    simp only at h
    split
    · rename_i p e2
      rw [e2] at h
      simpa using h
    · rename_i e2; rw [e2] at h; simp at h
  · rename_i e; split at h
    · rename_i e2; exact absurd e2 (e _ _ _ _)
    · simp at h
theorem iRes_true {s : List UInt8} (h : (iRes s).2 = true) : validPack (iRes s).1 = true ∧ ptext (iRes s).1 = s := by
  unfold iRes at h ⊢
  split
  · rename_i a b c l e
    rw [e] at h
    simp only at h
    split
    · rename_i e1
      rw [if_pos e1] at h
      split
      · rename_i p e2
        rw [e2] at h
        simp only at h
        split
        · rename_i e3; exact e3
        · rename_i e3; rw [if_neg e3] at h; simp at h
      · rename_i e2; rw [e2] at h; simp at h
    · rename_i e1; rw [if_neg e1] at h; simp at h
  · rename_i e; split at h
    · rename_i e2; exact absurd e2 (e _ _ _ _)
    · simp at h
theorem iRes_false {s : List UInt8} (h : (iRes s).2 = false) : iRes s = (zeroP, false) := by
  unfold iRes at h ⊢
  split
  · rename_i a b c l e
    rw [e] at h
    simp only at h
    split
    · rename_i e1
      rw [if_pos e1] at h
      split
      · rename_i p e2
        rw [e2] at h
        simp only at h
        split
        · rename_i e3; rw [if_pos e3] at h; simp at h
        · rfl
      · rfl
    · rfl
  · rfl
/-- Both read alike. -/
theorem res_eq (s : List UInt8) : (if (sRes s).2 = true then ((sRes s).1, true) else (zeroP, false)) = iRes s := by
  split
  · rename_i h
    obtain ⟨h1, h2⟩ := sRes_true h
    have := iRes_text h1
    rw [h2] at this
    exact this.symm
  · rename_i h
    cases h2 : (iRes s).2
    · exact (iRes_false h2).symm
    · obtain ⟨h3, h4⟩ := iRes_true h2
      have := sRes_text h3
      rw [h4] at this
      rw [this] at h
      exact absurd rfl h
theorem sRes_two (s : List UInt8) : (sRes s).2 = (iRes s).2 := by
  rw [← res_eq]; cases h : (sRes s).2 <;> simp
end Go.Proofs.YtmjofbjglhdkjaaGreatDoor

namespace Go.Proofs.YtmjofbjglhdkjaaGreatDoor
open Go.Fw

/-! What is read of lines (no program). -/
def linesP : List (List UInt8) → List Pack → Option (List Pack)
  | [], _ => none
  | [l], out => if l = [] then some out else none
  | l :: m :: ls, out => if (iRes l).2 = true ∧ out.length < 7 then linesP (m :: ls) (out ++ [(iRes l).1]) else none
def sGoL : List (List UInt8) → List Pack → Option (List Pack × Bool)
  | [], _ => none
  | [l], out => some (out, decide (l = []) && decide (out.length ≤ 7))
  | l :: m :: ls, out => if (sRes l).2 = true then sGoL (m :: ls) (out ++ [(sRes l).1]) else none
theorem sGoL_len : ∀ (ls : List (List UInt8)) (out ps : List Pack) (b : Bool), sGoL ls out = some (ps, b) → out.length ≤ ps.length ∧ (b = true → ps.length ≤ 7)
  | [], out, ps, b, h => by simp [sGoL] at h
  | [l], out, ps, b, h => by
    simp only [sGoL, Option.some.injEq, Prod.mk.injEq] at h
    obtain ⟨rfl, rfl⟩ := h
    exact ⟨Nat.le_refl _, fun h => by simp at h; exact h.2⟩
  | l :: m :: ls, out, ps, b, h => by
    rw [sGoL] at h
    split at h
    · have := sGoL_len (m :: ls) _ ps b h
      simp only [List.length_append, List.length_singleton] at this
      exact ⟨by omega, this.2⟩
    · simp at h
def okOf : Option (List Pack × Bool) → Option (List Pack)
  | some (ps, true) => some ps
  | _ => none
theorem lines_eq : ∀ (ls : List (List UInt8)) (out : List Pack), out.length ≤ 7 → okOf (sGoL ls out) = linesP ls out
  | [], out, h => rfl
  | [l], out, h => by
    simp only [sGoL, linesP, decide_eq_true h, Bool.and_true]
    by_cases e : l = [] <;> simp [e, okOf]
  | l :: m :: ls, out, h => by
    rw [sGoL, linesP, sRes_two]
    cases e : (iRes l).2
    · simp [okOf]
    · have e1 : (sRes l).1 = (iRes l).1 := by
        rw [← res_eq, sRes_two, e]; simp
      rw [e1, if_pos rfl]
      by_cases h7 : out.length < 7
      · rw [if_pos ⟨rfl, h7⟩]
        exact lines_eq (m :: ls) _ (by simp; omega)
      · rw [if_neg (fun x => h7 x.2)]
        cases e2 : sGoL (m :: ls) (out ++ [(iRes l).1]) with
        | none => rfl
        | some x =>
          obtain ⟨ps, b⟩ := x
          have := sGoL_len _ _ _ _ e2
          simp only [List.length_append, List.length_singleton] at this
          cases b
          · rfl
          · have := this.2 rfl
            omega
def packsP (s : List UInt8) : Option (List Pack) := linesP (splitL 10 s) []
theorem linesP_some : ∀ (ls : List (List UInt8)) (out ps : List Pack), out.length ≤ 7 → linesP ls out = some ps → ∃ qs, ps = out ++ qs ∧ ls = qs.map ptext ++ [[]] ∧ qs.all validPack = true ∧ ps.length ≤ 7
  | [], out, ps, h, e => by simp [linesP] at e
  | [l], out, ps, h, e => by
    rw [linesP] at e
    split at e
    · rename_i e1
      cases e
      exact ⟨[], by simp, by simp [e1], rfl, h⟩
    · simp at e
  | l :: m :: ls, out, ps, h, e => by
    rw [linesP] at e
    split at e
    · rename_i e1
      obtain ⟨h1, h2⟩ := iRes_true e1.1
      obtain ⟨qs, h3, h4, h5, h6⟩ := linesP_some (m :: ls) _ ps (by simp; omega) e
      refine ⟨(iRes l).1 :: qs, by rw [h3]; simp, by rw [h4]; simp [h2], by simp [h1]; simpa using h5, h6⟩
    · simp at e
def joinL (c : UInt8) : List (List UInt8) → List UInt8
  | [] => []
  | [a] => a
  | a :: b :: l => a ++ c :: joinL c (b :: l)
theorem joinL_splitL (c : UInt8) : ∀ l, joinL c (splitL c l) = l
  | [] => rfl
  | b :: l => by
    have ih := joinL_splitL c l
    cases e : splitL c l with
    | nil => exact absurd e (splitL_ne c l)
    | cons x xs =>
      rw [e] at ih
      rw [splitL, e]
      split
      · rename_i h; rw [joinL, ih, h]; rfl
      · cases xs with
        | nil => rw [joinL] at ih; simp [joinL, ih]
        | cons y ys =>
          rw [joinL] at ih
          simp only [List.headD_cons, List.tail_cons, joinL, List.cons_append, ih]
def linesT (ps : List Pack) : List UInt8 := ps.flatMap fun p => ptext p ++ [10]
theorem joinL_lines : ∀ ps : List Pack, joinL 10 (ps.map ptext ++ [[]]) = linesT ps
  | [] => rfl
  | p :: ps => by
    have ih := joinL_lines ps
    cases ps with
    | nil => simp [joinL, linesT]
    | cons q qs =>
      simp only [List.map_cons, List.cons_append] at ih ⊢
      rw [joinL, ih]
      simp [linesT]
theorem packsP_some {s : List UInt8} {ps : List Pack} (h : packsP s = some ps) : s = linesT ps ∧ ps.all validPack = true ∧ ps.length ≤ 7 := by
  obtain ⟨qs, h1, h2, h3, h4⟩ := linesP_some _ _ _ (Nat.zero_le _) h
  rw [List.nil_append] at h1
  subst h1
  refine ⟨?_, h3, h4⟩
  rw [← joinL_splitL 10 s, h2, joinL_lines]
end Go.Proofs.YtmjofbjglhdkjaaGreatDoor

namespace Go.Proofs.YtmjofbjglhdkjaaGreatDoor
open Go.Fw Go.Shelf Go.RowKit

theorem arg_str {w : World} {ok : Nat → Prop} {vs : Array Value} {s : List UInt8} (hs : vs.size = [V.d (.str s)].length) (hv : ∀ (i : Nat) x, [V.d (.str s)][i]? = some x → VRep w ok [] x (vs.getD i undef)) : vs = #[.string (bytesOf s)] := by
  have h0 := hv 0 _ rfl
  obtain ⟨l⟩ := vs
  match l, hs with
  | [v], _ =>
    have h0 : VRep w ok [] (.d (.str s)) v := h0
    cases h0 with | d h0 => cases h0; rfl
theorem varSyn {w : World} {ok : Nat → Prop} (h : GlobG w ok) : ∃ tp p, w.var? Tryz.prog "strconv.ErrSyntax" = some #[.iface tp p] := by
  obtain ⟨cs, h1, h2⟩ := h.var g_ErrSyntax (by decide)
  obtain ⟨tp, p, rfl⟩ := h2.2.1 rfl
  exact ⟨tp, p, h1⟩
theorem varRange {w : World} {ok : Nat → Prop} (h : GlobG w ok) : ∃ tp p, w.var? Tryz.prog "strconv.ErrRange" = some #[.iface tp p] := by
  obtain ⟨cs, h1, h2⟩ := h.var g_ErrRange (by decide)
  obtain ⟨tp, p, rfl⟩ := h2.2.2.1 rfl
  exact ⟨tp, p, h1⟩
theorem numI_rep {w : World} {ok : Nat → Prop} {n m : Int} {b c : Bool} (h1 : n = m) (h2 : b = c) : VRep w ok [] (.tup [.d (.int .i64 n), .d (.bool b)]) (.tuple #[.int .i64 m, .bool c]) := by
  subst h1; subst h2
  exact .tup rfl fun i x hx => by
    match i with
    | 0 => cases hx; exact .d .int
    | 1 => cases hx; exact .d .bool
    | n + 2 => simp at hx
set_option maxRecDepth 100000 in
theorem c_numberI (s : List UInt8) (hl : s.length ≤ 281474976710656) : ACon Tryz.prog 37 [.d (.str s)] [] (Is (.tup [.d (.int .i64 (numI s).1), .d (.bool (numI s).2)])) := by
  refine ACon.lib (by kernel_rfl) fun w ok vs hG hok hs hv => ?_
  rw [arg_str hs hv]
  have hz : (bytesOf s).size ≤ 281474976710656 := by show s.toArray.size ≤ _; simpa using hl
  cases h : Lib.atoiAll s with
  | ok v =>
    have e : numI s = (v, decide (0 ≤ v) && decide (Lib.itoa v = s)) := by unfold numI; rw [h]
    have hb := Lib.atoiAll_bounds h
    rw [e]
    go_enter Tryz.func37, Tryz.ntmps37
    go_wp2_with (go_at_call 65; refine (Tryz.strconv_Atoi_ok (bytesOf s) (by omega) v h _).mono ?_; rintro e w' ⟨rfl, hw⟩)
    · have hpos : 0 ≤ v := by assumption
      have hB : Below w.heap.size w w' := by
        rcases hw with rfl | ⟨t, rfl⟩
        · exact Below.refl _ _
        · exact Lib.bytesWorld_below _ _ _
      have hG' : GlobG w' ok := GlobG.mono (fun b hk => hB.block b (hok b hk)) (fun _ h => h) hG
      go_wp2_with (go_at_call 36; refine (Tryz.strconv_Itoa v (by omega) (by omega) _ (tabPow hG')).mono ?_; rintro e w'' ⟨rfl, k, os, rfl⟩)
      go_ret2
      refine ⟨hB.trans ((below_grow w' k os).mono hB.size), _, rfl, numI_rep rfl ?_⟩
      rw [decide_eq_true hpos, Bool.true_and, bytesOf_toList]
      exact Bool.eq_iff_iff.2 (by simp)
    · go_ret2
      refine ⟨?_, _, rfl, numI_rep rfl ?_⟩
      · rcases hw with rfl | ⟨t, rfl⟩
        · exact Below.refl _ _
        · exact Lib.bytesWorld_below _ _ _
      · rw [decide_eq_false (by omega), Bool.false_and]
  | «syntax» =>
    have e : numI s = (0, false) := by unfold numI; rw [h]
    rw [e]
    obtain ⟨tp, p, hvar⟩ := varSyn hG
    go_enter Tryz.func37, Tryz.ntmps37
    go_wp2_with (go_at_call 65; refine (Tryz.strconv_Atoi_syntax_var (bytesOf s) hz h tp p _ hvar).mono ?_; rintro e w' ⟨N, rfl, -, -, hb⟩)
    go_ret2
    exact ⟨hb, _, rfl, numI_rep rfl rfl⟩
  | range =>
    have e : numI s = (Lib.atoiSat s, false) := by unfold numI; rw [h]
    rw [e]
    obtain ⟨tp, p, hvar⟩ := varRange hG
    go_enter Tryz.func37, Tryz.ntmps37
    go_wp2_with (go_at_call 65; refine (Tryz.strconv_Atoi_range_var (bytesOf s) hz h tp p _ hvar).mono ?_; rintro e w' ⟨N, rfl, -, -, hb⟩)
    go_ret2
    exact ⟨hb, _, rfl, numI_rep rfl rfl⟩
end Go.Proofs.YtmjofbjglhdkjaaGreatDoor

namespace Go.Proofs.YtmjofbjglhdkjaaGreatDoor
open Go.Fw Go.Shelf Go.RowKit

theorem varMax {w : World} {ok : Nat → Prop} (h : GlobG w ok) : ∃ m, w.cell? ⟨0, 0, none⟩ = some (.int .i64 m) := by
  obtain ⟨_, cs, t, z, h1, h2⟩ := h 0 (by decide)
  obtain ⟨m, rfl⟩ := h2.2.2.2 rfl
  exact ⟨m, by simp [World.cell?, h1]⟩
theorem arg_str2 {w : World} {ok : Nat → Prop} {vs : Array Value} {s t : List UInt8} (hs : vs.size = [V.d (.str s), V.d (.str t)].length) (hv : ∀ (i : Nat) x, [V.d (.str s), V.d (.str t)][i]? = some x → VRep w ok [] x (vs.getD i undef)) : vs = #[.string (bytesOf s), .string (bytesOf t)] := by
  have h0 := hv 0 _ rfl
  have h1 := hv 1 _ rfl
  obtain ⟨l⟩ := vs
  match l, hs with
  | [v, u], _ =>
    have h0 : VRep w ok [] (.d (.str s)) v := h0
    have h1 : VRep w ok [] (.d (.str t)) u := h1
    cases h0 with | d h0 => cases h0; cases h1 with | d h1 => cases h1; rfl
theorem c_Cut (c : UInt8) (s : List UInt8) (hl : s.length ≤ 4294967280) : ACon Tryz.prog 33 [.d (.str s), .d (.str [c])] [] (Is (.tup [.d (.str (Lib.cut s [c]).1), .d (.str (Lib.cut s [c]).2.1), .d (.bool (Lib.cut s [c]).2.2)])) := by
  refine ACon.lib (by kernel_rfl) fun w ok vs hG hok hs hv => ?_
  rw [arg_str2 hs hv]
  obtain ⟨m, hm⟩ := varMax hG
  have hz : (bytesOf s).size < 4294967281 := by show s.toArray.size < _; simp; omega
  refine (Tryz.strings_Cut (bytesOf s) (bytesOf [c]) m w hz hm).mono ?_
  rintro e w' ⟨rfl, n, rfl⟩
  refine ⟨⟨rfl, rfl, rfl, Nat.le_refl _, fun _ _ => rfl⟩, _, rfl, .tup rfl fun i x hx => ?_⟩
  match i with
  | 0 => cases hx; exact .d .str
  | 1 => cases hx; exact .d .str
  | 2 => cases hx; exact .d .bool
  | n + 3 => simp at hx
theorem c_Split (c : UInt8) (s : List UInt8) (hl : s.length ≤ 4294967280) : ACon Tryz.prog 57 [.d (.str s), .d (.str [c])] [] (Is (.d (.lst ((splitL c s).map encStr)))) := by
  refine ACon.lib (by kernel_rfl) fun w ok vs hG hok hs hv => ?_
  rw [arg_str2 hs hv]
  obtain ⟨m, hm⟩ := varMax hG
  have hz : (bytesOf s).size < 4294967281 := by show s.toArray.size < _; simp; omega
  refine (Tryz.strings_Split (bytesOf s) (bytesOf [c]) m w hz hm (Nat.le_refl 1)).mono ?_
  rintro e w' ⟨rfl, rfl⟩
  have hx := splitB_eq c s
  have hn := Lib.splitB_all (bytesOf [c]) (Nat.le_refl 1) 0 _ (bytesOf s) rfl
  have hx : (Lib.splitB (bytesOf [c]) 0 (Lib.countB (bytesOf s) (bytesOf [c])) (bytesOf s)).map (·.data.toList) = splitL c s := hx
  generalize Lib.splitB (bytesOf [c]) 0 (Lib.countB (bytesOf s) (bytesOf [c])) (bytesOf s) = bs at *
  rw [← hn]
  refine ⟨(Below.refl _ _).alloc (Nat.le_refl _) _, _, rfl, .d ?_⟩
  have hlen : bs.length = ((splitL c s).map encStr).length := by rw [← hx]; simp
  have hrow : ∀ (i : Nat) r, ((splitL c s).map encStr)[i]? = some r → ∃ b, bs[i]? = some b ∧ r = [.str b.data.toList] := fun i r hr => by
    rw [← hx, List.map_map, List.getElem?_map] at hr
    cases hb : bs[i]? with
    | none => rw [hb] at hr; simp at hr
    | some b => rw [hb] at hr; cases hr; exact ⟨b, rfl, rfl⟩
  have hd := @DRep.lst (w.alloc (.cells (bs.map Value.string).toArray 9)) (fun b => ok b ∨ w.heap.size ≤ b ∧ b < (w.alloc (.cells (bs.map Value.string).toArray 9)).heap.size) ((splitL c s).map encStr) 1 w.heap.size 0 bs.length
    (fun i _ => .string (bs.getD i ByteArray.empty)) (.inr ⟨Nat.le_refl _, by rw [World.alloc]; simp⟩) (fun r hr => by obtain ⟨a, _, rfl⟩ := List.mem_map.1 hr; rfl) (by omega)
    (fun i j r x h1 h2 => by
      obtain ⟨b, hb, rfl⟩ := hrow i r h1
      match j with
      | 0 =>
        rw [World.cell?_alloc_at _ _ _ _ rfl]
        simp [List.getD, hb]
      | n + 1 => simp at h2)
    (fun i j r x h1 h2 => by
      obtain ⟨b, hb, rfl⟩ := hrow i r h1
      match j with
      | 0 =>
        cases h2
        simp only [List.getD, hb, Option.getD_some]
        have : bytesOf b.data.toList = b := by obtain ⟨⟨l⟩⟩ := b; rfl
        have h : ∀ w ok, DRep w ok (.str b.data.toList) (.string (bytesOf b.data.toList)) := fun _ _ => .str
        rw [this] at h
        exact h _ _
      | n + 1 => simp at h2)
  rw [← hlen] at hd
  exact hd
def idxL : List (List UInt8) → List UInt8 → Int
  | [], _ => -1
  | x :: xs, s => if x = s then 0 else if idxL xs s = -1 then -1 else idxL xs s + 1
theorem idxL_hit : ∀ {xs : List (List UInt8)} {s : List UInt8} {k : Nat} (hk : k < xs.length), (∀ j (h : j < xs.length), j < k → xs[j] ≠ s) → xs[k] = s → idxL xs s = k
  | x :: xs, s, 0, _, _, h => by rw [idxL, if_pos (show x = s from h)]; rfl
  | x :: xs, s, k + 1, hk, hp, h => by
    have := idxL_hit (xs := xs) (s := s) (k := k) (by simpa using hk) (fun j hj hjk => hp (j + 1) (by simpa using hj) (by omega)) (by simpa using h)
    rw [idxL, if_neg (show ¬ x = s from hp 0 (by simp) (by omega)), this, if_neg (by omega)]
    omega
theorem idxL_miss : ∀ {xs : List (List UInt8)} {s : List UInt8}, (∀ j (h : j < xs.length), xs[j] ≠ s) → idxL xs s = -1
  | [], _, _ => rfl
  | x :: xs, s, hp => by
    have := idxL_miss (xs := xs) (s := s) (fun j hj => hp (j + 1) (by simpa using hj))
    rw [idxL, if_neg (show ¬ x = s from hp 0 (by simp)), this, if_pos rfl]
theorem idxL_side (s : List UInt8) : idxL sideT s = idxT s := by
  unfold idxT
  split
  · rename_i h; subst h; decide
  split
  · rename_i h; subst h; decide
  split
  · rename_i h; subst h; decide
  split
  · rename_i h; subst h; decide
  rename_i h0 h1 h2 h3
  refine idxL_miss fun j hj e => ?_
  match j, hj with
  | 0, _ => exact h0 e.symm
  | 1, _ => exact h1 e.symm
  | 2, _ => exact h2 e.symm
  | 3, _ => exact h3 e.symm
  | j + 4, hj => exact absurd (show j + 4 < 4 from hj) (by omega)
theorem c_idxI (xs : List (List UInt8)) (s : List UInt8) (hl : xs.length < 2^60) : ACon Tryz.prog 58 [.d (.lst (xs.map encStr)), .d (.str s)] [] (Is (.d (.int .i64 (idxL xs s)))) := by
  refine ACon.introW tok (nt := 19) Tryz.func58 rfl rfl rfl (by kernel_rfl) rfl ?_
  repeat' (first | ((with_reducible apply xsim); (first | ((with_reducible apply xlenM); exact rfl; exact rfl) | ((with_reducible apply xo); exact rfl) | with_reducible apply xend | ((with_reducible apply xidxL); exact rfl; exact rfl; exact rfl; exact rfl; omega; first | exact rfl | simp only [hsz]) | ((with_reducible apply xidxM); exact rfl; exact rfl; exact rfl; omega; omega; exact rfl) | ((with_reducible apply xldA); exact rfl; exact rfl; exact rfl; exact rfl; exact rfl) | simp -implicitDefEqProofs only [go_sem, Int.reduceEq, Int.reduceLT, Int.reduceLE, Nat.reduceAdd, Nat.reduceSub, Nat.reduceMul, Nat.reduceEqDiff, Nat.reduceLeDiff, Nat.reducePow, ↓reduceIte, reduceCtorEq, List.length_map])) | ((with_reducible apply xaw); (first | ((with_reducible apply xstepS); refine AW.step tok rfl ?_) | ((with_reducible apply xstep); refine AW.region tok rfl ?_) | with_reducible (first | refine AW.seq ?_ | refine AW.block ?_ | refine AW.skip ?_ | refine AW.ret ?_ | refine AW.exit ?_) | ((with_reducible apply xcond); exact rfl))) | with_reducible (first | refine xthen ?_ | refine xthen_r ?_ | refine xthen_e ?_ | refine xblock ?_ | refine xblock_r ?_ | refine xblock_e ?_ | refine xblock_n rfl ?_ | refine xround_r ?_ | refine xround_e ?_) | (with_reducible intro hc; (try simp only [decide_eq_true_eq, decide_eq_false_iff_not, Bool.not_true, Bool.not_false, Bool.not_eq_true', Bool.not_eq_false', ne_eq, not_true, reduceCtorEq, List.length_map] at hc); (try (exfalso; omega))) | with_reducible (first | exact trivial | refine And.intro ?_ ?_ | exact rfl | exact Nat.le_refl _) | exact Eq.refl true | exact (rfl : (_ : List Nat) = _) | exact Nat.le_of_ble_eq_true rfl | (refine inR_i64.mpr ?_; first | omega | (simp only [List.length_map, List.length_map]; omega)) | omega)
  refine AW.loop (S := fun k : Nat => ⟨[(0, .d (.lst (xs.map encStr))), (1, .d (.str s)), (7, .d (.int .i64 (xs.length : Int))), (8, .d (.int .i64 k))], [], 19, 0⟩) (Pre := fun k => k ≤ xs.length ∧ ∀ j (h : j < xs.length), j < k → xs[j] ≠ s) (μ := fun k => xs.length - k) 0 ⟨Nat.zero_le _, fun j _ h => absurd h (Nat.not_lt_zero _)⟩ ?_ ?_
  · (refine xwk (π := []) (by decide) rfl ?_ ?_; (first | exact trivial | simp -implicitDefEqProofs only [go_sem, Int.reduceEq, Int.reduceLT, Int.reduceLE, Nat.reduceAdd, Nat.reduceSub, Nat.reduceMul, Nat.reduceEqDiff, Nat.reduceLeDiff, Nat.reducePow, ↓reduceIte, reduceCtorEq, List.length_map]); repeat' (first | exact renE_n | ((with_reducible apply renE_c); exact rfl; focus (first | with_reducible exact rfl | (simp -implicitDefEqProofs only [go_sem, Int.reduceEq, Int.reduceLT, Int.reduceLE, Nat.reduceAdd, Nat.reduceSub, Nat.reduceMul, Nat.reduceEqDiff, Nat.reduceLeDiff, Nat.reducePow, ↓reduceIte, reduceCtorEq, List.length_map]; done) | (simp -implicitDefEqProofs only [go_sem, Int.reduceEq, Int.reduceLT, Int.reduceLE, Nat.reduceAdd, Nat.reduceSub, Nat.reduceMul, Nat.reduceEqDiff, Nat.reduceLeDiff, Nat.reducePow, ↓reduceIte, reduceCtorEq, List.length_map]; omega)))))
  · rintro k ⟨hk, hp⟩
    by_cases hlt : k < xs.length
    · have hrow := at_map (f := encStr) hlt
      repeat' (first | ((with_reducible apply xsim); (first | ((with_reducible apply xlenM); exact rfl; exact rfl) | ((with_reducible apply xo); exact rfl) | with_reducible apply xend | ((with_reducible apply xidxL); exact rfl; exact rfl; exact rfl; (first | exact hrow); omega; first | exact rfl | simp only [hsz]) | ((with_reducible apply xidxM); exact rfl; exact rfl; exact rfl; omega; omega; exact rfl) | ((with_reducible apply xldA); exact rfl; exact rfl; exact rfl; (first | exact hrow); exact rfl) | simp -implicitDefEqProofs only [go_sem, Int.reduceEq, Int.reduceLT, Int.reduceLE, Nat.reduceAdd, Nat.reduceSub, Nat.reduceMul, Nat.reduceEqDiff, Nat.reduceLeDiff, Nat.reducePow, ↓reduceIte, reduceCtorEq, List.length_map])) | ((with_reducible apply xaw); (first | ((with_reducible apply xstepS); refine AW.step tok rfl ?_) | ((with_reducible apply xstep); refine AW.region tok rfl ?_) | with_reducible (first | refine AW.seq ?_ | refine AW.block ?_ | refine AW.skip ?_ | refine AW.ret ?_ | refine AW.exit ?_) | ((with_reducible apply xcond); exact rfl))) | with_reducible (first | refine xthen ?_ | refine xthen_r ?_ | refine xthen_e ?_ | refine xblock ?_ | refine xblock_r ?_ | refine xblock_e ?_ | refine xblock_n rfl ?_ | refine xround_r ?_ | refine xround_e ?_) | (with_reducible intro hc; (try simp only [decide_eq_true_eq, decide_eq_false_iff_not, Bool.not_true, Bool.not_false, Bool.not_eq_true', Bool.not_eq_false', ne_eq, not_true, reduceCtorEq, List.length_map] at hc); (try (exfalso; omega))) | with_reducible (first | exact trivial | refine And.intro ?_ ?_ | exact rfl | exact Nat.le_refl _) | exact Eq.refl true | exact (rfl : (_ : List Nat) = _) | exact Nat.le_of_ble_eq_true rfl | (refine inR_i64.mpr ?_; first | omega | (simp only [List.length_map, List.length_map]; omega)) | omega)
      · have hc' : xs[k] = s := by first | exact hc | exact hc.symm
        have e : idxL xs s = k := idxL_hit hlt hp hc'
        (refine xfinIs (by first | exact .inl rfl | exact .inr rfl) rfl (by repeat' (first | exact trivial | exact rfl | refine And.intro ?_ ?_)) rfl ?_ rfl; first | with_reducible exact rfl | (simp -implicitDefEqProofs only [go_sem, Int.reduceEq, Int.reduceLT, Int.reduceLE, Nat.reduceAdd, Nat.reduceSub, Nat.reduceMul, Nat.reduceEqDiff, Nat.reduceLeDiff, Nat.reducePow, ↓reduceIte, reduceCtorEq, e] <;> (first | rfl | omega | exact decide_eq_decide.2 (by omega) | exact decide_eq_false (by omega) | exact decide_eq_true (by omega) | (symm; first | exact decide_eq_false (by omega) | exact decide_eq_true (by omega)) | (rw [Bool.eq_iff_iff]; simp only [Bool.not_eq_true', Bool.not_eq_false', Bool.and_eq_true, Bool.or_eq_true, decide_eq_true_eq, decide_eq_false_iff_not, reduceCtorEq, true_iff, iff_true, false_iff, iff_false]; omega))))
      · refine round_end (k+1) ⟨by omega, ?_⟩ (by omega) (by (refine xwk (π := []) (by decide) rfl ?_ ?_; (first | exact trivial | simp -implicitDefEqProofs only [go_sem, Int.reduceEq, Int.reduceLT, Int.reduceLE, Nat.reduceAdd, Nat.reduceSub, Nat.reduceMul, Nat.reduceEqDiff, Nat.reduceLeDiff, Nat.reducePow, ↓reduceIte, reduceCtorEq]); repeat' (first | exact renE_n | ((with_reducible apply renE_c); exact rfl; focus (first | with_reducible exact rfl | (simp -implicitDefEqProofs only [go_sem, Int.reduceEq, Int.reduceLT, Int.reduceLE, Nat.reduceAdd, Nat.reduceSub, Nat.reduceMul, Nat.reduceEqDiff, Nat.reduceLeDiff, Nat.reducePow, ↓reduceIte, reduceCtorEq]; done) | (simp -implicitDefEqProofs only [go_sem, Int.reduceEq, Int.reduceLT, Int.reduceLE, Nat.reduceAdd, Nat.reduceSub, Nat.reduceMul, Nat.reduceEqDiff, Nat.reduceLeDiff, Nat.reducePow, ↓reduceIte, reduceCtorEq]; omega))))))
        intro j hj h; by_cases h' : j = k
        · subst h'; intro e; exact hc (by first | exact e | exact e.symm)
        · exact hp j hj (by omega)
    · repeat' (first | ((with_reducible apply xsim); (first | ((with_reducible apply xlenM); exact rfl; exact rfl) | ((with_reducible apply xo); exact rfl) | with_reducible apply xend | ((with_reducible apply xidxL); exact rfl; exact rfl; exact rfl; exact rfl; omega; first | exact rfl | simp only [hsz]) | ((with_reducible apply xidxM); exact rfl; exact rfl; exact rfl; omega; omega; exact rfl) | ((with_reducible apply xldA); exact rfl; exact rfl; exact rfl; exact rfl; exact rfl) | simp -implicitDefEqProofs only [go_sem, Int.reduceEq, Int.reduceLT, Int.reduceLE, Nat.reduceAdd, Nat.reduceSub, Nat.reduceMul, Nat.reduceEqDiff, Nat.reduceLeDiff, Nat.reducePow, ↓reduceIte, reduceCtorEq, List.length_map])) | ((with_reducible apply xaw); (first | ((with_reducible apply xstepS); refine AW.step tok rfl ?_) | ((with_reducible apply xstep); refine AW.region tok rfl ?_) | with_reducible (first | refine AW.seq ?_ | refine AW.block ?_ | refine AW.skip ?_ | refine AW.ret ?_ | refine AW.exit ?_) | ((with_reducible apply xcond); exact rfl))) | with_reducible (first | refine xthen ?_ | refine xthen_r ?_ | refine xthen_e ?_ | refine xblock ?_ | refine xblock_r ?_ | refine xblock_e ?_ | refine xblock_n rfl ?_ | refine xround_r ?_ | refine xround_e ?_) | (with_reducible intro hc; (try simp only [decide_eq_true_eq, decide_eq_false_iff_not, Bool.not_true, Bool.not_false, Bool.not_eq_true', Bool.not_eq_false', ne_eq, not_true, reduceCtorEq, List.length_map] at hc); (try (exfalso; omega))) | with_reducible (first | exact trivial | refine And.intro ?_ ?_ | exact rfl | exact Nat.le_refl _) | exact Eq.refl true | exact (rfl : (_ : List Nat) = _) | exact Nat.le_of_ble_eq_true rfl | (refine inR_i64.mpr ?_; first | omega | (simp only [List.length_map, List.length_map]; omega)) | omega)
      have e : idxL xs s = -1 := idxL_miss fun j hj => hp j hj (by omega)
      (refine xfinIs (by first | exact .inl rfl | exact .inr rfl) rfl (by repeat' (first | exact trivial | exact rfl | refine And.intro ?_ ?_)) rfl ?_ rfl; first | with_reducible exact rfl | (simp -implicitDefEqProofs only [go_sem, Int.reduceEq, Int.reduceLT, Int.reduceLE, Nat.reduceAdd, Nat.reduceSub, Nat.reduceMul, Nat.reduceEqDiff, Nat.reduceLeDiff, Nat.reducePow, ↓reduceIte, reduceCtorEq, e] <;> (first | rfl | omega | exact decide_eq_decide.2 (by omega) | exact decide_eq_false (by omega) | exact decide_eq_true (by omega) | (symm; first | exact decide_eq_false (by omega) | exact decide_eq_true (by omega)) | (rw [Bool.eq_iff_iff]; simp only [Bool.not_eq_true', Bool.not_eq_false', Bool.and_eq_true, Bool.or_eq_true, decide_eq_true_eq, decide_eq_false_iff_not, reduceCtorEq, true_iff, iff_true, false_iff, iff_false]; omega))))
theorem c_idxS (xs : List (List UInt8)) (s : List UInt8) (hl : xs.length < 2^60) : ACon Tryz.prog 46 [.d (.lst (xs.map encStr)), .d (.str s)] [] (Is (.d (.int .i64 (idxL xs s)))) := by
  refine ACon.introW tok (nt := 19) Tryz.func46 rfl rfl rfl (by kernel_rfl) rfl ?_
  repeat' (first | ((with_reducible apply xsim); (first | ((with_reducible apply xlenM); exact rfl; exact rfl) | ((with_reducible apply xo); exact rfl) | with_reducible apply xend | ((with_reducible apply xidxL); exact rfl; exact rfl; exact rfl; exact rfl; omega; first | exact rfl | simp only [hsz]) | ((with_reducible apply xidxM); exact rfl; exact rfl; exact rfl; omega; omega; exact rfl) | ((with_reducible apply xldA); exact rfl; exact rfl; exact rfl; exact rfl; exact rfl) | simp -implicitDefEqProofs only [go_sem, Int.reduceEq, Int.reduceLT, Int.reduceLE, Nat.reduceAdd, Nat.reduceSub, Nat.reduceMul, Nat.reduceEqDiff, Nat.reduceLeDiff, Nat.reducePow, ↓reduceIte, reduceCtorEq, List.length_map])) | ((with_reducible apply xaw); (first | ((with_reducible apply xstepS); refine AW.step tok rfl ?_) | ((with_reducible apply xstep); refine AW.region tok rfl ?_) | with_reducible (first | refine AW.seq ?_ | refine AW.block ?_ | refine AW.skip ?_ | refine AW.ret ?_ | refine AW.exit ?_) | ((with_reducible apply xcond); exact rfl))) | with_reducible (first | refine xthen ?_ | refine xthen_r ?_ | refine xthen_e ?_ | refine xblock ?_ | refine xblock_r ?_ | refine xblock_e ?_ | refine xblock_n rfl ?_ | refine xround_r ?_ | refine xround_e ?_) | (with_reducible intro hc; (try simp only [decide_eq_true_eq, decide_eq_false_iff_not, Bool.not_true, Bool.not_false, Bool.not_eq_true', Bool.not_eq_false', ne_eq, not_true, reduceCtorEq, List.length_map] at hc); (try (exfalso; omega))) | with_reducible (first | exact trivial | refine And.intro ?_ ?_ | exact rfl | exact Nat.le_refl _) | exact Eq.refl true | exact (rfl : (_ : List Nat) = _) | exact Nat.le_of_ble_eq_true rfl | (refine inR_i64.mpr ?_; first | omega | (simp only [List.length_map, List.length_map]; omega)) | omega)
  refine AW.loop (S := fun k : Nat => ⟨[(0, .d (.lst (xs.map encStr))), (1, .d (.str s)), (5, .d (.int .i64 k))], [], 19, 0⟩) (Pre := fun k => k ≤ xs.length ∧ ∀ j (h : j < xs.length), j < k → xs[j] ≠ s) (μ := fun k => xs.length - k) 0 ⟨Nat.zero_le _, fun j _ h => absurd h (Nat.not_lt_zero _)⟩ ?_ ?_
  · (refine xwk (π := []) (by decide) rfl ?_ ?_; (first | exact trivial | simp -implicitDefEqProofs only [go_sem, Int.reduceEq, Int.reduceLT, Int.reduceLE, Nat.reduceAdd, Nat.reduceSub, Nat.reduceMul, Nat.reduceEqDiff, Nat.reduceLeDiff, Nat.reducePow, ↓reduceIte, reduceCtorEq, List.length_map]); repeat' (first | exact renE_n | ((with_reducible apply renE_c); exact rfl; focus (first | with_reducible exact rfl | (simp -implicitDefEqProofs only [go_sem, Int.reduceEq, Int.reduceLT, Int.reduceLE, Nat.reduceAdd, Nat.reduceSub, Nat.reduceMul, Nat.reduceEqDiff, Nat.reduceLeDiff, Nat.reducePow, ↓reduceIte, reduceCtorEq, List.length_map]; done) | (simp -implicitDefEqProofs only [go_sem, Int.reduceEq, Int.reduceLT, Int.reduceLE, Nat.reduceAdd, Nat.reduceSub, Nat.reduceMul, Nat.reduceEqDiff, Nat.reduceLeDiff, Nat.reducePow, ↓reduceIte, reduceCtorEq, List.length_map]; omega)))))
  · rintro k ⟨hk, hp⟩
    by_cases hlt : k < xs.length
    · have hrow := at_map (f := encStr) hlt
      repeat' (first | ((with_reducible apply xsim); (first | ((with_reducible apply xlenM); exact rfl; exact rfl) | ((with_reducible apply xo); exact rfl) | with_reducible apply xend | ((with_reducible apply xidxL); exact rfl; exact rfl; exact rfl; (first | exact hrow); omega; first | exact rfl | simp only [hsz]) | ((with_reducible apply xidxM); exact rfl; exact rfl; exact rfl; omega; omega; exact rfl) | ((with_reducible apply xldA); exact rfl; exact rfl; exact rfl; (first | exact hrow); exact rfl) | simp -implicitDefEqProofs only [go_sem, Int.reduceEq, Int.reduceLT, Int.reduceLE, Nat.reduceAdd, Nat.reduceSub, Nat.reduceMul, Nat.reduceEqDiff, Nat.reduceLeDiff, Nat.reducePow, ↓reduceIte, reduceCtorEq, List.length_map])) | ((with_reducible apply xaw); (first | ((with_reducible apply xstepS); refine AW.step tok rfl ?_) | ((with_reducible apply xstep); refine AW.region tok rfl ?_) | with_reducible (first | refine AW.seq ?_ | refine AW.block ?_ | refine AW.skip ?_ | refine AW.ret ?_ | refine AW.exit ?_) | ((with_reducible apply xcond); exact rfl))) | with_reducible (first | refine xthen ?_ | refine xthen_r ?_ | refine xthen_e ?_ | refine xblock ?_ | refine xblock_r ?_ | refine xblock_e ?_ | refine xblock_n rfl ?_ | refine xround_r ?_ | refine xround_e ?_) | (with_reducible intro hc; (try simp only [decide_eq_true_eq, decide_eq_false_iff_not, Bool.not_true, Bool.not_false, Bool.not_eq_true', Bool.not_eq_false', ne_eq, not_true, reduceCtorEq, List.length_map] at hc); (try (exfalso; omega))) | with_reducible (first | exact trivial | refine And.intro ?_ ?_ | exact rfl | exact Nat.le_refl _) | exact Eq.refl true | exact (rfl : (_ : List Nat) = _) | exact Nat.le_of_ble_eq_true rfl | (refine inR_i64.mpr ?_; first | omega | (simp only [List.length_map, List.length_map]; omega)) | omega)
      · have hc' : xs[k] = s := by first | exact hc | exact hc.symm
        have e : idxL xs s = k := idxL_hit hlt hp hc'
        (refine xfinIs (by first | exact .inl rfl | exact .inr rfl) rfl (by repeat' (first | exact trivial | exact rfl | refine And.intro ?_ ?_)) rfl ?_ rfl; first | with_reducible exact rfl | (simp -implicitDefEqProofs only [go_sem, Int.reduceEq, Int.reduceLT, Int.reduceLE, Nat.reduceAdd, Nat.reduceSub, Nat.reduceMul, Nat.reduceEqDiff, Nat.reduceLeDiff, Nat.reducePow, ↓reduceIte, reduceCtorEq, e] <;> (first | rfl | omega | exact decide_eq_decide.2 (by omega) | exact decide_eq_false (by omega) | exact decide_eq_true (by omega) | (symm; first | exact decide_eq_false (by omega) | exact decide_eq_true (by omega)) | (rw [Bool.eq_iff_iff]; simp only [Bool.not_eq_true', Bool.not_eq_false', Bool.and_eq_true, Bool.or_eq_true, decide_eq_true_eq, decide_eq_false_iff_not, reduceCtorEq, true_iff, iff_true, false_iff, iff_false]; omega))))
      · refine round_end (k+1) ⟨by omega, ?_⟩ (by omega) (by (refine xwk (π := []) (by decide) rfl ?_ ?_; (first | exact trivial | simp -implicitDefEqProofs only [go_sem, Int.reduceEq, Int.reduceLT, Int.reduceLE, Nat.reduceAdd, Nat.reduceSub, Nat.reduceMul, Nat.reduceEqDiff, Nat.reduceLeDiff, Nat.reducePow, ↓reduceIte, reduceCtorEq]); repeat' (first | exact renE_n | ((with_reducible apply renE_c); exact rfl; focus (first | with_reducible exact rfl | (simp -implicitDefEqProofs only [go_sem, Int.reduceEq, Int.reduceLT, Int.reduceLE, Nat.reduceAdd, Nat.reduceSub, Nat.reduceMul, Nat.reduceEqDiff, Nat.reduceLeDiff, Nat.reducePow, ↓reduceIte, reduceCtorEq]; done) | (simp -implicitDefEqProofs only [go_sem, Int.reduceEq, Int.reduceLT, Int.reduceLE, Nat.reduceAdd, Nat.reduceSub, Nat.reduceMul, Nat.reduceEqDiff, Nat.reduceLeDiff, Nat.reducePow, ↓reduceIte, reduceCtorEq]; omega))))))
        intro j hj h; by_cases h' : j = k
        · subst h'; intro e; exact hc (by first | exact e | exact e.symm)
        · exact hp j hj (by omega)
    · repeat' (first | ((with_reducible apply xsim); (first | ((with_reducible apply xlenM); exact rfl; exact rfl) | ((with_reducible apply xo); exact rfl) | with_reducible apply xend | ((with_reducible apply xidxL); exact rfl; exact rfl; exact rfl; exact rfl; omega; first | exact rfl | simp only [hsz]) | ((with_reducible apply xidxM); exact rfl; exact rfl; exact rfl; omega; omega; exact rfl) | ((with_reducible apply xldA); exact rfl; exact rfl; exact rfl; exact rfl; exact rfl) | simp -implicitDefEqProofs only [go_sem, Int.reduceEq, Int.reduceLT, Int.reduceLE, Nat.reduceAdd, Nat.reduceSub, Nat.reduceMul, Nat.reduceEqDiff, Nat.reduceLeDiff, Nat.reducePow, ↓reduceIte, reduceCtorEq, List.length_map])) | ((with_reducible apply xaw); (first | ((with_reducible apply xstepS); refine AW.step tok rfl ?_) | ((with_reducible apply xstep); refine AW.region tok rfl ?_) | with_reducible (first | refine AW.seq ?_ | refine AW.block ?_ | refine AW.skip ?_ | refine AW.ret ?_ | refine AW.exit ?_) | ((with_reducible apply xcond); exact rfl))) | with_reducible (first | refine xthen ?_ | refine xthen_r ?_ | refine xthen_e ?_ | refine xblock ?_ | refine xblock_r ?_ | refine xblock_e ?_ | refine xblock_n rfl ?_ | refine xround_r ?_ | refine xround_e ?_) | (with_reducible intro hc; (try simp only [decide_eq_true_eq, decide_eq_false_iff_not, Bool.not_true, Bool.not_false, Bool.not_eq_true', Bool.not_eq_false', ne_eq, not_true, reduceCtorEq, List.length_map] at hc); (try (exfalso; omega))) | with_reducible (first | exact trivial | refine And.intro ?_ ?_ | exact rfl | exact Nat.le_refl _) | exact Eq.refl true | exact (rfl : (_ : List Nat) = _) | exact Nat.le_of_ble_eq_true rfl | (refine inR_i64.mpr ?_; first | omega | (simp only [List.length_map, List.length_map]; omega)) | omega)
      have e : idxL xs s = -1 := idxL_miss fun j hj => hp j hj (by omega)
      (refine xfinIs (by first | exact .inl rfl | exact .inr rfl) rfl (by repeat' (first | exact trivial | exact rfl | refine And.intro ?_ ?_)) rfl ?_ rfl; first | with_reducible exact rfl | (simp -implicitDefEqProofs only [go_sem, Int.reduceEq, Int.reduceLT, Int.reduceLE, Nat.reduceAdd, Nat.reduceSub, Nat.reduceMul, Nat.reduceEqDiff, Nat.reduceLeDiff, Nat.reducePow, ↓reduceIte, reduceCtorEq, e] <;> (first | rfl | omega | exact decide_eq_decide.2 (by omega) | exact decide_eq_false (by omega) | exact decide_eq_true (by omega) | (symm; first | exact decide_eq_false (by omega) | exact decide_eq_true (by omega)) | (rw [Bool.eq_iff_iff]; simp only [Bool.not_eq_true', Bool.not_eq_false', Bool.and_eq_true, Bool.or_eq_true, decide_eq_true_eq, decide_eq_false_iff_not, reduceCtorEq, true_iff, iff_true, false_iff, iff_false]; omega))))
end Go.Proofs.YtmjofbjglhdkjaaGreatDoor

namespace Go.Proofs.YtmjofbjglhdkjaaGreatDoor
open Go.Fw
attribute [local irreducible] Go.Fw.aops Go.Fw.arun

theorem split_pre {c : UInt8} {s : List UInt8} {f k : Nat} (hf : f ≤ k) (hk : k ≤ s.length) (h : c ∉ (s.take k).drop f) : s.drop f = (s.take k).drop f ++ s.drop k := by
  have := List.drop_append_of_le_length (l₁ := s.take k) (l₂ := s.drop k) (i := f) (by rw [List.length_take]; omega)
  rw [List.take_append_drop] at this
  exact this
theorem split_hit {c : UInt8} {s : List UInt8} {f k : Nat} (hf : f ≤ k) (hk : s[k]? = some c) (h : c ∉ (s.take k).drop f) : splitL c (s.drop f) = (s.take k).drop f :: splitL c (s.drop (k + 1)) := by
  obtain ⟨hlt, e⟩ := List.getElem?_eq_some_iff.1 hk
  rw [split_pre hf (by omega) h, List.drop_eq_getElem_cons hlt, e, splitL_app _ h]
theorem split_end {c : UInt8} {s : List UInt8} {f : Nat} (hf : f ≤ s.length) (h : c ∉ (s.take s.length).drop f) : splitL c (s.drop f) = [s.drop f] := by
  rw [List.take_length] at h
  exact splitL_one h
theorem split_next {c b : UInt8} {s : List UInt8} {f k : Nat} (hf : f ≤ k) (hk : s[k]? = some b) (hb : b ≠ c) (h : c ∉ (s.take k).drop f) : c ∉ (s.take (k + 1)).drop f := by
  obtain ⟨hlt, e⟩ := List.getElem?_eq_some_iff.1 hk
  rw [List.take_succ_eq_append_getElem hlt, List.drop_append_of_le_length (by rw [List.length_take]; omega), e, List.mem_append]
  rintro (h1 | h1)
  · exact h h1
  · simp at h1; exact hb h1.symm
theorem c_splitAt (c : UInt8) (s : List UInt8) (hl : s.length ≤ 4294967280) : ACon Tryz.prog 22 [.d (.str s), .d (.int .u8 c.toNat)] [] (Is (.d (.lst ((splitL c s).map encStr)))) := by
  refine ACon.introW tok (nt := 35) Tryz.func22 rfl rfl rfl (by kernel_rfl) rfl ?_
  repeat' (first | ((with_reducible apply xsim); (first | ((with_reducible apply xlenM); exact rfl; exact rfl) | ((with_reducible apply xo); exact rfl) | with_reducible apply xend | ((with_reducible apply xbuild); exact rfl; exact rfl; exact rfl; exact rfl; exact rfl; simp only [backV, backVs, backVs_mapd, backId, backO, List.map_cons, List.map_nil, List.getElem?_nil, List.length_cons, List.length_nil, Nat.reduceAdd, Nat.reduceSub, List.cons_append, List.nil_append, List.append_nil]) | ((with_reducible apply xidxS); exact rfl; exact rfl; exact rfl; exact rfl; omega) | ((with_reducible apply xslcSLo); exact rfl; exact rfl; exact rfl; (first | omega | (simp only [List.length_append, List.length_cons, List.length_nil]; omega))) | ((with_reducible apply xslcSHi); exact rfl; exact rfl; exact rfl; (first | omega | (simp only [List.length_append, List.length_cons, List.length_nil]; omega))) | ((with_reducible apply xslcSB); exact rfl; exact rfl; exact rfl; exact rfl; (first | omega | (simp only [List.length_append, List.length_cons, List.length_nil]; omega))) | ((with_reducible apply xslcLo); exact rfl; exact rfl; exact rfl; exact (fun r hr => by obtain ⟨a, _, rfl⟩ := List.mem_map.1 hr; rfl); first | omega | (simp only [List.length_cons, List.length_nil]; omega)) | ((with_reducible apply xslcHi); exact rfl; exact rfl; exact rfl; exact (fun r hr => by obtain ⟨a, _, rfl⟩ := List.mem_map.1 hr; rfl); first | omega | (simp only [List.length_cons, List.length_nil]; omega)) | ((with_reducible apply xslcB); exact rfl; exact rfl; exact rfl; exact rfl; exact (fun r hr => by obtain ⟨a, _, rfl⟩ := List.mem_map.1 hr; rfl); first | omega | (simp only [List.length_cons, List.length_nil]; omega)) | ((with_reducible apply xslcMHi); exact rfl; exact rfl; exact rfl; (first | omega | (simp only [List.length_cons, List.length_nil]; omega))) | ((with_reducible apply xslcMLo); exact rfl; exact rfl; exact rfl; (first | omega | (simp only [List.length_cons, List.length_nil]; omega))) | ((with_reducible apply xslcMB); exact rfl; exact rfl; exact rfl; exact rfl; (first | omega | (simp only [List.length_cons, List.length_nil]; omega))) | simp -implicitDefEqProofs only [go_sem, Int.reduceEq, Int.reduceLT, Int.reduceLE, Nat.reduceAdd, Nat.reduceSub, Nat.reduceMul, Nat.reduceEqDiff, Nat.reduceLeDiff, Nat.reducePow, ↓reduceIte, reduceCtorEq])) | ((with_reducible apply xaw); (first | ((with_reducible apply xstepS); refine AW.step tok rfl ?_) | ((with_reducible apply xstep); refine AW.region tok rfl ?_) | with_reducible (first | refine AW.seq ?_ | refine AW.block ?_ | refine AW.skip ?_ | refine AW.ret ?_ | refine AW.exit ?_) | ((with_reducible apply xcond); exact rfl))) | with_reducible (first | refine xthen ?_ | refine xthen_r ?_ | refine xthen_e ?_ | refine xblock ?_ | refine xblock_r ?_ | refine xblock_e ?_ | refine xblock_n rfl ?_ | refine xround_r ?_ | refine xround_e ?_) | (with_reducible intro hc; (try simp only [decide_eq_true_eq, decide_eq_false_iff_not, Bool.not_true, Bool.not_false, Bool.not_eq_true', Bool.not_eq_false', ne_eq, not_true, reduceCtorEq] at hc); (try (exfalso; omega))) | with_reducible (first | exact trivial | refine And.intro ?_ ?_ | exact rfl | exact Nat.le_refl _) | exact Eq.refl true | exact (rfl : (_ : List Nat) = _) | exact Nat.le_of_ble_eq_true rfl | (refine inR_i64.mpr ?_; first | omega | (simp only [List.length_map]; omega)) | omega)
  refine AW.loop (S := fun k : Nat × Nat × List (List UInt8) => ⟨[(0, .d (.str s)), (1, .d (.int .u8 c.toNat)), (5, .msl 0 1 0 k.2.2.length), (6, .d (.int .i64 k.2.1)), (7, .d (.int .i64 k.1))], [.arr 1 (k.2.2.map encStr)], 35, 0⟩)
    (Pre := fun k => k.1 ≤ s.length ∧ k.2.1 ≤ k.1 ∧ k.2.2.length ≤ k.1 ∧ c ∉ (s.take k.1).drop k.2.1 ∧ k.2.2 ++ splitL c (s.drop k.2.1) = splitL c s) (μ := fun k => s.length - k.1) (0, 0, []) ⟨Nat.zero_le _, Nat.le_refl _, Nat.le_refl _, by simp, by simp⟩ ?_ ?_
  · (refine xwk (π := [0]) (by decide) rfl ?_ ?_; (first | exact trivial | simp -implicitDefEqProofs only [go_sem, Int.reduceEq, Int.reduceLT, Int.reduceLE, Nat.reduceAdd, Nat.reduceSub, Nat.reduceMul, Nat.reduceEqDiff, Nat.reduceLeDiff, Nat.reducePow, ↓reduceIte, reduceCtorEq, List.map_nil, List.length_nil]); repeat' (first | exact renE_n | ((with_reducible apply renE_c); exact rfl; focus (first | with_reducible exact rfl | (simp -implicitDefEqProofs only [go_sem, Int.reduceEq, Int.reduceLT, Int.reduceLE, Nat.reduceAdd, Nat.reduceSub, Nat.reduceMul, Nat.reduceEqDiff, Nat.reduceLeDiff, Nat.reducePow, ↓reduceIte, reduceCtorEq, List.map_nil, List.length_nil]; done) | (simp -implicitDefEqProofs only [go_sem, Int.reduceEq, Int.reduceLT, Int.reduceLE, Nat.reduceAdd, Nat.reduceSub, Nat.reduceMul, Nat.reduceEqDiff, Nat.reduceLeDiff, Nat.reducePow, ↓reduceIte, reduceCtorEq, List.map_nil, List.length_nil]; omega)))))
  · rintro ⟨k, f, out⟩ ⟨hk, hf, ho, hn, he⟩
    simp only at hk hf ho hn he
    by_cases hlt : k < s.length
    · obtain ⟨b, hrow⟩ : ∃ b, s[k]? = some b := ⟨s[k], List.getElem?_eq_getElem hlt⟩
      repeat' (first | ((with_reducible apply xsim); (first | ((with_reducible apply xlenM); exact rfl; exact rfl) | ((with_reducible apply xo); exact rfl) | with_reducible apply xend | ((with_reducible apply xbuild); exact rfl; exact rfl; exact rfl; exact rfl; exact rfl; simp only [backV, backVs, backVs_mapd, backId, backO, List.map_cons, List.map_nil, List.getElem?_nil, List.length_cons, List.length_nil, Nat.reduceAdd, Nat.reduceSub, List.cons_append, List.nil_append, List.append_nil]) | ((with_reducible apply xidxS); exact rfl; exact rfl; exact rfl; (first | exact hrow); omega) | ((with_reducible apply xslcSLo); exact rfl; exact rfl; exact rfl; (first | omega | (simp only [List.length_append, List.length_cons, List.length_nil]; omega))) | ((with_reducible apply xslcSHi); exact rfl; exact rfl; exact rfl; (first | omega | (simp only [List.length_append, List.length_cons, List.length_nil]; omega))) | ((with_reducible apply xslcSB); exact rfl; exact rfl; exact rfl; exact rfl; (first | omega | (simp only [List.length_append, List.length_cons, List.length_nil]; omega))) | ((with_reducible apply xslcLo); exact rfl; exact rfl; exact rfl; exact (fun r hr => by obtain ⟨a, _, rfl⟩ := List.mem_map.1 hr; rfl); first | omega | (simp only [List.length_cons, List.length_nil]; omega)) | ((with_reducible apply xslcHi); exact rfl; exact rfl; exact rfl; exact (fun r hr => by obtain ⟨a, _, rfl⟩ := List.mem_map.1 hr; rfl); first | omega | (simp only [List.length_cons, List.length_nil]; omega)) | ((with_reducible apply xslcB); exact rfl; exact rfl; exact rfl; exact rfl; exact (fun r hr => by obtain ⟨a, _, rfl⟩ := List.mem_map.1 hr; rfl); first | omega | (simp only [List.length_cons, List.length_nil]; omega)) | ((with_reducible apply xslcMHi); exact rfl; exact rfl; exact rfl; (first | omega | (simp only [List.length_cons, List.length_nil]; omega))) | ((with_reducible apply xslcMLo); exact rfl; exact rfl; exact rfl; (first | omega | (simp only [List.length_cons, List.length_nil]; omega))) | ((with_reducible apply xslcMB); exact rfl; exact rfl; exact rfl; exact rfl; (first | omega | (simp only [List.length_cons, List.length_nil]; omega))) | simp -implicitDefEqProofs only [go_sem, Int.reduceEq, Int.reduceLT, Int.reduceLE, Nat.reduceAdd, Nat.reduceSub, Nat.reduceMul, Nat.reduceEqDiff, Nat.reduceLeDiff, Nat.reducePow, ↓reduceIte, reduceCtorEq])) | ((with_reducible apply xaw); (first | ((with_reducible apply xstepS); refine AW.step tok rfl ?_) | ((with_reducible apply xstep); refine AW.region tok rfl ?_) | with_reducible (first | refine AW.seq ?_ | refine AW.block ?_ | refine AW.skip ?_ | refine AW.ret ?_ | refine AW.exit ?_) | ((with_reducible apply xcond); exact rfl))) | with_reducible (first | refine xthen ?_ | refine xthen_r ?_ | refine xthen_e ?_ | refine xblock ?_ | refine xblock_r ?_ | refine xblock_e ?_ | refine xblock_n rfl ?_ | refine xround_r ?_ | refine xround_e ?_) | (with_reducible intro hc; (try simp only [decide_eq_true_eq, decide_eq_false_iff_not, Bool.not_true, Bool.not_false, Bool.not_eq_true', Bool.not_eq_false', ne_eq, not_true, reduceCtorEq] at hc); (try (exfalso; omega))) | with_reducible (first | exact trivial | refine And.intro ?_ ?_ | exact rfl | exact Nat.le_refl _) | exact Eq.refl true | exact (rfl : (_ : List Nat) = _) | exact Nat.le_of_ble_eq_true rfl | (refine inR_i64.mpr ?_; first | omega | (simp only [List.length_map]; omega)) | omega)
      · have hb : b = c := UInt8.toNat_inj.1 (by omega)
        subst hb
        refine round_end (k + 1, k + 1, out ++ [(s.take k).drop f]) ⟨by omega, Nat.le_refl _, by simp; omega, by simp, ?_⟩ (by simp only; omega) (by (refine xwk (π := [2]) (by decide) rfl ?_ ?_; (first | exact trivial | simp -implicitDefEqProofs only [go_sem, Int.reduceEq, Int.reduceLT, Int.reduceLE, Nat.reduceAdd, Nat.reduceSub, Nat.reduceMul, Nat.reduceEqDiff, Nat.reduceLeDiff, Nat.reducePow, ↓reduceIte, reduceCtorEq, List.map_append, List.map_cons, List.map_nil, encStr, List.length_append, List.length_cons, List.length_nil, Int.toNat_natCast]); repeat' (first | exact renE_n | ((with_reducible apply renE_c); exact rfl; focus (first | with_reducible exact rfl | (simp -implicitDefEqProofs only [go_sem, Int.reduceEq, Int.reduceLT, Int.reduceLE, Nat.reduceAdd, Nat.reduceSub, Nat.reduceMul, Nat.reduceEqDiff, Nat.reduceLeDiff, Nat.reducePow, ↓reduceIte, reduceCtorEq, List.map_append, List.map_cons, List.map_nil, encStr, List.length_append, List.length_cons, List.length_nil, Int.toNat_natCast]; done) | (simp -implicitDefEqProofs only [go_sem, Int.reduceEq, Int.reduceLT, Int.reduceLE, Nat.reduceAdd, Nat.reduceSub, Nat.reduceMul, Nat.reduceEqDiff, Nat.reduceLeDiff, Nat.reducePow, ↓reduceIte, reduceCtorEq, List.map_append, List.map_cons, List.map_nil, encStr, List.length_append, List.length_cons, List.length_nil, Int.toNat_natCast]; omega))))))
        rw [← he, split_hit hf hrow hn]
        simp
      · have hb : b ≠ c := fun e => hc (by rw [e])
        exact round_end (k + 1, f, out) ⟨by simp only; omega, by simp only; omega, by simp only; omega, split_next hf hrow hb hn, he⟩ (by simp only; omega) (by (refine xwk (π := [0]) (by decide) rfl ?_ ?_; (first | exact trivial | simp -implicitDefEqProofs only [go_sem, Int.reduceEq, Int.reduceLT, Int.reduceLE, Nat.reduceAdd, Nat.reduceSub, Nat.reduceMul, Nat.reduceEqDiff, Nat.reduceLeDiff, Nat.reducePow, ↓reduceIte, reduceCtorEq]); repeat' (first | exact renE_n | ((with_reducible apply renE_c); exact rfl; focus (first | with_reducible exact rfl | (simp -implicitDefEqProofs only [go_sem, Int.reduceEq, Int.reduceLT, Int.reduceLE, Nat.reduceAdd, Nat.reduceSub, Nat.reduceMul, Nat.reduceEqDiff, Nat.reduceLeDiff, Nat.reducePow, ↓reduceIte, reduceCtorEq]; done) | (simp -implicitDefEqProofs only [go_sem, Int.reduceEq, Int.reduceLT, Int.reduceLE, Nat.reduceAdd, Nat.reduceSub, Nat.reduceMul, Nat.reduceEqDiff, Nat.reduceLeDiff, Nat.reducePow, ↓reduceIte, reduceCtorEq]; omega))))))
    · have hk' : k = s.length := by omega
      subst hk'
      have e := split_end hf hn
      rw [e] at he
      repeat' (first | ((with_reducible apply xsim); (first | ((with_reducible apply xlenM); exact rfl; exact rfl) | ((with_reducible apply xo); exact rfl) | with_reducible apply xend | ((with_reducible apply xbuild); exact rfl; exact rfl; exact rfl; exact rfl; exact rfl; simp only [backV, backVs, backVs_mapd, backId, backO, List.map_cons, List.map_nil, List.getElem?_nil, List.length_cons, List.length_nil, Nat.reduceAdd, Nat.reduceSub, List.cons_append, List.nil_append, List.append_nil]) | ((with_reducible apply xidxS); exact rfl; exact rfl; exact rfl; exact rfl; omega) | ((with_reducible apply xslcSLo); exact rfl; exact rfl; exact rfl; (first | omega | (simp only [List.length_append, List.length_cons, List.length_nil]; omega))) | ((with_reducible apply xslcSHi); exact rfl; exact rfl; exact rfl; (first | omega | (simp only [List.length_append, List.length_cons, List.length_nil]; omega))) | ((with_reducible apply xslcSB); exact rfl; exact rfl; exact rfl; exact rfl; (first | omega | (simp only [List.length_append, List.length_cons, List.length_nil]; omega))) | ((with_reducible apply xslcLo); exact rfl; exact rfl; exact rfl; exact (fun r hr => by obtain ⟨a, _, rfl⟩ := List.mem_map.1 hr; rfl); first | omega | (simp only [List.length_cons, List.length_nil]; omega)) | ((with_reducible apply xslcHi); exact rfl; exact rfl; exact rfl; exact (fun r hr => by obtain ⟨a, _, rfl⟩ := List.mem_map.1 hr; rfl); first | omega | (simp only [List.length_cons, List.length_nil]; omega)) | ((with_reducible apply xslcB); exact rfl; exact rfl; exact rfl; exact rfl; exact (fun r hr => by obtain ⟨a, _, rfl⟩ := List.mem_map.1 hr; rfl); first | omega | (simp only [List.length_cons, List.length_nil]; omega)) | ((with_reducible apply xslcMHi); exact rfl; exact rfl; exact rfl; (first | omega | (simp only [List.length_cons, List.length_nil]; omega))) | ((with_reducible apply xslcMLo); exact rfl; exact rfl; exact rfl; (first | omega | (simp only [List.length_cons, List.length_nil]; omega))) | ((with_reducible apply xslcMB); exact rfl; exact rfl; exact rfl; exact rfl; (first | omega | (simp only [List.length_cons, List.length_nil]; omega))) | simp -implicitDefEqProofs only [go_sem, Int.reduceEq, Int.reduceLT, Int.reduceLE, Nat.reduceAdd, Nat.reduceSub, Nat.reduceMul, Nat.reduceEqDiff, Nat.reduceLeDiff, Nat.reducePow, ↓reduceIte, reduceCtorEq])) | ((with_reducible apply xaw); (first | ((with_reducible apply xstepS); refine AW.step tok rfl ?_) | ((with_reducible apply xstep); refine AW.region tok rfl ?_) | with_reducible (first | refine AW.seq ?_ | refine AW.block ?_ | refine AW.skip ?_ | refine AW.ret ?_ | refine AW.exit ?_) | ((with_reducible apply xcond); exact rfl))) | with_reducible (first | refine xthen ?_ | refine xthen_r ?_ | refine xthen_e ?_ | refine xblock ?_ | refine xblock_r ?_ | refine xblock_e ?_ | refine xblock_n rfl ?_ | refine xround_r ?_ | refine xround_e ?_) | (with_reducible intro hc; (try simp only [decide_eq_true_eq, decide_eq_false_iff_not, Bool.not_true, Bool.not_false, Bool.not_eq_true', Bool.not_eq_false', ne_eq, not_true, reduceCtorEq] at hc); (try (exfalso; omega))) | with_reducible (first | exact trivial | refine And.intro ?_ ?_ | exact rfl | exact Nat.le_refl _) | exact Eq.refl true | exact (rfl : (_ : List Nat) = _) | exact Nat.le_of_ble_eq_true rfl | (refine inR_i64.mpr ?_; first | omega | (simp only [List.length_map]; omega)) | omega)
      refine xfinW (Weak.freezeA 4 2 1 rfl rfl (by simp)) ?_
      (refine xfinIs (by first | exact .inl rfl | exact .inr rfl) rfl (by repeat' (first | exact trivial | exact rfl | refine And.intro ?_ ?_)) rfl ?_ rfl; first | with_reducible exact rfl | (simp -implicitDefEqProofs only [go_sem, Int.reduceEq, Int.reduceLT, Int.reduceLE, Nat.reduceAdd, Nat.reduceSub, Nat.reduceMul, Nat.reduceEqDiff, Nat.reduceLeDiff, Nat.reducePow, ↓reduceIte, reduceCtorEq, ← he, List.map_append, List.map_cons, List.map_nil, encStr] <;> (first | rfl | omega | exact decide_eq_decide.2 (by omega) | exact decide_eq_false (by omega) | exact decide_eq_true (by omega) | (symm; first | exact decide_eq_false (by omega) | exact decide_eq_true (by omega)) | (rw [Bool.eq_iff_iff]; simp only [Bool.not_eq_true', Bool.not_eq_false', Bool.and_eq_true, Bool.or_eq_true, decide_eq_true_eq, decide_eq_false_iff_not, reduceCtorEq, true_iff, iff_true, false_iff, iff_false]; omega))))
end Go.Proofs.YtmjofbjglhdkjaaGreatDoor

namespace Go.Proofs.YtmjofbjglhdkjaaGreatDoor
open Go.Fw
attribute [local irreducible] Go.Fw.aops Go.Fw.arun

theorem inR_u8 {n : Int} (h0 : 0 ≤ n) (h1 : n < 256) : inR .u8 n := by
  have e : IntKind.u8.wrap n = n % 256 := by simp [IntKind.wrap, IntKind.bits, IntKind.signed]
  unfold inR
  omega
theorem splitL_len (c : UInt8) : ∀ (s w : List UInt8), w ∈ splitL c s → w.length ≤ s.length
  | [], w, h => by simp [splitL] at h; simp [h]
  | b :: l, w, h => by
    have ih := splitL_len c l
    rw [splitL] at h
    split at h
    · rcases List.mem_cons.1 h with rfl | h
      · simp
      · have := ih w h; simp; omega
    · cases e : splitL c l with
      | nil => exact absurd e (splitL_ne c l)
      | cons x xs =>
        rw [e] at h ih
        rcases List.mem_cons.1 h with rfl | h
        · have := ih x (by simp); simp; exact this
        · have := ih w (by simp at h; simp [h]); simp; omega
theorem splitL_count (c : UInt8) : ∀ s : List UInt8, (splitL c s).length ≤ s.length + 1
  | [] => by simp [splitL]
  | b :: l => by
    have := splitL_count c l
    rw [splitL]
    split
    · simp; exact this
    · cases e : splitL c l with
      | nil => exact absurd e (splitL_ne c l)
      | cons x xs => rw [e] at this; simp at this; simp; omega
theorem c_readNumber (s : List UInt8) (hl : s.length ≤ 4294967280) : ACon Tryz.prog 48 [.d (.str s)] [] (Is (.d (.int .i64 (rnum s)))) := by
  refine ACon.introW tok (nt := 42) Tryz.func48 rfl rfl rfl (by kernel_rfl) rfl ?_
  repeat' (first | ((with_reducible apply xsim); (first | ((with_reducible apply xlenM); exact rfl; exact rfl) | ((with_reducible apply xo); exact rfl) | with_reducible apply xend | ((with_reducible apply xguardTS); exact rfl; exact rfl) | ((with_reducible apply xguardS); exact rfl; exact rfl) | ((with_reducible apply xidxS); exact rfl; exact rfl; exact rfl; exact rfl; omega) | simp -implicitDefEqProofs only [go_sem, Int.reduceEq, Int.reduceLT, Int.reduceLE, Nat.reduceAdd, Nat.reduceSub, Nat.reduceMul, Nat.reduceEqDiff, Nat.reduceLeDiff, Nat.reducePow, ↓reduceIte, reduceCtorEq])) | ((with_reducible apply xaw); (first | ((with_reducible apply xstepS); refine AW.step tok rfl ?_) | ((with_reducible apply xstep); refine AW.region tok rfl ?_) | with_reducible (first | refine AW.seq ?_ | refine AW.block ?_ | refine AW.skip ?_ | refine AW.ret ?_ | refine AW.exit ?_) | ((with_reducible apply xcond); exact rfl))) | with_reducible (first | refine xthen ?_ | refine xthen_r ?_ | refine xthen_e ?_ | refine xblock ?_ | refine xblock_r ?_ | refine xblock_e ?_ | refine xblock_n rfl ?_ | refine xround_r ?_ | refine xround_e ?_) | (with_reducible intro hc; (try simp only [decide_eq_true_eq, decide_eq_false_iff_not, Bool.not_true, Bool.not_false, Bool.not_eq_true', Bool.not_eq_false', ne_eq, not_true, reduceCtorEq] at hc); (try (exfalso; omega))) | with_reducible (first | exact trivial | refine And.intro ?_ ?_ | exact rfl | exact Nat.le_refl _) | exact Eq.refl true | exact (rfl : (_ : List Nat) = _) | exact Nat.le_of_ble_eq_true rfl | (refine inR_i64.mpr ?_; first | omega | (simp only [List.length_map]; omega)) | omega)
  refine AW.loop (S := fun k : Nat × Int => ⟨[(0, .d (.str s)), (3, .d (.int .i64 k.2)), (4, .d (.int .i64 k.1))], [], 42, 0⟩)
    (Pre := fun k => k.1 ≤ s.length ∧ 0 ≤ k.2 ∧ k.2 ≤ 999 ∧ rgo k.2 (s.drop k.1) = rgo 0 s) (μ := fun k => s.length - k.1) (0, 0) ⟨Nat.zero_le _, Int.le_refl _, by simp, rfl⟩ ?_ ?_
  · (refine xwk (π := []) (by decide) rfl ?_ ?_; (first | exact trivial | simp -implicitDefEqProofs only [go_sem, Int.reduceEq, Int.reduceLT, Int.reduceLE, Nat.reduceAdd, Nat.reduceSub, Nat.reduceMul, Nat.reduceEqDiff, Nat.reduceLeDiff, Nat.reducePow, ↓reduceIte, reduceCtorEq]); repeat' (first | exact renE_n | ((with_reducible apply renE_c); exact rfl; focus (first | with_reducible exact rfl | (simp -implicitDefEqProofs only [go_sem, Int.reduceEq, Int.reduceLT, Int.reduceLE, Nat.reduceAdd, Nat.reduceSub, Nat.reduceMul, Nat.reduceEqDiff, Nat.reduceLeDiff, Nat.reducePow, ↓reduceIte, reduceCtorEq]; done) | (simp -implicitDefEqProofs only [go_sem, Int.reduceEq, Int.reduceLT, Int.reduceLE, Nat.reduceAdd, Nat.reduceSub, Nat.reduceMul, Nat.reduceEqDiff, Nat.reduceLeDiff, Nat.reducePow, ↓reduceIte, reduceCtorEq]; omega)))))
  · rintro ⟨k, v⟩ ⟨hk, h0, h9, he⟩
    simp only at hk h0 h9 he
    by_cases hlt : k < s.length
    · have hrow : s[k]? = some s[k] := List.getElem?_eq_getElem hlt
      rw [List.drop_eq_getElem_cons hlt, rgo] at he
      generalize s[k] = b at *
      have hb := b.toNat_lt
      by_cases hq : b.toNat < 48 ∨ 57 < b.toNat ∨ 99 < v
      · rw [if_pos hq] at he
        have er : rnum s = -1 := by unfold rnum; rw [← he]
        repeat' (first | ((with_reducible apply xsim); (first | ((with_reducible apply xlenM); exact rfl; exact rfl) | ((with_reducible apply xo); exact rfl) | with_reducible apply xend | ((with_reducible apply xguardTS); exact rfl; exact rfl) | ((with_reducible apply xguardS); exact rfl; exact rfl) | ((with_reducible apply xidxS); exact rfl; exact rfl; exact rfl; (first | exact hrow); omega) | simp -implicitDefEqProofs only [go_sem, Int.reduceEq, Int.reduceLT, Int.reduceLE, Nat.reduceAdd, Nat.reduceSub, Nat.reduceMul, Nat.reduceEqDiff, Nat.reduceLeDiff, Nat.reducePow, ↓reduceIte, reduceCtorEq])) | ((with_reducible apply xaw); (first | ((with_reducible apply xstepS); refine AW.step tok rfl ?_) | ((with_reducible apply xstep); refine AW.region tok rfl ?_) | with_reducible (first | refine AW.seq ?_ | refine AW.block ?_ | refine AW.skip ?_ | refine AW.ret ?_ | refine AW.exit ?_) | ((with_reducible apply xcond); exact rfl))) | with_reducible (first | refine xthen ?_ | refine xthen_r ?_ | refine xthen_e ?_ | refine xblock ?_ | refine xblock_r ?_ | refine xblock_e ?_ | refine xblock_n rfl ?_ | refine xround_r ?_ | refine xround_e ?_) | (with_reducible intro hc; (try simp only [decide_eq_true_eq, decide_eq_false_iff_not, Bool.not_true, Bool.not_false, Bool.not_eq_true', Bool.not_eq_false', ne_eq, not_true, reduceCtorEq] at hc); (try (exfalso; omega))) | with_reducible (first | exact trivial | refine And.intro ?_ ?_ | exact rfl | exact Nat.le_refl _) | exact Eq.refl true | exact (rfl : (_ : List Nat) = _) | exact Nat.le_of_ble_eq_true rfl | (refine inR_i64.mpr ?_; first | omega | (simp only [List.length_map]; omega)) | omega | (exact inR_u8 (by omega) (by omega)))
        all_goals first | (exfalso; omega) | (refine xfinIs (by first | exact .inl rfl | exact .inr rfl) rfl (by repeat' (first | exact trivial | exact rfl | refine And.intro ?_ ?_)) rfl ?_ rfl; first | with_reducible exact rfl | (simp -implicitDefEqProofs only [go_sem, Int.reduceEq, Int.reduceLT, Int.reduceLE, Nat.reduceAdd, Nat.reduceSub, Nat.reduceMul, Nat.reduceEqDiff, Nat.reduceLeDiff, Nat.reducePow, ↓reduceIte, reduceCtorEq, er] <;> (first | rfl | omega | exact decide_eq_decide.2 (by omega) | exact decide_eq_false (by omega) | exact decide_eq_true (by omega) | (symm; first | exact decide_eq_false (by omega) | exact decide_eq_true (by omega)) | (rw [Bool.eq_iff_iff]; simp only [Bool.not_eq_true', Bool.not_eq_false', Bool.and_eq_true, Bool.or_eq_true, decide_eq_true_eq, decide_eq_false_iff_not, reduceCtorEq, true_iff, iff_true, false_iff, iff_false]; omega))))
      · rw [if_neg hq] at he
        repeat' (first | ((with_reducible apply xsim); (first | ((with_reducible apply xlenM); exact rfl; exact rfl) | ((with_reducible apply xo); exact rfl) | with_reducible apply xend | ((with_reducible apply xguardTS); exact rfl; exact rfl) | ((with_reducible apply xguardS); exact rfl; exact rfl) | ((with_reducible apply xidxS); exact rfl; exact rfl; exact rfl; (first | exact hrow); omega) | simp -implicitDefEqProofs only [go_sem, Int.reduceEq, Int.reduceLT, Int.reduceLE, Nat.reduceAdd, Nat.reduceSub, Nat.reduceMul, Nat.reduceEqDiff, Nat.reduceLeDiff, Nat.reducePow, ↓reduceIte, reduceCtorEq])) | ((with_reducible apply xaw); (first | ((with_reducible apply xstepS); refine AW.step tok rfl ?_) | ((with_reducible apply xstep); refine AW.region tok rfl ?_) | with_reducible (first | refine AW.seq ?_ | refine AW.block ?_ | refine AW.skip ?_ | refine AW.ret ?_ | refine AW.exit ?_) | ((with_reducible apply xcond); exact rfl))) | with_reducible (first | refine xthen ?_ | refine xthen_r ?_ | refine xthen_e ?_ | refine xblock ?_ | refine xblock_r ?_ | refine xblock_e ?_ | refine xblock_n rfl ?_ | refine xround_r ?_ | refine xround_e ?_) | (with_reducible intro hc; (try simp only [decide_eq_true_eq, decide_eq_false_iff_not, Bool.not_true, Bool.not_false, Bool.not_eq_true', Bool.not_eq_false', ne_eq, not_true, reduceCtorEq] at hc); (try (exfalso; omega))) | with_reducible (first | exact trivial | refine And.intro ?_ ?_ | exact rfl | exact Nat.le_refl _) | exact Eq.refl true | exact (rfl : (_ : List Nat) = _) | exact Nat.le_of_ble_eq_true rfl | (refine inR_i64.mpr ?_; first | omega | (simp only [List.length_map]; omega)) | omega | (exact inR_u8 (by omega) (by omega)))
        all_goals first | (exfalso; omega) | exact round_end (k + 1, 10 * v + ((b.toNat : Int) - 48)) ⟨by simp only; omega, by simp only; omega, by simp only; omega, he⟩ (by simp only; omega) (by (refine xwk (π := []) (by decide) rfl ?_ ?_; (first | exact trivial | simp -implicitDefEqProofs only [go_sem, Int.reduceEq, Int.reduceLT, Int.reduceLE, Nat.reduceAdd, Nat.reduceSub, Nat.reduceMul, Nat.reduceEqDiff, Nat.reduceLeDiff, Nat.reducePow, ↓reduceIte, reduceCtorEq]); repeat' (first | exact renE_n | ((with_reducible apply renE_c); exact rfl; focus (first | with_reducible exact rfl | (simp -implicitDefEqProofs only [go_sem, Int.reduceEq, Int.reduceLT, Int.reduceLE, Nat.reduceAdd, Nat.reduceSub, Nat.reduceMul, Nat.reduceEqDiff, Nat.reduceLeDiff, Nat.reducePow, ↓reduceIte, reduceCtorEq]; done) | (simp -implicitDefEqProofs only [go_sem, Int.reduceEq, Int.reduceLT, Int.reduceLE, Nat.reduceAdd, Nat.reduceSub, Nat.reduceMul, Nat.reduceEqDiff, Nat.reduceLeDiff, Nat.reducePow, ↓reduceIte, reduceCtorEq]; omega))))))
    · have hk' : k = s.length := by omega
      subst hk'
      rw [List.drop_length, rgo] at he
      have er : rnum s = if s = [] ∨ s ≠ Lib.itoa v then -1 else v := by unfold rnum; rw [← he]
      by_cases e1 : s = []
      · rw [if_pos (.inl e1)] at er
        repeat' (first | ((with_reducible apply xsim); (first | ((with_reducible apply xlenM); exact rfl; exact rfl) | ((with_reducible apply xo); exact rfl) | with_reducible apply xend | ((with_reducible apply xguardTS); exact rfl; exact rfl) | ((with_reducible apply xguardS); exact rfl; exact rfl) | ((with_reducible apply xidxS); exact rfl; exact rfl; exact rfl; exact rfl; omega) | ((with_reducible apply xcallIs); exact rfl; exact rfl; exact c_number v (by omega); exact rfl) | simp -implicitDefEqProofs only [go_sem, Int.reduceEq, Int.reduceLT, Int.reduceLE, Nat.reduceAdd, Nat.reduceSub, Nat.reduceMul, Nat.reduceEqDiff, Nat.reduceLeDiff, Nat.reducePow, ↓reduceIte, reduceCtorEq])) | ((with_reducible apply xaw); (first | ((with_reducible apply xstepS); refine AW.step tok rfl ?_) | ((with_reducible apply xstep); refine AW.region tok rfl ?_) | with_reducible (first | refine AW.seq ?_ | refine AW.block ?_ | refine AW.skip ?_ | refine AW.ret ?_ | refine AW.exit ?_) | ((with_reducible apply xcond); exact rfl))) | with_reducible (first | refine xthen ?_ | refine xthen_r ?_ | refine xthen_e ?_ | refine xblock ?_ | refine xblock_r ?_ | refine xblock_e ?_ | refine xblock_n rfl ?_ | refine xround_r ?_ | refine xround_e ?_) | (with_reducible intro hc; (try simp only [decide_eq_true_eq, decide_eq_false_iff_not, Bool.not_true, Bool.not_false, Bool.not_eq_true', Bool.not_eq_false', ne_eq, not_true, reduceCtorEq] at hc); (try (exfalso; omega))) | with_reducible (first | exact trivial | refine And.intro ?_ ?_ | exact rfl | exact Nat.le_refl _) | exact Eq.refl true | exact (rfl : (_ : List Nat) = _) | exact Nat.le_of_ble_eq_true rfl | (refine inR_i64.mpr ?_; first | omega | (simp only [List.length_map]; omega)) | omega)
        all_goals first | contradiction | (refine xfinIs (by first | exact .inl rfl | exact .inr rfl) rfl (by repeat' (first | exact trivial | exact rfl | refine And.intro ?_ ?_)) rfl ?_ rfl; first | with_reducible exact rfl | (simp -implicitDefEqProofs only [go_sem, Int.reduceEq, Int.reduceLT, Int.reduceLE, Nat.reduceAdd, Nat.reduceSub, Nat.reduceMul, Nat.reduceEqDiff, Nat.reduceLeDiff, Nat.reducePow, ↓reduceIte, reduceCtorEq, er] <;> (first | rfl | omega | exact decide_eq_decide.2 (by omega) | exact decide_eq_false (by omega) | exact decide_eq_true (by omega) | (symm; first | exact decide_eq_false (by omega) | exact decide_eq_true (by omega)) | (rw [Bool.eq_iff_iff]; simp only [Bool.not_eq_true', Bool.not_eq_false', Bool.and_eq_true, Bool.or_eq_true, decide_eq_true_eq, decide_eq_false_iff_not, reduceCtorEq, true_iff, iff_true, false_iff, iff_false]; omega))))
      · by_cases e2 : s = Lib.itoa v
        · rw [if_neg (by simp only [e1, false_or]; exact fun h => h e2)] at er
          repeat' (first | ((with_reducible apply xsim); (first | ((with_reducible apply xlenM); exact rfl; exact rfl) | ((with_reducible apply xo); exact rfl) | with_reducible apply xend | ((with_reducible apply xguardTS); exact rfl; exact rfl) | ((with_reducible apply xguardS); exact rfl; exact rfl) | ((with_reducible apply xidxS); exact rfl; exact rfl; exact rfl; exact rfl; omega) | ((with_reducible apply xcallIs); exact rfl; exact rfl; exact c_number v (by omega); exact rfl) | simp -implicitDefEqProofs only [go_sem, Int.reduceEq, Int.reduceLT, Int.reduceLE, Nat.reduceAdd, Nat.reduceSub, Nat.reduceMul, Nat.reduceEqDiff, Nat.reduceLeDiff, Nat.reducePow, ↓reduceIte, reduceCtorEq])) | ((with_reducible apply xaw); (first | ((with_reducible apply xstepS); refine AW.step tok rfl ?_) | ((with_reducible apply xstep); refine AW.region tok rfl ?_) | with_reducible (first | refine AW.seq ?_ | refine AW.block ?_ | refine AW.skip ?_ | refine AW.ret ?_ | refine AW.exit ?_) | ((with_reducible apply xcond); exact rfl))) | with_reducible (first | refine xthen ?_ | refine xthen_r ?_ | refine xthen_e ?_ | refine xblock ?_ | refine xblock_r ?_ | refine xblock_e ?_ | refine xblock_n rfl ?_ | refine xround_r ?_ | refine xround_e ?_) | (with_reducible intro hc; (try simp only [decide_eq_true_eq, decide_eq_false_iff_not, Bool.not_true, Bool.not_false, Bool.not_eq_true', Bool.not_eq_false', ne_eq, not_true, reduceCtorEq] at hc); (try (exfalso; omega))) | with_reducible (first | exact trivial | refine And.intro ?_ ?_ | exact rfl | exact Nat.le_refl _) | exact Eq.refl true | exact (rfl : (_ : List Nat) = _) | exact Nat.le_of_ble_eq_true rfl | (refine inR_i64.mpr ?_; first | omega | (simp only [List.length_map]; omega)) | omega)
          all_goals first | contradiction | (refine xfinIs (by first | exact .inl rfl | exact .inr rfl) rfl (by repeat' (first | exact trivial | exact rfl | refine And.intro ?_ ?_)) rfl ?_ rfl; first | with_reducible exact rfl | (simp -implicitDefEqProofs only [go_sem, Int.reduceEq, Int.reduceLT, Int.reduceLE, Nat.reduceAdd, Nat.reduceSub, Nat.reduceMul, Nat.reduceEqDiff, Nat.reduceLeDiff, Nat.reducePow, ↓reduceIte, reduceCtorEq, er] <;> (first | rfl | omega | exact decide_eq_decide.2 (by omega) | exact decide_eq_false (by omega) | exact decide_eq_true (by omega) | (symm; first | exact decide_eq_false (by omega) | exact decide_eq_true (by omega)) | (rw [Bool.eq_iff_iff]; simp only [Bool.not_eq_true', Bool.not_eq_false', Bool.and_eq_true, Bool.or_eq_true, decide_eq_true_eq, decide_eq_false_iff_not, reduceCtorEq, true_iff, iff_true, false_iff, iff_false]; omega))))
        · rw [if_pos (.inr e2)] at er
          repeat' (first | ((with_reducible apply xsim); (first | ((with_reducible apply xlenM); exact rfl; exact rfl) | ((with_reducible apply xo); exact rfl) | with_reducible apply xend | ((with_reducible apply xguardTS); exact rfl; exact rfl) | ((with_reducible apply xguardS); exact rfl; exact rfl) | ((with_reducible apply xidxS); exact rfl; exact rfl; exact rfl; exact rfl; omega) | ((with_reducible apply xcallIs); exact rfl; exact rfl; exact c_number v (by omega); exact rfl) | simp -implicitDefEqProofs only [go_sem, Int.reduceEq, Int.reduceLT, Int.reduceLE, Nat.reduceAdd, Nat.reduceSub, Nat.reduceMul, Nat.reduceEqDiff, Nat.reduceLeDiff, Nat.reducePow, ↓reduceIte, reduceCtorEq])) | ((with_reducible apply xaw); (first | ((with_reducible apply xstepS); refine AW.step tok rfl ?_) | ((with_reducible apply xstep); refine AW.region tok rfl ?_) | with_reducible (first | refine AW.seq ?_ | refine AW.block ?_ | refine AW.skip ?_ | refine AW.ret ?_ | refine AW.exit ?_) | ((with_reducible apply xcond); exact rfl))) | with_reducible (first | refine xthen ?_ | refine xthen_r ?_ | refine xthen_e ?_ | refine xblock ?_ | refine xblock_r ?_ | refine xblock_e ?_ | refine xblock_n rfl ?_ | refine xround_r ?_ | refine xround_e ?_) | (with_reducible intro hc; (try simp only [decide_eq_true_eq, decide_eq_false_iff_not, Bool.not_true, Bool.not_false, Bool.not_eq_true', Bool.not_eq_false', ne_eq, not_true, reduceCtorEq] at hc); (try (exfalso; omega))) | with_reducible (first | exact trivial | refine And.intro ?_ ?_ | exact rfl | exact Nat.le_refl _) | exact Eq.refl true | exact (rfl : (_ : List Nat) = _) | exact Nat.le_of_ble_eq_true rfl | (refine inR_i64.mpr ?_; first | omega | (simp only [List.length_map]; omega)) | omega)
          all_goals first | contradiction | (exfalso; apply e2; exact Decidable.not_not.1 (by assumption)) | (refine xfinIs (by first | exact .inl rfl | exact .inr rfl) rfl (by repeat' (first | exact trivial | exact rfl | refine And.intro ?_ ?_)) rfl ?_ rfl; first | with_reducible exact rfl | (simp -implicitDefEqProofs only [go_sem, Int.reduceEq, Int.reduceLT, Int.reduceLE, Nat.reduceAdd, Nat.reduceSub, Nat.reduceMul, Nat.reduceEqDiff, Nat.reduceLeDiff, Nat.reducePow, ↓reduceIte, reduceCtorEq, er] <;> (first | rfl | omega | exact decide_eq_decide.2 (by omega) | exact decide_eq_false (by omega) | exact decide_eq_true (by omega) | (symm; first | exact decide_eq_false (by omega) | exact decide_eq_true (by omega)) | (rw [Bool.eq_iff_iff]; simp only [Bool.not_eq_true', Bool.not_eq_false', Bool.and_eq_true, Bool.or_eq_true, decide_eq_true_eq, decide_eq_false_iff_not, reduceCtorEq, true_iff, iff_true, false_iff, iff_false]; omega))))
end Go.Proofs.YtmjofbjglhdkjaaGreatDoor

namespace Go.Proofs.YtmjofbjglhdkjaaGreatDoor
open Go.Fw
attribute [local irreducible] Go.Fw.aops Go.Fw.arun

theorem sGo_step (w : List UInt8) (l : List (List UInt8)) (p : Pack) : sGo (w :: l) p = if w = fxT then sGo l { p with fillX := true }
    else if w = fyT then sGo l { p with fillY := true }
    else if w = exT then sGo l { p with expand := true }
    else if w = anT then sGo l.tail { p with anchor := nx l }
    else if w = pxT then sGo l.tail { p with padX := nx l }
    else if w = pyT then sGo l.tail { p with padY := nx l }
    else none := by rw [sGo]
set_option maxHeartbeats 4000000 in
theorem c_parsePack (s : List UInt8) (hl : s.length ≤ 1073741824) : ACon Tryz.prog 23 [.d (.str s)] [] (Is (.tup [vPack (sRes s).1, .d (.bool (sRes s).2)])) := by
  have c1 := c_splitAt 32 s (by omega)
  have hw : ∀ w ∈ splitL 32 s, w.length ≤ 1073741824 := fun w h => Nat.le_trans (splitL_len 32 s w h) hl
  have hn := splitL_count 32 s
  have er : sRes s = match splitL 32 s with
    | a :: b :: c :: l => (match sGo l ⟨rnum b, rnum c, idxT a, false, false, false, 4, 0, 0⟩ with
      | some p => (p, validPack p && decide (ptext p = s))
      | none => (zeroP, false))
    | _ => (zeroP, false) := rfl
  generalize splitL 32 s = ws at *
  by_cases h3 : ws.length < 3
  · have e : sRes s = (zeroP, false) := by
      rw [er]
      rcases ws with _ | ⟨a, _ | ⟨b, _ | ⟨c, l⟩⟩⟩
      · rfl
      · rfl
      · rfl
      · exact absurd h3 (by simp)
    rw [e]
    refine ACon.introW tok (nt := 86) Tryz.func23 rfl rfl rfl (by kernel_rfl) rfl ?_
    repeat' (first | ((with_reducible apply xsim); (first | ((with_reducible apply xbld); exact rfl; exact rfl; exact rfl; (try simp only [List.set_cons_zero, List.set_cons_succ])) | ((with_reducible apply xlenM); exact rfl; exact rfl) | ((with_reducible apply xo); exact rfl) | ((with_reducible apply xst); exact rfl) | with_reducible apply xend | ((with_reducible apply xguardTS); exact rfl; exact rfl) | ((with_reducible apply xguardS); exact rfl; exact rfl) | ((with_reducible apply xalloc); exact rfl; simp only [backV, backVs, backVs_mapd, backId, backO, List.map_cons, List.map_nil, List.getElem?_nil, List.length_cons, List.length_nil, Nat.reduceAdd, Nat.reduceSub, List.cons_append, List.nil_append, List.append_nil]) | ((with_reducible apply xidxL); exact rfl; exact rfl; exact rfl; exact rfl; omega; first | exact rfl | simp only [hsz]) | ((with_reducible apply xidxM); exact rfl; exact rfl; exact rfl; omega; omega; exact rfl) | ((with_reducible apply xldA); exact rfl; exact rfl; exact rfl; exact rfl; exact rfl) | ((with_reducible apply xstA); exact rfl; exact rfl; exact rfl; exact rfl; exact rfl; exact rfl; exact rfl; exact rfl; exact rfl; (try simp only [List.set_cons_zero, List.set_cons_succ, List.length_map])) | ((with_reducible apply xcallIs); exact rfl; exact rfl; exact c1; exact rfl) | simp -implicitDefEqProofs only [go_sem, Int.reduceEq, Int.reduceLT, Int.reduceLE, Nat.reduceAdd, Nat.reduceSub, Nat.reduceMul, Nat.reduceEqDiff, Nat.reduceLeDiff, Nat.reducePow, ↓reduceIte, reduceCtorEq, List.length_map])) | ((with_reducible apply xaw); (first | ((with_reducible apply xstepS); refine AW.step tok rfl ?_) | ((with_reducible apply xstep); refine AW.region tok rfl ?_) | with_reducible (first | refine AW.seq ?_ | refine AW.block ?_ | refine AW.skip ?_ | refine AW.ret ?_ | refine AW.exit ?_) | ((with_reducible apply xcond); exact rfl) | ((with_reducible apply xdrawS (id := 4)); refine AW.drawS (id := 4) (.q 0 (.q 1 (.q 2 (.q 3 (.q 4 (.q 5 (.q 6 (.q 7 (.q 8 (.q 9 (.q 10 (.q 11 (.q 12 (.q 13 (.e 14 (.e 15 (.fin))))))))))))))))) tok (by kernel_rfl) rfl (by kernel_rfl) ?_) | ((with_reducible apply xdraw (id := 4)); refine AW.draw (id := 4) (.q 0 (.q 1 (.q 2 (.q 3 (.q 4 (.q 5 (.q 6 (.q 7 (.q 8 (.q 9 (.q 10 (.q 11 (.q 12 (.q 13 (.e 14 (.e 15 (.fin))))))))))))))))) tok (by kernel_rfl) rfl (by kernel_rfl) ?_) | ((with_reducible apply xdrawS (id := 28)); refine AW.drawS (id := 28) (.q 0 (.q 1 (.q 2 (.q 3 (.q 4 (.q 5 (.q 6 (.q 7 (.q 8 (.e 9 (.q 10 (.fin)))))))))))) tok (by kernel_rfl) rfl (by kernel_rfl) ?_) | ((with_reducible apply xdraw (id := 28)); refine AW.draw (id := 28) (.q 0 (.q 1 (.q 2 (.q 3 (.q 4 (.q 5 (.q 6 (.q 7 (.q 8 (.e 9 (.q 10 (.fin)))))))))))) tok (by kernel_rfl) rfl (by kernel_rfl) ?_))) | ((with_reducible apply xarun); (first | ((with_reducible apply xrun_q); exact rfl; exact rfl; exact rfl) | ((with_reducible apply xrun_c); exact rfl; exact rfl; exact rfl; exact rfl; exact rfl; exact rfl; exact c1; exact rfl) | ((with_reducible apply xrun_g); exact rfl; exact rfl; exact rfl; exact rfl; exact rfl; exact rfl) | ((with_reducible apply xrun_e); exact rfl) | with_reducible apply xrun_f)) | ((with_reducible apply xcallQ); exact rfl; exact rfl; exact c1; exact rfl) | with_reducible (first | refine xthen ?_ | refine xthen_r ?_ | refine xthen_e ?_ | refine xblock ?_ | refine xblock_r ?_ | refine xblock_e ?_ | refine xblock_n rfl ?_ | refine xround_r ?_ | refine xround_e ?_) | (with_reducible intro hc; (try simp only [decide_eq_true_eq, decide_eq_false_iff_not, Bool.not_true, Bool.not_false, Bool.not_eq_true', Bool.not_eq_false', ne_eq, not_true, reduceCtorEq, List.length_map] at hc); (try (exfalso; omega))) | with_reducible (first | exact trivial | refine And.intro ?_ ?_ | exact rfl | exact Nat.le_refl _) | exact Eq.refl true | exact (rfl : (_ : List Nat) = _) | exact Nat.le_of_ble_eq_true rfl | (refine inR_i64.mpr ?_; first | omega | (simp only [List.length_map, List.length_map]; omega)) | omega)
    (refine xfinIs (by first | exact .inl rfl | exact .inr rfl) rfl (by repeat' (first | exact trivial | exact rfl | refine And.intro ?_ ?_)) rfl ?_ rfl; first | with_reducible exact rfl | (simp -implicitDefEqProofs only [go_sem, Int.reduceEq, Int.reduceLT, Int.reduceLE, Nat.reduceAdd, Nat.reduceSub, Nat.reduceMul, Nat.reduceEqDiff, Nat.reduceLeDiff, Nat.reducePow, ↓reduceIte, reduceCtorEq, zeroP] <;> (first | rfl | omega | exact decide_eq_decide.2 (by omega) | exact decide_eq_false (by omega) | exact decide_eq_true (by omega) | (symm; first | exact decide_eq_false (by omega) | exact decide_eq_true (by omega)) | (rw [Bool.eq_iff_iff]; simp only [Bool.not_eq_true', Bool.not_eq_false', Bool.and_eq_true, Bool.or_eq_true, decide_eq_true_eq, decide_eq_false_iff_not, reduceCtorEq, true_iff, iff_true, false_iff, iff_false]; omega))))
  · obtain ⟨a, b, c, l, rfl⟩ : ∃ a b c l, ws = a :: b :: c :: l := by
      rcases ws with _ | ⟨a, _ | ⟨b, _ | ⟨c, l⟩⟩⟩
      · exact absurd (by simp) h3
      · exact absurd (by simp) h3
      · exact absurd (by simp) h3
      · exact ⟨a, b, c, l, rfl⟩
    simp only at er
    have h1 := hw b (by simp)
    have h2 := hw c (by simp)
    have cr1 := c_readNumber b (by omega)
    have cr2 := c_readNumber c (by omega)
    have ci := c_idxS sideT a (by decide)
    rw [idxL_side] at ci
    have r0 : ((a :: b :: c :: l).map encStr)[0]? = some (encStr a) := rfl
    have r1 : ((a :: b :: c :: l).map encStr)[1]? = some (encStr b) := rfl
    have r2 : ((a :: b :: c :: l).map encStr)[2]? = some (encStr c) := rfl
    generalize hws : a :: b :: c :: l = ws at *
    have hd3 : ws.drop 3 = l := by rw [← hws]; rfl
    refine ACon.introW tok (nt := 86) Tryz.func23 rfl rfl rfl (by kernel_rfl) rfl ?_
    repeat' (first | ((with_reducible apply xsim); (first | ((with_reducible apply xbld); exact rfl; exact rfl; exact rfl; (try simp only [List.set_cons_zero, List.set_cons_succ])) | ((with_reducible apply xlenM); exact rfl; exact rfl) | ((with_reducible apply xo); exact rfl) | ((with_reducible apply xst); exact rfl) | with_reducible apply xend | ((with_reducible apply xguardTS); exact rfl; exact rfl) | ((with_reducible apply xguardS); exact rfl; exact rfl) | ((with_reducible apply xalloc); exact rfl; simp only [backV, backVs, backVs_mapd, backId, backO, List.map_cons, List.map_nil, List.getElem?_nil, List.length_cons, List.length_nil, Nat.reduceAdd, Nat.reduceSub, List.cons_append, List.nil_append, List.append_nil]) | ((with_reducible apply xidxL); exact rfl; exact rfl; exact rfl; (first | exact r0 | exact r1 | exact r2); omega; first | exact rfl | simp only [hsz]) | ((with_reducible apply xidxM); exact rfl; exact rfl; exact rfl; omega; omega; exact rfl) | ((with_reducible apply xldA); exact rfl; exact rfl; exact rfl; (first | exact r0 | exact r1 | exact r2); exact rfl) | ((with_reducible apply xstA); exact rfl; exact rfl; exact rfl; exact rfl; (first | exact r0 | exact r1 | exact r2); exact rfl; exact rfl; exact rfl; exact rfl; (try simp only [List.set_cons_zero, List.set_cons_succ, List.length_map])) | ((with_reducible apply xcallIs); exact rfl; exact rfl; (first | exact c1 | exact c_sidesS | exact ci | exact cr1 | exact cr2); exact rfl) | simp -implicitDefEqProofs only [go_sem, Int.reduceEq, Int.reduceLT, Int.reduceLE, Nat.reduceAdd, Nat.reduceSub, Nat.reduceMul, Nat.reduceEqDiff, Nat.reduceLeDiff, Nat.reducePow, ↓reduceIte, reduceCtorEq, List.length_map])) | ((with_reducible apply xaw); (first | ((with_reducible apply xstepS); refine AW.step tok rfl ?_) | ((with_reducible apply xstep); refine AW.region tok rfl ?_) | with_reducible (first | refine AW.seq ?_ | refine AW.block ?_ | refine AW.skip ?_ | refine AW.ret ?_ | refine AW.exit ?_) | ((with_reducible apply xcond); exact rfl) | ((with_reducible apply xdrawS (id := 4)); refine AW.drawS (id := 4) (.q 0 (.q 1 (.q 2 (.q 3 (.q 4 (.q 5 (.q 6 (.q 7 (.q 8 (.q 9 (.q 10 (.q 11 (.q 12 (.q 13 (.e 14 (.e 15 (.fin))))))))))))))))) tok (by kernel_rfl) rfl (by kernel_rfl) ?_) | ((with_reducible apply xdraw (id := 4)); refine AW.draw (id := 4) (.q 0 (.q 1 (.q 2 (.q 3 (.q 4 (.q 5 (.q 6 (.q 7 (.q 8 (.q 9 (.q 10 (.q 11 (.q 12 (.q 13 (.e 14 (.e 15 (.fin))))))))))))))))) tok (by kernel_rfl) rfl (by kernel_rfl) ?_) | ((with_reducible apply xdrawS (id := 28)); refine AW.drawS (id := 28) (.q 0 (.q 1 (.q 2 (.q 3 (.q 4 (.q 5 (.q 6 (.q 7 (.q 8 (.e 9 (.q 10 (.fin)))))))))))) tok (by kernel_rfl) rfl (by kernel_rfl) ?_) | ((with_reducible apply xdraw (id := 28)); refine AW.draw (id := 28) (.q 0 (.q 1 (.q 2 (.q 3 (.q 4 (.q 5 (.q 6 (.q 7 (.q 8 (.e 9 (.q 10 (.fin)))))))))))) tok (by kernel_rfl) rfl (by kernel_rfl) ?_))) | ((with_reducible apply xarun); (first | ((with_reducible apply xrun_q); exact rfl; exact rfl; exact rfl) | ((with_reducible apply xrun_c); exact rfl; exact rfl; exact rfl; exact rfl; exact rfl; exact rfl; (first | exact c1 | exact c_sidesS | exact ci | exact cr1 | exact cr2); exact rfl) | ((with_reducible apply xrun_g); exact rfl; exact rfl; exact rfl; exact rfl; exact rfl; exact rfl) | ((with_reducible apply xrun_e); exact rfl) | with_reducible apply xrun_f)) | ((with_reducible apply xcallQ); exact rfl; exact rfl; (first | exact c1 | exact c_sidesS | exact ci | exact cr1 | exact cr2); exact rfl) | with_reducible (first | refine xthen ?_ | refine xthen_r ?_ | refine xthen_e ?_ | refine xblock ?_ | refine xblock_r ?_ | refine xblock_e ?_ | refine xblock_n rfl ?_ | refine xround_r ?_ | refine xround_e ?_) | (with_reducible intro hc; (try simp only [decide_eq_true_eq, decide_eq_false_iff_not, Bool.not_true, Bool.not_false, Bool.not_eq_true', Bool.not_eq_false', ne_eq, not_true, reduceCtorEq, List.length_map] at hc); (try (exfalso; omega))) | with_reducible (first | exact trivial | refine And.intro ?_ ?_ | exact rfl | exact Nat.le_refl _) | exact Eq.refl true | exact (rfl : (_ : List Nat) = _) | exact Nat.le_of_ble_eq_true rfl | (refine inR_i64.mpr ?_; first | omega | (simp only [List.length_map, List.length_map]; omega)) | omega)
    refine AW.loop (S := fun k : Nat × Pack => ⟨[(0, .d (.str s)), (2, .oref 0 0), (4, .d (.lst (ws.map encStr))), (5, .oref 1 0), (6, .d (.int .i64 k.1))],
        [.box [.d (.int .i64 0), .d (.int .i64 0), .d (.int .i64 0), .d (.bool false), .d (.bool false), .d (.bool false), .d (.int .i64 0), .d (.int .i64 0), .d (.int .i64 0)],
         .box [.d (.int .i64 k.2.w), .d (.int .i64 k.2.h), .d (.int .i64 k.2.side), .d (.bool k.2.fillX), .d (.bool k.2.fillY), .d (.bool k.2.expand), .d (.int .i64 k.2.anchor), .d (.int .i64 k.2.padX), .d (.int .i64 k.2.padY)]], 86, 0⟩)
      (Pre := fun k => k.1 ≤ ws.length + 1 ∧ sGo (ws.drop k.1) k.2 = sGo l ⟨rnum b, rnum c, idxT a, false, false, false, 4, 0, 0⟩) (μ := fun k => ws.length + 1 - k.1) (3, ⟨rnum b, rnum c, idxT a, false, false, false, 4, 0, 0⟩) ⟨by simp only; omega, by simp only; rw [hd3]⟩ ?_ ?_
    · (refine xwk (π := [0, 1]) (by decide) rfl ?_ ?_; (first | exact trivial | simp -implicitDefEqProofs only [go_sem, Int.reduceEq, Int.reduceLT, Int.reduceLE, Nat.reduceAdd, Nat.reduceSub, Nat.reduceMul, Nat.reduceEqDiff, Nat.reduceLeDiff, Nat.reducePow, ↓reduceIte, reduceCtorEq]); repeat' (first | exact renE_n | ((with_reducible apply renE_c); exact rfl; focus (first | with_reducible exact rfl | (simp -implicitDefEqProofs only [go_sem, Int.reduceEq, Int.reduceLT, Int.reduceLE, Nat.reduceAdd, Nat.reduceSub, Nat.reduceMul, Nat.reduceEqDiff, Nat.reduceLeDiff, Nat.reducePow, ↓reduceIte, reduceCtorEq]; done) | (simp -implicitDefEqProofs only [go_sem, Int.reduceEq, Int.reduceLT, Int.reduceLE, Nat.reduceAdd, Nat.reduceSub, Nat.reduceMul, Nat.reduceEqDiff, Nat.reduceLeDiff, Nat.reducePow, ↓reduceIte, reduceCtorEq]; omega)))))
    · rintro ⟨k, p⟩ ⟨hk, he⟩
      simp only at hk he
      by_cases hlt : k < ws.length
      · have hrow := at_map (f := encStr) hlt
        have hwk := hw ws[k] (List.getElem_mem hlt)
        rw [List.drop_eq_getElem_cons hlt, sGo_step] at he
        generalize ws[k] = x at *
        by_cases hl2 : k + 1 < ws.length
        · have hrow2 := at_map (f := encStr) hl2
          have hwk2 := hw ws[k + 1] (List.getElem_mem hl2)
          have en : nx (ws.drop (k + 1)) = rnum ws[k + 1] := by rw [List.drop_eq_getElem_cons hl2]; rfl
          have et : (ws.drop (k + 1)).tail = ws.drop (k + 2) := by rw [List.tail_drop]
          have cr := c_readNumber ws[k + 1] (by omega)
          rw [en, et] at he
          generalize ws[k + 1] = y at *
          repeat' (first | ((with_reducible apply xsim); (first | ((with_reducible apply xbld); exact rfl; exact rfl; exact rfl; (try simp only [List.set_cons_zero, List.set_cons_succ])) | ((with_reducible apply xlenM); exact rfl; exact rfl) | ((with_reducible apply xo); exact rfl) | ((with_reducible apply xst); exact rfl) | with_reducible apply xend | ((with_reducible apply xguardTS); exact rfl; exact rfl) | ((with_reducible apply xguardS); exact rfl; exact rfl) | ((with_reducible apply xalloc); exact rfl; simp only [backV, backVs, backVs_mapd, backId, backO, List.map_cons, List.map_nil, List.getElem?_nil, List.length_cons, List.length_nil, Nat.reduceAdd, Nat.reduceSub, List.cons_append, List.nil_append, List.append_nil]) | ((with_reducible apply xidxL); exact rfl; exact rfl; exact rfl; (first | exact hrow | exact hrow2); omega; first | exact rfl | simp only [hsz]) | ((with_reducible apply xidxM); exact rfl; exact rfl; exact rfl; omega; omega; exact rfl) | ((with_reducible apply xldA); exact rfl; exact rfl; exact rfl; (first | exact hrow | exact hrow2); exact rfl) | ((with_reducible apply xstA); exact rfl; exact rfl; exact rfl; exact rfl; (first | exact hrow | exact hrow2); exact rfl; exact rfl; exact rfl; exact rfl; (try simp only [List.set_cons_zero, List.set_cons_succ, List.length_map])) | ((with_reducible apply xcallIs); exact rfl; exact rfl; exact cr; exact rfl) | simp -implicitDefEqProofs only [go_sem, Int.reduceEq, Int.reduceLT, Int.reduceLE, Nat.reduceAdd, Nat.reduceSub, Nat.reduceMul, Nat.reduceEqDiff, Nat.reduceLeDiff, Nat.reducePow, ↓reduceIte, reduceCtorEq, List.length_map])) | ((with_reducible apply xaw); (first | ((with_reducible apply xstepS); refine AW.step tok rfl ?_) | ((with_reducible apply xstep); refine AW.region tok rfl ?_) | with_reducible (first | refine AW.seq ?_ | refine AW.block ?_ | refine AW.skip ?_ | refine AW.ret ?_ | refine AW.exit ?_) | ((with_reducible apply xcond); exact rfl) | ((with_reducible apply xdrawS (id := 4)); refine AW.drawS (id := 4) (.q 0 (.q 1 (.q 2 (.q 3 (.q 4 (.q 5 (.q 6 (.q 7 (.q 8 (.q 9 (.q 10 (.q 11 (.q 12 (.q 13 (.e 14 (.e 15 (.fin))))))))))))))))) tok (by kernel_rfl) rfl (by kernel_rfl) ?_) | ((with_reducible apply xdraw (id := 4)); refine AW.draw (id := 4) (.q 0 (.q 1 (.q 2 (.q 3 (.q 4 (.q 5 (.q 6 (.q 7 (.q 8 (.q 9 (.q 10 (.q 11 (.q 12 (.q 13 (.e 14 (.e 15 (.fin))))))))))))))))) tok (by kernel_rfl) rfl (by kernel_rfl) ?_) | ((with_reducible apply xdrawS (id := 28)); refine AW.drawS (id := 28) (.q 0 (.q 1 (.q 2 (.q 3 (.q 4 (.q 5 (.q 6 (.q 7 (.q 8 (.e 9 (.q 10 (.fin)))))))))))) tok (by kernel_rfl) rfl (by kernel_rfl) ?_) | ((with_reducible apply xdraw (id := 28)); refine AW.draw (id := 28) (.q 0 (.q 1 (.q 2 (.q 3 (.q 4 (.q 5 (.q 6 (.q 7 (.q 8 (.e 9 (.q 10 (.fin)))))))))))) tok (by kernel_rfl) rfl (by kernel_rfl) ?_))) | ((with_reducible apply xarun); (first | ((with_reducible apply xrun_q); exact rfl; exact rfl; exact rfl) | ((with_reducible apply xrun_c); exact rfl; exact rfl; exact rfl; exact rfl; exact rfl; exact rfl; exact cr; exact rfl) | ((with_reducible apply xrun_g); exact rfl; exact rfl; exact rfl; exact rfl; exact rfl; exact rfl) | ((with_reducible apply xrun_e); exact rfl) | with_reducible apply xrun_f)) | ((with_reducible apply xcallQ); exact rfl; exact rfl; exact cr; exact rfl) | with_reducible (first | refine xthen ?_ | refine xthen_r ?_ | refine xthen_e ?_ | refine xblock ?_ | refine xblock_r ?_ | refine xblock_e ?_ | refine xblock_n rfl ?_ | refine xround_r ?_ | refine xround_e ?_) | (with_reducible intro hc; (try simp only [decide_eq_true_eq, decide_eq_false_iff_not, Bool.not_true, Bool.not_false, Bool.not_eq_true', Bool.not_eq_false', ne_eq, not_true, reduceCtorEq, List.length_map] at hc); (try (exfalso; omega))) | with_reducible (first | exact trivial | refine And.intro ?_ ?_ | exact rfl | exact Nat.le_refl _) | exact Eq.refl true | exact (rfl : (_ : List Nat) = _) | exact Nat.le_of_ble_eq_true rfl | (refine inR_i64.mpr ?_; first | omega | (simp only [List.length_map, List.length_map]; omega)) | omega)
          · rw [if_pos (show x = fxT by assumption)] at he
            exact round_end (k + 1, { p with fillX := true }) ⟨by simp only; omega, he⟩ (by simp only; omega) (by (refine xwk (π := [0, 1]) (by decide) rfl ?_ ?_; (first | exact trivial | simp -implicitDefEqProofs only [go_sem, Int.reduceEq, Int.reduceLT, Int.reduceLE, Nat.reduceAdd, Nat.reduceSub, Nat.reduceMul, Nat.reduceEqDiff, Nat.reduceLeDiff, Nat.reducePow, ↓reduceIte, reduceCtorEq]); repeat' (first | exact renE_n | ((with_reducible apply renE_c); exact rfl; focus (first | with_reducible exact rfl | (simp -implicitDefEqProofs only [go_sem, Int.reduceEq, Int.reduceLT, Int.reduceLE, Nat.reduceAdd, Nat.reduceSub, Nat.reduceMul, Nat.reduceEqDiff, Nat.reduceLeDiff, Nat.reducePow, ↓reduceIte, reduceCtorEq]; done) | (simp -implicitDefEqProofs only [go_sem, Int.reduceEq, Int.reduceLT, Int.reduceLE, Nat.reduceAdd, Nat.reduceSub, Nat.reduceMul, Nat.reduceEqDiff, Nat.reduceLeDiff, Nat.reducePow, ↓reduceIte, reduceCtorEq]; omega))))))
          · rw [if_neg (show ¬ x = fxT by assumption), if_pos (show x = fyT by assumption)] at he
            exact round_end (k + 1, { p with fillY := true }) ⟨by simp only; omega, he⟩ (by simp only; omega) (by (refine xwk (π := [0, 1]) (by decide) rfl ?_ ?_; (first | exact trivial | simp -implicitDefEqProofs only [go_sem, Int.reduceEq, Int.reduceLT, Int.reduceLE, Nat.reduceAdd, Nat.reduceSub, Nat.reduceMul, Nat.reduceEqDiff, Nat.reduceLeDiff, Nat.reducePow, ↓reduceIte, reduceCtorEq]); repeat' (first | exact renE_n | ((with_reducible apply renE_c); exact rfl; focus (first | with_reducible exact rfl | (simp -implicitDefEqProofs only [go_sem, Int.reduceEq, Int.reduceLT, Int.reduceLE, Nat.reduceAdd, Nat.reduceSub, Nat.reduceMul, Nat.reduceEqDiff, Nat.reduceLeDiff, Nat.reducePow, ↓reduceIte, reduceCtorEq]; done) | (simp -implicitDefEqProofs only [go_sem, Int.reduceEq, Int.reduceLT, Int.reduceLE, Nat.reduceAdd, Nat.reduceSub, Nat.reduceMul, Nat.reduceEqDiff, Nat.reduceLeDiff, Nat.reducePow, ↓reduceIte, reduceCtorEq]; omega))))))
          · rw [if_neg (show ¬ x = fxT by assumption), if_neg (show ¬ x = fyT by assumption), if_pos (show x = exT by assumption)] at he
            exact round_end (k + 1, { p with expand := true }) ⟨by simp only; omega, he⟩ (by simp only; omega) (by (refine xwk (π := [0, 1]) (by decide) rfl ?_ ?_; (first | exact trivial | simp -implicitDefEqProofs only [go_sem, Int.reduceEq, Int.reduceLT, Int.reduceLE, Nat.reduceAdd, Nat.reduceSub, Nat.reduceMul, Nat.reduceEqDiff, Nat.reduceLeDiff, Nat.reducePow, ↓reduceIte, reduceCtorEq]); repeat' (first | exact renE_n | ((with_reducible apply renE_c); exact rfl; focus (first | with_reducible exact rfl | (simp -implicitDefEqProofs only [go_sem, Int.reduceEq, Int.reduceLT, Int.reduceLE, Nat.reduceAdd, Nat.reduceSub, Nat.reduceMul, Nat.reduceEqDiff, Nat.reduceLeDiff, Nat.reducePow, ↓reduceIte, reduceCtorEq]; done) | (simp -implicitDefEqProofs only [go_sem, Int.reduceEq, Int.reduceLT, Int.reduceLE, Nat.reduceAdd, Nat.reduceSub, Nat.reduceMul, Nat.reduceEqDiff, Nat.reduceLeDiff, Nat.reducePow, ↓reduceIte, reduceCtorEq]; omega))))))
          · rw [if_neg (show ¬ x = fxT by assumption), if_neg (show ¬ x = fyT by assumption), if_neg (show ¬ x = exT by assumption), if_pos (show x = anT by assumption)] at he
            exact round_end (k + 2, { p with anchor := rnum y }) ⟨by simp only; omega, he⟩ (by simp only; omega) (by (refine xwk (π := [0, 1]) (by decide) rfl ?_ ?_; (first | exact trivial | simp -implicitDefEqProofs only [go_sem, Int.reduceEq, Int.reduceLT, Int.reduceLE, Nat.reduceAdd, Nat.reduceSub, Nat.reduceMul, Nat.reduceEqDiff, Nat.reduceLeDiff, Nat.reducePow, ↓reduceIte, reduceCtorEq]); repeat' (first | exact renE_n | ((with_reducible apply renE_c); exact rfl; focus (first | with_reducible exact rfl | (simp -implicitDefEqProofs only [go_sem, Int.reduceEq, Int.reduceLT, Int.reduceLE, Nat.reduceAdd, Nat.reduceSub, Nat.reduceMul, Nat.reduceEqDiff, Nat.reduceLeDiff, Nat.reducePow, ↓reduceIte, reduceCtorEq]; done) | (simp -implicitDefEqProofs only [go_sem, Int.reduceEq, Int.reduceLT, Int.reduceLE, Nat.reduceAdd, Nat.reduceSub, Nat.reduceMul, Nat.reduceEqDiff, Nat.reduceLeDiff, Nat.reducePow, ↓reduceIte, reduceCtorEq]; omega))))))
          · rw [if_neg (show ¬ x = fxT by assumption), if_neg (show ¬ x = fyT by assumption), if_neg (show ¬ x = exT by assumption), if_neg (show ¬ x = anT by assumption), if_pos (show x = pxT by assumption)] at he
            exact round_end (k + 2, { p with padX := rnum y }) ⟨by simp only; omega, he⟩ (by simp only; omega) (by (refine xwk (π := [0, 1]) (by decide) rfl ?_ ?_; (first | exact trivial | simp -implicitDefEqProofs only [go_sem, Int.reduceEq, Int.reduceLT, Int.reduceLE, Nat.reduceAdd, Nat.reduceSub, Nat.reduceMul, Nat.reduceEqDiff, Nat.reduceLeDiff, Nat.reducePow, ↓reduceIte, reduceCtorEq]); repeat' (first | exact renE_n | ((with_reducible apply renE_c); exact rfl; focus (first | with_reducible exact rfl | (simp -implicitDefEqProofs only [go_sem, Int.reduceEq, Int.reduceLT, Int.reduceLE, Nat.reduceAdd, Nat.reduceSub, Nat.reduceMul, Nat.reduceEqDiff, Nat.reduceLeDiff, Nat.reducePow, ↓reduceIte, reduceCtorEq]; done) | (simp -implicitDefEqProofs only [go_sem, Int.reduceEq, Int.reduceLT, Int.reduceLE, Nat.reduceAdd, Nat.reduceSub, Nat.reduceMul, Nat.reduceEqDiff, Nat.reduceLeDiff, Nat.reducePow, ↓reduceIte, reduceCtorEq]; omega))))))
          · rw [if_neg (show ¬ x = fxT by assumption), if_neg (show ¬ x = fyT by assumption), if_neg (show ¬ x = exT by assumption), if_neg (show ¬ x = anT by assumption), if_neg (show ¬ x = pxT by assumption), if_pos (show x = pyT by assumption)] at he
            exact round_end (k + 2, { p with padY := rnum y }) ⟨by simp only; omega, he⟩ (by simp only; omega) (by (refine xwk (π := [0, 1]) (by decide) rfl ?_ ?_; (first | exact trivial | simp -implicitDefEqProofs only [go_sem, Int.reduceEq, Int.reduceLT, Int.reduceLE, Nat.reduceAdd, Nat.reduceSub, Nat.reduceMul, Nat.reduceEqDiff, Nat.reduceLeDiff, Nat.reducePow, ↓reduceIte, reduceCtorEq]); repeat' (first | exact renE_n | ((with_reducible apply renE_c); exact rfl; focus (first | with_reducible exact rfl | (simp -implicitDefEqProofs only [go_sem, Int.reduceEq, Int.reduceLT, Int.reduceLE, Nat.reduceAdd, Nat.reduceSub, Nat.reduceMul, Nat.reduceEqDiff, Nat.reduceLeDiff, Nat.reducePow, ↓reduceIte, reduceCtorEq]; done) | (simp -implicitDefEqProofs only [go_sem, Int.reduceEq, Int.reduceLT, Int.reduceLE, Nat.reduceAdd, Nat.reduceSub, Nat.reduceMul, Nat.reduceEqDiff, Nat.reduceLeDiff, Nat.reducePow, ↓reduceIte, reduceCtorEq]; omega))))))
          · rw [if_neg (show ¬ x = fxT by assumption), if_neg (show ¬ x = fyT by assumption), if_neg (show ¬ x = exT by assumption), if_neg (show ¬ x = anT by assumption), if_neg (show ¬ x = pxT by assumption), if_neg (show ¬ x = pyT by assumption)] at he
            rw [← he] at er
            rw [er]
            (refine xfinIs (by first | exact .inl rfl | exact .inr rfl) rfl (by repeat' (first | exact trivial | exact rfl | refine And.intro ?_ ?_)) rfl ?_ rfl; first | with_reducible exact rfl | (simp -implicitDefEqProofs only [go_sem, Int.reduceEq, Int.reduceLT, Int.reduceLE, Nat.reduceAdd, Nat.reduceSub, Nat.reduceMul, Nat.reduceEqDiff, Nat.reduceLeDiff, Nat.reducePow, ↓reduceIte, reduceCtorEq, zeroP] <;> (first | rfl | omega | exact decide_eq_decide.2 (by omega) | exact decide_eq_false (by omega) | exact decide_eq_true (by omega) | (symm; first | exact decide_eq_false (by omega) | exact decide_eq_true (by omega)) | (rw [Bool.eq_iff_iff]; simp only [Bool.not_eq_true', Bool.not_eq_false', Bool.and_eq_true, Bool.or_eq_true, decide_eq_true_eq, decide_eq_false_iff_not, reduceCtorEq, true_iff, iff_true, false_iff, iff_false]; omega))))
        · have e0 : ws.drop (k + 1) = [] := List.drop_eq_nil_of_le (by omega)
          have en : nx (ws.drop (k + 1)) = -1 := by rw [e0]; rfl
          have et : (ws.drop (k + 1)).tail = ws.drop (k + 2) := by rw [List.tail_drop]
          rw [en, et] at he
          repeat' (first | ((with_reducible apply xsim); (first | ((with_reducible apply xbld); exact rfl; exact rfl; exact rfl; (try simp only [List.set_cons_zero, List.set_cons_succ])) | ((with_reducible apply xlenM); exact rfl; exact rfl) | ((with_reducible apply xo); exact rfl) | ((with_reducible apply xst); exact rfl) | with_reducible apply xend | ((with_reducible apply xguardTS); exact rfl; exact rfl) | ((with_reducible apply xguardS); exact rfl; exact rfl) | ((with_reducible apply xalloc); exact rfl; simp only [backV, backVs, backVs_mapd, backId, backO, List.map_cons, List.map_nil, List.getElem?_nil, List.length_cons, List.length_nil, Nat.reduceAdd, Nat.reduceSub, List.cons_append, List.nil_append, List.append_nil]) | ((with_reducible apply xidxL); exact rfl; exact rfl; exact rfl; (first | exact hrow); omega; first | exact rfl | simp only [hsz]) | ((with_reducible apply xidxM); exact rfl; exact rfl; exact rfl; omega; omega; exact rfl) | ((with_reducible apply xldA); exact rfl; exact rfl; exact rfl; (first | exact hrow); exact rfl) | ((with_reducible apply xstA); exact rfl; exact rfl; exact rfl; exact rfl; (first | exact hrow); exact rfl; exact rfl; exact rfl; exact rfl; (try simp only [List.set_cons_zero, List.set_cons_succ, List.length_map])) | simp -implicitDefEqProofs only [go_sem, Int.reduceEq, Int.reduceLT, Int.reduceLE, Nat.reduceAdd, Nat.reduceSub, Nat.reduceMul, Nat.reduceEqDiff, Nat.reduceLeDiff, Nat.reducePow, ↓reduceIte, reduceCtorEq, List.length_map])) | ((with_reducible apply xaw); (first | ((with_reducible apply xstepS); refine AW.step tok rfl ?_) | ((with_reducible apply xstep); refine AW.region tok rfl ?_) | with_reducible (first | refine AW.seq ?_ | refine AW.block ?_ | refine AW.skip ?_ | refine AW.ret ?_ | refine AW.exit ?_) | ((with_reducible apply xcond); exact rfl) | ((with_reducible apply xdrawS (id := 4)); refine AW.drawS (id := 4) (.q 0 (.q 1 (.q 2 (.q 3 (.q 4 (.q 5 (.q 6 (.q 7 (.q 8 (.q 9 (.q 10 (.q 11 (.q 12 (.q 13 (.e 14 (.e 15 (.fin))))))))))))))))) tok (by kernel_rfl) rfl (by kernel_rfl) ?_) | ((with_reducible apply xdraw (id := 4)); refine AW.draw (id := 4) (.q 0 (.q 1 (.q 2 (.q 3 (.q 4 (.q 5 (.q 6 (.q 7 (.q 8 (.q 9 (.q 10 (.q 11 (.q 12 (.q 13 (.e 14 (.e 15 (.fin))))))))))))))))) tok (by kernel_rfl) rfl (by kernel_rfl) ?_) | ((with_reducible apply xdrawS (id := 28)); refine AW.drawS (id := 28) (.q 0 (.q 1 (.q 2 (.q 3 (.q 4 (.q 5 (.q 6 (.q 7 (.q 8 (.e 9 (.q 10 (.fin)))))))))))) tok (by kernel_rfl) rfl (by kernel_rfl) ?_) | ((with_reducible apply xdraw (id := 28)); refine AW.draw (id := 28) (.q 0 (.q 1 (.q 2 (.q 3 (.q 4 (.q 5 (.q 6 (.q 7 (.q 8 (.e 9 (.q 10 (.fin)))))))))))) tok (by kernel_rfl) rfl (by kernel_rfl) ?_))) | ((with_reducible apply xarun); (first | ((with_reducible apply xrun_q); exact rfl; exact rfl; exact rfl) | ((with_reducible apply xrun_e); exact rfl) | with_reducible apply xrun_f)) | with_reducible (first | refine xthen ?_ | refine xthen_r ?_ | refine xthen_e ?_ | refine xblock ?_ | refine xblock_r ?_ | refine xblock_e ?_ | refine xblock_n rfl ?_ | refine xround_r ?_ | refine xround_e ?_) | (with_reducible intro hc; (try simp only [decide_eq_true_eq, decide_eq_false_iff_not, Bool.not_true, Bool.not_false, Bool.not_eq_true', Bool.not_eq_false', ne_eq, not_true, reduceCtorEq, List.length_map] at hc); (try (exfalso; omega))) | with_reducible (first | exact trivial | refine And.intro ?_ ?_ | exact rfl | exact Nat.le_refl _) | exact Eq.refl true | exact (rfl : (_ : List Nat) = _) | exact Nat.le_of_ble_eq_true rfl | (refine inR_i64.mpr ?_; first | omega | (simp only [List.length_map, List.length_map]; omega)) | omega)
          · rw [if_pos (show x = fxT by assumption)] at he
            exact round_end (k + 1, { p with fillX := true }) ⟨by simp only; omega, he⟩ (by simp only; omega) (by (refine xwk (π := [0, 1]) (by decide) rfl ?_ ?_; (first | exact trivial | simp -implicitDefEqProofs only [go_sem, Int.reduceEq, Int.reduceLT, Int.reduceLE, Nat.reduceAdd, Nat.reduceSub, Nat.reduceMul, Nat.reduceEqDiff, Nat.reduceLeDiff, Nat.reducePow, ↓reduceIte, reduceCtorEq]); repeat' (first | exact renE_n | ((with_reducible apply renE_c); exact rfl; focus (first | with_reducible exact rfl | (simp -implicitDefEqProofs only [go_sem, Int.reduceEq, Int.reduceLT, Int.reduceLE, Nat.reduceAdd, Nat.reduceSub, Nat.reduceMul, Nat.reduceEqDiff, Nat.reduceLeDiff, Nat.reducePow, ↓reduceIte, reduceCtorEq]; done) | (simp -implicitDefEqProofs only [go_sem, Int.reduceEq, Int.reduceLT, Int.reduceLE, Nat.reduceAdd, Nat.reduceSub, Nat.reduceMul, Nat.reduceEqDiff, Nat.reduceLeDiff, Nat.reducePow, ↓reduceIte, reduceCtorEq]; omega))))))
          · rw [if_neg (show ¬ x = fxT by assumption), if_pos (show x = fyT by assumption)] at he
            exact round_end (k + 1, { p with fillY := true }) ⟨by simp only; omega, he⟩ (by simp only; omega) (by (refine xwk (π := [0, 1]) (by decide) rfl ?_ ?_; (first | exact trivial | simp -implicitDefEqProofs only [go_sem, Int.reduceEq, Int.reduceLT, Int.reduceLE, Nat.reduceAdd, Nat.reduceSub, Nat.reduceMul, Nat.reduceEqDiff, Nat.reduceLeDiff, Nat.reducePow, ↓reduceIte, reduceCtorEq]); repeat' (first | exact renE_n | ((with_reducible apply renE_c); exact rfl; focus (first | with_reducible exact rfl | (simp -implicitDefEqProofs only [go_sem, Int.reduceEq, Int.reduceLT, Int.reduceLE, Nat.reduceAdd, Nat.reduceSub, Nat.reduceMul, Nat.reduceEqDiff, Nat.reduceLeDiff, Nat.reducePow, ↓reduceIte, reduceCtorEq]; done) | (simp -implicitDefEqProofs only [go_sem, Int.reduceEq, Int.reduceLT, Int.reduceLE, Nat.reduceAdd, Nat.reduceSub, Nat.reduceMul, Nat.reduceEqDiff, Nat.reduceLeDiff, Nat.reducePow, ↓reduceIte, reduceCtorEq]; omega))))))
          · rw [if_neg (show ¬ x = fxT by assumption), if_neg (show ¬ x = fyT by assumption), if_pos (show x = exT by assumption)] at he
            exact round_end (k + 1, { p with expand := true }) ⟨by simp only; omega, he⟩ (by simp only; omega) (by (refine xwk (π := [0, 1]) (by decide) rfl ?_ ?_; (first | exact trivial | simp -implicitDefEqProofs only [go_sem, Int.reduceEq, Int.reduceLT, Int.reduceLE, Nat.reduceAdd, Nat.reduceSub, Nat.reduceMul, Nat.reduceEqDiff, Nat.reduceLeDiff, Nat.reducePow, ↓reduceIte, reduceCtorEq]); repeat' (first | exact renE_n | ((with_reducible apply renE_c); exact rfl; focus (first | with_reducible exact rfl | (simp -implicitDefEqProofs only [go_sem, Int.reduceEq, Int.reduceLT, Int.reduceLE, Nat.reduceAdd, Nat.reduceSub, Nat.reduceMul, Nat.reduceEqDiff, Nat.reduceLeDiff, Nat.reducePow, ↓reduceIte, reduceCtorEq]; done) | (simp -implicitDefEqProofs only [go_sem, Int.reduceEq, Int.reduceLT, Int.reduceLE, Nat.reduceAdd, Nat.reduceSub, Nat.reduceMul, Nat.reduceEqDiff, Nat.reduceLeDiff, Nat.reducePow, ↓reduceIte, reduceCtorEq]; omega))))))
          · rw [if_neg (show ¬ x = fxT by assumption), if_neg (show ¬ x = fyT by assumption), if_neg (show ¬ x = exT by assumption), if_pos (show x = anT by assumption)] at he
            exact round_end (k + 2, { p with anchor := (-1) }) ⟨by simp only; omega, he⟩ (by simp only; omega) (by (refine xwk (π := [0, 1]) (by decide) rfl ?_ ?_; (first | exact trivial | simp -implicitDefEqProofs only [go_sem, Int.reduceEq, Int.reduceLT, Int.reduceLE, Nat.reduceAdd, Nat.reduceSub, Nat.reduceMul, Nat.reduceEqDiff, Nat.reduceLeDiff, Nat.reducePow, ↓reduceIte, reduceCtorEq]); repeat' (first | exact renE_n | ((with_reducible apply renE_c); exact rfl; focus (first | with_reducible exact rfl | (simp -implicitDefEqProofs only [go_sem, Int.reduceEq, Int.reduceLT, Int.reduceLE, Nat.reduceAdd, Nat.reduceSub, Nat.reduceMul, Nat.reduceEqDiff, Nat.reduceLeDiff, Nat.reducePow, ↓reduceIte, reduceCtorEq]; done) | (simp -implicitDefEqProofs only [go_sem, Int.reduceEq, Int.reduceLT, Int.reduceLE, Nat.reduceAdd, Nat.reduceSub, Nat.reduceMul, Nat.reduceEqDiff, Nat.reduceLeDiff, Nat.reducePow, ↓reduceIte, reduceCtorEq]; omega))))))
          · rw [if_neg (show ¬ x = fxT by assumption), if_neg (show ¬ x = fyT by assumption), if_neg (show ¬ x = exT by assumption), if_neg (show ¬ x = anT by assumption), if_pos (show x = pxT by assumption)] at he
            exact round_end (k + 2, { p with padX := (-1) }) ⟨by simp only; omega, he⟩ (by simp only; omega) (by (refine xwk (π := [0, 1]) (by decide) rfl ?_ ?_; (first | exact trivial | simp -implicitDefEqProofs only [go_sem, Int.reduceEq, Int.reduceLT, Int.reduceLE, Nat.reduceAdd, Nat.reduceSub, Nat.reduceMul, Nat.reduceEqDiff, Nat.reduceLeDiff, Nat.reducePow, ↓reduceIte, reduceCtorEq]); repeat' (first | exact renE_n | ((with_reducible apply renE_c); exact rfl; focus (first | with_reducible exact rfl | (simp -implicitDefEqProofs only [go_sem, Int.reduceEq, Int.reduceLT, Int.reduceLE, Nat.reduceAdd, Nat.reduceSub, Nat.reduceMul, Nat.reduceEqDiff, Nat.reduceLeDiff, Nat.reducePow, ↓reduceIte, reduceCtorEq]; done) | (simp -implicitDefEqProofs only [go_sem, Int.reduceEq, Int.reduceLT, Int.reduceLE, Nat.reduceAdd, Nat.reduceSub, Nat.reduceMul, Nat.reduceEqDiff, Nat.reduceLeDiff, Nat.reducePow, ↓reduceIte, reduceCtorEq]; omega))))))
          · rw [if_neg (show ¬ x = fxT by assumption), if_neg (show ¬ x = fyT by assumption), if_neg (show ¬ x = exT by assumption), if_neg (show ¬ x = anT by assumption), if_neg (show ¬ x = pxT by assumption), if_pos (show x = pyT by assumption)] at he
            exact round_end (k + 2, { p with padY := (-1) }) ⟨by simp only; omega, he⟩ (by simp only; omega) (by (refine xwk (π := [0, 1]) (by decide) rfl ?_ ?_; (first | exact trivial | simp -implicitDefEqProofs only [go_sem, Int.reduceEq, Int.reduceLT, Int.reduceLE, Nat.reduceAdd, Nat.reduceSub, Nat.reduceMul, Nat.reduceEqDiff, Nat.reduceLeDiff, Nat.reducePow, ↓reduceIte, reduceCtorEq]); repeat' (first | exact renE_n | ((with_reducible apply renE_c); exact rfl; focus (first | with_reducible exact rfl | (simp -implicitDefEqProofs only [go_sem, Int.reduceEq, Int.reduceLT, Int.reduceLE, Nat.reduceAdd, Nat.reduceSub, Nat.reduceMul, Nat.reduceEqDiff, Nat.reduceLeDiff, Nat.reducePow, ↓reduceIte, reduceCtorEq]; done) | (simp -implicitDefEqProofs only [go_sem, Int.reduceEq, Int.reduceLT, Int.reduceLE, Nat.reduceAdd, Nat.reduceSub, Nat.reduceMul, Nat.reduceEqDiff, Nat.reduceLeDiff, Nat.reducePow, ↓reduceIte, reduceCtorEq]; omega))))))
          · rw [if_neg (show ¬ x = fxT by assumption), if_neg (show ¬ x = fyT by assumption), if_neg (show ¬ x = exT by assumption), if_neg (show ¬ x = anT by assumption), if_neg (show ¬ x = pxT by assumption), if_neg (show ¬ x = pyT by assumption)] at he
            rw [← he] at er
            rw [er]
            (refine xfinIs (by first | exact .inl rfl | exact .inr rfl) rfl (by repeat' (first | exact trivial | exact rfl | refine And.intro ?_ ?_)) rfl ?_ rfl; first | with_reducible exact rfl | (simp -implicitDefEqProofs only [go_sem, Int.reduceEq, Int.reduceLT, Int.reduceLE, Nat.reduceAdd, Nat.reduceSub, Nat.reduceMul, Nat.reduceEqDiff, Nat.reduceLeDiff, Nat.reducePow, ↓reduceIte, reduceCtorEq, zeroP] <;> (first | rfl | omega | exact decide_eq_decide.2 (by omega) | exact decide_eq_false (by omega) | exact decide_eq_true (by omega) | (symm; first | exact decide_eq_false (by omega) | exact decide_eq_true (by omega)) | (rw [Bool.eq_iff_iff]; simp only [Bool.not_eq_true', Bool.not_eq_false', Bool.and_eq_true, Bool.or_eq_true, decide_eq_true_eq, decide_eq_false_iff_not, reduceCtorEq, true_iff, iff_true, false_iff, iff_false]; omega))))
      · rw [List.drop_eq_nil_of_le (by omega), sGo] at he
        rw [← he] at er
        have e1 : (sRes s).1 = p := by rw [er]
        have e2 : (sRes s).2 = (validPack p && decide (ptext p = s)) := by rw [er]
        rw [e1, e2]
        have cv := c_validPack p
        cases hv : validPack p
        · rw [hv] at cv
          repeat' (first | ((with_reducible apply xsim); (first | ((with_reducible apply xbld); exact rfl; exact rfl; exact rfl; (try simp only [List.set_cons_zero, List.set_cons_succ])) | ((with_reducible apply xlenM); exact rfl; exact rfl) | ((with_reducible apply xo); exact rfl) | ((with_reducible apply xst); exact rfl) | with_reducible apply xend | ((with_reducible apply xguardTS); exact rfl; exact rfl) | ((with_reducible apply xguardS); exact rfl; exact rfl) | ((with_reducible apply xalloc); exact rfl; simp only [backV, backVs, backVs_mapd, backId, backO, List.map_cons, List.map_nil, List.getElem?_nil, List.length_cons, List.length_nil, Nat.reduceAdd, Nat.reduceSub, List.cons_append, List.nil_append, List.append_nil]) | ((with_reducible apply xidxL); exact rfl; exact rfl; exact rfl; exact rfl; omega; first | exact rfl | simp only [hsz]) | ((with_reducible apply xidxM); exact rfl; exact rfl; exact rfl; omega; omega; exact rfl) | ((with_reducible apply xldA); exact rfl; exact rfl; exact rfl; exact rfl; exact rfl) | ((with_reducible apply xstA); exact rfl; exact rfl; exact rfl; exact rfl; exact rfl; exact rfl; exact rfl; exact rfl; exact rfl; (try simp only [List.set_cons_zero, List.set_cons_succ, List.length_map])) | ((with_reducible apply xcallIs); exact rfl; exact rfl; exact cv; exact rfl) | simp -implicitDefEqProofs only [go_sem, Int.reduceEq, Int.reduceLT, Int.reduceLE, Nat.reduceAdd, Nat.reduceSub, Nat.reduceMul, Nat.reduceEqDiff, Nat.reduceLeDiff, Nat.reducePow, ↓reduceIte, reduceCtorEq, List.length_map])) | ((with_reducible apply xaw); (first | ((with_reducible apply xstepS); refine AW.step tok rfl ?_) | ((with_reducible apply xstep); refine AW.region tok rfl ?_) | with_reducible (first | refine AW.seq ?_ | refine AW.block ?_ | refine AW.skip ?_ | refine AW.ret ?_ | refine AW.exit ?_) | ((with_reducible apply xcond); exact rfl) | ((with_reducible apply xdrawS (id := 4)); refine AW.drawS (id := 4) (.q 0 (.q 1 (.q 2 (.q 3 (.q 4 (.q 5 (.q 6 (.q 7 (.q 8 (.q 9 (.q 10 (.q 11 (.q 12 (.q 13 (.e 14 (.e 15 (.fin))))))))))))))))) tok (by kernel_rfl) rfl (by kernel_rfl) ?_) | ((with_reducible apply xdraw (id := 4)); refine AW.draw (id := 4) (.q 0 (.q 1 (.q 2 (.q 3 (.q 4 (.q 5 (.q 6 (.q 7 (.q 8 (.q 9 (.q 10 (.q 11 (.q 12 (.q 13 (.e 14 (.e 15 (.fin))))))))))))))))) tok (by kernel_rfl) rfl (by kernel_rfl) ?_) | ((with_reducible apply xdrawS (id := 28)); refine AW.drawS (id := 28) (.q 0 (.q 1 (.q 2 (.q 3 (.q 4 (.q 5 (.q 6 (.q 7 (.q 8 (.e 9 (.q 10 (.fin)))))))))))) tok (by kernel_rfl) rfl (by kernel_rfl) ?_) | ((with_reducible apply xdraw (id := 28)); refine AW.draw (id := 28) (.q 0 (.q 1 (.q 2 (.q 3 (.q 4 (.q 5 (.q 6 (.q 7 (.q 8 (.e 9 (.q 10 (.fin)))))))))))) tok (by kernel_rfl) rfl (by kernel_rfl) ?_))) | ((with_reducible apply xarun); (first | ((with_reducible apply xrun_q); exact rfl; exact rfl; exact rfl) | ((with_reducible apply xrun_c); exact rfl; exact rfl; exact rfl; exact rfl; exact rfl; exact rfl; exact cv; exact rfl) | ((with_reducible apply xrun_g); exact rfl; exact rfl; exact rfl; exact rfl; exact rfl; exact rfl) | ((with_reducible apply xrun_e); exact rfl) | with_reducible apply xrun_f)) | ((with_reducible apply xcallQ); exact rfl; exact rfl; exact cv; exact rfl) | with_reducible (first | refine xthen ?_ | refine xthen_r ?_ | refine xthen_e ?_ | refine xblock ?_ | refine xblock_r ?_ | refine xblock_e ?_ | refine xblock_n rfl ?_ | refine xround_r ?_ | refine xround_e ?_) | (with_reducible intro hc; (try simp only [decide_eq_true_eq, decide_eq_false_iff_not, Bool.not_true, Bool.not_false, Bool.not_eq_true', Bool.not_eq_false', ne_eq, not_true, reduceCtorEq, List.length_map] at hc); (try (exfalso; omega))) | with_reducible (first | exact trivial | refine And.intro ?_ ?_ | exact rfl | exact Nat.le_refl _) | exact Eq.refl true | exact (rfl : (_ : List Nat) = _) | exact Nat.le_of_ble_eq_true rfl | (refine inR_i64.mpr ?_; first | omega | (simp only [List.length_map, List.length_map]; omega)) | omega)
          all_goals (refine xfinIs (by first | exact .inl rfl | exact .inr rfl) rfl (by repeat' (first | exact trivial | exact rfl | refine And.intro ?_ ?_)) rfl ?_ rfl; first | with_reducible exact rfl | (simp -implicitDefEqProofs only [go_sem, Int.reduceEq, Int.reduceLT, Int.reduceLE, Nat.reduceAdd, Nat.reduceSub, Nat.reduceMul, Nat.reduceEqDiff, Nat.reduceLeDiff, Nat.reducePow, ↓reduceIte, reduceCtorEq, Bool.false_and] <;> (first | rfl | omega | exact decide_eq_decide.2 (by omega) | exact decide_eq_false (by omega) | exact decide_eq_true (by omega) | (symm; first | exact decide_eq_false (by omega) | exact decide_eq_true (by omega)) | (rw [Bool.eq_iff_iff]; simp only [Bool.not_eq_true', Bool.not_eq_false', Bool.and_eq_true, Bool.or_eq_true, decide_eq_true_eq, decide_eq_false_iff_not, reduceCtorEq, true_iff, iff_true, false_iff, iff_false]; omega))))
        · rw [hv] at cv
          have ct := c_PTextS p hv
          repeat' (first | ((with_reducible apply xsim); (first | ((with_reducible apply xbld); exact rfl; exact rfl; exact rfl; (try simp only [List.set_cons_zero, List.set_cons_succ])) | ((with_reducible apply xlenM); exact rfl; exact rfl) | ((with_reducible apply xo); exact rfl) | ((with_reducible apply xst); exact rfl) | with_reducible apply xend | ((with_reducible apply xguardTS); exact rfl; exact rfl) | ((with_reducible apply xguardS); exact rfl; exact rfl) | ((with_reducible apply xalloc); exact rfl; simp only [backV, backVs, backVs_mapd, backId, backO, List.map_cons, List.map_nil, List.getElem?_nil, List.length_cons, List.length_nil, Nat.reduceAdd, Nat.reduceSub, List.cons_append, List.nil_append, List.append_nil]) | ((with_reducible apply xidxL); exact rfl; exact rfl; exact rfl; exact rfl; omega; first | exact rfl | simp only [hsz]) | ((with_reducible apply xidxM); exact rfl; exact rfl; exact rfl; omega; omega; exact rfl) | ((with_reducible apply xldA); exact rfl; exact rfl; exact rfl; exact rfl; exact rfl) | ((with_reducible apply xstA); exact rfl; exact rfl; exact rfl; exact rfl; exact rfl; exact rfl; exact rfl; exact rfl; exact rfl; (try simp only [List.set_cons_zero, List.set_cons_succ, List.length_map])) | ((with_reducible apply xcallIs); exact rfl; exact rfl; (first | exact cv | exact ct); exact rfl) | simp -implicitDefEqProofs only [go_sem, Int.reduceEq, Int.reduceLT, Int.reduceLE, Nat.reduceAdd, Nat.reduceSub, Nat.reduceMul, Nat.reduceEqDiff, Nat.reduceLeDiff, Nat.reducePow, ↓reduceIte, reduceCtorEq, List.length_map])) | ((with_reducible apply xaw); (first | ((with_reducible apply xstepS); refine AW.step tok rfl ?_) | ((with_reducible apply xstep); refine AW.region tok rfl ?_) | with_reducible (first | refine AW.seq ?_ | refine AW.block ?_ | refine AW.skip ?_ | refine AW.ret ?_ | refine AW.exit ?_) | ((with_reducible apply xcond); exact rfl) | ((with_reducible apply xdrawS (id := 4)); refine AW.drawS (id := 4) (.q 0 (.q 1 (.q 2 (.q 3 (.q 4 (.q 5 (.q 6 (.q 7 (.q 8 (.q 9 (.q 10 (.q 11 (.q 12 (.q 13 (.e 14 (.e 15 (.fin))))))))))))))))) tok (by kernel_rfl) rfl (by kernel_rfl) ?_) | ((with_reducible apply xdraw (id := 4)); refine AW.draw (id := 4) (.q 0 (.q 1 (.q 2 (.q 3 (.q 4 (.q 5 (.q 6 (.q 7 (.q 8 (.q 9 (.q 10 (.q 11 (.q 12 (.q 13 (.e 14 (.e 15 (.fin))))))))))))))))) tok (by kernel_rfl) rfl (by kernel_rfl) ?_) | ((with_reducible apply xdrawS (id := 28)); refine AW.drawS (id := 28) (.q 0 (.q 1 (.q 2 (.q 3 (.q 4 (.q 5 (.q 6 (.q 7 (.q 8 (.e 9 (.q 10 (.fin)))))))))))) tok (by kernel_rfl) rfl (by kernel_rfl) ?_) | ((with_reducible apply xdraw (id := 28)); refine AW.draw (id := 28) (.q 0 (.q 1 (.q 2 (.q 3 (.q 4 (.q 5 (.q 6 (.q 7 (.q 8 (.e 9 (.q 10 (.fin)))))))))))) tok (by kernel_rfl) rfl (by kernel_rfl) ?_))) | ((with_reducible apply xarun); (first | ((with_reducible apply xrun_q); exact rfl; exact rfl; exact rfl) | ((with_reducible apply xrun_c); exact rfl; exact rfl; exact rfl; exact rfl; exact rfl; exact rfl; (first | exact cv | exact ct); exact rfl) | ((with_reducible apply xrun_g); exact rfl; exact rfl; exact rfl; exact rfl; exact rfl; exact rfl) | ((with_reducible apply xrun_e); exact rfl) | with_reducible apply xrun_f)) | ((with_reducible apply xcallQ); exact rfl; exact rfl; (first | exact cv | exact ct); exact rfl) | with_reducible (first | refine xthen ?_ | refine xthen_r ?_ | refine xthen_e ?_ | refine xblock ?_ | refine xblock_r ?_ | refine xblock_e ?_ | refine xblock_n rfl ?_ | refine xround_r ?_ | refine xround_e ?_) | (with_reducible intro hc; (try simp only [decide_eq_true_eq, decide_eq_false_iff_not, Bool.not_true, Bool.not_false, Bool.not_eq_true', Bool.not_eq_false', ne_eq, not_true, reduceCtorEq, List.length_map] at hc); (try (exfalso; omega))) | with_reducible (first | exact trivial | refine And.intro ?_ ?_ | exact rfl | exact Nat.le_refl _) | exact Eq.refl true | exact (rfl : (_ : List Nat) = _) | exact Nat.le_of_ble_eq_true rfl | (refine inR_i64.mpr ?_; first | omega | (simp only [List.length_map, List.length_map]; omega)) | omega)
          all_goals (refine xfinIs (by first | exact .inl rfl | exact .inr rfl) rfl (by repeat' (first | exact trivial | exact rfl | refine And.intro ?_ ?_)) rfl ?_ rfl; first | with_reducible exact rfl | (simp -implicitDefEqProofs only [go_sem, Int.reduceEq, Int.reduceLT, Int.reduceLE, Nat.reduceAdd, Nat.reduceSub, Nat.reduceMul, Nat.reduceEqDiff, Nat.reduceLeDiff, Nat.reducePow, ↓reduceIte, reduceCtorEq, Bool.true_and] <;> (first | rfl | omega | exact decide_eq_decide.2 (by omega) | exact decide_eq_false (by omega) | exact decide_eq_true (by omega) | (symm; first | exact decide_eq_false (by omega) | exact decide_eq_true (by omega)) | (rw [Bool.eq_iff_iff]; simp only [Bool.not_eq_true', Bool.not_eq_false', Bool.and_eq_true, Bool.or_eq_true, decide_eq_true_eq, decide_eq_false_iff_not, reduceCtorEq, true_iff, iff_true, false_iff, iff_false]; omega))))
end Go.Proofs.YtmjofbjglhdkjaaGreatDoor

namespace Go.Proofs.YtmjofbjglhdkjaaGreatDoor
open Go.Fw
attribute [local irreducible] Go.Fw.aops Go.Fw.arun

theorem iGo_step1 (w : List UInt8) (p : Pack) : iGo [w] p = if w = fxT then iGo [] { p with fillX := true }
    else if w = fyT then iGo [] { p with fillY := true }
    else if w = exT then iGo [] { p with expand := true }
    else none := by rw [iGo.eq_def]
theorem iGo_step2 (w y : List UInt8) (l : List (List UInt8)) (p : Pack) : iGo (w :: y :: l) p = if w = fxT then iGo (y :: l) { p with fillX := true }
    else if w = fyT then iGo (y :: l) { p with fillY := true }
    else if w = exT then iGo (y :: l) { p with expand := true }
    else if (numI y).2 = false then none
        else if w = anT then iGo l { p with anchor := (numI y).1 }
        else if w = pxT then iGo l { p with padX := (numI y).1 }
        else if w = pyT then iGo l { p with padY := (numI y).1 }
        else none := by rw [iGo.eq_def]
set_option maxHeartbeats 4000000 in
theorem c_readPack (s : List UInt8) (hl : s.length ≤ 1073741824) : ACon Tryz.prog 34 [.d (.str s)] [] (Is (.tup [vPack (iRes s).1, .d (.bool (iRes s).2)])) := by
  have c1 := c_Split 32 s (by omega)
  have hw : ∀ w ∈ splitL 32 s, w.length ≤ 1073741824 := fun w h => Nat.le_trans (splitL_len 32 s w h) hl
  have hn := splitL_count 32 s
  have er : iRes s = match splitL 32 s with
    | a :: b :: c :: l => if (numI b).2 = true ∧ (numI c).2 = true then (match iGo l ⟨(numI b).1, (numI c).1, idxT a, false, false, false, 4, 0, 0⟩ with
        | some p => if validPack p = true ∧ ptext p = s then (p, true) else (zeroP, false)
        | none => (zeroP, false))
      else (zeroP, false)
    | _ => (zeroP, false) := rfl
  generalize splitL 32 s = ws at *
  by_cases h3 : ws.length < 3
  · have e : iRes s = (zeroP, false) := by
      rw [er]
      rcases ws with _ | ⟨a, _ | ⟨b, _ | ⟨c, l⟩⟩⟩
      · rfl
      · rfl
      · rfl
      · exact absurd h3 (by simp)
    rw [e]
    refine ACon.introW tok (nt := 113) Tryz.func34 rfl rfl rfl (by kernel_rfl) rfl ?_
    repeat' (first | ((with_reducible apply xsim); (first | ((with_reducible apply xlenM); exact rfl; exact rfl) | ((with_reducible apply xo); exact rfl) | ((with_reducible apply xst); exact rfl) | with_reducible apply xend | ((with_reducible apply xguardTS); exact rfl; exact rfl) | ((with_reducible apply xguardS); exact rfl; exact rfl) | ((with_reducible apply xalloc); exact rfl; simp only [backV, backVs, backVs_mapd, backId, backO, List.map_cons, List.map_nil, List.getElem?_nil, List.length_cons, List.length_nil, Nat.reduceAdd, Nat.reduceSub, List.cons_append, List.nil_append, List.append_nil]) | ((with_reducible apply xidxL); exact rfl; exact rfl; exact rfl; exact rfl; omega; first | exact rfl | simp only [hsz]) | ((with_reducible apply xidxM); exact rfl; exact rfl; exact rfl; omega; omega; exact rfl) | ((with_reducible apply xldA); exact rfl; exact rfl; exact rfl; exact rfl; exact rfl) | ((with_reducible apply xstA); exact rfl; exact rfl; exact rfl; exact rfl; exact rfl; exact rfl; exact rfl; exact rfl; exact rfl; (try simp only [List.set_cons_zero, List.set_cons_succ, List.length_map])) | ((with_reducible apply xcallIs); exact rfl; exact rfl; exact c1; exact rfl) | simp -implicitDefEqProofs only [go_sem, Int.reduceEq, Int.reduceLT, Int.reduceLE, Nat.reduceAdd, Nat.reduceSub, Nat.reduceMul, Nat.reduceEqDiff, Nat.reduceLeDiff, Nat.reducePow, ↓reduceIte, reduceCtorEq, List.length_map])) | ((with_reducible apply xaw); (first | ((with_reducible apply xstepS); refine AW.step tok rfl ?_) | ((with_reducible apply xstep); refine AW.region tok rfl ?_) | with_reducible (first | refine AW.seq ?_ | refine AW.block ?_ | refine AW.skip ?_ | refine AW.ret ?_ | refine AW.exit ?_) | ((with_reducible apply xcond); exact rfl) | ((with_reducible apply xdrawS (id := 4)); refine AW.drawS (id := 4) (.q 0 (.q 1 (.q 2 (.q 3 (.q 4 (.q 5 (.e 6 (.e 7 (.fin))))))))) tok (by kernel_rfl) rfl (by kernel_rfl) ?_) | ((with_reducible apply xdraw (id := 4)); refine AW.draw (id := 4) (.q 0 (.q 1 (.q 2 (.q 3 (.q 4 (.q 5 (.e 6 (.e 7 (.fin))))))))) tok (by kernel_rfl) rfl (by kernel_rfl) ?_))) | ((with_reducible apply xarun); (first | ((with_reducible apply xrun_q); exact rfl; exact rfl; exact rfl) | ((with_reducible apply xrun_c); exact rfl; exact rfl; exact rfl; exact rfl; exact rfl; exact rfl; exact c1; exact rfl) | ((with_reducible apply xrun_g); exact rfl; exact rfl; exact rfl; exact rfl; exact rfl; exact rfl) | ((with_reducible apply xrun_e); exact rfl) | with_reducible apply xrun_f)) | ((with_reducible apply xcallQ); exact rfl; exact rfl; exact c1; exact rfl) | with_reducible (first | refine xthen ?_ | refine xthen_r ?_ | refine xthen_e ?_ | refine xblock ?_ | refine xblock_r ?_ | refine xblock_e ?_ | refine xblock_n rfl ?_ | refine xround_r ?_ | refine xround_e ?_) | (with_reducible intro hc; (try simp only [decide_eq_true_eq, decide_eq_false_iff_not, Bool.not_true, Bool.not_false, Bool.not_eq_true', Bool.not_eq_false', ne_eq, not_true, reduceCtorEq, List.length_map] at hc); (try (exfalso; omega))) | with_reducible (first | exact trivial | refine And.intro ?_ ?_ | exact rfl | exact Nat.le_refl _) | exact Eq.refl true | exact (rfl : (_ : List Nat) = _) | exact Nat.le_of_ble_eq_true rfl | (refine inR_i64.mpr ?_; first | omega | (simp only [List.length_map, List.length_map]; omega)) | omega)
    (refine xfinIs (by first | exact .inl rfl | exact .inr rfl) rfl (by repeat' (first | exact trivial | exact rfl | refine And.intro ?_ ?_)) rfl ?_ rfl; first | with_reducible exact rfl | (simp -implicitDefEqProofs only [go_sem, Int.reduceEq, Int.reduceLT, Int.reduceLE, Nat.reduceAdd, Nat.reduceSub, Nat.reduceMul, Nat.reduceEqDiff, Nat.reduceLeDiff, Nat.reducePow, ↓reduceIte, reduceCtorEq, zeroP] <;> (first | rfl | omega | exact decide_eq_decide.2 (by omega) | exact decide_eq_false (by omega) | exact decide_eq_true (by omega) | (symm; first | exact decide_eq_false (by omega) | exact decide_eq_true (by omega)) | (rw [Bool.eq_iff_iff]; simp only [Bool.not_eq_true', Bool.not_eq_false', Bool.and_eq_true, Bool.or_eq_true, decide_eq_true_eq, decide_eq_false_iff_not, reduceCtorEq, true_iff, iff_true, false_iff, iff_false]; omega))))
  · obtain ⟨a, b, c, l, rfl⟩ : ∃ a b c l, ws = a :: b :: c :: l := by
      rcases ws with _ | ⟨a, _ | ⟨b, _ | ⟨c, l⟩⟩⟩
      · exact absurd (by simp) h3
      · exact absurd (by simp) h3
      · exact absurd (by simp) h3
      · exact ⟨a, b, c, l, rfl⟩
    simp only at er
    have h1 := hw b (by simp)
    have h2 := hw c (by simp)
    have cr1 := c_numberI b (by omega)
    have cr2 := c_numberI c (by omega)
    have ci := c_idxI sideT a (by decide)
    rw [idxL_side] at ci
    have r0 : ((a :: b :: c :: l).map encStr)[0]? = some (encStr a) := rfl
    have r1 : ((a :: b :: c :: l).map encStr)[1]? = some (encStr b) := rfl
    have r2 : ((a :: b :: c :: l).map encStr)[2]? = some (encStr c) := rfl
    generalize hws : a :: b :: c :: l = ws at *
    have hd3 : ws.drop 3 = l := by rw [← hws]; rfl
    generalize numI b = nb at *
    generalize numI c = nc at *
    obtain ⟨b1, b2⟩ := nb
    obtain ⟨d1, d2⟩ := nc
    simp only at er cr1 cr2
    by_cases hok : b2 = true ∧ d2 = true
    · obtain ⟨rfl, rfl⟩ := hok
      rw [if_pos ⟨rfl, rfl⟩] at er
      refine ACon.introW tok (nt := 113) Tryz.func34 rfl rfl rfl (by kernel_rfl) rfl ?_
      repeat' (first | ((with_reducible apply xsim); (first | ((with_reducible apply xlenM); exact rfl; exact rfl) | ((with_reducible apply xo); exact rfl) | ((with_reducible apply xst); exact rfl) | with_reducible apply xend | ((with_reducible apply xguardTS); exact rfl; exact rfl) | ((with_reducible apply xguardS); exact rfl; exact rfl) | ((with_reducible apply xalloc); exact rfl; simp only [backV, backVs, backVs_mapd, backId, backO, List.map_cons, List.map_nil, List.getElem?_nil, List.length_cons, List.length_nil, Nat.reduceAdd, Nat.reduceSub, List.cons_append, List.nil_append, List.append_nil]) | ((with_reducible apply xidxL); exact rfl; exact rfl; exact rfl; (first | exact r0 | exact r1 | exact r2); omega; first | exact rfl | simp only [hsz]) | ((with_reducible apply xidxM); exact rfl; exact rfl; exact rfl; omega; omega; exact rfl) | ((with_reducible apply xldA); exact rfl; exact rfl; exact rfl; (first | exact r0 | exact r1 | exact r2); exact rfl) | ((with_reducible apply xstA); exact rfl; exact rfl; exact rfl; exact rfl; (first | exact r0 | exact r1 | exact r2); exact rfl; exact rfl; exact rfl; exact rfl; (try simp only [List.set_cons_zero, List.set_cons_succ, List.length_map])) | ((with_reducible apply xcallIs); exact rfl; exact rfl; (first | exact c1 | exact c_sidesI | exact ci | exact cr1 | exact cr2); exact rfl) | simp -implicitDefEqProofs only [go_sem, Int.reduceEq, Int.reduceLT, Int.reduceLE, Nat.reduceAdd, Nat.reduceSub, Nat.reduceMul, Nat.reduceEqDiff, Nat.reduceLeDiff, Nat.reducePow, ↓reduceIte, reduceCtorEq, List.length_map])) | ((with_reducible apply xaw); (first | ((with_reducible apply xstepS); refine AW.step tok rfl ?_) | ((with_reducible apply xstep); refine AW.region tok rfl ?_) | with_reducible (first | refine AW.seq ?_ | refine AW.block ?_ | refine AW.skip ?_ | refine AW.ret ?_ | refine AW.exit ?_) | ((with_reducible apply xcond); exact rfl) | ((with_reducible apply xdrawS (id := 4)); refine AW.drawS (id := 4) (.q 0 (.q 1 (.q 2 (.q 3 (.q 4 (.q 5 (.e 6 (.e 7 (.fin))))))))) tok (by kernel_rfl) rfl (by kernel_rfl) ?_) | ((with_reducible apply xdraw (id := 4)); refine AW.draw (id := 4) (.q 0 (.q 1 (.q 2 (.q 3 (.q 4 (.q 5 (.e 6 (.e 7 (.fin))))))))) tok (by kernel_rfl) rfl (by kernel_rfl) ?_))) | ((with_reducible apply xarun); (first | ((with_reducible apply xrun_q); exact rfl; exact rfl; exact rfl) | ((with_reducible apply xrun_c); exact rfl; exact rfl; exact rfl; exact rfl; exact rfl; exact rfl; (first | exact c1 | exact c_sidesI | exact ci | exact cr1 | exact cr2); exact rfl) | ((with_reducible apply xrun_g); exact rfl; exact rfl; exact rfl; exact rfl; exact rfl; exact rfl) | ((with_reducible apply xrun_e); exact rfl) | with_reducible apply xrun_f)) | ((with_reducible apply xcallQ); exact rfl; exact rfl; (first | exact c1 | exact c_sidesI | exact ci | exact cr1 | exact cr2); exact rfl) | with_reducible (first | refine xthen ?_ | refine xthen_r ?_ | refine xthen_e ?_ | refine xblock ?_ | refine xblock_r ?_ | refine xblock_e ?_ | refine xblock_n rfl ?_ | refine xround_r ?_ | refine xround_e ?_) | (with_reducible intro hc; (try simp only [decide_eq_true_eq, decide_eq_false_iff_not, Bool.not_true, Bool.not_false, Bool.not_eq_true', Bool.not_eq_false', ne_eq, not_true, reduceCtorEq, List.length_map] at hc); (try (exfalso; omega))) | with_reducible (first | exact trivial | refine And.intro ?_ ?_ | exact rfl | exact Nat.le_refl _) | exact Eq.refl true | exact (rfl : (_ : List Nat) = _) | exact Nat.le_of_ble_eq_true rfl | (refine inR_i64.mpr ?_; first | omega | (simp only [List.length_map, List.length_map]; omega)) | omega)
      refine AW.loop (S := fun k : Nat × Pack => ⟨[(0, .d (.str s)), (2, .oref 0 0), (4, .d (.lst (ws.map encStr))), (5, .oref 1 0), (8, .d (.int .i64 k.1))],
          [.box [.d (.int .i64 0), .d (.int .i64 0), .d (.int .i64 0), .d (.bool false), .d (.bool false), .d (.bool false), .d (.int .i64 0), .d (.int .i64 0), .d (.int .i64 0)],
           .box [.d (.int .i64 k.2.w), .d (.int .i64 k.2.h), .d (.int .i64 k.2.side), .d (.bool k.2.fillX), .d (.bool k.2.fillY), .d (.bool k.2.expand), .d (.int .i64 k.2.anchor), .d (.int .i64 k.2.padX), .d (.int .i64 k.2.padY)]], 113, 0⟩)
        (Pre := fun k => k.1 ≤ ws.length ∧ iGo (ws.drop k.1) k.2 = iGo l ⟨b1, d1, idxT a, false, false, false, 4, 0, 0⟩) (μ := fun k => ws.length - k.1) (3, ⟨b1, d1, idxT a, false, false, false, 4, 0, 0⟩) ⟨by simp only; omega, by simp only; rw [hd3]⟩ ?_ ?_
      · (refine xwk (π := [0, 1]) (by decide) rfl ?_ ?_; (first | exact trivial | simp -implicitDefEqProofs only [go_sem, Int.reduceEq, Int.reduceLT, Int.reduceLE, Nat.reduceAdd, Nat.reduceSub, Nat.reduceMul, Nat.reduceEqDiff, Nat.reduceLeDiff, Nat.reducePow, ↓reduceIte, reduceCtorEq]); repeat' (first | exact renE_n | ((with_reducible apply renE_c); exact rfl; focus (first | with_reducible exact rfl | (simp -implicitDefEqProofs only [go_sem, Int.reduceEq, Int.reduceLT, Int.reduceLE, Nat.reduceAdd, Nat.reduceSub, Nat.reduceMul, Nat.reduceEqDiff, Nat.reduceLeDiff, Nat.reducePow, ↓reduceIte, reduceCtorEq]; done) | (simp -implicitDefEqProofs only [go_sem, Int.reduceEq, Int.reduceLT, Int.reduceLE, Nat.reduceAdd, Nat.reduceSub, Nat.reduceMul, Nat.reduceEqDiff, Nat.reduceLeDiff, Nat.reducePow, ↓reduceIte, reduceCtorEq]; omega)))))
      · rintro ⟨k, p⟩ ⟨hk, he⟩
        simp only at hk he
        by_cases hlt : k < ws.length
        · have hrow := at_map (f := encStr) hlt
          have hwk := hw ws[k] (List.getElem_mem hlt)
          rw [List.drop_eq_getElem_cons hlt] at he
          generalize ws[k] = x at *
          by_cases hl2 : k + 1 < ws.length
          · have hrow2 := at_map (f := encStr) hl2
            have hwk2 := hw ws[k + 1] (List.getElem_mem hl2)
            have cr := c_numberI ws[k + 1] (by omega)
            have e1 : ws.drop (k + 1) = ws[k + 1] :: ws.drop (k + 2) := List.drop_eq_getElem_cons hl2
            rw [e1, iGo_step2] at he
            generalize numI ws[k + 1] = ny at *
            generalize ws[k + 1] = y at *
            obtain ⟨v, ok⟩ := ny
            simp only at he cr
            cases ok
            · repeat' (first | ((with_reducible apply xsim); (first | ((with_reducible apply xlenM); exact rfl; exact rfl) | ((with_reducible apply xo); exact rfl) | ((with_reducible apply xst); exact rfl) | with_reducible apply xend | ((with_reducible apply xguardTS); exact rfl; exact rfl) | ((with_reducible apply xguardS); exact rfl; exact rfl) | ((with_reducible apply xalloc); exact rfl; simp only [backV, backVs, backVs_mapd, backId, backO, List.map_cons, List.map_nil, List.getElem?_nil, List.length_cons, List.length_nil, Nat.reduceAdd, Nat.reduceSub, List.cons_append, List.nil_append, List.append_nil]) | ((with_reducible apply xidxL); exact rfl; exact rfl; exact rfl; (first | exact hrow | exact hrow2); omega; first | exact rfl | simp only [hsz]) | ((with_reducible apply xidxM); exact rfl; exact rfl; exact rfl; omega; omega; exact rfl) | ((with_reducible apply xldA); exact rfl; exact rfl; exact rfl; (first | exact hrow | exact hrow2); exact rfl) | ((with_reducible apply xstA); exact rfl; exact rfl; exact rfl; exact rfl; (first | exact hrow | exact hrow2); exact rfl; exact rfl; exact rfl; exact rfl; (try simp only [List.set_cons_zero, List.set_cons_succ, List.length_map])) | ((with_reducible apply xcallIs); exact rfl; exact rfl; exact cr; exact rfl) | simp -implicitDefEqProofs only [go_sem, Int.reduceEq, Int.reduceLT, Int.reduceLE, Nat.reduceAdd, Nat.reduceSub, Nat.reduceMul, Nat.reduceEqDiff, Nat.reduceLeDiff, Nat.reducePow, ↓reduceIte, reduceCtorEq, List.length_map])) | ((with_reducible apply xaw); (first | ((with_reducible apply xstepS); refine AW.step tok rfl ?_) | ((with_reducible apply xstep); refine AW.region tok rfl ?_) | with_reducible (first | refine AW.seq ?_ | refine AW.block ?_ | refine AW.skip ?_ | refine AW.ret ?_ | refine AW.exit ?_) | ((with_reducible apply xcond); exact rfl) | ((with_reducible apply xdrawS (id := 4)); refine AW.drawS (id := 4) (.q 0 (.q 1 (.q 2 (.q 3 (.q 4 (.q 5 (.e 6 (.e 7 (.fin))))))))) tok (by kernel_rfl) rfl (by kernel_rfl) ?_) | ((with_reducible apply xdraw (id := 4)); refine AW.draw (id := 4) (.q 0 (.q 1 (.q 2 (.q 3 (.q 4 (.q 5 (.e 6 (.e 7 (.fin))))))))) tok (by kernel_rfl) rfl (by kernel_rfl) ?_))) | ((with_reducible apply xarun); (first | ((with_reducible apply xrun_q); exact rfl; exact rfl; exact rfl) | ((with_reducible apply xrun_c); exact rfl; exact rfl; exact rfl; exact rfl; exact rfl; exact rfl; exact cr; exact rfl) | ((with_reducible apply xrun_g); exact rfl; exact rfl; exact rfl; exact rfl; exact rfl; exact rfl) | ((with_reducible apply xrun_e); exact rfl) | with_reducible apply xrun_f)) | ((with_reducible apply xcallQ); exact rfl; exact rfl; exact cr; exact rfl) | with_reducible (first | refine xthen ?_ | refine xthen_r ?_ | refine xthen_e ?_ | refine xblock ?_ | refine xblock_r ?_ | refine xblock_e ?_ | refine xblock_n rfl ?_ | refine xround_r ?_ | refine xround_e ?_) | (with_reducible intro hc; (try simp only [decide_eq_true_eq, decide_eq_false_iff_not, Bool.not_true, Bool.not_false, Bool.not_eq_true', Bool.not_eq_false', ne_eq, not_true, reduceCtorEq, List.length_map] at hc); (try (exfalso; omega))) | with_reducible (first | exact trivial | refine And.intro ?_ ?_ | exact rfl | exact Nat.le_refl _) | exact Eq.refl true | exact (rfl : (_ : List Nat) = _) | exact Nat.le_of_ble_eq_true rfl | (refine inR_i64.mpr ?_; first | omega | (simp only [List.length_map, List.length_map]; omega)) | omega)
              · rw [if_pos (show x = fxT by assumption)] at he
                exact round_end (k + 1, { p with fillX := true }) ⟨by simp only; omega, by simp only; rw [e1]; exact he⟩ (by simp only; omega) (by (refine xwk (π := [0, 1]) (by decide) rfl ?_ ?_; (first | exact trivial | simp -implicitDefEqProofs only [go_sem, Int.reduceEq, Int.reduceLT, Int.reduceLE, Nat.reduceAdd, Nat.reduceSub, Nat.reduceMul, Nat.reduceEqDiff, Nat.reduceLeDiff, Nat.reducePow, ↓reduceIte, reduceCtorEq]); repeat' (first | exact renE_n | ((with_reducible apply renE_c); exact rfl; focus (first | with_reducible exact rfl | (simp -implicitDefEqProofs only [go_sem, Int.reduceEq, Int.reduceLT, Int.reduceLE, Nat.reduceAdd, Nat.reduceSub, Nat.reduceMul, Nat.reduceEqDiff, Nat.reduceLeDiff, Nat.reducePow, ↓reduceIte, reduceCtorEq]; done) | (simp -implicitDefEqProofs only [go_sem, Int.reduceEq, Int.reduceLT, Int.reduceLE, Nat.reduceAdd, Nat.reduceSub, Nat.reduceMul, Nat.reduceEqDiff, Nat.reduceLeDiff, Nat.reducePow, ↓reduceIte, reduceCtorEq]; omega))))))
              · rw [if_neg (show ¬ x = fxT by assumption), if_pos (show x = fyT by assumption)] at he
                exact round_end (k + 1, { p with fillY := true }) ⟨by simp only; omega, by simp only; rw [e1]; exact he⟩ (by simp only; omega) (by (refine xwk (π := [0, 1]) (by decide) rfl ?_ ?_; (first | exact trivial | simp -implicitDefEqProofs only [go_sem, Int.reduceEq, Int.reduceLT, Int.reduceLE, Nat.reduceAdd, Nat.reduceSub, Nat.reduceMul, Nat.reduceEqDiff, Nat.reduceLeDiff, Nat.reducePow, ↓reduceIte, reduceCtorEq]); repeat' (first | exact renE_n | ((with_reducible apply renE_c); exact rfl; focus (first | with_reducible exact rfl | (simp -implicitDefEqProofs only [go_sem, Int.reduceEq, Int.reduceLT, Int.reduceLE, Nat.reduceAdd, Nat.reduceSub, Nat.reduceMul, Nat.reduceEqDiff, Nat.reduceLeDiff, Nat.reducePow, ↓reduceIte, reduceCtorEq]; done) | (simp -implicitDefEqProofs only [go_sem, Int.reduceEq, Int.reduceLT, Int.reduceLE, Nat.reduceAdd, Nat.reduceSub, Nat.reduceMul, Nat.reduceEqDiff, Nat.reduceLeDiff, Nat.reducePow, ↓reduceIte, reduceCtorEq]; omega))))))
              · rw [if_neg (show ¬ x = fxT by assumption), if_neg (show ¬ x = fyT by assumption), if_pos (show x = exT by assumption)] at he
                exact round_end (k + 1, { p with expand := true }) ⟨by simp only; omega, by simp only; rw [e1]; exact he⟩ (by simp only; omega) (by (refine xwk (π := [0, 1]) (by decide) rfl ?_ ?_; (first | exact trivial | simp -implicitDefEqProofs only [go_sem, Int.reduceEq, Int.reduceLT, Int.reduceLE, Nat.reduceAdd, Nat.reduceSub, Nat.reduceMul, Nat.reduceEqDiff, Nat.reduceLeDiff, Nat.reducePow, ↓reduceIte, reduceCtorEq]); repeat' (first | exact renE_n | ((with_reducible apply renE_c); exact rfl; focus (first | with_reducible exact rfl | (simp -implicitDefEqProofs only [go_sem, Int.reduceEq, Int.reduceLT, Int.reduceLE, Nat.reduceAdd, Nat.reduceSub, Nat.reduceMul, Nat.reduceEqDiff, Nat.reduceLeDiff, Nat.reducePow, ↓reduceIte, reduceCtorEq]; done) | (simp -implicitDefEqProofs only [go_sem, Int.reduceEq, Int.reduceLT, Int.reduceLE, Nat.reduceAdd, Nat.reduceSub, Nat.reduceMul, Nat.reduceEqDiff, Nat.reduceLeDiff, Nat.reducePow, ↓reduceIte, reduceCtorEq]; omega))))))
              · rw [if_neg (show ¬ x = fxT by assumption), if_neg (show ¬ x = fyT by assumption), if_neg (show ¬ x = exT by assumption), if_pos rfl] at he
                rw [← he] at er
                rw [er]
                (refine xfinIs (by first | exact .inl rfl | exact .inr rfl) rfl (by repeat' (first | exact trivial | exact rfl | refine And.intro ?_ ?_)) rfl ?_ rfl; first | with_reducible exact rfl | (simp -implicitDefEqProofs only [go_sem, Int.reduceEq, Int.reduceLT, Int.reduceLE, Nat.reduceAdd, Nat.reduceSub, Nat.reduceMul, Nat.reduceEqDiff, Nat.reduceLeDiff, Nat.reducePow, ↓reduceIte, reduceCtorEq, zeroP] <;> (first | rfl | omega | exact decide_eq_decide.2 (by omega) | exact decide_eq_false (by omega) | exact decide_eq_true (by omega) | (symm; first | exact decide_eq_false (by omega) | exact decide_eq_true (by omega)) | (rw [Bool.eq_iff_iff]; simp only [Bool.not_eq_true', Bool.not_eq_false', Bool.and_eq_true, Bool.or_eq_true, decide_eq_true_eq, decide_eq_false_iff_not, reduceCtorEq, true_iff, iff_true, false_iff, iff_false]; omega))))
            · repeat' (first | ((with_reducible apply xsim); (first | ((with_reducible apply xlenM); exact rfl; exact rfl) | ((with_reducible apply xo); exact rfl) | ((with_reducible apply xst); exact rfl) | with_reducible apply xend | ((with_reducible apply xguardTS); exact rfl; exact rfl) | ((with_reducible apply xguardS); exact rfl; exact rfl) | ((with_reducible apply xalloc); exact rfl; simp only [backV, backVs, backVs_mapd, backId, backO, List.map_cons, List.map_nil, List.getElem?_nil, List.length_cons, List.length_nil, Nat.reduceAdd, Nat.reduceSub, List.cons_append, List.nil_append, List.append_nil]) | ((with_reducible apply xidxL); exact rfl; exact rfl; exact rfl; (first | exact hrow | exact hrow2); omega; first | exact rfl | simp only [hsz]) | ((with_reducible apply xidxM); exact rfl; exact rfl; exact rfl; omega; omega; exact rfl) | ((with_reducible apply xldA); exact rfl; exact rfl; exact rfl; (first | exact hrow | exact hrow2); exact rfl) | ((with_reducible apply xstA); exact rfl; exact rfl; exact rfl; exact rfl; (first | exact hrow | exact hrow2); exact rfl; exact rfl; exact rfl; exact rfl; (try simp only [List.set_cons_zero, List.set_cons_succ, List.length_map])) | ((with_reducible apply xcallIs); exact rfl; exact rfl; exact cr; exact rfl) | simp -implicitDefEqProofs only [go_sem, Int.reduceEq, Int.reduceLT, Int.reduceLE, Nat.reduceAdd, Nat.reduceSub, Nat.reduceMul, Nat.reduceEqDiff, Nat.reduceLeDiff, Nat.reducePow, ↓reduceIte, reduceCtorEq, List.length_map])) | ((with_reducible apply xaw); (first | ((with_reducible apply xstepS); refine AW.step tok rfl ?_) | ((with_reducible apply xstep); refine AW.region tok rfl ?_) | with_reducible (first | refine AW.seq ?_ | refine AW.block ?_ | refine AW.skip ?_ | refine AW.ret ?_ | refine AW.exit ?_) | ((with_reducible apply xcond); exact rfl) | ((with_reducible apply xdrawS (id := 4)); refine AW.drawS (id := 4) (.q 0 (.q 1 (.q 2 (.q 3 (.q 4 (.q 5 (.e 6 (.e 7 (.fin))))))))) tok (by kernel_rfl) rfl (by kernel_rfl) ?_) | ((with_reducible apply xdraw (id := 4)); refine AW.draw (id := 4) (.q 0 (.q 1 (.q 2 (.q 3 (.q 4 (.q 5 (.e 6 (.e 7 (.fin))))))))) tok (by kernel_rfl) rfl (by kernel_rfl) ?_))) | ((with_reducible apply xarun); (first | ((with_reducible apply xrun_q); exact rfl; exact rfl; exact rfl) | ((with_reducible apply xrun_c); exact rfl; exact rfl; exact rfl; exact rfl; exact rfl; exact rfl; exact cr; exact rfl) | ((with_reducible apply xrun_g); exact rfl; exact rfl; exact rfl; exact rfl; exact rfl; exact rfl) | ((with_reducible apply xrun_e); exact rfl) | with_reducible apply xrun_f)) | ((with_reducible apply xcallQ); exact rfl; exact rfl; exact cr; exact rfl) | with_reducible (first | refine xthen ?_ | refine xthen_r ?_ | refine xthen_e ?_ | refine xblock ?_ | refine xblock_r ?_ | refine xblock_e ?_ | refine xblock_n rfl ?_ | refine xround_r ?_ | refine xround_e ?_) | (with_reducible intro hc; (try simp only [decide_eq_true_eq, decide_eq_false_iff_not, Bool.not_true, Bool.not_false, Bool.not_eq_true', Bool.not_eq_false', ne_eq, not_true, reduceCtorEq, List.length_map] at hc); (try (exfalso; omega))) | with_reducible (first | exact trivial | refine And.intro ?_ ?_ | exact rfl | exact Nat.le_refl _) | exact Eq.refl true | exact (rfl : (_ : List Nat) = _) | exact Nat.le_of_ble_eq_true rfl | (refine inR_i64.mpr ?_; first | omega | (simp only [List.length_map, List.length_map]; omega)) | omega)
              · rw [if_pos (show x = fxT by assumption)] at he
                exact round_end (k + 1, { p with fillX := true }) ⟨by simp only; omega, by simp only; rw [e1]; exact he⟩ (by simp only; omega) (by (refine xwk (π := [0, 1]) (by decide) rfl ?_ ?_; (first | exact trivial | simp -implicitDefEqProofs only [go_sem, Int.reduceEq, Int.reduceLT, Int.reduceLE, Nat.reduceAdd, Nat.reduceSub, Nat.reduceMul, Nat.reduceEqDiff, Nat.reduceLeDiff, Nat.reducePow, ↓reduceIte, reduceCtorEq]); repeat' (first | exact renE_n | ((with_reducible apply renE_c); exact rfl; focus (first | with_reducible exact rfl | (simp -implicitDefEqProofs only [go_sem, Int.reduceEq, Int.reduceLT, Int.reduceLE, Nat.reduceAdd, Nat.reduceSub, Nat.reduceMul, Nat.reduceEqDiff, Nat.reduceLeDiff, Nat.reducePow, ↓reduceIte, reduceCtorEq]; done) | (simp -implicitDefEqProofs only [go_sem, Int.reduceEq, Int.reduceLT, Int.reduceLE, Nat.reduceAdd, Nat.reduceSub, Nat.reduceMul, Nat.reduceEqDiff, Nat.reduceLeDiff, Nat.reducePow, ↓reduceIte, reduceCtorEq]; omega))))))
              · rw [if_neg (show ¬ x = fxT by assumption), if_pos (show x = fyT by assumption)] at he
                exact round_end (k + 1, { p with fillY := true }) ⟨by simp only; omega, by simp only; rw [e1]; exact he⟩ (by simp only; omega) (by (refine xwk (π := [0, 1]) (by decide) rfl ?_ ?_; (first | exact trivial | simp -implicitDefEqProofs only [go_sem, Int.reduceEq, Int.reduceLT, Int.reduceLE, Nat.reduceAdd, Nat.reduceSub, Nat.reduceMul, Nat.reduceEqDiff, Nat.reduceLeDiff, Nat.reducePow, ↓reduceIte, reduceCtorEq]); repeat' (first | exact renE_n | ((with_reducible apply renE_c); exact rfl; focus (first | with_reducible exact rfl | (simp -implicitDefEqProofs only [go_sem, Int.reduceEq, Int.reduceLT, Int.reduceLE, Nat.reduceAdd, Nat.reduceSub, Nat.reduceMul, Nat.reduceEqDiff, Nat.reduceLeDiff, Nat.reducePow, ↓reduceIte, reduceCtorEq]; done) | (simp -implicitDefEqProofs only [go_sem, Int.reduceEq, Int.reduceLT, Int.reduceLE, Nat.reduceAdd, Nat.reduceSub, Nat.reduceMul, Nat.reduceEqDiff, Nat.reduceLeDiff, Nat.reducePow, ↓reduceIte, reduceCtorEq]; omega))))))
              · rw [if_neg (show ¬ x = fxT by assumption), if_neg (show ¬ x = fyT by assumption), if_pos (show x = exT by assumption)] at he
                exact round_end (k + 1, { p with expand := true }) ⟨by simp only; omega, by simp only; rw [e1]; exact he⟩ (by simp only; omega) (by (refine xwk (π := [0, 1]) (by decide) rfl ?_ ?_; (first | exact trivial | simp -implicitDefEqProofs only [go_sem, Int.reduceEq, Int.reduceLT, Int.reduceLE, Nat.reduceAdd, Nat.reduceSub, Nat.reduceMul, Nat.reduceEqDiff, Nat.reduceLeDiff, Nat.reducePow, ↓reduceIte, reduceCtorEq]); repeat' (first | exact renE_n | ((with_reducible apply renE_c); exact rfl; focus (first | with_reducible exact rfl | (simp -implicitDefEqProofs only [go_sem, Int.reduceEq, Int.reduceLT, Int.reduceLE, Nat.reduceAdd, Nat.reduceSub, Nat.reduceMul, Nat.reduceEqDiff, Nat.reduceLeDiff, Nat.reducePow, ↓reduceIte, reduceCtorEq]; done) | (simp -implicitDefEqProofs only [go_sem, Int.reduceEq, Int.reduceLT, Int.reduceLE, Nat.reduceAdd, Nat.reduceSub, Nat.reduceMul, Nat.reduceEqDiff, Nat.reduceLeDiff, Nat.reducePow, ↓reduceIte, reduceCtorEq]; omega))))))
              · rw [if_neg (show ¬ x = fxT by assumption), if_neg (show ¬ x = fyT by assumption), if_neg (show ¬ x = exT by assumption), if_neg (show ¬ true = false by simp), if_pos (show x = anT by assumption)] at he
                exact round_end (k + 2, { p with anchor := v }) ⟨by simp only; omega, he⟩ (by simp only; omega) (by (refine xwk (π := [0, 1]) (by decide) rfl ?_ ?_; (first | exact trivial | simp -implicitDefEqProofs only [go_sem, Int.reduceEq, Int.reduceLT, Int.reduceLE, Nat.reduceAdd, Nat.reduceSub, Nat.reduceMul, Nat.reduceEqDiff, Nat.reduceLeDiff, Nat.reducePow, ↓reduceIte, reduceCtorEq]); repeat' (first | exact renE_n | ((with_reducible apply renE_c); exact rfl; focus (first | with_reducible exact rfl | (simp -implicitDefEqProofs only [go_sem, Int.reduceEq, Int.reduceLT, Int.reduceLE, Nat.reduceAdd, Nat.reduceSub, Nat.reduceMul, Nat.reduceEqDiff, Nat.reduceLeDiff, Nat.reducePow, ↓reduceIte, reduceCtorEq]; done) | (simp -implicitDefEqProofs only [go_sem, Int.reduceEq, Int.reduceLT, Int.reduceLE, Nat.reduceAdd, Nat.reduceSub, Nat.reduceMul, Nat.reduceEqDiff, Nat.reduceLeDiff, Nat.reducePow, ↓reduceIte, reduceCtorEq]; omega))))))
              · rw [if_neg (show ¬ x = fxT by assumption), if_neg (show ¬ x = fyT by assumption), if_neg (show ¬ x = exT by assumption), if_neg (show ¬ true = false by simp), if_neg (show ¬ x = anT by assumption), if_pos (show x = pxT by assumption)] at he
                exact round_end (k + 2, { p with padX := v }) ⟨by simp only; omega, he⟩ (by simp only; omega) (by (refine xwk (π := [0, 1]) (by decide) rfl ?_ ?_; (first | exact trivial | simp -implicitDefEqProofs only [go_sem, Int.reduceEq, Int.reduceLT, Int.reduceLE, Nat.reduceAdd, Nat.reduceSub, Nat.reduceMul, Nat.reduceEqDiff, Nat.reduceLeDiff, Nat.reducePow, ↓reduceIte, reduceCtorEq]); repeat' (first | exact renE_n | ((with_reducible apply renE_c); exact rfl; focus (first | with_reducible exact rfl | (simp -implicitDefEqProofs only [go_sem, Int.reduceEq, Int.reduceLT, Int.reduceLE, Nat.reduceAdd, Nat.reduceSub, Nat.reduceMul, Nat.reduceEqDiff, Nat.reduceLeDiff, Nat.reducePow, ↓reduceIte, reduceCtorEq]; done) | (simp -implicitDefEqProofs only [go_sem, Int.reduceEq, Int.reduceLT, Int.reduceLE, Nat.reduceAdd, Nat.reduceSub, Nat.reduceMul, Nat.reduceEqDiff, Nat.reduceLeDiff, Nat.reducePow, ↓reduceIte, reduceCtorEq]; omega))))))
              · rw [if_neg (show ¬ x = fxT by assumption), if_neg (show ¬ x = fyT by assumption), if_neg (show ¬ x = exT by assumption), if_neg (show ¬ true = false by simp), if_neg (show ¬ x = anT by assumption), if_neg (show ¬ x = pxT by assumption), if_pos (show x = pyT by assumption)] at he
                exact round_end (k + 2, { p with padY := v }) ⟨by simp only; omega, he⟩ (by simp only; omega) (by (refine xwk (π := [0, 1]) (by decide) rfl ?_ ?_; (first | exact trivial | simp -implicitDefEqProofs only [go_sem, Int.reduceEq, Int.reduceLT, Int.reduceLE, Nat.reduceAdd, Nat.reduceSub, Nat.reduceMul, Nat.reduceEqDiff, Nat.reduceLeDiff, Nat.reducePow, ↓reduceIte, reduceCtorEq]); repeat' (first | exact renE_n | ((with_reducible apply renE_c); exact rfl; focus (first | with_reducible exact rfl | (simp -implicitDefEqProofs only [go_sem, Int.reduceEq, Int.reduceLT, Int.reduceLE, Nat.reduceAdd, Nat.reduceSub, Nat.reduceMul, Nat.reduceEqDiff, Nat.reduceLeDiff, Nat.reducePow, ↓reduceIte, reduceCtorEq]; done) | (simp -implicitDefEqProofs only [go_sem, Int.reduceEq, Int.reduceLT, Int.reduceLE, Nat.reduceAdd, Nat.reduceSub, Nat.reduceMul, Nat.reduceEqDiff, Nat.reduceLeDiff, Nat.reducePow, ↓reduceIte, reduceCtorEq]; omega))))))
              · rw [if_neg (show ¬ x = fxT by assumption), if_neg (show ¬ x = fyT by assumption), if_neg (show ¬ x = exT by assumption), if_neg (show ¬ true = false by simp), if_neg (show ¬ x = anT by assumption), if_neg (show ¬ x = pxT by assumption), if_neg (show ¬ x = pyT by assumption)] at he
                rw [← he] at er
                rw [er]
                (refine xfinIs (by first | exact .inl rfl | exact .inr rfl) rfl (by repeat' (first | exact trivial | exact rfl | refine And.intro ?_ ?_)) rfl ?_ rfl; first | with_reducible exact rfl | (simp -implicitDefEqProofs only [go_sem, Int.reduceEq, Int.reduceLT, Int.reduceLE, Nat.reduceAdd, Nat.reduceSub, Nat.reduceMul, Nat.reduceEqDiff, Nat.reduceLeDiff, Nat.reducePow, ↓reduceIte, reduceCtorEq, zeroP] <;> (first | rfl | omega | exact decide_eq_decide.2 (by omega) | exact decide_eq_false (by omega) | exact decide_eq_true (by omega) | (symm; first | exact decide_eq_false (by omega) | exact decide_eq_true (by omega)) | (rw [Bool.eq_iff_iff]; simp only [Bool.not_eq_true', Bool.not_eq_false', Bool.and_eq_true, Bool.or_eq_true, decide_eq_true_eq, decide_eq_false_iff_not, reduceCtorEq, true_iff, iff_true, false_iff, iff_false]; omega))))
          · have e0 : ws.drop (k + 1) = [] := List.drop_eq_nil_of_le (by omega)
            rw [e0, iGo_step1] at he
            repeat' (first | ((with_reducible apply xsim); (first | ((with_reducible apply xlenM); exact rfl; exact rfl) | ((with_reducible apply xo); exact rfl) | ((with_reducible apply xst); exact rfl) | with_reducible apply xend | ((with_reducible apply xguardTS); exact rfl; exact rfl) | ((with_reducible apply xguardS); exact rfl; exact rfl) | ((with_reducible apply xalloc); exact rfl; simp only [backV, backVs, backVs_mapd, backId, backO, List.map_cons, List.map_nil, List.getElem?_nil, List.length_cons, List.length_nil, Nat.reduceAdd, Nat.reduceSub, List.cons_append, List.nil_append, List.append_nil]) | ((with_reducible apply xidxL); exact rfl; exact rfl; exact rfl; (first | exact hrow); omega; first | exact rfl | simp only [hsz]) | ((with_reducible apply xidxM); exact rfl; exact rfl; exact rfl; omega; omega; exact rfl) | ((with_reducible apply xldA); exact rfl; exact rfl; exact rfl; (first | exact hrow); exact rfl) | ((with_reducible apply xstA); exact rfl; exact rfl; exact rfl; exact rfl; (first | exact hrow); exact rfl; exact rfl; exact rfl; exact rfl; (try simp only [List.set_cons_zero, List.set_cons_succ, List.length_map])) | simp -implicitDefEqProofs only [go_sem, Int.reduceEq, Int.reduceLT, Int.reduceLE, Nat.reduceAdd, Nat.reduceSub, Nat.reduceMul, Nat.reduceEqDiff, Nat.reduceLeDiff, Nat.reducePow, ↓reduceIte, reduceCtorEq, List.length_map])) | ((with_reducible apply xaw); (first | ((with_reducible apply xstepS); refine AW.step tok rfl ?_) | ((with_reducible apply xstep); refine AW.region tok rfl ?_) | with_reducible (first | refine AW.seq ?_ | refine AW.block ?_ | refine AW.skip ?_ | refine AW.ret ?_ | refine AW.exit ?_) | ((with_reducible apply xcond); exact rfl) | ((with_reducible apply xdrawS (id := 4)); refine AW.drawS (id := 4) (.q 0 (.q 1 (.q 2 (.q 3 (.q 4 (.q 5 (.e 6 (.e 7 (.fin))))))))) tok (by kernel_rfl) rfl (by kernel_rfl) ?_) | ((with_reducible apply xdraw (id := 4)); refine AW.draw (id := 4) (.q 0 (.q 1 (.q 2 (.q 3 (.q 4 (.q 5 (.e 6 (.e 7 (.fin))))))))) tok (by kernel_rfl) rfl (by kernel_rfl) ?_))) | ((with_reducible apply xarun); (first | ((with_reducible apply xrun_q); exact rfl; exact rfl; exact rfl) | ((with_reducible apply xrun_e); exact rfl) | with_reducible apply xrun_f)) | with_reducible (first | refine xthen ?_ | refine xthen_r ?_ | refine xthen_e ?_ | refine xblock ?_ | refine xblock_r ?_ | refine xblock_e ?_ | refine xblock_n rfl ?_ | refine xround_r ?_ | refine xround_e ?_) | (with_reducible intro hc; (try simp only [decide_eq_true_eq, decide_eq_false_iff_not, Bool.not_true, Bool.not_false, Bool.not_eq_true', Bool.not_eq_false', ne_eq, not_true, reduceCtorEq, List.length_map] at hc); (try (exfalso; omega))) | with_reducible (first | exact trivial | refine And.intro ?_ ?_ | exact rfl | exact Nat.le_refl _) | exact Eq.refl true | exact (rfl : (_ : List Nat) = _) | exact Nat.le_of_ble_eq_true rfl | (refine inR_i64.mpr ?_; first | omega | (simp only [List.length_map, List.length_map]; omega)) | omega)
            · rw [if_pos (show x = fxT by assumption)] at he
              exact round_end (k + 1, { p with fillX := true }) ⟨by simp only; omega, by simp only; rw [e0]; exact he⟩ (by simp only; omega) (by (refine xwk (π := [0, 1]) (by decide) rfl ?_ ?_; (first | exact trivial | simp -implicitDefEqProofs only [go_sem, Int.reduceEq, Int.reduceLT, Int.reduceLE, Nat.reduceAdd, Nat.reduceSub, Nat.reduceMul, Nat.reduceEqDiff, Nat.reduceLeDiff, Nat.reducePow, ↓reduceIte, reduceCtorEq]); repeat' (first | exact renE_n | ((with_reducible apply renE_c); exact rfl; focus (first | with_reducible exact rfl | (simp -implicitDefEqProofs only [go_sem, Int.reduceEq, Int.reduceLT, Int.reduceLE, Nat.reduceAdd, Nat.reduceSub, Nat.reduceMul, Nat.reduceEqDiff, Nat.reduceLeDiff, Nat.reducePow, ↓reduceIte, reduceCtorEq]; done) | (simp -implicitDefEqProofs only [go_sem, Int.reduceEq, Int.reduceLT, Int.reduceLE, Nat.reduceAdd, Nat.reduceSub, Nat.reduceMul, Nat.reduceEqDiff, Nat.reduceLeDiff, Nat.reducePow, ↓reduceIte, reduceCtorEq]; omega))))))
            · rw [if_neg (show ¬ x = fxT by assumption), if_pos (show x = fyT by assumption)] at he
              exact round_end (k + 1, { p with fillY := true }) ⟨by simp only; omega, by simp only; rw [e0]; exact he⟩ (by simp only; omega) (by (refine xwk (π := [0, 1]) (by decide) rfl ?_ ?_; (first | exact trivial | simp -implicitDefEqProofs only [go_sem, Int.reduceEq, Int.reduceLT, Int.reduceLE, Nat.reduceAdd, Nat.reduceSub, Nat.reduceMul, Nat.reduceEqDiff, Nat.reduceLeDiff, Nat.reducePow, ↓reduceIte, reduceCtorEq]); repeat' (first | exact renE_n | ((with_reducible apply renE_c); exact rfl; focus (first | with_reducible exact rfl | (simp -implicitDefEqProofs only [go_sem, Int.reduceEq, Int.reduceLT, Int.reduceLE, Nat.reduceAdd, Nat.reduceSub, Nat.reduceMul, Nat.reduceEqDiff, Nat.reduceLeDiff, Nat.reducePow, ↓reduceIte, reduceCtorEq]; done) | (simp -implicitDefEqProofs only [go_sem, Int.reduceEq, Int.reduceLT, Int.reduceLE, Nat.reduceAdd, Nat.reduceSub, Nat.reduceMul, Nat.reduceEqDiff, Nat.reduceLeDiff, Nat.reducePow, ↓reduceIte, reduceCtorEq]; omega))))))
            · rw [if_neg (show ¬ x = fxT by assumption), if_neg (show ¬ x = fyT by assumption), if_pos (show x = exT by assumption)] at he
              exact round_end (k + 1, { p with expand := true }) ⟨by simp only; omega, by simp only; rw [e0]; exact he⟩ (by simp only; omega) (by (refine xwk (π := [0, 1]) (by decide) rfl ?_ ?_; (first | exact trivial | simp -implicitDefEqProofs only [go_sem, Int.reduceEq, Int.reduceLT, Int.reduceLE, Nat.reduceAdd, Nat.reduceSub, Nat.reduceMul, Nat.reduceEqDiff, Nat.reduceLeDiff, Nat.reducePow, ↓reduceIte, reduceCtorEq]); repeat' (first | exact renE_n | ((with_reducible apply renE_c); exact rfl; focus (first | with_reducible exact rfl | (simp -implicitDefEqProofs only [go_sem, Int.reduceEq, Int.reduceLT, Int.reduceLE, Nat.reduceAdd, Nat.reduceSub, Nat.reduceMul, Nat.reduceEqDiff, Nat.reduceLeDiff, Nat.reducePow, ↓reduceIte, reduceCtorEq]; done) | (simp -implicitDefEqProofs only [go_sem, Int.reduceEq, Int.reduceLT, Int.reduceLE, Nat.reduceAdd, Nat.reduceSub, Nat.reduceMul, Nat.reduceEqDiff, Nat.reduceLeDiff, Nat.reducePow, ↓reduceIte, reduceCtorEq]; omega))))))
            · rw [if_neg (show ¬ x = fxT by assumption), if_neg (show ¬ x = fyT by assumption), if_neg (show ¬ x = exT by assumption)] at he
              rw [← he] at er
              rw [er]
              (refine xfinIs (by first | exact .inl rfl | exact .inr rfl) rfl (by repeat' (first | exact trivial | exact rfl | refine And.intro ?_ ?_)) rfl ?_ rfl; first | with_reducible exact rfl | (simp -implicitDefEqProofs only [go_sem, Int.reduceEq, Int.reduceLT, Int.reduceLE, Nat.reduceAdd, Nat.reduceSub, Nat.reduceMul, Nat.reduceEqDiff, Nat.reduceLeDiff, Nat.reducePow, ↓reduceIte, reduceCtorEq, zeroP] <;> (first | rfl | omega | exact decide_eq_decide.2 (by omega) | exact decide_eq_false (by omega) | exact decide_eq_true (by omega) | (symm; first | exact decide_eq_false (by omega) | exact decide_eq_true (by omega)) | (rw [Bool.eq_iff_iff]; simp only [Bool.not_eq_true', Bool.not_eq_false', Bool.and_eq_true, Bool.or_eq_true, decide_eq_true_eq, decide_eq_false_iff_not, reduceCtorEq, true_iff, iff_true, false_iff, iff_false]; omega))))
        · rw [List.drop_eq_nil_of_le (by omega), iGo] at he
          rw [← he] at er
          have cv := c_ValidPack p
          cases hv : validPack p
          · rw [hv] at cv
            have e1 : iRes s = (zeroP, false) := by rw [er]; simp [hv]
            rw [e1]
            repeat' (first | ((with_reducible apply xsim); (first | ((with_reducible apply xlenM); exact rfl; exact rfl) | ((with_reducible apply xo); exact rfl) | ((with_reducible apply xst); exact rfl) | with_reducible apply xend | ((with_reducible apply xguardTS); exact rfl; exact rfl) | ((with_reducible apply xguardS); exact rfl; exact rfl) | ((with_reducible apply xalloc); exact rfl; simp only [backV, backVs, backVs_mapd, backId, backO, List.map_cons, List.map_nil, List.getElem?_nil, List.length_cons, List.length_nil, Nat.reduceAdd, Nat.reduceSub, List.cons_append, List.nil_append, List.append_nil]) | ((with_reducible apply xidxL); exact rfl; exact rfl; exact rfl; exact rfl; omega; first | exact rfl | simp only [hsz]) | ((with_reducible apply xidxM); exact rfl; exact rfl; exact rfl; omega; omega; exact rfl) | ((with_reducible apply xldA); exact rfl; exact rfl; exact rfl; exact rfl; exact rfl) | ((with_reducible apply xstA); exact rfl; exact rfl; exact rfl; exact rfl; exact rfl; exact rfl; exact rfl; exact rfl; exact rfl; (try simp only [List.set_cons_zero, List.set_cons_succ, List.length_map])) | ((with_reducible apply xcallIs); exact rfl; exact rfl; exact cv; exact rfl) | simp -implicitDefEqProofs only [go_sem, Int.reduceEq, Int.reduceLT, Int.reduceLE, Nat.reduceAdd, Nat.reduceSub, Nat.reduceMul, Nat.reduceEqDiff, Nat.reduceLeDiff, Nat.reducePow, ↓reduceIte, reduceCtorEq, List.length_map])) | ((with_reducible apply xaw); (first | ((with_reducible apply xstepS); refine AW.step tok rfl ?_) | ((with_reducible apply xstep); refine AW.region tok rfl ?_) | with_reducible (first | refine AW.seq ?_ | refine AW.block ?_ | refine AW.skip ?_ | refine AW.ret ?_ | refine AW.exit ?_) | ((with_reducible apply xcond); exact rfl) | ((with_reducible apply xdrawS (id := 4)); refine AW.drawS (id := 4) (.q 0 (.q 1 (.q 2 (.q 3 (.q 4 (.q 5 (.e 6 (.e 7 (.fin))))))))) tok (by kernel_rfl) rfl (by kernel_rfl) ?_) | ((with_reducible apply xdraw (id := 4)); refine AW.draw (id := 4) (.q 0 (.q 1 (.q 2 (.q 3 (.q 4 (.q 5 (.e 6 (.e 7 (.fin))))))))) tok (by kernel_rfl) rfl (by kernel_rfl) ?_))) | ((with_reducible apply xarun); (first | ((with_reducible apply xrun_q); exact rfl; exact rfl; exact rfl) | ((with_reducible apply xrun_c); exact rfl; exact rfl; exact rfl; exact rfl; exact rfl; exact rfl; exact cv; exact rfl) | ((with_reducible apply xrun_g); exact rfl; exact rfl; exact rfl; exact rfl; exact rfl; exact rfl) | ((with_reducible apply xrun_e); exact rfl) | with_reducible apply xrun_f)) | ((with_reducible apply xcallQ); exact rfl; exact rfl; exact cv; exact rfl) | with_reducible (first | refine xthen ?_ | refine xthen_r ?_ | refine xthen_e ?_ | refine xblock ?_ | refine xblock_r ?_ | refine xblock_e ?_ | refine xblock_n rfl ?_ | refine xround_r ?_ | refine xround_e ?_) | (with_reducible intro hc; (try simp only [decide_eq_true_eq, decide_eq_false_iff_not, Bool.not_true, Bool.not_false, Bool.not_eq_true', Bool.not_eq_false', ne_eq, not_true, reduceCtorEq, List.length_map] at hc); (try (exfalso; omega))) | with_reducible (first | exact trivial | refine And.intro ?_ ?_ | exact rfl | exact Nat.le_refl _) | exact Eq.refl true | exact (rfl : (_ : List Nat) = _) | exact Nat.le_of_ble_eq_true rfl | (refine inR_i64.mpr ?_; first | omega | (simp only [List.length_map, List.length_map]; omega)) | omega)
            all_goals (refine xfinIs (by first | exact .inl rfl | exact .inr rfl) rfl (by repeat' (first | exact trivial | exact rfl | refine And.intro ?_ ?_)) rfl ?_ rfl; first | with_reducible exact rfl | (simp -implicitDefEqProofs only [go_sem, Int.reduceEq, Int.reduceLT, Int.reduceLE, Nat.reduceAdd, Nat.reduceSub, Nat.reduceMul, Nat.reduceEqDiff, Nat.reduceLeDiff, Nat.reducePow, ↓reduceIte, reduceCtorEq, zeroP] <;> (first | rfl | omega | exact decide_eq_decide.2 (by omega) | exact decide_eq_false (by omega) | exact decide_eq_true (by omega) | (symm; first | exact decide_eq_false (by omega) | exact decide_eq_true (by omega)) | (rw [Bool.eq_iff_iff]; simp only [Bool.not_eq_true', Bool.not_eq_false', Bool.and_eq_true, Bool.or_eq_true, decide_eq_true_eq, decide_eq_false_iff_not, reduceCtorEq, true_iff, iff_true, false_iff, iff_false]; omega))))
          · rw [hv] at cv
            have ct := c_PTextI p hv
            by_cases ht : ptext p = s
            · have e1 : iRes s = (p, true) := by rw [er]; simp [hv, ht]
              rw [e1]
              repeat' (first | ((with_reducible apply xsim); (first | ((with_reducible apply xlenM); exact rfl; exact rfl) | ((with_reducible apply xo); exact rfl) | ((with_reducible apply xst); exact rfl) | with_reducible apply xend | ((with_reducible apply xguardTS); exact rfl; exact rfl) | ((with_reducible apply xguardS); exact rfl; exact rfl) | ((with_reducible apply xalloc); exact rfl; simp only [backV, backVs, backVs_mapd, backId, backO, List.map_cons, List.map_nil, List.getElem?_nil, List.length_cons, List.length_nil, Nat.reduceAdd, Nat.reduceSub, List.cons_append, List.nil_append, List.append_nil]) | ((with_reducible apply xidxL); exact rfl; exact rfl; exact rfl; exact rfl; omega; first | exact rfl | simp only [hsz]) | ((with_reducible apply xidxM); exact rfl; exact rfl; exact rfl; omega; omega; exact rfl) | ((with_reducible apply xldA); exact rfl; exact rfl; exact rfl; exact rfl; exact rfl) | ((with_reducible apply xstA); exact rfl; exact rfl; exact rfl; exact rfl; exact rfl; exact rfl; exact rfl; exact rfl; exact rfl; (try simp only [List.set_cons_zero, List.set_cons_succ, List.length_map])) | ((with_reducible apply xcallIs); exact rfl; exact rfl; (first | exact cv | exact ct); exact rfl) | simp -implicitDefEqProofs only [go_sem, Int.reduceEq, Int.reduceLT, Int.reduceLE, Nat.reduceAdd, Nat.reduceSub, Nat.reduceMul, Nat.reduceEqDiff, Nat.reduceLeDiff, Nat.reducePow, ↓reduceIte, reduceCtorEq, List.length_map])) | ((with_reducible apply xaw); (first | ((with_reducible apply xstepS); refine AW.step tok rfl ?_) | ((with_reducible apply xstep); refine AW.region tok rfl ?_) | with_reducible (first | refine AW.seq ?_ | refine AW.block ?_ | refine AW.skip ?_ | refine AW.ret ?_ | refine AW.exit ?_) | ((with_reducible apply xcond); exact rfl) | ((with_reducible apply xdrawS (id := 4)); refine AW.drawS (id := 4) (.q 0 (.q 1 (.q 2 (.q 3 (.q 4 (.q 5 (.e 6 (.e 7 (.fin))))))))) tok (by kernel_rfl) rfl (by kernel_rfl) ?_) | ((with_reducible apply xdraw (id := 4)); refine AW.draw (id := 4) (.q 0 (.q 1 (.q 2 (.q 3 (.q 4 (.q 5 (.e 6 (.e 7 (.fin))))))))) tok (by kernel_rfl) rfl (by kernel_rfl) ?_))) | ((with_reducible apply xarun); (first | ((with_reducible apply xrun_q); exact rfl; exact rfl; exact rfl) | ((with_reducible apply xrun_c); exact rfl; exact rfl; exact rfl; exact rfl; exact rfl; exact rfl; (first | exact cv | exact ct); exact rfl) | ((with_reducible apply xrun_g); exact rfl; exact rfl; exact rfl; exact rfl; exact rfl; exact rfl) | ((with_reducible apply xrun_e); exact rfl) | with_reducible apply xrun_f)) | ((with_reducible apply xcallQ); exact rfl; exact rfl; (first | exact cv | exact ct); exact rfl) | with_reducible (first | refine xthen ?_ | refine xthen_r ?_ | refine xthen_e ?_ | refine xblock ?_ | refine xblock_r ?_ | refine xblock_e ?_ | refine xblock_n rfl ?_ | refine xround_r ?_ | refine xround_e ?_) | (with_reducible intro hc; (try simp only [decide_eq_true_eq, decide_eq_false_iff_not, Bool.not_true, Bool.not_false, Bool.not_eq_true', Bool.not_eq_false', ne_eq, not_true, reduceCtorEq, List.length_map] at hc); (try (exfalso; omega))) | with_reducible (first | exact trivial | refine And.intro ?_ ?_ | exact rfl | exact Nat.le_refl _) | exact Eq.refl true | exact (rfl : (_ : List Nat) = _) | exact Nat.le_of_ble_eq_true rfl | (refine inR_i64.mpr ?_; first | omega | (simp only [List.length_map, List.length_map]; omega)) | omega)
              all_goals first | contradiction | (refine xfinIs (by first | exact .inl rfl | exact .inr rfl) rfl (by repeat' (first | exact trivial | exact rfl | refine And.intro ?_ ?_)) rfl ?_ rfl; first | with_reducible exact rfl | (simp -implicitDefEqProofs only [go_sem, Int.reduceEq, Int.reduceLT, Int.reduceLE, Nat.reduceAdd, Nat.reduceSub, Nat.reduceMul, Nat.reduceEqDiff, Nat.reduceLeDiff, Nat.reducePow, ↓reduceIte, reduceCtorEq] <;> (first | rfl | omega | exact decide_eq_decide.2 (by omega) | exact decide_eq_false (by omega) | exact decide_eq_true (by omega) | (symm; first | exact decide_eq_false (by omega) | exact decide_eq_true (by omega)) | (rw [Bool.eq_iff_iff]; simp only [Bool.not_eq_true', Bool.not_eq_false', Bool.and_eq_true, Bool.or_eq_true, decide_eq_true_eq, decide_eq_false_iff_not, reduceCtorEq, true_iff, iff_true, false_iff, iff_false]; omega))))
            · have e1 : iRes s = (zeroP, false) := by rw [er]; simp [hv, ht]
              rw [e1]
              repeat' (first | ((with_reducible apply xsim); (first | ((with_reducible apply xlenM); exact rfl; exact rfl) | ((with_reducible apply xo); exact rfl) | ((with_reducible apply xst); exact rfl) | with_reducible apply xend | ((with_reducible apply xguardTS); exact rfl; exact rfl) | ((with_reducible apply xguardS); exact rfl; exact rfl) | ((with_reducible apply xalloc); exact rfl; simp only [backV, backVs, backVs_mapd, backId, backO, List.map_cons, List.map_nil, List.getElem?_nil, List.length_cons, List.length_nil, Nat.reduceAdd, Nat.reduceSub, List.cons_append, List.nil_append, List.append_nil]) | ((with_reducible apply xidxL); exact rfl; exact rfl; exact rfl; exact rfl; omega; first | exact rfl | simp only [hsz]) | ((with_reducible apply xidxM); exact rfl; exact rfl; exact rfl; omega; omega; exact rfl) | ((with_reducible apply xldA); exact rfl; exact rfl; exact rfl; exact rfl; exact rfl) | ((with_reducible apply xstA); exact rfl; exact rfl; exact rfl; exact rfl; exact rfl; exact rfl; exact rfl; exact rfl; exact rfl; (try simp only [List.set_cons_zero, List.set_cons_succ, List.length_map])) | ((with_reducible apply xcallIs); exact rfl; exact rfl; (first | exact cv | exact ct); exact rfl) | simp -implicitDefEqProofs only [go_sem, Int.reduceEq, Int.reduceLT, Int.reduceLE, Nat.reduceAdd, Nat.reduceSub, Nat.reduceMul, Nat.reduceEqDiff, Nat.reduceLeDiff, Nat.reducePow, ↓reduceIte, reduceCtorEq, List.length_map])) | ((with_reducible apply xaw); (first | ((with_reducible apply xstepS); refine AW.step tok rfl ?_) | ((with_reducible apply xstep); refine AW.region tok rfl ?_) | with_reducible (first | refine AW.seq ?_ | refine AW.block ?_ | refine AW.skip ?_ | refine AW.ret ?_ | refine AW.exit ?_) | ((with_reducible apply xcond); exact rfl) | ((with_reducible apply xdrawS (id := 4)); refine AW.drawS (id := 4) (.q 0 (.q 1 (.q 2 (.q 3 (.q 4 (.q 5 (.e 6 (.e 7 (.fin))))))))) tok (by kernel_rfl) rfl (by kernel_rfl) ?_) | ((with_reducible apply xdraw (id := 4)); refine AW.draw (id := 4) (.q 0 (.q 1 (.q 2 (.q 3 (.q 4 (.q 5 (.e 6 (.e 7 (.fin))))))))) tok (by kernel_rfl) rfl (by kernel_rfl) ?_))) | ((with_reducible apply xarun); (first | ((with_reducible apply xrun_q); exact rfl; exact rfl; exact rfl) | ((with_reducible apply xrun_c); exact rfl; exact rfl; exact rfl; exact rfl; exact rfl; exact rfl; (first | exact cv | exact ct); exact rfl) | ((with_reducible apply xrun_g); exact rfl; exact rfl; exact rfl; exact rfl; exact rfl; exact rfl) | ((with_reducible apply xrun_e); exact rfl) | with_reducible apply xrun_f)) | ((with_reducible apply xcallQ); exact rfl; exact rfl; (first | exact cv | exact ct); exact rfl) | with_reducible (first | refine xthen ?_ | refine xthen_r ?_ | refine xthen_e ?_ | refine xblock ?_ | refine xblock_r ?_ | refine xblock_e ?_ | refine xblock_n rfl ?_ | refine xround_r ?_ | refine xround_e ?_) | (with_reducible intro hc; (try simp only [decide_eq_true_eq, decide_eq_false_iff_not, Bool.not_true, Bool.not_false, Bool.not_eq_true', Bool.not_eq_false', ne_eq, not_true, reduceCtorEq, List.length_map] at hc); (try (exfalso; omega))) | with_reducible (first | exact trivial | refine And.intro ?_ ?_ | exact rfl | exact Nat.le_refl _) | exact Eq.refl true | exact (rfl : (_ : List Nat) = _) | exact Nat.le_of_ble_eq_true rfl | (refine inR_i64.mpr ?_; first | omega | (simp only [List.length_map, List.length_map]; omega)) | omega)
              all_goals first | contradiction | (exfalso; apply ht; exact Decidable.not_not.1 (by assumption)) | (refine xfinIs (by first | exact .inl rfl | exact .inr rfl) rfl (by repeat' (first | exact trivial | exact rfl | refine And.intro ?_ ?_)) rfl ?_ rfl; first | with_reducible exact rfl | (simp -implicitDefEqProofs only [go_sem, Int.reduceEq, Int.reduceLT, Int.reduceLE, Nat.reduceAdd, Nat.reduceSub, Nat.reduceMul, Nat.reduceEqDiff, Nat.reduceLeDiff, Nat.reducePow, ↓reduceIte, reduceCtorEq, zeroP] <;> (first | rfl | omega | exact decide_eq_decide.2 (by omega) | exact decide_eq_false (by omega) | exact decide_eq_true (by omega) | (symm; first | exact decide_eq_false (by omega) | exact decide_eq_true (by omega)) | (rw [Bool.eq_iff_iff]; simp only [Bool.not_eq_true', Bool.not_eq_false', Bool.and_eq_true, Bool.or_eq_true, decide_eq_true_eq, decide_eq_false_iff_not, reduceCtorEq, true_iff, iff_true, false_iff, iff_false]; omega))))
    · rw [if_neg hok] at er
      rw [er]
      refine ACon.introW tok (nt := 113) Tryz.func34 rfl rfl rfl (by kernel_rfl) rfl ?_
      repeat' (first | ((with_reducible apply xsim); (first | ((with_reducible apply xlenM); exact rfl; exact rfl) | ((with_reducible apply xo); exact rfl) | ((with_reducible apply xst); exact rfl) | with_reducible apply xend | ((with_reducible apply xguardTS); exact rfl; exact rfl) | ((with_reducible apply xguardS); exact rfl; exact rfl) | ((with_reducible apply xalloc); exact rfl; simp only [backV, backVs, backVs_mapd, backId, backO, List.map_cons, List.map_nil, List.getElem?_nil, List.length_cons, List.length_nil, Nat.reduceAdd, Nat.reduceSub, List.cons_append, List.nil_append, List.append_nil]) | ((with_reducible apply xidxL); exact rfl; exact rfl; exact rfl; (first | exact r0 | exact r1 | exact r2); omega; first | exact rfl | simp only [hsz]) | ((with_reducible apply xidxM); exact rfl; exact rfl; exact rfl; omega; omega; exact rfl) | ((with_reducible apply xldA); exact rfl; exact rfl; exact rfl; (first | exact r0 | exact r1 | exact r2); exact rfl) | ((with_reducible apply xstA); exact rfl; exact rfl; exact rfl; exact rfl; (first | exact r0 | exact r1 | exact r2); exact rfl; exact rfl; exact rfl; exact rfl; (try simp only [List.set_cons_zero, List.set_cons_succ, List.length_map])) | ((with_reducible apply xcallIs); exact rfl; exact rfl; (first | exact c1 | exact c_sidesI | exact ci | exact cr1 | exact cr2); exact rfl) | simp -implicitDefEqProofs only [go_sem, Int.reduceEq, Int.reduceLT, Int.reduceLE, Nat.reduceAdd, Nat.reduceSub, Nat.reduceMul, Nat.reduceEqDiff, Nat.reduceLeDiff, Nat.reducePow, ↓reduceIte, reduceCtorEq, List.length_map])) | ((with_reducible apply xaw); (first | ((with_reducible apply xstepS); refine AW.step tok rfl ?_) | ((with_reducible apply xstep); refine AW.region tok rfl ?_) | with_reducible (first | refine AW.seq ?_ | refine AW.block ?_ | refine AW.skip ?_ | refine AW.ret ?_ | refine AW.exit ?_) | ((with_reducible apply xcond); exact rfl) | ((with_reducible apply xdrawS (id := 4)); refine AW.drawS (id := 4) (.q 0 (.q 1 (.q 2 (.q 3 (.q 4 (.q 5 (.e 6 (.e 7 (.fin))))))))) tok (by kernel_rfl) rfl (by kernel_rfl) ?_) | ((with_reducible apply xdraw (id := 4)); refine AW.draw (id := 4) (.q 0 (.q 1 (.q 2 (.q 3 (.q 4 (.q 5 (.e 6 (.e 7 (.fin))))))))) tok (by kernel_rfl) rfl (by kernel_rfl) ?_))) | ((with_reducible apply xarun); (first | ((with_reducible apply xrun_q); exact rfl; exact rfl; exact rfl) | ((with_reducible apply xrun_c); exact rfl; exact rfl; exact rfl; exact rfl; exact rfl; exact rfl; (first | exact c1 | exact c_sidesI | exact ci | exact cr1 | exact cr2); exact rfl) | ((with_reducible apply xrun_g); exact rfl; exact rfl; exact rfl; exact rfl; exact rfl; exact rfl) | ((with_reducible apply xrun_e); exact rfl) | with_reducible apply xrun_f)) | ((with_reducible apply xcallQ); exact rfl; exact rfl; (first | exact c1 | exact c_sidesI | exact ci | exact cr1 | exact cr2); exact rfl) | with_reducible (first | refine xthen ?_ | refine xthen_r ?_ | refine xthen_e ?_ | refine xblock ?_ | refine xblock_r ?_ | refine xblock_e ?_ | refine xblock_n rfl ?_ | refine xround_r ?_ | refine xround_e ?_) | (with_reducible intro hc; (try simp only [decide_eq_true_eq, decide_eq_false_iff_not, Bool.not_true, Bool.not_false, Bool.not_eq_true', Bool.not_eq_false', ne_eq, not_true, reduceCtorEq, List.length_map] at hc); (try (exfalso; omega))) | with_reducible (first | exact trivial | refine And.intro ?_ ?_ | exact rfl | exact Nat.le_refl _) | exact Eq.refl true | exact (rfl : (_ : List Nat) = _) | exact Nat.le_of_ble_eq_true rfl | (refine inR_i64.mpr ?_; first | omega | (simp only [List.length_map, List.length_map]; omega)) | omega)
      all_goals first | (exfalso; exact hok ⟨by assumption, by assumption⟩) | (refine xfinIs (by first | exact .inl rfl | exact .inr rfl) rfl (by repeat' (first | exact trivial | exact rfl | refine And.intro ?_ ?_)) rfl ?_ rfl; first | with_reducible exact rfl | (simp -implicitDefEqProofs only [go_sem, Int.reduceEq, Int.reduceLT, Int.reduceLE, Nat.reduceAdd, Nat.reduceSub, Nat.reduceMul, Nat.reduceEqDiff, Nat.reduceLeDiff, Nat.reducePow, ↓reduceIte, reduceCtorEq, zeroP] <;> (first | rfl | omega | exact decide_eq_decide.2 (by omega) | exact decide_eq_false (by omega) | exact decide_eq_true (by omega) | (symm; first | exact decide_eq_false (by omega) | exact decide_eq_true (by omega)) | (rw [Bool.eq_iff_iff]; simp only [Bool.not_eq_true', Bool.not_eq_false', Bool.and_eq_true, Bool.or_eq_true, decide_eq_true_eq, decide_eq_false_iff_not, reduceCtorEq, true_iff, iff_true, false_iff, iff_false]; omega))))
end Go.Proofs.YtmjofbjglhdkjaaGreatDoor

