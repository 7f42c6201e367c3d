/- Contracts of the functions and the plain law behind them, as far as FnTouchedBy needs them; joined out of the texts Q1 R8 R9 G2 K2 T1 D1 R11 R13 R14 T2 R15 R16 T3 T4 T5 T6 T7 R2 K5 G6 G7 G8 G9 G10 G12 G16 G18 K7. -/
import Derived.Deep.Slices
import Derived.Deep.Fields
import Derived.ChangeSame
import Derived.Below
import Derived.ProofKit
import Derived.Test.YticgjepndfjafaaTt
set_option linter.unusedSimpArgs false
set_option linter.unusedVariables false
namespace Go.Proofs.Yticgjepndfjafaa
open Go.Fw
attribute [local irreducible] Go.Fw.aops Go.Fw.arun
@[go_sem] def lv54 : List (List Nat) := [[0, 1, 2], [6]]
@[go_sem] def lv81 : List (List Nat) := [[0, 1, 2], [6]]
@[go_sem] def lv135 : List (List Nat) := [[0, 1], [0, 1, 7, 8], [0, 1, 7, 8, 9], [0, 1, 5, 7, 8], [0, 1, 5, 7, 8, 16], [4], [0, 1, 7, 8], [4]]
@[go_sem] def lv109 : List (List Nat) := [[0, 1], [4]]

theorem c_within (n lo hi : Int) : ACon Try.prog 54 [.d (.int .i64 n), .d (.int .i64 lo), .d (.int .i64 hi)] [] (Is (.d (.bool (decide (lo ≤ n ∧ n ≤ hi))))) := by
  refine ACon.introW tok (nt := 15) Try.func54 rfl rfl rfl (by kernel_rfl) rfl ?_
  repeat' (first | ((with_reducible apply xsim); (first | ((with_reducible apply xo); exact rfl) | with_reducible apply xend | ((with_reducible apply xguardS); exact rfl; exact rfl))) | ((with_reducible apply xaw); (first | ((with_reducible apply xstepS); refine AW.step tok rfl ?_) | with_reducible refine AW.ret ?_)) | (with_reducible intro hc; (try simp only [decide_eq_true_eq, decide_eq_false_iff_not, Bool.not_true, Bool.not_false, Bool.not_eq_true', Bool.not_eq_false', ne_eq, not_true, reduceCtorEq] at hc); (try (exfalso; omega))) | with_reducible (first | exact trivial | refine And.intro ?_ ?_ | exact rfl))
  all_goals (refine xfinIs (by first | exact .inl rfl | exact .inr rfl) rfl (by repeat' (first | exact trivial | exact rfl | refine And.intro ?_ ?_)) rfl ?_ rfl; first | (simp -implicitDefEqProofs only [go_sem, Int.reduceEq, Int.reduceLT, Int.reduceLE, Nat.reduceAdd, Nat.reduceSub, Nat.reduceMul, Nat.reduceEqDiff, Nat.reduceLeDiff, Nat.reducePow, ↓reduceIte, reduceCtorEq] <;> (first | rfl | omega | exact decide_eq_decide.2 (by omega) | exact decide_eq_false (by omega) | exact decide_eq_true (by omega) | (symm; first | exact decide_eq_false (by omega) | exact decide_eq_true (by omega)) | (rw [Bool.eq_iff_iff]; simp only [Bool.not_eq_true', Bool.not_eq_false', Bool.and_eq_true, Bool.or_eq_true, decide_eq_true_eq, decide_eq_false_iff_not, reduceCtorEq, true_iff, iff_true, false_iff, iff_false]; omega))))

theorem c_inRange (n lo hi : Int) : ACon Try.prog 81 [.d (.int .i64 n), .d (.int .i64 lo), .d (.int .i64 hi)] [] (Is (.d (.bool (decide (lo ≤ n ∧ n ≤ hi))))) := by
  refine ACon.introW tok (nt := 15) Try.func81 rfl rfl rfl (by kernel_rfl) rfl ?_
  repeat' (first | ((with_reducible apply xsim); (first | ((with_reducible apply xo); exact rfl) | with_reducible apply xend | ((with_reducible apply xguardS); exact rfl; exact rfl))) | ((with_reducible apply xaw); (first | ((with_reducible apply xstepS); refine AW.step tok rfl ?_) | with_reducible refine AW.ret ?_)) | (with_reducible intro hc; (try simp only [decide_eq_true_eq, decide_eq_false_iff_not, Bool.not_true, Bool.not_false, Bool.not_eq_true', Bool.not_eq_false', ne_eq, not_true, reduceCtorEq] at hc); (try (exfalso; omega))) | with_reducible (first | exact trivial | refine And.intro ?_ ?_ | exact rfl))
  all_goals (refine xfinIs (by first | exact .inl rfl | exact .inr rfl) rfl (by repeat' (first | exact trivial | exact rfl | refine And.intro ?_ ?_)) rfl ?_ rfl; first | (simp -implicitDefEqProofs only [go_sem, Int.reduceEq, Int.reduceLT, Int.reduceLE, Nat.reduceAdd, Nat.reduceSub, Nat.reduceMul, Nat.reduceEqDiff, Nat.reduceLeDiff, Nat.reducePow, ↓reduceIte, reduceCtorEq] <;> (first | rfl | omega | exact decide_eq_decide.2 (by omega) | exact decide_eq_false (by omega) | exact decide_eq_true (by omega) | (symm; first | exact decide_eq_false (by omega) | exact decide_eq_true (by omega)) | (rw [Bool.eq_iff_iff]; simp only [Bool.not_eq_true', Bool.not_eq_false', Bool.and_eq_true, Bool.or_eq_true, decide_eq_true_eq, decide_eq_false_iff_not, reduceCtorEq, true_iff, iff_true, false_iff, iff_false]; omega))))

def idxOf {α : Type} (p : α → Bool) (xs : List α) : Int := match xs.findIdx? p with | some i => i | none => -1

theorem idxOf_at {α : Type} {p : α → Bool} {xs : List α} {k : Nat} (hlt : k < xs.length) (hp : ∀ j (h : j < xs.length), j < k → p xs[j] = false) (h : p xs[k] = true) : idxOf p xs = k := by
  have : xs.findIdx? p = some k := by
    rw [List.findIdx?_eq_some_iff_getElem]
    exact ⟨hlt, h, fun j hj => by simp [hp j (by omega) hj]⟩
  simp [idxOf, this]
theorem idxOf_none {α : Type} {p : α → Bool} {xs : List α} {k : Nat} (hlt : ¬ k < xs.length) (hp : ∀ j (h : j < xs.length), j < k → p xs[j] = false) : idxOf p xs = -1 := by
  have : xs.findIdx? p = none := by
    rw [List.findIdx?_eq_none_iff]
    intro x hx
    obtain ⟨j, hj, rfl⟩ := List.mem_iff_getElem.1 hx
    exact hp j hj (by omega)
  simp [idxOf, this]
theorem idxOf_any {α : Type} {p : α → Bool} {xs : List α} : decide (idxOf p xs ≥ 0) = xs.any p := by
  unfold idxOf
  cases h : xs.findIdx? p with
  | none =>
    rw [List.findIdx?_eq_none_iff] at h
    rw [show xs.any p = false by simpa [List.any_eq_false] using h]
    decide
  | some i =>
    have : xs.any p = true := by
      rw [List.findIdx?_eq_some_iff_getElem] at h
      obtain ⟨h1, h2, _⟩ := h
      exact List.any_eq_true.2 ⟨_, List.getElem_mem h1, h2⟩
    rw [this]; simp

theorem c_IndexFuncLine {α : Type} (enc : α → List D) (xs : List α) (g : Nat) (cap : List D) (p : α → Bool) (hsz : ∀ x, (enc x).length = 2) (hlen : xs.length < 2^63)
    (hg : ∀ x ∈ xs, ACon Try.prog g (.agg ((enc x).map .d) :: cap.map .d) [] (Is (.d (.bool (p x))))) :
    ACon Try.prog 135 [.d (.lst (xs.map enc)), .d (.fn g cap)] [] (Is (.d (.int .i64 (idxOf p xs)))) := by
  refine ACon.introW tok (nt := 19) Try.func135 rfl rfl rfl (by kernel_rfl) rfl ?_
  repeat' (first | ((first | refine AW.stepL lv135 tok rfl ?_ | refine AW.region tok rfl ?_ | refine AW.condE ?_ | refine AW.skip ?_ | refine AW.ret ?_ | refine AW.exit ?_) <;> simp -implicitDefEqProofs only [go_sem, Int.reduceEq, Int.reduceLT, Int.reduceLE, Nat.reduceAdd, Nat.reduceSub, Nat.reduceMul, Nat.reduceEqDiff, Nat.reduceLeDiff, Nat.reducePow, ↓reduceIte, reduceCtorEq]) | refine AW.seq ?_ | refine AW.block ?_ | refine And.intro ?_ ?_ | exact fun h => (h trivial).elim | exact fun h => h.elim | refine fun _ => ?_ | exact rfl | exact Nat.le_of_ble_eq_true rfl | omega | exact ⟨_, rfl, fun r hr => (by simp at hr; obtain ⟨a, _, rfl⟩ := hr; rfl)⟩ | (rename_i hm; simp only [List.take_succ_cons, List.take_zero, List.drop_zero, List.mem_singleton] at hm; subst hm; rfl) | (simp only [List.take_succ_cons, List.take_zero, List.drop_zero, List.length_cons, List.length_nil]; omega))
  refine AW.loop (S := fun k : Nat => ⟨[(0, .d (.lst (xs.map enc))), (1, .d (.fn g cap)), (7, .d (.int .i64 xs.length)), (8, .d (.int .i64 k))], [], 19, 0⟩)
    (Pre := fun k => k ≤ xs.length ∧ ∀ j (h : j < xs.length), j < k → p xs[j] = false) (μ := fun k => xs.length - k) 0 ⟨Nat.zero_le _, fun j _ h => absurd h (Nat.not_lt_zero _)⟩ ?_ ?_
  · (refine xwk (π := []) (by decide) rfl ?_ ?_; (first | exact trivial); repeat' (first | exact renE_n | ((with_reducible apply renE_c); exact rfl; focus (first | (simp -implicitDefEqProofs only [go_sem, Int.reduceEq, Int.reduceLT, Int.reduceLE, Nat.reduceAdd, Nat.reduceSub, Nat.reduceMul, Nat.reduceEqDiff, Nat.reduceLeDiff, Nat.reducePow, ↓reduceIte, reduceCtorEq, List.length_map]; done)))))
  · rintro k ⟨hk, hp⟩
    by_cases hlt : k < xs.length
    · have hrow := at_map (f := enc) hlt
      have hrow2 : List.take 2 (List.map V.d (enc xs[k])) = List.map V.d (enc xs[k]) := by rw [List.take_of_length_le]; rw [List.length_map, hsz]; omega
      repeat' (first | ((first | refine AW.stepL lv135 tok rfl ?_ | refine AW.region tok rfl ?_ | refine AW.condE ?_ | refine AW.skip ?_ | refine AW.ret ?_ | refine AW.exit ?_ | refine ACall.is (by first | rfl | simp -implicitDefEqProofs only [go_sem, ↓reduceIte, Nat.reduceEqDiff, ltT hlt, not_true, hrow, hrow2, hsz, List.length_map]) (hg _ (List.getElem_mem hlt)) ?_) <;> simp -implicitDefEqProofs only [go_sem, Int.reduceEq, Int.reduceLT, Int.reduceLE, Nat.reduceAdd, Nat.reduceSub, Nat.reduceMul, Nat.reduceEqDiff, Nat.reduceLeDiff, Nat.reducePow, ↓reduceIte, reduceCtorEq, ltT hlt, not_true, hrow, hrow2, hsz, List.length_map]) | refine AW.seq ?_ | refine AW.block ?_ | refine And.intro ?_ ?_ | exact fun h => (h trivial).elim | exact fun h => h.elim | refine fun _ => ?_ | exact rfl | exact Nat.le_of_ble_eq_true rfl | omega | exact ⟨_, rfl, fun r hr => (by simp at hr; obtain ⟨a, _, rfl⟩ := hr; rfl)⟩ | (rename_i hm; simp only [List.take_succ_cons, List.take_zero, List.drop_zero, List.mem_singleton] at hm; subst hm; rfl) | (simp only [List.take_succ_cons, List.take_zero, List.drop_zero, List.length_cons, List.length_nil]; omega))
      · rename_i hpk
        (refine xfinIs (by first | exact .inl rfl | exact .inr rfl) rfl (by repeat' (first | exact trivial | exact rfl | refine And.intro ?_ ?_)) rfl ?_ rfl; first | (simp -implicitDefEqProofs only [go_sem, Int.reduceEq, Int.reduceLT, Int.reduceLE, Nat.reduceAdd, Nat.reduceSub, Nat.reduceMul, Nat.reduceEqDiff, Nat.reduceLeDiff, Nat.reducePow, ↓reduceIte, reduceCtorEq, idxOf_at hlt hp hpk] <;> (first | rfl | omega | exact decide_eq_decide.2 (by omega) | exact decide_eq_false (by omega) | exact decide_eq_true (by omega) | (symm; first | exact decide_eq_false (by omega) | exact decide_eq_true (by omega)) | (rw [Bool.eq_iff_iff]; simp only [Bool.not_eq_true', Bool.not_eq_false', Bool.and_eq_true, Bool.or_eq_true, decide_eq_true_eq, decide_eq_false_iff_not, reduceCtorEq, true_iff, iff_true, false_iff, iff_false]; omega))))
      · rename_i hpk
        refine round_end (k+1) ⟨by omega, ?_⟩ (by omega) (Weak.of [] rfl rfl List.nodup_nil rfl trivial ?_)
        · intro j hj h; by_cases h' : j = k
          · subst h'; exact hpk
          · exact hp j hj (by omega)
        · simp -implicitDefEqProofs only [go_sem, Int.reduceEq, Int.reduceLT, Int.reduceLE, Nat.reduceAdd, Nat.reduceSub, Nat.reduceMul, Nat.reduceEqDiff, Nat.reduceLeDiff, Nat.reducePow, ↓reduceIte, reduceCtorEq]
    · repeat' (first | ((with_reducible apply xsim); (first | ((with_reducible apply xo); exact rfl) | with_reducible apply xend)) | ((with_reducible apply xaw); (first | ((with_reducible apply xstepS); refine AW.step tok rfl ?_) | with_reducible (first | refine AW.seq ?_ | refine AW.ret ?_ | refine AW.exit ?_) | ((with_reducible apply xcond); exact rfl))) | with_reducible (first | refine xthen ?_ | refine xthen_e ?_ | refine xblock_e ?_ | refine xround_e ?_) | (with_reducible intro hc; (try simp only [decide_eq_true_eq, decide_eq_false_iff_not, Bool.not_true, Bool.not_false, Bool.not_eq_true', Bool.not_eq_false', ne_eq, not_true, reduceCtorEq, List.length_map] at hc); (try (exfalso; omega))) | with_reducible (first | exact trivial | refine And.intro ?_ ?_ | exact rfl))
      (refine xfinIs (by first | exact .inl rfl | exact .inr rfl) rfl (by repeat' (first | exact trivial | exact rfl | refine And.intro ?_ ?_)) rfl ?_ rfl; first | (simp -implicitDefEqProofs only [go_sem, Int.reduceEq, Int.reduceLT, Int.reduceLE, Nat.reduceAdd, Nat.reduceSub, Nat.reduceMul, Nat.reduceEqDiff, Nat.reduceLeDiff, Nat.reducePow, ↓reduceIte, reduceCtorEq, idxOf_none hlt hp] <;> (first | rfl | omega | exact decide_eq_decide.2 (by omega) | exact decide_eq_false (by omega) | exact decide_eq_true (by omega) | (symm; first | exact decide_eq_false (by omega) | exact decide_eq_true (by omega)) | (rw [Bool.eq_iff_iff]; simp only [Bool.not_eq_true', Bool.not_eq_false', Bool.and_eq_true, Bool.or_eq_true, decide_eq_true_eq, decide_eq_false_iff_not, reduceCtorEq, true_iff, iff_true, false_iff, iff_false]; omega))))

theorem c_ContainsFuncLine {α : Type} (enc : α → List D) (xs : List α) (g : Nat) (cap : List D) (p : α → Bool) (hsz : ∀ x, (enc x).length = 2) (hlen : xs.length < 2^63)
    (hg : ∀ x ∈ xs, ACon Try.prog g (.agg ((enc x).map .d) :: cap.map .d) [] (Is (.d (.bool (p x))))) :
    ACon Try.prog 109 [.d (.lst (xs.map enc)), .d (.fn g cap)] [] (Is (.d (.bool (xs.any p)))) := by
  refine ACon.introW tok (nt := 9) Try.func109 rfl rfl rfl (by kernel_rfl) rfl ?_
  repeat' (first | ((with_reducible apply xsim); (first | ((with_reducible apply xo); exact rfl) | with_reducible apply xend | ((with_reducible apply xcallIs); exact rfl; exact rfl; exact c_IndexFuncLine enc xs g cap p hsz hlen hg; exact rfl))) | ((with_reducible apply xaw); (first | ((with_reducible apply xstepS); refine AW.step tok rfl ?_) | with_reducible refine AW.ret ?_)) | with_reducible (first | exact trivial | refine And.intro ?_ ?_ | exact rfl))
  (refine xfinIs (by first | exact .inl rfl | exact .inr rfl) rfl (by repeat' (first | exact trivial | exact rfl | refine And.intro ?_ ?_)) rfl ?_ rfl; first | (simp -implicitDefEqProofs only [go_sem, Int.reduceEq, Int.reduceLT, Int.reduceLE, Nat.reduceAdd, Nat.reduceSub, Nat.reduceMul, Nat.reduceEqDiff, Nat.reduceLeDiff, Nat.reducePow, ↓reduceIte, reduceCtorEq, idxOf_any] <;> (first | rfl | omega | exact decide_eq_decide.2 (by omega) | exact decide_eq_false (by omega) | exact decide_eq_true (by omega) | (symm; first | exact decide_eq_false (by omega) | exact decide_eq_true (by omega)) | (rw [Bool.eq_iff_iff]; simp only [Bool.not_eq_true', Bool.not_eq_false', Bool.and_eq_true, Bool.or_eq_true, decide_eq_true_eq, decide_eq_false_iff_not, reduceCtorEq, true_iff, iff_true, false_iff, iff_false]; omega))))

end Go.Proofs.Yticgjepndfjafaa

namespace Go.Proofs.Yticgjepndfjafaa
open Go.Fw

/-- Rows that are filled one by one. -/
def fillRows {α : Type} (enc : α → List D) (z : List D) (xs : List α) (k : Nat) : List (List D) := (xs.take k).map enc ++ List.replicate (xs.length - k) z

theorem fillRows_len {α : Type} {enc : α → List D} {z : List D} {xs : List α} {k : Nat} (hk : k ≤ xs.length) : (fillRows enc z xs k).length = xs.length := by
  simp [fillRows]; omega
theorem fillRows_at {α : Type} {enc : α → List D} {z : List D} {xs : List α} {k : Nat} (hk : k < xs.length) : (fillRows enc z xs k)[k]? = some z := by
  unfold fillRows
  rw [List.getElem?_append_right (by simp; omega)]
  simp only [List.length_map, List.length_take]
  rw [List.getElem?_replicate, if_pos (by omega)]
theorem fillRows_set {α : Type} {enc : α → List D} {z : List D} {xs : List α} {k : Nat} (hk : k < xs.length) : (fillRows enc z xs k).set k (enc xs[k]) = fillRows enc z xs (k + 1) := by
  unfold fillRows
  rw [List.set_append_right _ _ (by simp; omega)]
  simp only [List.length_map, List.length_take]
  rw [show k - min k xs.length = 0 by omega, show xs.length - k = (xs.length - (k + 1)) + 1 by omega, List.replicate_succ, List.set_cons_zero, List.take_succ_eq_append_getElem hk, List.map_append, List.append_assoc]
  rfl
theorem fillRows_all {α : Type} {enc : α → List D} {z : List D} {xs : List α} : fillRows enc z xs xs.length = xs.map enc := by simp [fillRows]
theorem fillRows_zero {α : Type} {enc : α → List D} {z : List D} {xs : List α} : fillRows enc z xs 0 = List.replicate xs.length z := by simp [fillRows]

/-- A slice of rows that is handed over. -/
def ORows {α : Type} (enc : α → List D) (sz : Nat) (xs : List α) : V → List O → Prop := Own (.msl 0 sz 0 xs.length) [.arr sz (xs.map enc)]

theorem ORows.data {α : Type} {P : Program} {f : Nat} {args : List V} {sz : Nat} {enc : α → List D} {xs : List α} (h : ACon P f args [] (ORows enc sz xs)) : ACon P f args [] (Is (.d (.lst (xs.map enc)))) := by
  have h2 : ACon P f args [] (fun r os => r = .d (.lst (xs.map enc)) ∧ os = [.dead]) := by
    refine h.frz ?_
    rintro r os ⟨rfl, rfl⟩
    exact ⟨0, sz, xs.map enc, by rw [List.length_map], rfl, rfl, rfl⟩
  refine h2.ren ?_
  rintro r os ⟨rfl, rfl⟩
  exact ⟨[], .d (.lst (xs.map enc)), [], by decide, rfl, trivial, rfl, rfl, rfl⟩

end Go.Proofs.Yticgjepndfjafaa

namespace Go.Proofs.Yticgjepndfjafaa
open Go.Fw Go.ChangeShapes Go.WideShapes Go.Deep Go.RowKit Go.ChangeAt

section
variable {H : Type} {enc : TypeId × Value → H} {P : Program} {w : World} {base : Nat} {spare : Nat → Bool} {held : Bool}

theorem list_of {α : Type} {R : Nat → α → Prop} : ∀ n : Nat, (∀ i, i < n → ∃ p, R i p) → ∃ xs : List α, xs.length = n ∧ ∀ (i : Nat) (p : α), xs[i]? = some p → R i p := by
  intro n
  induction n with
  | zero => intro _; exact ⟨[], rfl, fun i p h => by simp at h⟩
  | succ n ih =>
    intro h
    obtain ⟨xs, h1, h2⟩ := ih fun i hi => h i (by omega)
    obtain ⟨p, hp⟩ := h n (by omega)
    refine ⟨xs ++ [p], by simp [h1], fun i q hq => ?_⟩
    rcases Nat.lt_or_ge i xs.length with hl | hl
    · rw [List.getElem?_append_left hl] at hq; exact h2 i q hq
    · rw [List.getElem?_append_right hl] at hq
      have : i - xs.length = 0 := by
        rcases Nat.eq_zero_or_pos (i - xs.length) with e | e
        · exact e
        · rw [List.getElem?_eq_none (by simp; omega)] at hq; cases hq
      rw [this] at hq
      simp only [List.getElem?_cons_zero, Option.some.injEq] at hq
      subst hq
      rw [show i = n by omega]
      exact hp

/-- A slice of records that the input brings. -/
theorem open_recs {α : Type} {encR : α → List D} {nf : Nat} {t e : TypeId} {fuel : Nat} {v : Value} {x : DataW H × List MemPlace} (ht : P.underlying t = some (.slice e)) (hC : P.cellsOf e = nf) (hnf : 0 < nf)
    (hlen : ∀ p, (encR p).length = nf)
    (hdec : ∀ (n : Nat) (cs : List Value) (y : DataW H × List MemPlace), DataW.trod enc P w base spare held n e cs = some y → ∃ p : α, ∀ (j : Nat) (d : D), (encR p)[j]? = some d → ∃ u : Value, cs[j]? = some u ∧ DRep w (· < w.heap.size) d u)
    (h : DataW.trod enc P w base spare held fuel t [v] = some x) : ∃ xs : List α, DRep w (· < w.heap.size) (.lst (xs.map encR)) v ∧ xs.length ≤ maxLen := by
  rcases open_slice ht h with ⟨h0, _⟩ | ⟨a, len, cap, m, n, D0, Pl, hcs, hb, hl, hm, hmm, hx, hi⟩
  · obtain rfl : v = .slice none 0 0 := by simpa using h0
    exact ⟨[], .nil, Nat.zero_le _⟩
  · obtain rfl : v = .slice (some a) len cap := by simpa using hcs
    have hlm : len ≤ m := by rw [hmm]; split <;> omega
    obtain ⟨xs, h1, h2⟩ := list_of (R := fun i (p : α) => ∀ (j : Nat) (d : D), (encR p)[j]? = some d → ∃ u : Value, w.cell? (a.add (i * nf + j)) = some u ∧ DRep w (· < w.heap.size) d u) len fun i hil => by
      obtain ⟨cs', hc, htr⟩ := hi i (by omega)
      obtain ⟨p, hp⟩ := hdec _ _ _ htr
      rw [hC] at hc
      obtain ⟨_, hcl, hat⟩ := World.cells?_some hc
      refine ⟨p, fun j d hd => ?_⟩
      obtain ⟨u, hu, hr⟩ := hp j d hd
      have hj : j < nf := by rw [← hlen p]; exact (List.getElem?_eq_some_iff.1 hd).1
      refine ⟨u, ?_, hr⟩
      rw [← Go.Deep.add_add, hat j hj, hu]
    refine ⟨xs, ?_, by omega⟩
    subst h1
    cases xs with
    | nil => exact .nil
    | cons p0 xs =>
      have hfirst : ∃ u, w.cell? (a.add 0) = some u := by
        have hd : (encR p0)[0]? = some ((encR p0)[0]'(by rw [hlen]; exact hnf)) := List.getElem?_eq_getElem _
        obtain ⟨u, hu, _⟩ := h2 0 p0 rfl 0 _ hd
        exact ⟨u, by simpa using hu⟩
      obtain ⟨u, hu⟩ := hfirst
      obtain ⟨b, off, spot⟩ := a
      have hs : spot = none ∧ b < w.heap.size := by
        unfold World.cell? Addr.add at hu
        simp only at hu
        split at hu
        · rename_i c _ _ hb
          refine ⟨?_, (Array.getElem?_eq_some_iff.1 hb).1⟩
          cases spot with
          | none => rfl
          | some q => simp at hu
        · cases hu
      obtain ⟨rfl, hbl⟩ := hs
      have := DRep.lst (w := w) (ok := (· < w.heap.size)) (rows := (p0 :: xs).map encR) (sz := nf) (b := b) (off := off) (cap := cap)
        (vs := fun i j => (w.cell? ⟨b, off + (i * nf + j), none⟩).getD undef) hbl
        (fun r hr => by obtain ⟨p, _, rfl⟩ := List.mem_map.1 hr; exact hlen p) (by rw [List.length_map]; exact hl)
        (fun i j r d hi hj => by
          rw [List.getElem?_map, Option.map_eq_some_iff] at hi
          obtain ⟨p, hp, rfl⟩ := hi
          obtain ⟨u, hu, _⟩ := h2 i p hp j d hj
          have hu : w.cell? ⟨b, off + (i * nf + j), none⟩ = some u := by rw [addr_add] at hu; exact hu
          rw [hu]; rfl)
        (fun i j r d hi hj => by
          rw [List.getElem?_map, Option.map_eq_some_iff] at hi
          obtain ⟨p, hp, rfl⟩ := hi
          obtain ⟨u, hu, hr⟩ := h2 i p hp j d hj
          have hu : w.cell? ⟨b, off + (i * nf + j), none⟩ = some u := by rw [addr_add] at hu; exact hu
          rw [hu]; exact hr)
      rwa [List.length_map] at this

end

/-- A law that is proved on the abstract machine, as the row asks for it. -/
theorem bridge {P : Program} {f : Nat} {args : List V} {vs : Array Value} {W : World} (hc : ACon P f args [] (Is (.d (.bool true)))) (hs : vs.size = args.length)
    (hv : ∀ (i : Nat) x, args[i]? = some x → VRep W (· < W.heap.size) [] x (vs.getD i undef)) : Calls P f vs W fun e W' => e = .returned (.bool true) ∧ Below W.heap.size W W' := by
  refine (hc.run W (· < W.heap.size) [] vs ⟨rfl, fun _ h => h, fun id o h => by simp at h, fun i j oi oj b h => by simp at h, fun i o b h => by simp at h⟩ hs hv).mono ?_
  rintro e W' ⟨v, r, os, ok', ρ', rfl, ⟨rfl, rfl⟩, hI, hV, hF⟩
  cases hV with
  | d h =>
    cases h
    exact ⟨rfl, hF.os, hF.tape, hF.output, hF.size, fun k hk => hF.block k hk (fun id o h => by simp at h)⟩

section
variable {H : Type} {enc : TypeId × Value → H} {w : World} {base : Nat} {spare : Nat → Bool} {held : Bool}

/-- What a record's cells hold. -/
def DecR {α : Type} (w : World) (encR : α → List D) (ok : α → Prop) (cs : List Value) : Prop :=
  ∃ p : α, ok p ∧ ∀ (j : Nat) (d : D), (encR p)[j]? = some d → ∃ u : Value, cs[j]? = some u ∧ DRep w (· < w.heap.size) d u

theorem decByte (n : Nat) (cs : List Value) (y : DataW H × List MemPlace) (h : DataW.trod enc Try.prog w base spare held n 5 cs = some y) :
    DecR w encByte (fun _ => True) cs := by
  obtain ⟨k, rfl, _, hw⟩ := DataW.trod_int Try.underlying5 h
  have hb : 0 ≤ k ∧ k < 256 := by
    simp only [Lit.wf, Bool.and_eq_true, decide_eq_true_eq] at hw
    have h1 : IntKind.u8.min = 0 := by decide
    have h2 : IntKind.u8.max = 255 := by decide
    omega
  refine ⟨⟨k, hb⟩, trivial, fun j d hd => ?_⟩
  match j with
  | 0 => cases hd; exact ⟨_, rfl, .int⟩
  | n + 1 => simp [encByte] at hd

end
end Go.Proofs.Yticgjepndfjafaa

namespace Go.Proofs.Yticgjepndfjafaa
open Go.Fw
attribute [local irreducible] Go.Fw.aops Go.Fw.arun

structure Line where
  weight : Int
  min : Int
@[go_sem] def encLine (l : Line) : List D := [.int .i64 l.weight, .int .i64 l.min]
@[go_sem] def vLine (l : Line) : V := .agg ((encLine l).map .d)
structure Span where
  «at» : Int
  many : Int
  need : Int
@[go_sem] def encSpan (s : Span) : List D := [.int .i64 s.at, .int .i64 s.many, .int .i64 s.need]
@[go_sem] def vSpan (s : Span) : V := .agg ((encSpan s).map .d)
structure Cell where
  col : Int
  row : Int
  manyCols : Int
  manyRows : Int
  w : Int
  h : Int
  stick : Int
  padX : Int
  padY : Int
@[go_sem] def encCell (c : Cell) : List D := [.int .i64 c.col, .int .i64 c.row, .int .i64 c.manyCols, .int .i64 c.manyRows, .int .i64 c.w, .int .i64 c.h, .int .i64 c.stick, .int .i64 c.padX, .int .i64 c.padY]
@[go_sem] def vCell (c : Cell) : V := .agg ((encCell c).map .d)
structure Grid where
  cols : List Line
  rows : List Line
  cells : List Cell
@[go_sem] def encGrid (g : Grid) : List D := [.lst (g.cols.map encLine), .lst (g.rows.map encLine), .lst (g.cells.map encCell)]
@[go_sem] def vGrid (g : Grid) : V := .agg ((encGrid g).map .d)

def validLine (l : Line) : Bool := decide (0 ≤ l.weight ∧ l.weight ≤ 5 ∧ 0 ≤ l.min ∧ l.min ≤ 30)
def linesOk (ls : List Line) : Bool := decide (1 ≤ ls.length ∧ ls.length ≤ 5) && ls.all validLine
def lies (c : Cell) (nc nr : Int) : Bool := decide (0 ≤ c.col ∧ c.col ≤ nc - 1 ∧ 1 ≤ c.manyCols ∧ c.manyCols ≤ nc - c.col ∧ 0 ≤ c.row ∧ c.row ≤ nr - 1 ∧ 1 ≤ c.manyRows ∧ c.manyRows ≤ nr - c.row ∧ 0 ≤ c.stick ∧ c.stick ≤ 15 ∧ 0 ≤ c.padX ∧ c.padX ≤ 10 ∧ 0 ≤ c.padY ∧ c.padY ≤ 10)
def cellOk (c : Cell) (nc nr : Int) : Bool := decide (0 ≤ c.w ∧ c.w ≤ 30 ∧ 0 ≤ c.h ∧ c.h ≤ 30) && lies c nc nr
theorem any_not {α : Type} {p : α → Bool} {xs : List α} : (!xs.any fun x => !p x) = xs.all p := by
  induction xs with
  | nil => rfl
  | cons x xs ih => simp only [List.any_cons, List.all_cons, ← ih, Bool.not_or, Bool.not_not]

theorem c_spanOk (a m n : Int) (hn : 0 ≤ n ∧ n < 2^40) : ACon Try.prog 88 [.d (.int .i64 a), .d (.int .i64 m), .d (.int .i64 n)] [] (Is (.d (.bool (decide (0 ≤ a ∧ a ≤ n - 1 ∧ 1 ≤ m ∧ m ≤ n - a))))) := by
  refine ACon.introW tok (nt := 18) Try.func88 rfl rfl rfl (by kernel_rfl) rfl ?_
  repeat' (first | ((with_reducible apply xsim); (first | ((with_reducible apply xo); exact rfl) | with_reducible apply xend | ((with_reducible apply xguardS); exact rfl; exact rfl) | ((with_reducible apply xcallIs); exact rfl; exact rfl; exact c_within _ _ _; exact rfl))) | ((with_reducible apply xaw); (first | ((with_reducible apply xstepS); refine AW.step tok rfl ?_) | with_reducible refine AW.ret ?_)) | (with_reducible intro hc; (try simp only [decide_eq_true_eq, decide_eq_false_iff_not, Bool.not_true, Bool.not_false, Bool.not_eq_true', Bool.not_eq_false', ne_eq, not_true, reduceCtorEq] at hc); (try (exfalso; omega))) | with_reducible (first | exact trivial | refine And.intro ?_ ?_ | exact rfl) | (refine inR_i64.mpr ?_; first | omega | (simp only [List.length_map]; omega)))
  all_goals (refine xfinIs (by first | exact .inl rfl | exact .inr rfl) rfl (by repeat' (first | exact trivial | exact rfl | refine And.intro ?_ ?_)) rfl ?_ rfl; first | (simp -implicitDefEqProofs only [go_sem, Int.reduceEq, Int.reduceLT, Int.reduceLE, Nat.reduceAdd, Nat.reduceSub, Nat.reduceMul, Nat.reduceEqDiff, Nat.reduceLeDiff, Nat.reducePow, ↓reduceIte, reduceCtorEq] <;> (first | rfl | omega | exact decide_eq_decide.2 (by omega) | exact decide_eq_false (by omega) | exact decide_eq_true (by omega) | (symm; first | exact decide_eq_false (by omega) | exact decide_eq_true (by omega)) | (rw [Bool.eq_iff_iff]; simp only [Bool.not_eq_true', Bool.not_eq_false', Bool.and_eq_true, Bool.or_eq_true, decide_eq_true_eq, decide_eq_false_iff_not, reduceCtorEq, true_iff, iff_true, false_iff, iff_false]; omega))))

theorem c_linesOk1 (l : Line) : ACon Try.prog 110 [vLine l] [] (Is (.d (.bool (!validLine l)))) := by
  refine ACon.introW tok (nt := 13) Try.func110 rfl rfl rfl (by kernel_rfl) rfl ?_
  repeat' (first | ((with_reducible apply xsim); (first | ((with_reducible apply xo); exact rfl) | with_reducible apply xend | ((with_reducible apply xguardS); exact rfl; exact rfl) | ((with_reducible apply xbox); exact rfl; simp only [backV, backVs, backVs_mapd, backId, backO, List.map_cons, List.map_nil, List.getElem?_nil, List.length_cons, List.length_nil, Nat.reduceAdd, Nat.reduceSub, List.cons_append, List.nil_append, List.append_nil]) | ((with_reducible apply xcallIs); exact rfl; exact rfl; exact c_within _ _ _; exact rfl))) | ((with_reducible apply xaw); (first | ((with_reducible apply xstepS); refine AW.step tok rfl ?_) | with_reducible refine AW.ret ?_)) | (with_reducible intro hc; (try simp only [decide_eq_true_eq, decide_eq_false_iff_not, Bool.not_true, Bool.not_false, Bool.not_eq_true', Bool.not_eq_false', ne_eq, not_true, reduceCtorEq] at hc); (try (exfalso; omega))) | with_reducible exact trivial)
  all_goals (refine xfinIs (by first | exact .inl rfl | exact .inr rfl) rfl (by repeat' (first | exact trivial | exact rfl | refine And.intro ?_ ?_)) rfl ?_ rfl; first | (simp -implicitDefEqProofs only [go_sem, Int.reduceEq, Int.reduceLT, Int.reduceLE, Nat.reduceAdd, Nat.reduceSub, Nat.reduceMul, Nat.reduceEqDiff, Nat.reduceLeDiff, Nat.reducePow, ↓reduceIte, reduceCtorEq, validLine] <;> (first | rfl | omega | exact decide_eq_decide.2 (by omega) | exact decide_eq_false (by omega) | exact decide_eq_true (by omega) | (symm; first | exact decide_eq_false (by omega) | exact decide_eq_true (by omega)) | (rw [Bool.eq_iff_iff]; simp only [Bool.not_eq_true', Bool.not_eq_false', Bool.and_eq_true, Bool.or_eq_true, decide_eq_true_eq, decide_eq_false_iff_not, reduceCtorEq, true_iff, iff_true, false_iff, iff_false]; omega))))

theorem c_linesOk (ls : List Line) (hl : ls.length < 2^63) : ACon Try.prog 87 [.d (.lst (ls.map encLine))] [] (Is (.d (.bool (linesOk ls)))) := by
  refine ACon.introW tok (nt := 11) Try.func87 rfl rfl rfl (by kernel_rfl) rfl ?_
  repeat' (first | ((with_reducible apply xsim); (first | ((with_reducible apply xlenM); exact rfl; exact rfl) | ((with_reducible apply xo); exact rfl) | with_reducible apply xend | ((with_reducible apply xguardS); exact rfl; exact rfl) | ((with_reducible apply xcallIs); exact rfl; exact rfl; (first | exact c_within _ _ _ | exact c_ContainsFuncLine encLine ls _ [] (fun p => !validLine p) (fun _ => rfl) hl (fun x _ => c_linesOk1 x)); exact rfl))) | ((with_reducible apply xaw); (first | ((with_reducible apply xstepS); refine AW.step tok rfl ?_) | with_reducible refine AW.ret ?_)) | (with_reducible intro hc; (try simp only [decide_eq_true_eq, decide_eq_false_iff_not, Bool.not_true, Bool.not_false, Bool.not_eq_true', Bool.not_eq_false', ne_eq, not_true, reduceCtorEq, List.length_map] at hc); (try (exfalso; omega))) | with_reducible exact trivial)
  · rename_i h1 h2
    have h1 : 1 ≤ ls.length ∧ ls.length ≤ 5 := by omega
    (refine xfinIs (by first | exact .inl rfl | exact .inr rfl) rfl (by repeat' (first | exact trivial | exact rfl | refine And.intro ?_ ?_)) rfl ?_ rfl; first | (simp -implicitDefEqProofs only [go_sem, Int.reduceEq, Int.reduceLT, Int.reduceLE, Nat.reduceAdd, Nat.reduceSub, Nat.reduceMul, Nat.reduceEqDiff, Nat.reduceLeDiff, Nat.reducePow, ↓reduceIte, reduceCtorEq, linesOk, any_not, h1, and_self, decide_true, Bool.true_and] <;> (first | rfl | omega | exact decide_eq_decide.2 (by omega) | exact decide_eq_false (by omega) | exact decide_eq_true (by omega) | (symm; first | exact decide_eq_false (by omega) | exact decide_eq_true (by omega)) | (rw [Bool.eq_iff_iff]; simp only [Bool.not_eq_true', Bool.not_eq_false', Bool.and_eq_true, Bool.or_eq_true, decide_eq_true_eq, decide_eq_false_iff_not, reduceCtorEq, true_iff, iff_true, false_iff, iff_false]; omega))))
  · (refine xfinIs (by first | exact .inl rfl | exact .inr rfl) rfl (by repeat' (first | exact trivial | exact rfl | refine And.intro ?_ ?_)) rfl ?_ rfl; first | (simp -implicitDefEqProofs only [go_sem, Int.reduceEq, Int.reduceLT, Int.reduceLE, Nat.reduceAdd, Nat.reduceSub, Nat.reduceMul, Nat.reduceEqDiff, Nat.reduceLeDiff, Nat.reducePow, ↓reduceIte, reduceCtorEq, linesOk, decide_eq_false (show ¬ (1 ≤ ls.length ∧ ls.length ≤ 5) by omega), Bool.false_and] <;> (first | rfl | omega | exact decide_eq_decide.2 (by omega) | exact decide_eq_false (by omega) | exact decide_eq_true (by omega) | (symm; first | exact decide_eq_false (by omega) | exact decide_eq_true (by omega)) | (rw [Bool.eq_iff_iff]; simp only [Bool.not_eq_true', Bool.not_eq_false', Bool.and_eq_true, Bool.or_eq_true, decide_eq_true_eq, decide_eq_false_iff_not, reduceCtorEq, true_iff, iff_true, false_iff, iff_false]; omega))))

theorem c_lies (c : Cell) (g : Grid) (h1 : g.cols.length < 2^40) (h2 : g.rows.length < 2^40) : ACon Try.prog 56 [vCell c, vGrid g] [] (Is (.d (.bool (lies c g.cols.length g.rows.length)))) := by
  refine ACon.introW tok (nt := 38) Try.func56 rfl rfl rfl (by kernel_rfl) rfl ?_
  repeat' (first | ((with_reducible apply xsim); (first | ((with_reducible apply xlenM); exact rfl; exact rfl) | ((with_reducible apply xo); exact rfl) | with_reducible apply xend | ((with_reducible apply xguardS); exact rfl; exact rfl) | ((with_reducible apply xbox); exact rfl; simp only [backV, backVs, backVs_mapd, backId, backO, List.map_cons, List.map_nil, List.getElem?_nil, List.length_cons, List.length_nil, Nat.reduceAdd, Nat.reduceSub, List.cons_append, List.nil_append, List.append_nil]) | ((with_reducible apply xcallIs); exact rfl; exact rfl; (first | exact c_within _ _ _ | exact c_spanOk _ _ _ (by omega)); exact rfl))) | ((with_reducible apply xaw); (first | ((with_reducible apply xstepS); refine AW.step tok rfl ?_) | with_reducible refine AW.ret ?_)) | (with_reducible intro hc; (try simp only [decide_eq_true_eq, decide_eq_false_iff_not, Bool.not_true, Bool.not_false, Bool.not_eq_true', Bool.not_eq_false', ne_eq, not_true, reduceCtorEq, List.length_map] at hc); (try (exfalso; omega))) | with_reducible exact trivial)
  all_goals (refine xfinIs (by first | exact .inl rfl | exact .inr rfl) rfl (by repeat' (first | exact trivial | exact rfl | refine And.intro ?_ ?_)) rfl ?_ rfl; first | (simp -implicitDefEqProofs only [go_sem, Int.reduceEq, Int.reduceLT, Int.reduceLE, Nat.reduceAdd, Nat.reduceSub, Nat.reduceMul, Nat.reduceEqDiff, Nat.reduceLeDiff, Nat.reducePow, ↓reduceIte, reduceCtorEq, lies] <;> (first | rfl | omega | exact decide_eq_decide.2 (by omega) | exact decide_eq_false (by omega) | exact decide_eq_true (by omega) | (symm; first | exact decide_eq_false (by omega) | exact decide_eq_true (by omega)) | (rw [Bool.eq_iff_iff]; simp only [Bool.not_eq_true', Bool.not_eq_false', Bool.and_eq_true, Bool.or_eq_true, decide_eq_true_eq, decide_eq_false_iff_not, reduceCtorEq, true_iff, iff_true, false_iff, iff_false]; omega))))

theorem c_validLine (l : Line) : ACon Try.prog 138 [vLine l] [] (Is (.d (.bool (validLine l)))) := by
  refine ACon.introW tok (nt := 11) Try.func138 rfl rfl rfl (by kernel_rfl) rfl ?_
  repeat' (first | ((with_reducible apply xsim); (first | ((with_reducible apply xo); exact rfl) | with_reducible apply xend | ((with_reducible apply xguardS); exact rfl; exact rfl) | ((with_reducible apply xbox); exact rfl; simp only [backV, backVs, backVs_mapd, backId, backO, List.map_cons, List.map_nil, List.getElem?_nil, List.length_cons, List.length_nil, Nat.reduceAdd, Nat.reduceSub, List.cons_append, List.nil_append, List.append_nil]) | ((with_reducible apply xcallIs); exact rfl; exact rfl; exact c_inRange _ _ _; exact rfl))) | ((with_reducible apply xaw); (first | ((with_reducible apply xstepS); refine AW.step tok rfl ?_) | with_reducible refine AW.ret ?_)) | (with_reducible intro hc; (try simp only [decide_eq_true_eq, decide_eq_false_iff_not, Bool.not_true, Bool.not_false, Bool.not_eq_true', Bool.not_eq_false', ne_eq, not_true, reduceCtorEq] at hc); (try (exfalso; omega))) | with_reducible exact trivial)
  all_goals (refine xfinIs (by first | exact .inl rfl | exact .inr rfl) rfl (by repeat' (first | exact trivial | exact rfl | refine And.intro ?_ ?_)) rfl ?_ rfl; first | (simp -implicitDefEqProofs only [go_sem, Int.reduceEq, Int.reduceLT, Int.reduceLE, Nat.reduceAdd, Nat.reduceSub, Nat.reduceMul, Nat.reduceEqDiff, Nat.reduceLeDiff, Nat.reducePow, ↓reduceIte, reduceCtorEq, validLine] <;> (first | rfl | omega | exact decide_eq_decide.2 (by omega) | exact decide_eq_false (by omega) | exact decide_eq_true (by omega) | (symm; first | exact decide_eq_false (by omega) | exact decide_eq_true (by omega)) | (rw [Bool.eq_iff_iff]; simp only [Bool.not_eq_true', Bool.not_eq_false', Bool.and_eq_true, Bool.or_eq_true, decide_eq_true_eq, decide_eq_false_iff_not, reduceCtorEq, true_iff, iff_true, false_iff, iff_false]; omega))))

theorem c_validCell (c : Cell) (g : Grid) (h1 : g.cols.length < 2^40) (h2 : g.rows.length < 2^40) : ACon Try.prog 114 [vGrid g, vCell c] [] (Is (.d (.bool (cellOk c g.cols.length g.rows.length)))) := by
  refine ACon.introW tok (nt := 68) Try.func114 rfl rfl rfl (by kernel_rfl) rfl ?_
  repeat' (first | ((with_reducible apply xsim); (first | ((with_reducible apply xlenM); exact rfl; exact rfl) | ((with_reducible apply xo); exact rfl) | with_reducible apply xend | ((with_reducible apply xguardS); exact rfl; exact rfl) | ((with_reducible apply xbox); exact rfl; simp only [backV, backVs, backVs_mapd, backId, backO, List.map_cons, List.map_nil, List.getElem?_nil, List.length_cons, List.length_nil, Nat.reduceAdd, Nat.reduceSub, List.cons_append, List.nil_append, List.append_nil]) | ((with_reducible apply xcallIs); exact rfl; exact rfl; exact c_inRange _ _ _; exact rfl))) | ((with_reducible apply xaw); (first | ((with_reducible apply xstepS); refine AW.step tok rfl ?_) | with_reducible refine AW.ret ?_)) | (with_reducible intro hc; (try simp only [decide_eq_true_eq, decide_eq_false_iff_not, Bool.not_true, Bool.not_false, Bool.not_eq_true', Bool.not_eq_false', ne_eq, not_true, reduceCtorEq, List.length_map] at hc); (try (exfalso; omega))) | with_reducible (first | exact trivial | refine And.intro ?_ ?_ | exact rfl) | (refine inR_i64.mpr ?_; first | omega | (simp only [List.length_map, List.length_map]; omega)))
  all_goals (refine xfinIs (by first | exact .inl rfl | exact .inr rfl) rfl (by repeat' (first | exact trivial | exact rfl | refine And.intro ?_ ?_)) rfl ?_ rfl; first | (simp -implicitDefEqProofs only [go_sem, Int.reduceEq, Int.reduceLT, Int.reduceLE, Nat.reduceAdd, Nat.reduceSub, Nat.reduceMul, Nat.reduceEqDiff, Nat.reduceLeDiff, Nat.reducePow, ↓reduceIte, reduceCtorEq, cellOk, lies, ← Bool.decide_and] <;> (first | rfl | omega | exact decide_eq_decide.2 (by omega) | exact decide_eq_false (by omega) | exact decide_eq_true (by omega) | (symm; first | exact decide_eq_false (by omega) | exact decide_eq_true (by omega)) | (rw [Bool.eq_iff_iff]; simp only [Bool.not_eq_true', Bool.not_eq_false', Bool.and_eq_true, Bool.or_eq_true, decide_eq_true_eq, decide_eq_false_iff_not, reduceCtorEq, true_iff, iff_true, false_iff, iff_false]; omega))))

theorem all_ff {α : Type} {p : α → Bool} {xs : List α} {k : Nat} (h : k < xs.length) (hp : p xs[k] = false) : xs.all p = false := List.all_eq_false.2 ⟨_, List.getElem_mem h, by simp [hp]⟩
theorem all_tt {α : Type} {p : α → Bool} {xs : List α} (hp : ∀ j (h : j < xs.length), p xs[j] = true) : xs.all p = true := List.all_eq_true.2 fun x hx => by
  obtain ⟨j, hj, rfl⟩ := List.mem_iff_getElem.1 hx
  exact hp j hj

theorem c_validLines (ls : List Line) (hl : ls.length < 2^40) : ACon Try.prog 113 [.d (.lst (ls.map encLine))] [] (Is (.d (.bool (linesOk ls)))) := by
  refine ACon.introW tok (nt := 19) Try.func113 rfl rfl rfl (by kernel_rfl) rfl ?_
  repeat' (first | ((with_reducible apply xsim); (first | ((with_reducible apply xo); exact rfl) | with_reducible apply xend)) | ((with_reducible apply xaw); (first | ((with_reducible apply xstepS); refine AW.step tok rfl ?_) | with_reducible (first | refine AW.seq ?_ | refine AW.block ?_))) | with_reducible exact trivial)
  refine AW.loop (S := fun k : Nat => ⟨[(0, .d (.lst (ls.map encLine))), (3, .d (.int .i64 k))], [], 19, 0⟩)
    (Pre := fun k => k ≤ ls.length ∧ ∀ j (h : j < ls.length), j < k → validLine ls[j] = true) (μ := fun k => ls.length - k) 0 ⟨Nat.zero_le _, fun j _ h => absurd h (Nat.not_lt_zero _)⟩ ?_ ?_
  · (refine xwk (π := []) (by decide) rfl ?_ ?_; (first | exact trivial); repeat' (first | exact renE_n | ((with_reducible apply renE_c); exact rfl; focus (first | (simp -implicitDefEqProofs only [go_sem, Int.reduceEq, Int.reduceLT, Int.reduceLE, Nat.reduceAdd, Nat.reduceSub, Nat.reduceMul, Nat.reduceEqDiff, Nat.reduceLeDiff, Nat.reducePow, ↓reduceIte, reduceCtorEq]; done)))))
  · rintro k ⟨hk, hp⟩
    by_cases hlt : k < ls.length
    · have hrow := at_map (f := encLine) hlt
      repeat' (first | ((with_reducible apply xsim); (first | ((with_reducible apply xlenM); exact rfl; exact rfl) | ((with_reducible apply xo); exact rfl) | with_reducible apply xend | ((with_reducible apply xidxL); exact rfl; exact rfl; exact rfl; (first | exact hrow); omega; first | exact rfl | simp only [hsz]) | ((with_reducible apply xcallIs); exact rfl; exact rfl; exact c_validLine ls[k]; exact rfl))) | ((with_reducible apply xaw); (first | ((with_reducible apply xstepS); refine AW.step tok rfl ?_) | ((with_reducible apply xstep); refine AW.region tok rfl ?_) | with_reducible (first | refine AW.seq ?_ | refine AW.block ?_ | refine AW.skip ?_ | refine AW.ret ?_) | ((with_reducible apply xcond); exact rfl))) | with_reducible (first | refine xthen ?_ | refine xthen_r ?_ | refine xblock ?_ | refine xblock_r ?_ | refine xround_r ?_) | (with_reducible intro hc; (try simp only [decide_eq_true_eq, decide_eq_false_iff_not, Bool.not_true, Bool.not_false, Bool.not_eq_true', Bool.not_eq_false', ne_eq, not_true, reduceCtorEq, List.length_map] at hc); (try (exfalso; omega))) | with_reducible (first | exact trivial | refine And.intro ?_ ?_ | exact rfl) | exact Eq.refl true | (refine inR_i64.mpr ?_; first | omega | (simp only [List.length_map, List.length_map]; omega)))
      · (refine xfinIs (by first | exact .inl rfl | exact .inr rfl) rfl (by repeat' (first | exact trivial | exact rfl | refine And.intro ?_ ?_)) rfl ?_ rfl; first | (simp -implicitDefEqProofs only [go_sem, Int.reduceEq, Int.reduceLT, Int.reduceLE, Nat.reduceAdd, Nat.reduceSub, Nat.reduceMul, Nat.reduceEqDiff, Nat.reduceLeDiff, Nat.reducePow, ↓reduceIte, reduceCtorEq, linesOk, all_ff hlt hc, Bool.and_false] <;> (first | rfl | omega | exact decide_eq_decide.2 (by omega) | exact decide_eq_false (by omega) | exact decide_eq_true (by omega) | (symm; first | exact decide_eq_false (by omega) | exact decide_eq_true (by omega)) | (rw [Bool.eq_iff_iff]; simp only [Bool.not_eq_true', Bool.not_eq_false', Bool.and_eq_true, Bool.or_eq_true, decide_eq_true_eq, decide_eq_false_iff_not, reduceCtorEq, true_iff, iff_true, false_iff, iff_false]; omega))))
      · refine round_end (k+1) ⟨by omega, ?_⟩ (by omega) (by (refine xwk (π := []) (by decide) rfl ?_ ?_; (first | exact trivial); repeat' (first | exact renE_n | ((with_reducible apply renE_c); exact rfl; focus (first | (simp -implicitDefEqProofs only [go_sem, Int.reduceEq, Int.reduceLT, Int.reduceLE, Nat.reduceAdd, Nat.reduceSub, Nat.reduceMul, Nat.reduceEqDiff, Nat.reduceLeDiff, Nat.reducePow, ↓reduceIte, reduceCtorEq]; done))))))
        intro j hj h; by_cases h' : j = k
        · subst h'; exact hc
        · exact hp j hj (by omega)
    · have hall := all_tt (p := validLine) (xs := ls) fun j h => hp j h (by omega)
      repeat' (first | ((with_reducible apply xsim); (first | ((with_reducible apply xlenM); exact rfl; exact rfl) | ((with_reducible apply xo); exact rfl) | with_reducible apply xend | ((with_reducible apply xcallIs); exact rfl; exact rfl; exact c_inRange _ _ _; exact rfl))) | ((with_reducible apply xaw); (first | ((with_reducible apply xstepS); refine AW.step tok rfl ?_) | with_reducible (first | refine AW.seq ?_ | refine AW.ret ?_ | refine AW.exit ?_) | ((with_reducible apply xcond); exact rfl))) | with_reducible (first | refine xthen ?_ | refine xthen_e ?_ | refine xblock_e ?_ | refine xround_e ?_) | (with_reducible intro hc; (try simp only [decide_eq_true_eq, decide_eq_false_iff_not, Bool.not_true, Bool.not_false, Bool.not_eq_true', Bool.not_eq_false', ne_eq, not_true, reduceCtorEq, List.length_map] at hc); (try (exfalso; omega))) | with_reducible (first | exact trivial | refine And.intro ?_ ?_ | exact rfl))
      (refine xfinIs (by first | exact .inl rfl | exact .inr rfl) rfl (by repeat' (first | exact trivial | exact rfl | refine And.intro ?_ ?_)) rfl ?_ rfl; first | (simp -implicitDefEqProofs only [go_sem, Int.reduceEq, Int.reduceLT, Int.reduceLE, Nat.reduceAdd, Nat.reduceSub, Nat.reduceMul, Nat.reduceEqDiff, Nat.reduceLeDiff, Nat.reducePow, ↓reduceIte, reduceCtorEq, linesOk, hall, Bool.and_true] <;> (first | rfl | omega | exact decide_eq_decide.2 (by omega) | exact decide_eq_false (by omega) | exact decide_eq_true (by omega) | (symm; first | exact decide_eq_false (by omega) | exact decide_eq_true (by omega)) | (rw [Bool.eq_iff_iff]; simp only [Bool.not_eq_true', Bool.not_eq_false', Bool.and_eq_true, Bool.or_eq_true, decide_eq_true_eq, decide_eq_false_iff_not, reduceCtorEq, true_iff, iff_true, false_iff, iff_false]; omega))))

end Go.Proofs.Yticgjepndfjafaa

namespace Go.Proofs.Yticgjepndfjafaa
open Go.Fw
attribute [local irreducible] Go.Fw.aops Go.Fw.arun

structure Pack where
  w : Int
  h : Int
  side : Int
  fillX : Bool
  fillY : Bool
  expand : Bool
  anchor : Int
  padX : Int
  padY : Int

@[go_sem] def encPack (p : Pack) : List D := [.int .i64 p.w, .int .i64 p.h, .int .i64 p.side, .bool p.fillX, .bool p.fillY, .bool p.expand, .int .i64 p.anchor, .int .i64 p.padX, .int .i64 p.padY]
@[go_sem] def vPack (p : Pack) : V := .agg ((encPack p).map .d)

def validPack (p : Pack) : Bool := decide (0 ≤ p.w ∧ p.w ≤ 30 ∧ 0 ≤ p.h ∧ p.h ≤ 30 ∧ 0 ≤ p.side ∧ p.side ≤ 3 ∧ 0 ≤ p.anchor ∧ p.anchor ≤ 8 ∧ 0 ≤ p.padX ∧ p.padX ≤ 10 ∧ 0 ≤ p.padY ∧ p.padY ≤ 10)

theorem validPack_iff {p : Pack} : validPack p = true ↔ (0 ≤ p.w ∧ p.w ≤ 30 ∧ 0 ≤ p.h ∧ p.h ≤ 30 ∧ 0 ≤ p.side ∧ p.side ≤ 3 ∧ 0 ≤ p.anchor ∧ p.anchor ≤ 8 ∧ 0 ≤ p.padX ∧ p.padX ≤ 10 ∧ 0 ≤ p.padY ∧ p.padY ≤ 10) := by
  simp [validPack]

/-- An item whose size may be greater. -/
def packB (p : Pack) : Bool := decide (0 ≤ p.w ∧ p.w ≤ 4076 ∧ 0 ≤ p.h ∧ p.h ≤ 4076 ∧ 0 ≤ p.side ∧ p.side ≤ 3 ∧ 0 ≤ p.anchor ∧ p.anchor ≤ 8 ∧ 0 ≤ p.padX ∧ p.padX ≤ 10 ∧ 0 ≤ p.padY ∧ p.padY ≤ 10)
theorem packB_iff {p : Pack} : packB p = true ↔ (0 ≤ p.w ∧ p.w ≤ 4076 ∧ 0 ≤ p.h ∧ p.h ≤ 4076 ∧ 0 ≤ p.side ∧ p.side ≤ 3 ∧ 0 ≤ p.anchor ∧ p.anchor ≤ 8 ∧ 0 ≤ p.padX ∧ p.padX ≤ 10 ∧ 0 ≤ p.padY ∧ p.padY ≤ 10) := by
  simp [packB]

theorem c_ValidPack (p : Pack) : ACon Try.prog 85 [vPack p] [] (Is (.d (.bool (validPack p)))) := by
  refine ACon.introW tok (nt := 31) Try.func85 rfl rfl rfl (by kernel_rfl) rfl ?_
  repeat' (first | ((with_reducible apply xsim); (first | ((with_reducible apply xo); exact rfl) | with_reducible apply xend | ((with_reducible apply xguardS); exact rfl; exact rfl) | ((with_reducible apply xbox); exact rfl; simp only [backV, backVs, backVs_mapd, backId, backO, List.map_cons, List.map_nil, List.getElem?_nil, List.length_cons, List.length_nil, Nat.reduceAdd, Nat.reduceSub, List.cons_append, List.nil_append, List.append_nil]) | ((with_reducible apply xcallIs); exact rfl; exact rfl; exact c_within _ _ _; exact rfl))) | ((with_reducible apply xaw); (first | ((with_reducible apply xstepS); refine AW.step tok rfl ?_) | with_reducible refine AW.ret ?_)) | (with_reducible intro hc; (try simp only [decide_eq_true_eq, decide_eq_false_iff_not, Bool.not_true, Bool.not_false, Bool.not_eq_true', Bool.not_eq_false', ne_eq, not_true, reduceCtorEq] at hc); (try (exfalso; omega))) | with_reducible exact trivial)
  all_goals (refine xfinIs (by first | exact .inl rfl | exact .inr rfl) rfl (by repeat' (first | exact trivial | exact rfl | refine And.intro ?_ ?_)) rfl ?_ rfl; first | (simp -implicitDefEqProofs only [go_sem, Int.reduceEq, Int.reduceLT, Int.reduceLE, Nat.reduceAdd, Nat.reduceSub, Nat.reduceMul, Nat.reduceEqDiff, Nat.reduceLeDiff, Nat.reducePow, ↓reduceIte, reduceCtorEq, validPack] <;> (first | rfl | omega | exact decide_eq_decide.2 (by omega) | exact decide_eq_false (by omega) | exact decide_eq_true (by omega) | (symm; first | exact decide_eq_false (by omega) | exact decide_eq_true (by omega)) | (rw [Bool.eq_iff_iff]; simp only [Bool.not_eq_true', Bool.not_eq_false', Bool.and_eq_true, Bool.or_eq_true, decide_eq_true_eq, decide_eq_false_iff_not, reduceCtorEq, true_iff, iff_true, false_iff, iff_false]; omega))))

def down (p : Pack) : Bool := decide (p.side = 0 ∨ p.side = 1)
def needW (p : Pack) : Int := p.w + 2 * p.padX
def needH (p : Pack) : Int := p.h + 2 * p.padY
def need (p : Pack) (d : Bool) : Int := if d then needH p else needW p

theorem c_down (p : Pack) : ACon Try.prog 116 [vPack p] [] (Is (.d (.bool (down p)))) := by
  refine ACon.introW tok (nt := 11) Try.func116 rfl rfl rfl (by kernel_rfl) rfl ?_
  repeat' (first | ((with_reducible apply xsim); (first | ((with_reducible apply xo); exact rfl) | with_reducible apply xend | ((with_reducible apply xguardS); exact rfl; exact rfl) | ((with_reducible apply xbox); exact rfl; simp only [backV, backVs, backVs_mapd, backId, backO, List.map_cons, List.map_nil, List.getElem?_nil, List.length_cons, List.length_nil, Nat.reduceAdd, Nat.reduceSub, List.cons_append, List.nil_append, List.append_nil]))) | ((with_reducible apply xaw); (first | ((with_reducible apply xstepS); refine AW.step tok rfl ?_) | with_reducible refine AW.ret ?_)) | (with_reducible intro hc; (try simp only [decide_eq_true_eq, decide_eq_false_iff_not, Bool.not_true, Bool.not_false, Bool.not_eq_true', Bool.not_eq_false', ne_eq, not_true, reduceCtorEq] at hc); (try (exfalso; omega))) | with_reducible (first | exact trivial | refine And.intro ?_ ?_ | exact rfl))
  all_goals (refine xfinIs (by first | exact .inl rfl | exact .inr rfl) rfl (by repeat' (first | exact trivial | exact rfl | refine And.intro ?_ ?_)) rfl ?_ rfl; first | (simp -implicitDefEqProofs only [go_sem, Int.reduceEq, Int.reduceLT, Int.reduceLE, Nat.reduceAdd, Nat.reduceSub, Nat.reduceMul, Nat.reduceEqDiff, Nat.reduceLeDiff, Nat.reducePow, ↓reduceIte, reduceCtorEq, down] <;> (first | rfl | omega | exact decide_eq_decide.2 (by omega) | exact decide_eq_false (by omega) | exact decide_eq_true (by omega) | (symm; first | exact decide_eq_false (by omega) | exact decide_eq_true (by omega)) | (rw [Bool.eq_iff_iff]; simp only [Bool.not_eq_true', Bool.not_eq_false', Bool.and_eq_true, Bool.or_eq_true, decide_eq_true_eq, decide_eq_false_iff_not, reduceCtorEq, true_iff, iff_true, false_iff, iff_false]; omega))))

theorem c_upright (n : Int) : ACon Try.prog 121 [.d (.int .i64 n)] [] (Is (.d (.bool (decide (n = 0 ∨ n = 1))))) := by
  refine ACon.introW tok (nt := 9) Try.func121 rfl rfl rfl (by kernel_rfl) rfl ?_
  repeat' (first | ((with_reducible apply xsim); (first | ((with_reducible apply xo); exact rfl) | with_reducible apply xend | ((with_reducible apply xguardS); exact rfl; exact rfl))) | ((with_reducible apply xaw); (first | ((with_reducible apply xstepS); refine AW.step tok rfl ?_) | with_reducible refine AW.ret ?_)) | (with_reducible intro hc; (try simp only [decide_eq_true_eq, decide_eq_false_iff_not, Bool.not_true, Bool.not_false, Bool.not_eq_true', Bool.not_eq_false', ne_eq, not_true, reduceCtorEq] at hc); (try (exfalso; omega))) | with_reducible (first | exact trivial | refine And.intro ?_ ?_ | exact rfl))
  all_goals (refine xfinIs (by first | exact .inl rfl | exact .inr rfl) rfl (by repeat' (first | exact trivial | exact rfl | refine And.intro ?_ ?_)) rfl ?_ rfl; first | (simp -implicitDefEqProofs only [go_sem, Int.reduceEq, Int.reduceLT, Int.reduceLE, Nat.reduceAdd, Nat.reduceSub, Nat.reduceMul, Nat.reduceEqDiff, Nat.reduceLeDiff, Nat.reducePow, ↓reduceIte, reduceCtorEq] <;> (first | rfl | omega | exact decide_eq_decide.2 (by omega) | exact decide_eq_false (by omega) | exact decide_eq_true (by omega) | (symm; first | exact decide_eq_false (by omega) | exact decide_eq_true (by omega)) | (rw [Bool.eq_iff_iff]; simp only [Bool.not_eq_true', Bool.not_eq_false', Bool.and_eq_true, Bool.or_eq_true, decide_eq_true_eq, decide_eq_false_iff_not, reduceCtorEq, true_iff, iff_true, false_iff, iff_false]; omega))))

theorem c_needs (p : Pack) (hp : packB p = true) : ACon Try.prog 115 [vPack p] [] (Is (.tup [.d (.int .i64 (needW p)), .d (.int .i64 (needH p))])) := by
  have hv := packB_iff.1 hp
  refine ACon.introW tok (nt := 16) Try.func115 rfl rfl rfl (by kernel_rfl) rfl ?_
  repeat' (first | ((with_reducible apply xsim); (first | ((with_reducible apply xo); exact rfl) | with_reducible apply xend | ((with_reducible apply xbox); exact rfl; simp only [backV, backVs, backVs_mapd, backId, backO, List.map_cons, List.map_nil, List.getElem?_nil, List.length_cons, List.length_nil, Nat.reduceAdd, Nat.reduceSub, List.cons_append, List.nil_append, List.append_nil]))) | ((with_reducible apply xaw); (first | ((with_reducible apply xstepS); refine AW.step tok rfl ?_) | with_reducible (first | refine AW.seq ?_ | refine AW.ret ?_) | ((with_reducible apply xdraw (id := 1)); refine AW.draw (id := 1) (.q 0 (.q 1 (.q 2 (.q 3 (.q 4 (.q 5 (.q 6 (.q 7 (.q 8 (.q 9 (.q 10 (.q 11 (.q 12 (.q 13 (.fin))))))))))))))) tok (by kernel_rfl) rfl (by kernel_rfl) ?_))) | ((with_reducible apply xarun); (first | ((with_reducible apply xrun_q); exact rfl; exact rfl; exact rfl) | with_reducible apply xrun_f)) | with_reducible refine xthen ?_ | with_reducible (first | exact trivial | refine And.intro ?_ ?_ | exact rfl) | (refine inR_i64.mpr ?_; first | omega | (simp only [List.length_map]; omega)))
  all_goals (refine xfinIs (by first | exact .inl rfl | exact .inr rfl) rfl (by repeat' (first | exact trivial | exact rfl | refine And.intro ?_ ?_)) rfl ?_ rfl; first | (simp -implicitDefEqProofs only [go_sem, Int.reduceEq, Int.reduceLT, Int.reduceLE, Nat.reduceAdd, Nat.reduceSub, Nat.reduceMul, Nat.reduceEqDiff, Nat.reduceLeDiff, Nat.reducePow, ↓reduceIte, reduceCtorEq, needW, needH] <;> (first | rfl | omega | exact decide_eq_decide.2 (by omega) | exact decide_eq_false (by omega) | exact decide_eq_true (by omega) | (symm; first | exact decide_eq_false (by omega) | exact decide_eq_true (by omega)) | (rw [Bool.eq_iff_iff]; simp only [Bool.not_eq_true', Bool.not_eq_false', Bool.and_eq_true, Bool.or_eq_true, decide_eq_true_eq, decide_eq_false_iff_not, reduceCtorEq, true_iff, iff_true, false_iff, iff_false]; omega))))

theorem c_outer (p : Pack) (hp : packB p = true) : ACon Try.prog 120 [vPack p] [] (Is (.tup [.d (.int .i64 (needW p)), .d (.int .i64 (needH p))])) := by
  have hv := packB_iff.1 hp
  refine ACon.introW tok (nt := 16) Try.func120 rfl rfl rfl (by kernel_rfl) rfl ?_
  repeat' (first | ((with_reducible apply xsim); (first | ((with_reducible apply xo); exact rfl) | with_reducible apply xend | ((with_reducible apply xbox); exact rfl; simp only [backV, backVs, backVs_mapd, backId, backO, List.map_cons, List.map_nil, List.getElem?_nil, List.length_cons, List.length_nil, Nat.reduceAdd, Nat.reduceSub, List.cons_append, List.nil_append, List.append_nil]))) | ((with_reducible apply xaw); (first | ((with_reducible apply xstepS); refine AW.step tok rfl ?_) | with_reducible (first | refine AW.seq ?_ | refine AW.ret ?_) | ((with_reducible apply xdraw (id := 1)); refine AW.draw (id := 1) (.q 0 (.q 1 (.q 2 (.q 3 (.q 4 (.q 5 (.q 6 (.q 7 (.q 8 (.q 9 (.q 10 (.q 11 (.q 12 (.q 13 (.fin))))))))))))))) tok (by kernel_rfl) rfl (by kernel_rfl) ?_))) | ((with_reducible apply xarun); (first | ((with_reducible apply xrun_q); exact rfl; exact rfl; exact rfl) | with_reducible apply xrun_f)) | with_reducible refine xthen ?_ | with_reducible (first | exact trivial | refine And.intro ?_ ?_ | exact rfl) | (refine inR_i64.mpr ?_; first | omega | (simp only [List.length_map]; omega)))
  all_goals (refine xfinIs (by first | exact .inl rfl | exact .inr rfl) rfl (by repeat' (first | exact trivial | exact rfl | refine And.intro ?_ ?_)) rfl ?_ rfl; first | (simp -implicitDefEqProofs only [go_sem, Int.reduceEq, Int.reduceLT, Int.reduceLE, Nat.reduceAdd, Nat.reduceSub, Nat.reduceMul, Nat.reduceEqDiff, Nat.reduceLeDiff, Nat.reducePow, ↓reduceIte, reduceCtorEq, needW, needH] <;> (first | rfl | omega | exact decide_eq_decide.2 (by omega) | exact decide_eq_false (by omega) | exact decide_eq_true (by omega) | (symm; first | exact decide_eq_false (by omega) | exact decide_eq_true (by omega)) | (rw [Bool.eq_iff_iff]; simp only [Bool.not_eq_true', Bool.not_eq_false', Bool.and_eq_true, Bool.or_eq_true, decide_eq_true_eq, decide_eq_false_iff_not, reduceCtorEq, true_iff, iff_true, false_iff, iff_false]; omega))))

theorem all_at {xs : List Pack} (h : xs.all packB = true) {k : Nat} (hk : k < xs.length) : packB xs[k] = true := List.all_eq_true.1 h _ (List.getElem_mem hk)

theorem c_validSide (n : Int) : ACon Try.prog 136 [.d (.int .i64 n)] [] (Is (.d (.bool (decide (0 ≤ n ∧ n ≤ 3))))) := by
  refine ACon.introW tok (nt := 5) Try.func136 rfl rfl rfl (by kernel_rfl) rfl ?_
  repeat' (first | ((with_reducible apply xsim); (first | ((with_reducible apply xo); exact rfl) | with_reducible apply xend | ((with_reducible apply xcallIs); exact rfl; exact rfl; exact c_inRange _ _ _; exact rfl))) | ((with_reducible apply xaw); (first | ((with_reducible apply xstepS); refine AW.step tok rfl ?_) | with_reducible refine AW.ret ?_)) | with_reducible exact trivial)
  all_goals (refine xfinIs (by first | exact .inl rfl | exact .inr rfl) rfl (by repeat' (first | exact trivial | exact rfl | refine And.intro ?_ ?_)) rfl ?_ rfl; first | with_reducible exact rfl)

theorem c_validAnchor (n : Int) : ACon Try.prog 137 [.d (.int .i64 n)] [] (Is (.d (.bool (decide (0 ≤ n ∧ n ≤ 8))))) := by
  refine ACon.introW tok (nt := 5) Try.func137 rfl rfl rfl (by kernel_rfl) rfl ?_
  repeat' (first | ((with_reducible apply xsim); (first | ((with_reducible apply xo); exact rfl) | with_reducible apply xend | ((with_reducible apply xcallIs); exact rfl; exact rfl; exact c_inRange _ _ _; exact rfl))) | ((with_reducible apply xaw); (first | ((with_reducible apply xstepS); refine AW.step tok rfl ?_) | with_reducible refine AW.ret ?_)) | with_reducible exact trivial)
  all_goals (refine xfinIs (by first | exact .inl rfl | exact .inr rfl) rfl (by repeat' (first | exact trivial | exact rfl | refine And.intro ?_ ?_)) rfl ?_ rfl; first | with_reducible exact rfl)

theorem c_validPack (p : Pack) : ACon Try.prog 111 [vPack p] [] (Is (.d (.bool (validPack p)))) := by
  refine ACon.introW tok (nt := 31) Try.func111 rfl rfl rfl (by kernel_rfl) rfl ?_
  repeat' (first | ((with_reducible apply xsim); (first | ((with_reducible apply xo); exact rfl) | with_reducible apply xend | ((with_reducible apply xguardS); exact rfl; exact rfl) | ((with_reducible apply xbox); exact rfl; simp only [backV, backVs, backVs_mapd, backId, backO, List.map_cons, List.map_nil, List.getElem?_nil, List.length_cons, List.length_nil, Nat.reduceAdd, Nat.reduceSub, List.cons_append, List.nil_append, List.append_nil]) | ((with_reducible apply xcallIs); exact rfl; exact rfl; (first | exact c_inRange _ _ _ | exact c_validSide _ | exact c_validAnchor _); exact rfl))) | ((with_reducible apply xaw); (first | ((with_reducible apply xstepS); refine AW.step tok rfl ?_) | with_reducible refine AW.ret ?_)) | (with_reducible intro hc; (try simp only [decide_eq_true_eq, decide_eq_false_iff_not, Bool.not_true, Bool.not_false, Bool.not_eq_true', Bool.not_eq_false', ne_eq, not_true, reduceCtorEq] at hc); (try (exfalso; omega))) | with_reducible exact trivial)
  all_goals (refine xfinIs (by first | exact .inl rfl | exact .inr rfl) rfl (by repeat' (first | exact trivial | exact rfl | refine And.intro ?_ ?_)) rfl ?_ rfl; first | (simp -implicitDefEqProofs only [go_sem, Int.reduceEq, Int.reduceLT, Int.reduceLE, Nat.reduceAdd, Nat.reduceSub, Nat.reduceMul, Nat.reduceEqDiff, Nat.reduceLeDiff, Nat.reducePow, ↓reduceIte, reduceCtorEq, validPack] <;> (first | rfl | omega | exact decide_eq_decide.2 (by omega) | exact decide_eq_false (by omega) | exact decide_eq_true (by omega) | (symm; first | exact decide_eq_false (by omega) | exact decide_eq_true (by omega)) | (rw [Bool.eq_iff_iff]; simp only [Bool.not_eq_true', Bool.not_eq_false', Bool.and_eq_true, Bool.or_eq_true, decide_eq_true_eq, decide_eq_false_iff_not, reduceCtorEq, true_iff, iff_true, false_iff, iff_false]; omega))))

end Go.Proofs.Yticgjepndfjafaa

namespace Go.Proofs.Yticgjepndfjafaa
open Go.Fw

structure Place where
  x : Int
  y : Int
  relX : Int
  relY : Int
  w : Int
  h : Int
  relW : Int
  relH : Int
  anchor : Int
@[go_sem] def encPlace (p : Place) : List D := [.int .i64 p.x, .int .i64 p.y, .int .i64 p.relX, .int .i64 p.relY, .int .i64 p.w, .int .i64 p.h, .int .i64 p.relW, .int .i64 p.relH, .int .i64 p.anchor]
@[go_sem] def vPlace (p : Place) : V := .agg ((encPlace p).map .d)
structure Node where
  parent : Int
  w : Int
  h : Int
  keep : Bool
  kind : Int
  cols : List Line
  rows : List Line
  pack : Pack
  cell : Cell
  place : Place
@[go_sem] def encNode (n : Node) : List D := .int .i64 n.parent :: .int .i64 n.w :: .int .i64 n.h :: .bool n.keep :: .int .i64 n.kind :: .lst (n.cols.map encLine) :: .lst (n.rows.map encLine) :: [
  .int .i64 n.pack.w, .int .i64 n.pack.h, .int .i64 n.pack.side, .bool n.pack.fillX, .bool n.pack.fillY, .bool n.pack.expand, .int .i64 n.pack.anchor, .int .i64 n.pack.padX, .int .i64 n.pack.padY,
  .int .i64 n.cell.col, .int .i64 n.cell.row, .int .i64 n.cell.manyCols, .int .i64 n.cell.manyRows, .int .i64 n.cell.w, .int .i64 n.cell.h, .int .i64 n.cell.stick, .int .i64 n.cell.padX, .int .i64 n.cell.padY,
  .int .i64 n.place.x, .int .i64 n.place.y, .int .i64 n.place.relX, .int .i64 n.place.relY, .int .i64 n.place.w, .int .i64 n.place.h, .int .i64 n.place.relW, .int .i64 n.place.relH, .int .i64 n.place.anchor]
@[go_sem] def vNode (n : Node) : V := .agg ((encNode n).map .d)
@[go_sem] def encTree (t : List Node) : List D := [.lst (t.map encNode)]
@[go_sem] def vTree (t : List Node) : V := .agg ((encTree t).map .d)

def validPlace (p : Place) : Bool := decide (-300 ≤ p.x ∧ p.x ≤ 300 ∧ -300 ≤ p.y ∧ p.y ≤ 300 ∧ 0 ≤ p.relX ∧ p.relX ≤ 1000 ∧ 0 ≤ p.relY ∧ p.relY ≤ 1000 ∧ -300 ≤ p.w ∧ p.w ≤ 300 ∧ -300 ≤ p.h ∧ p.h ≤ 300 ∧ 0 ≤ p.relW ∧ p.relW ≤ 1000 ∧ 0 ≤ p.relH ∧ p.relH ≤ 1000 ∧ 0 ≤ p.anchor ∧ p.anchor ≤ 8)
/-- A node by itself. -/
def nodeOk (n : Node) : Bool := decide (0 ≤ n.w ∧ n.w ≤ 30 ∧ 0 ≤ n.h ∧ n.h ≤ 30 ∧ 0 ≤ n.kind ∧ n.kind ≤ 2) && validPack n.pack && decide (n.pack.w = 0 ∧ n.pack.h = 0) && validPlace n.place && decide (n.cell.w = 0 ∧ n.cell.h = 0) &&
  if n.kind = 1 then linesOk n.cols && linesOk n.rows else decide (n.cols.length = 0 ∧ n.rows.length = 0)
/-- A node and its parent. -/
def upOk (t : List Node) (i : Nat) (n : Node) : Bool :=
  if i = 0 then decide (n.parent = -1)
  else decide (0 ≤ n.parent ∧ n.parent ≤ (i : Int) - 1) && match t[n.parent.toNat]? with
    | some u => if u.kind = 1 then lies n.cell u.cols.length u.rows.length else true
    | none => true
def treeOk (t : List Node) : Bool := decide (1 ≤ t.length ∧ t.length ≤ 10) && (List.range t.length).all fun i => match t[i]? with
  | some n => nodeOk n && upOk t i n
  | none => true
end Go.Proofs.Yticgjepndfjafaa

namespace Go.Proofs.Yticgjepndfjafaa
open Go.Fw
attribute [local irreducible] Go.Fw.aops Go.Fw.arun

theorem tmod_bd {a m : Int} (ha : 0 ≤ a) (hm : 0 < m) : 0 ≤ a.tmod m ∧ a.tmod m < m := ⟨Int.tmod_nonneg m ha, Int.tmod_lt_of_pos a hm⟩
theorem tdiv_bd {a m : Int} (ha : 0 ≤ a) (hm : 0 < m) : 0 ≤ a.tdiv m ∧ a.tdiv m ≤ a := ⟨Int.tdiv_nonneg ha (Int.le_of_lt hm), Int.tdiv_le_self _ ha⟩

theorem xor_bd {a b : Int} (ha : 0 ≤ a ∧ a < 2^60) (hb : 0 ≤ b ∧ b < 2^60) : 0 ≤ ibits .xor .i64 a b := by
  obtain ⟨m, rfl⟩ := Int.eq_ofNat_of_zero_le ha.1
  obtain ⟨n, rfl⟩ := Int.eq_ofNat_of_zero_le hb.1
  have hm : m < 2^60 := by omega
  have hn : n < 2^60 := by omega
  have hx := Nat.xor_lt_two_pow hm hn
  have e : ((BitVec.ofInt 64 (m : Int)) ^^^ (BitVec.ofInt 64 (n : Int))).toNat = m ^^^ n := by
    rw [BitVec.toNat_xor]
    simp only [BitVec.ofInt_natCast, BitVec.toNat_ofNat]
    rw [Nat.mod_eq_of_lt (by omega), Nat.mod_eq_of_lt (by omega)]
  have hr : inR .i64 ((m ^^^ n : Nat) : Int) := inR_i64.mpr (by omega)
  show 0 ≤ IntKind.i64.wrap (((BitVec.ofInt 64 (m : Int)) ^^^ (BitVec.ofInt 64 (n : Int))).toNat : Int)
  rw [e]
  rw [show IntKind.i64.wrap ((m ^^^ n : Nat) : Int) = ((m ^^^ n : Nat) : Int) from hr]
  omega

theorem c_newReader (xs : List Byte) (hl : xs.length < 2^63) : ACon Try.prog 53 [.d (.lst (xs.map encByte))] [] (Own (.oref 0 0) [.box [.d (.lst ((xs.take 2000).map encByte)), .d (.int .i64 0)]]) := by
  refine ACon.introW tok (nt := 11) Try.func53 rfl rfl rfl (by kernel_rfl) rfl ?_
  repeat' (first | ((with_reducible apply xsim); (first | ((with_reducible apply xlenM); exact rfl; exact rfl) | ((with_reducible apply xo); exact rfl) | with_reducible apply xend | ((with_reducible apply xbox); exact rfl; simp only [backV, backVs, backVs_mapd, backId, backO, List.map_cons, List.map_nil, List.getElem?_nil, List.length_cons, List.length_nil, Nat.reduceAdd, Nat.reduceSub, List.cons_append, List.nil_append, List.append_nil]) | ((with_reducible apply xslcHi); exact rfl; exact rfl; exact rfl; exact (fun r hr => by obtain ⟨a, _, rfl⟩ := List.mem_map.1 hr; rfl); first | omega | (simp only [List.length_cons, List.length_nil]; omega)))) | ((with_reducible apply xaw); (first | ((with_reducible apply xstepS); refine AW.step tok rfl ?_) | ((with_reducible apply xstep); refine AW.region tok rfl ?_) | with_reducible (first | refine AW.seq ?_ | refine AW.skip ?_ | refine AW.ret ?_) | ((with_reducible apply xcond); exact rfl))) | with_reducible refine xthen ?_ | (with_reducible intro hc; (try simp only [decide_eq_true_eq, decide_eq_false_iff_not, Bool.not_true, Bool.not_false, Bool.not_eq_true', Bool.not_eq_false', ne_eq, not_true, reduceCtorEq] at hc); (try (exfalso; omega))) | with_reducible (first | exact trivial | refine And.intro ?_ ?_ | exact rfl))
  · (refine xfinOwn [0] (by first | exact .inl rfl | exact .inr rfl) rfl (by repeat' (first | exact trivial | exact rfl | refine And.intro ?_ ?_)) (by decide) rfl ?_ ?_ <;> simp -implicitDefEqProofs only [go_sem, Int.reduceEq, Int.reduceLT, Int.reduceLE, Nat.reduceAdd, Nat.reduceSub, Nat.reduceMul, Nat.reduceEqDiff, Nat.reduceLeDiff, Nat.reducePow, ↓reduceIte, reduceCtorEq, Int.reduceToNat])
  · rw [List.take_of_length_le (by omega)]
    (refine xfinOwn [0] (by first | exact .inl rfl | exact .inr rfl) rfl (by repeat' (first | exact trivial | exact rfl | refine And.intro ?_ ?_)) (by decide) rfl ?_ ?_ <;> simp -implicitDefEqProofs only [go_sem, Int.reduceEq, Int.reduceLT, Int.reduceLE, Nat.reduceAdd, Nat.reduceSub, Nat.reduceMul, Nat.reduceEqDiff, Nat.reduceLeDiff, Nat.reducePow, ↓reduceIte, reduceCtorEq])

/-- A number that is drawn below n. -/
def Below (n : Int) (r : V) : Prop := ∃ v, r = .d (.int .i64 v) ∧ 0 ≤ v ∧ (1 ≤ n → v < n) ∧ (n < 1 → v = 0)

theorem c_pick (bs : List Byte) (p n : Int) (hb : bs.length ≤ 2000) (hp : 0 ≤ p ∧ p < 2^40) (hn : n < 2^40) :
    ACon Try.prog 79 [.oref 0 0, .d (.int .i64 n)] [.box [.d (.lst (bs.map encByte)), .d (.int .i64 p)]] (Rd (.lst (bs.map encByte)) (p + 1) (p + 1) (Below n)) := by
  by_cases h1 : n < 1
  · refine ACon.introW tok (nt := 99) Try.func79 rfl rfl rfl (by kernel_rfl) rfl ?_
    repeat' (first | ((with_reducible apply xsim); (first | ((with_reducible apply xo); exact rfl) | ((with_reducible apply xst); exact rfl) | with_reducible apply xend | ((with_reducible apply xguardS); exact rfl; exact rfl))) | ((with_reducible apply xaw); (first | ((with_reducible apply xstepS); refine AW.step tok rfl ?_) | with_reducible (first | refine AW.seq ?_ | refine AW.ret ?_) | ((with_reducible apply xcond); exact rfl))) | with_reducible refine xthen_r ?_ | (with_reducible intro hc; (try simp only [decide_eq_true_eq, decide_eq_false_iff_not, Bool.not_true, Bool.not_false, Bool.not_eq_true', Bool.not_eq_false', ne_eq, not_true, reduceCtorEq] at hc); (try (exfalso; omega))) | with_reducible (first | exact trivial | refine And.intro ?_ ?_ | exact rfl) | exact Eq.refl true | (refine inR_i64.mpr ?_; first | omega | (simp only [List.length_map]; omega)))
    exact xfinRd (.inr rfl) rfl trivial rfl (by omega) (by omega) ⟨0, rfl, by omega, by omega, by omega⟩
  by_cases h0 : bs.length = 0
  · refine ACon.introW tok (nt := 99) Try.func79 rfl rfl rfl (by kernel_rfl) rfl ?_
    repeat' (first | ((with_reducible apply xsim); (first | ((with_reducible apply xlenM); exact rfl; exact rfl) | ((with_reducible apply xo); exact rfl) | ((with_reducible apply xst); exact rfl) | with_reducible apply xend | ((with_reducible apply xguardS); exact rfl; exact rfl))) | ((with_reducible apply xaw); (first | ((with_reducible apply xstepS); refine AW.step tok rfl ?_) | with_reducible (first | refine AW.seq ?_ | refine AW.ret ?_) | ((with_reducible apply xcond); exact rfl))) | with_reducible refine xthen_r ?_ | (with_reducible intro hc; (try simp only [decide_eq_true_eq, decide_eq_false_iff_not, Bool.not_true, Bool.not_false, Bool.not_eq_true', Bool.not_eq_false', ne_eq, not_true, reduceCtorEq] at hc); (try (exfalso; omega))) | with_reducible (first | exact trivial | refine And.intro ?_ ?_ | exact rfl) | exact Eq.refl true | (refine inR_i64.mpr ?_; first | omega | (simp only [List.length_map]; omega)))
    all_goals exact xfinRd (.inr rfl) rfl trivial rfl (by omega) (by omega) ⟨0, rfl, by omega, by omega, by omega⟩
  have hpos : (0 : Int) < bs.length := by omega
  have m1 := tmod_bd (a := p + 1 - 1) (by omega) hpos
  have m2 := tmod_bd (a := (p + 1 - 1) * 7 + 3) (by omega) hpos
  have b1 := (bs[((p + 1 - 1).tmod bs.length).toNat]'(by omega)).h
  have b2 := (bs[(((p + 1 - 1) * 7 + 3).tmod bs.length).toNat]'(by omega)).h
  have d1 := tdiv_bd (a := p + 1 - 1) (by omega) hpos
  by_cases h2 : p + 1 - 1 < bs.length
  · have b3 := (bs[(p + 1 - 1).toNat]'(by omega)).h
    have m3 := tmod_bd (m := n) b3.1 (by omega)
    refine ACon.introW tok (nt := 99) Try.func79 rfl rfl rfl (by kernel_rfl) rfl ?_
    repeat' (first | ((with_reducible apply xsim); (first | ((with_reducible apply xlenM); exact rfl; exact rfl) | ((with_reducible apply xo); exact rfl) | ((with_reducible apply xst); exact rfl) | with_reducible apply xend | ((with_reducible apply xguardS); exact rfl; exact rfl) | ((with_reducible apply xidxL); exact rfl; exact rfl; exact rfl; (first | exact (atI (by omega))); omega; first | exact rfl | simp only [hsz]))) | ((with_reducible apply xaw); (first | ((with_reducible apply xstepS); refine AW.step tok rfl ?_) | with_reducible (first | refine AW.seq ?_ | refine AW.skip ?_ | refine AW.ret ?_) | ((with_reducible apply xcond); exact rfl))) | with_reducible (first | refine xthen ?_ | refine xthen_r ?_) | (with_reducible intro hc; (try simp only [decide_eq_true_eq, decide_eq_false_iff_not, Bool.not_true, Bool.not_false, Bool.not_eq_true', Bool.not_eq_false', ne_eq, not_true, reduceCtorEq] at hc); (try (exfalso; omega))) | with_reducible (first | exact trivial | refine And.intro ?_ ?_ | exact rfl) | exact Eq.refl true | (refine inR_i64.mpr ?_; first | omega | (simp only [List.length_map]; omega)) | omega)
    all_goals exact xfinRd (.inr rfl) rfl trivial rfl (by omega) (by omega) ⟨_, rfl, m3.1, fun _ => m3.2, by omega⟩
  · have d2 := tdiv_bd (a := (bs[((p + 1 - 1).tmod bs.length).toNat]'(by omega)).v * 131 + (bs[(((p + 1 - 1) * 7 + 3).tmod bs.length).toNat]'(by omega)).v * 1117 + (p + 1 - 1) * 29 + (p + 1 - 1).tdiv bs.length * 53) (m := 64) (by omega) (by omega)
    have x1 := xor_bd (a := (bs[((p + 1 - 1).tmod bs.length).toNat]'(by omega)).v * 131 + (bs[(((p + 1 - 1) * 7 + 3).tmod bs.length).toNat]'(by omega)).v * 1117 + (p + 1 - 1) * 29 + (p + 1 - 1).tdiv bs.length * 53) (b := ((bs[((p + 1 - 1).tmod bs.length).toNat]'(by omega)).v * 131 + (bs[(((p + 1 - 1) * 7 + 3).tmod bs.length).toNat]'(by omega)).v * 1117 + (p + 1 - 1) * 29 + (p + 1 - 1).tdiv bs.length * 53).tdiv 64) (by omega) (by omega)
    have m3 := tmod_bd (m := n) x1 (by omega)
    refine ACon.introW tok (nt := 99) Try.func79 rfl rfl rfl (by kernel_rfl) rfl ?_
    repeat' (first | ((with_reducible apply xsim); (first | ((with_reducible apply xlenM); exact rfl; exact rfl) | ((with_reducible apply xo); exact rfl) | ((with_reducible apply xst); exact rfl) | with_reducible apply xend | ((with_reducible apply xguardS); exact rfl; exact rfl) | ((with_reducible apply xidxL); exact rfl; exact rfl; exact rfl; (first | exact (atI (by omega))); omega; first | exact rfl | simp only [hsz]))) | ((with_reducible apply xaw); (first | ((with_reducible apply xstepS); refine AW.step tok rfl ?_) | with_reducible (first | refine AW.seq ?_ | refine AW.skip ?_ | refine AW.ret ?_) | ((with_reducible apply xcond); exact rfl) | ((with_reducible apply xdraw (id := 7)); refine AW.draw (id := 7) (.q 0 (.q 1 (.q 2 (.q 3 (.q 4 (.q 5 (.q 6 (.q 7 (.q 8 (.q 9 (.q 10 (.q 11 (.q 12 (.q 13 (.q 14 (.q 15 (.q 16 (.q 17 (.q 18 (.q 19 (.q 20 (.q 21 (.q 22 (.q 23 (.q 24 (.q 25 (.q 26 (.q 27 (.q 28 (.q 29 (.q 30 (.q 31 (.q 32 (.q 33 (.q 34 (.q 35 (.q 36 (.q 37 (.q 38 (.q 39 (.q 40 (.q 41 (.q 42 (.q 43 (.q 44 (.q 45 (.fin))))))))))))))))))))))))))))))))))))))))))))))) tok (by kernel_rfl) rfl (by kernel_rfl) ?_))) | ((with_reducible apply xarun); (first | ((with_reducible apply xrun_q); exact rfl; exact rfl; exact rfl) | with_reducible apply xrun_f)) | with_reducible refine xthen ?_ | (with_reducible intro hc; (try simp only [decide_eq_true_eq, decide_eq_false_iff_not, Bool.not_true, Bool.not_false, Bool.not_eq_true', Bool.not_eq_false', ne_eq, not_true, reduceCtorEq] at hc); (try (exfalso; omega))) | with_reducible (first | exact trivial | refine And.intro ?_ ?_ | exact rfl) | exact Eq.refl true | (refine inR_i64.mpr ?_; first | omega | (simp only [List.length_map]; omega)) | omega)
    all_goals exact xfinRd (.inr rfl) rfl trivial rfl (by omega) (by omega) ⟨_, rfl, m3.1, fun _ => m3.2, by omega⟩

/-- One of the numbers. -/
def OneOf (zs : List Int) (r : V) : Prop := ∃ v, r = .d (.int .i64 v) ∧ v ∈ zs

theorem c_one {zs : List Int} {rows : List (List D)} {bs : List Byte} {p : Int} {len : Nat} (hz : unInts rows some none = some zs) (hlen : Nat.beq len zs.length = true) (hb : bs.length ≤ 2000) (hp : 0 ≤ p ∧ p < 2^40) (hn : Nat.ble 1 zs.length = true) (hs : Nat.ble zs.length 100 = true) :
    ACon Try.prog 61 [.oref 0 0, .msl 1 1 0 len] [.box [.d (.lst (bs.map encByte)), .d (.int .i64 p)], .arr 1 rows] (Rd2 (.lst (bs.map encByte)) (p + 1) (p + 1) (OneOf zs)) := by
  have hn := Nat.le_of_ble_eq_true hn
  have hs := Nat.le_of_ble_eq_true hs
  obtain rfl := Nat.eq_of_beq_eq_true hlen
  obtain rfl := unInts_some hz
  refine ACon.introW tok (nt := 12) Try.func61 rfl rfl rfl (by kernel_rfl) rfl ?_
  repeat' (first | ((with_reducible apply xsim); (first | ((with_reducible apply xo); exact rfl) | with_reducible apply xend | ((with_reducible apply xidxM); exact rfl; exact rfl; exact rfl; omega; omega; exact rfl) | ((with_reducible apply xldA); exact rfl; exact rfl; exact rfl; (first | exact (atI (by omega))); exact rfl) | ((with_reducible apply xcallRd); exact rfl; exact rfl; exact rfl; exact c_pick bs p zs.length hb hp (by omega); rintro _ p' _ _ ⟨v, rfl, h1, h2, h3⟩; (try simp only [List.set_cons_zero, List.set_cons_succ])))) | ((with_reducible apply xaw); (first | ((with_reducible apply xstepS); refine AW.step tok rfl ?_) | with_reducible refine AW.ret ?_)) | with_reducible exact trivial | exact Eq.refl true)
  exact xfinRd2 (.inr rfl) rfl trivial rfl (by omega) (by omega) ⟨_, rfl, List.getElem_mem _⟩

end Go.Proofs.Yticgjepndfjafaa

namespace Go.Fw

/-- A nil slice in a cell of an own box is taken for one of an own array without rows. -/
theorem Weak.ownBoxCell {s : St} (b sz : Nat) {cells : List V} (i : Nat) (hb : s.objs[b]? = some (.box cells)) (hi : cells[i]? = some .nils) : Weak s ⟨s.env, (s.objs ++ [O.arr sz []]).set b (.box (cells.set i (.msl s.objs.length sz 0 0))), s.n, s.fx⟩ := by
  refine ⟨fun x a w hC => ?_⟩
  obtain ⟨ok, ρ, hI, hF, hE, hn, hd, hx⟩ := hC
  obtain ⟨h1, h2, h3⟩ := step_new (w' := w) hI hF (Nat.le_refl _) (fun _ _ => rfl) rfl rfl rfl none (fun b hb => by cases hb)
    (o := O.arr sz []) ⟨fun r hr => (by cases hr), .inl ⟨rfl, (by rw [← hI.len]; simp)⟩⟩
  have hlt : b < s.objs.length := (List.getElem?_eq_some_iff.1 hb).1
  have hb' : (s.objs ++ [O.arr sz []])[b]? = some (.box cells) := by rw [List.getElem?_append_left hlt]; exact hb
  obtain ⟨blk, cs, t, r1, r2, r3, r4⟩ := h1.own _ _ hb'
  have hor : ORep w ok (ρ ++ [none]) b (.box (cells.set i (.msl s.objs.length sz 0 0))) := by
    refine ⟨blk, cs, t, r1, r2, by rw [List.length_set]; exact r3, fun j c hj => ?_⟩
    rw [List.getElem?_set] at hj
    split at hj
    · rename_i e
      subst e
      split at hj
      · obtain rfl : V.msl s.objs.length sz 0 0 = c := by simpa using hj
        have := r4 _ _ hi
        generalize Array.getD _ _ _ = u at this ⊢
        cases this
        exact .msl0 (by rw [List.length_append, hI.len]; simp)
      · simp at hj
    · exact r4 _ _ hj
  obtain ⟨g1, g2, g3⟩ := step_write (w' := w) h1 h2 hb' rfl r1 rfl (fun _ _ => rfl) rfl rfl rfl rfl hor rfl
  exact ⟨ok, ρ ++ [none], g1, g2, fun j => g3 _ _ (h3 _ _ (hE j)), hn, hd, hx⟩
end Go.Fw

namespace Go.Fw

/-- A reader's function that gives a struct of one new slice of rows. -/
def RdT {α : Type} (code : D) (lo hi : Int) (sz : Nat) (enc : α → List D) (Q : List α → Prop) : V → List O → Prop := fun r os =>
  ∃ (p : Int) (xs : List α), lo ≤ p ∧ p ≤ hi ∧ r = .agg [.msl 1 sz 0 xs.length] ∧ os = [.box [.d code, .d (.int .i64 p)], .arr sz (xs.map enc)] ∧ Q xs

section
variable {P : Program} {TT : Nat → Option TI} {ds : List (Option Nat)} {dst : Option Nat} {d : Nat} {ty : TypeId} {pos : String} {af : Array Edge} {os : List Oper} {env : List (Nat × V)} {objs : List O} {n fx : Nat} {K : St → Prop}
  {f : Operand} {args : Array Operand} {ts : Array TypeId} {g : Nat} {vs args' : List V}
theorem xcallRdT {α : Type} {i sz : Nat} {enc : α → List D} {code : D} {p lo hi : Int} {Q : List α → Prop} (h : callB env f args.toList = some (g, .oref i 0 :: vs)) (ho : objs[i]? = some (.box [.d code, .d (.int .i64 p)])) (ha : argVs objs [i] [] vs = some args')
    (hc : ACon P g (.oref 0 0 :: args') [.box [.d code, .d (.int .i64 p)]] (RdT code lo hi sz enc Q))
    (hk : ∀ p' xs, lo ≤ p' → p' ≤ hi → Q xs → aops TT P ds os ⟨(d, .agg [.msl objs.length sz 0 xs.length]) :: env, objs.set i (.box [.d code, .d (.int .i64 p')]) ++ [.arr sz (xs.map enc)], n, fx⟩ K) :
    aops TT P ds (⟨some d, .call { callee := .value f, args := args, argTypes := ts }, ty, pos, af, none⟩ :: os) ⟨env, objs, n, fx⟩ K := by
  refine xcall h (ACall.hand [i] (args' := .oref 0 0 :: args') (by simp [argVs, argV, idx, ha]) (by simp) (os0 := [.box [.d code, .d (.int .i64 p)]]) (os1 := [.box [.d code, .d (.int .i64 p)]]) (by simp [getO, ho]) rfl (by simp [O.live]) hc ?_)
  rintro r os' ⟨p', xs, h1, h2, rfl, rfl, hq⟩
  have := hk p' xs h1 h2 hq
  simpa [backs, backO, backVs, backV, backId, St.put] using this
end
theorem xfinRdT {α : Type} {TT : Nat → Option TI} {env : List (Nat × V)} {objs : List O} {n j : Nat} {res : List ResultVar} {sz len : Nat} {side : Prop} {e : Exit} {code : D} {p lo hi : Int} {enc : α → List D} {Q : List α → Prop} {xs : List α} (he : e = .normal ∨ e = .ret)
    (h : resB TT env objs res outB = .ok (.agg [.msl j sz 0 len]) side) (hs : side) (h0 : objs[0]? = some (.box [.d code, .d (.int .i64 p)])) (hj : objs[j]? = some (.arr sz (xs.map enc))) (hne : Nat.beq 0 j = false) (hl : len = xs.length) (h1 : lo ≤ p) (h2 : p ≤ hi) (hq : Q xs) :
    endW TT res (RdT code lo hi sz enc Q) e ⟨env, objs, n, 1⟩ := by
  have hne := Nat.ne_of_beq_eq_false hne
  subst hl
  exact xfinK he h hs ⟨[0, j], .agg [.msl 1 sz 0 xs.length], [.box [.d code, .d (.int .i64 p)], .arr sz (xs.map enc)], by simp [hne], rfl, ⟨.inr ⟨_, rfl, h0⟩, .inr ⟨_, rfl, hj⟩, trivial⟩, rfl, p, xs, h1, h2, rfl, rfl, hq⟩
end Go.Fw

namespace Go.Proofs.Yticgjepndfjafaa
open Go.Fw
attribute [local irreducible] Go.Fw.aops Go.Fw.arun

theorem c_AgoodLines (bs : List Byte) (p : Int) (hb : bs.length ≤ 2000) (hp : 0 ≤ p ∧ p < 2^29) :
    ACon Try.prog 105 [.oref 0 0] [.box [.d (.lst (bs.map encByte)), .d (.int .i64 p)]] (RdA (.lst (bs.map encByte)) p (p + 20) 2 encLine fun xs : List Line => 1 ≤ xs.length ∧ xs.length ≤ 5) := by
  refine ACon.introW tok (nt := 24) Try.func105 rfl rfl rfl (by kernel_rfl) rfl ?_
  repeat' (first | ((with_reducible apply xsim); (first | ((with_reducible apply xo); exact rfl) | with_reducible apply xend | ((with_reducible apply xbuild); exact rfl; exact rfl; exact rfl; exact rfl; exact rfl; simp only [backV, backVs, backVs_mapd, backId, backO, List.map_cons, List.map_nil, List.getElem?_nil, List.length_cons, List.length_nil, Nat.reduceAdd, Nat.reduceSub, List.cons_append, List.nil_append, List.append_nil]) | ((with_reducible apply xcallOne); exact rfl; exact rfl; exact rfl; exact rfl; exact c_one rfl rfl hb (by omega) rfl rfl; rintro _ p' _ _ ⟨v, rfl, h1⟩; (try simp only [List.set_cons_zero, List.set_cons_succ])))) | ((with_reducible apply xaw); (first | ((with_reducible apply xstepS); refine AW.step tok rfl ?_) | with_reducible (first | refine AW.seq ?_ | refine AW.block ?_))) | with_reducible exact trivial)
  have hv : 1 ≤ v ∧ v ≤ 5 := by simp only [List.mem_cons, List.not_mem_nil, or_false] at h1; omega
  have hvn : ((v.toNat : Nat) : Int) = v := Int.toNat_of_nonneg (by omega)
  refine AW.loop (S := fun i : Nat × List Line × Int => ⟨[(0, .oref 0 0), (3, .msl 1 2 0 i.2.1.length), (4, .d (.int .i64 i.1))], [.box [.d (.lst (bs.map encByte)), .d (.int .i64 i.2.2)], .arr 2 (i.2.1.map encLine)], 24, 1⟩)
    (Pre := fun i => 1 ≤ i.1 + i.2.1.length ∧ i.1 + i.2.1.length ≤ 5 ∧ p ≤ i.2.2 ∧ i.2.2 ≤ p + 1 + 2 * (5 - i.1)) (μ := fun i => i.1) (v.toNat, [], p') (by dsimp only [List.length_nil]; omega) ?_ ?_
  · (refine xwk (π := [0, 1]) (by decide) rfl ?_ ?_; (first | simp -implicitDefEqProofs only [go_sem, Int.reduceEq, Int.reduceLT, Int.reduceLE, Nat.reduceAdd, Nat.reduceSub, Nat.reduceMul, Nat.reduceEqDiff, Nat.reduceLeDiff, Nat.reducePow, ↓reduceIte, reduceCtorEq, hvn]); repeat' (first | exact renE_n | ((with_reducible apply renE_c); exact rfl; focus (first | (simp -implicitDefEqProofs only [go_sem, Int.reduceEq, Int.reduceLT, Int.reduceLE, Nat.reduceAdd, Nat.reduceSub, Nat.reduceMul, Nat.reduceEqDiff, Nat.reduceLeDiff, Nat.reducePow, ↓reduceIte, reduceCtorEq, hvn]; done)))))
  · rintro ⟨m, xs, q⟩ ⟨h2, h3, h4, h5⟩
    dsimp only at h2 h3 h4 h5 ⊢
    by_cases hm : m = 0
    · subst hm
      repeat' (first | ((with_reducible apply xsim); (first | ((with_reducible apply xo); exact rfl) | with_reducible apply xend)) | ((with_reducible apply xaw); (first | ((with_reducible apply xstepS); refine AW.step tok rfl ?_) | with_reducible (first | refine AW.seq ?_ | refine AW.ret ?_ | refine AW.exit ?_) | ((with_reducible apply xcond); exact rfl))) | with_reducible (first | refine xthen ?_ | refine xthen_e ?_ | refine xblock_e ?_ | refine xround_e ?_) | (with_reducible intro hc; (try simp only [decide_eq_true_eq, decide_eq_false_iff_not, Bool.not_true, Bool.not_false, Bool.not_eq_true', Bool.not_eq_false', ne_eq, not_true, reduceCtorEq, List.length_map] at hc); (try (exfalso; omega))) | with_reducible (first | exact trivial | refine And.intro ?_ ?_ | exact rfl))
      refine xfinRdA (xs := xs) (.inr rfl) rfl trivial rfl rfl rfl rfl (by omega) (by omega) (by omega)
    · repeat' (first | ((with_reducible apply xsim); (first | ((with_reducible apply xo); exact rfl) | with_reducible apply xend | ((with_reducible apply xbuild); exact rfl; exact rfl; exact rfl; exact rfl; exact rfl; simp only [backV, backVs, backVs_mapd, backId, backO, List.map_cons, List.map_nil, List.getElem?_nil, List.length_cons, List.length_nil, Nat.reduceAdd, Nat.reduceSub, List.cons_append, List.nil_append, List.append_nil]) | ((with_reducible apply xcallOne); exact rfl; exact rfl; exact rfl; exact rfl; exact c_one rfl rfl hb (by omega) rfl rfl; rintro _ p' _ _ ⟨v, rfl, h1⟩; (try simp only [List.set_cons_zero, List.set_cons_succ])) | simp -implicitDefEqProofs only [go_sem, Int.reduceEq, Int.reduceLT, Int.reduceLE, Nat.reduceAdd, Nat.reduceSub, Nat.reduceMul, Nat.reduceEqDiff, Nat.reduceLeDiff, Nat.reducePow, ↓reduceIte, reduceCtorEq, List.length_map])) | ((with_reducible apply xaw); (first | ((with_reducible apply xstepS); refine AW.step tok rfl ?_) | ((with_reducible apply xstep); refine AW.region tok rfl ?_) | with_reducible (first | refine AW.seq ?_ | refine AW.block ?_ | refine AW.skip ?_) | ((with_reducible apply xcond); exact rfl))) | with_reducible refine xthen ?_ | (with_reducible intro hc; (try simp only [decide_eq_true_eq, decide_eq_false_iff_not, Bool.not_true, Bool.not_false, Bool.not_eq_true', Bool.not_eq_false', ne_eq, not_true, reduceCtorEq, List.length_map] at hc); (try (exfalso; omega))) | with_reducible (first | exact trivial | refine And.intro ?_ ?_ | exact rfl) | (refine inR_i64.mpr ?_; first | omega | (simp only [List.length_map, List.length_map]; omega)) | omega)
      rename_i v1 _ _ _
      refine round_end (m - 1, xs ++ [⟨v1, v⟩], p') (by dsimp only; rw [List.length_append]; simp only [List.length_cons, List.length_nil]; omega) (by dsimp only; omega) (by (refine xwk (π := [0, 5]) (by decide) rfl ?_ ?_; (first | simp -implicitDefEqProofs only [go_sem, Int.reduceEq, Int.reduceLT, Int.reduceLE, Nat.reduceAdd, Nat.reduceSub, Nat.reduceMul, Nat.reduceEqDiff, Nat.reduceLeDiff, Nat.reducePow, ↓reduceIte, reduceCtorEq, List.map_append, List.length_append]); repeat' (first | exact renE_n | ((with_reducible apply renE_c); exact rfl; focus (first | (simp -implicitDefEqProofs only [go_sem, Int.reduceEq, Int.reduceLT, Int.reduceLE, Nat.reduceAdd, Nat.reduceSub, Nat.reduceMul, Nat.reduceEqDiff, Nat.reduceLeDiff, Nat.reducePow, ↓reduceIte, reduceCtorEq, List.map_append, List.length_append]; done) | (simp -implicitDefEqProofs only [go_sem, Int.reduceEq, Int.reduceLT, Int.reduceLE, Nat.reduceAdd, Nat.reduceSub, Nat.reduceMul, Nat.reduceEqDiff, Nat.reduceLeDiff, Nat.reducePow, ↓reduceIte, reduceCtorEq, List.map_append, List.length_append]; omega))))))

theorem c_goodLines (bs : List Byte) (p : Int) (hb : bs.length ≤ 2000) (hp : 0 ≤ p ∧ p < 2^29) :
    ACon Try.prog 105 [.oref 0 0] [.box [.d (.lst (bs.map encByte)), .d (.int .i64 p)]] (Rd (.lst (bs.map encByte)) p (p + 20) (RowsOf encLine fun xs : List Line => 1 ≤ xs.length ∧ xs.length ≤ 5)) :=
  RdA.data (c_AgoodLines bs p hb hp)

def ACell (r : V) : Prop := ∃ c : Cell, r = vCell c
theorem acell (a b c d e f g h i : Int) : ACell (.agg [.d (.int .i64 a), .d (.int .i64 b), .d (.int .i64 c), .d (.int .i64 d), .d (.int .i64 e), .d (.int .i64 f), .d (.int .i64 g), .d (.int .i64 h), .d (.int .i64 i)]) :=
  ⟨⟨a, b, c, d, e, f, g, h, i⟩, rfl⟩

theorem c_goodCell (bs : List Byte) (p m n : Int) (hb : bs.length ≤ 2000) (hp : 0 ≤ p ∧ p < 2^28) (hm : 0 ≤ m ∧ m ≤ 5) (hn : 0 ≤ n ∧ n ≤ 5) :
    ACon Try.prog 108 [.oref 0 0, .d (.int .i64 m), .d (.int .i64 n)] [.box [.d (.lst (bs.map encByte)), .d (.int .i64 p)]] (Rd (.lst (bs.map encByte)) p (p + 20) ACell) := by
  refine ACon.introW tok (nt := 57) Try.func108 rfl rfl rfl (by kernel_rfl) rfl ?_
  repeat' (first | ((with_reducible apply xsim); (first | ((with_reducible apply xbld); exact rfl; exact rfl; exact rfl; (try simp only [List.set_cons_zero, List.set_cons_succ])) | ((with_reducible apply xo); exact rfl) | ((with_reducible apply xst); exact rfl) | with_reducible apply xend | ((with_reducible apply xalloc); exact rfl; simp only [backV, backVs, backVs_mapd, backId, backO, List.map_cons, List.map_nil, List.getElem?_nil, List.length_cons, List.length_nil, Nat.reduceAdd, Nat.reduceSub, List.cons_append, List.nil_append, List.append_nil]) | ((with_reducible apply xbuild); exact rfl; exact rfl; exact rfl; exact rfl; exact rfl; simp only [backV, backVs, backVs_mapd, backId, backO, List.map_cons, List.map_nil, List.getElem?_nil, List.length_cons, List.length_nil, Nat.reduceAdd, Nat.reduceSub, List.cons_append, List.nil_append, List.append_nil]) | ((with_reducible apply xcallRd); exact rfl; exact rfl; exact rfl; exact c_pick bs _ _ hb (by omega) (by omega); rintro _ p' _ _ ⟨v, rfl, h1, h2, h3⟩; (try simp only [List.set_cons_zero, List.set_cons_succ])) | ((with_reducible apply xcallOne); exact rfl; exact rfl; exact rfl; exact rfl; exact c_one rfl rfl hb (by omega) rfl rfl; rintro _ p' _ _ ⟨v, rfl, h1⟩; (try simp only [List.set_cons_zero, List.set_cons_succ])))) | ((with_reducible apply xaw); (first | ((with_reducible apply xstepS); refine AW.step tok rfl ?_) | ((with_reducible apply xstep); refine AW.region tok rfl ?_) | with_reducible (first | refine AW.seq ?_ | refine AW.skip ?_ | refine AW.ret ?_) | ((with_reducible apply xcond); exact rfl))) | with_reducible refine xthen ?_ | (with_reducible intro hc; (try simp only [decide_eq_true_eq, decide_eq_false_iff_not, Bool.not_true, Bool.not_false, Bool.not_eq_true', Bool.not_eq_false', ne_eq, not_true, reduceCtorEq] at hc); (try (exfalso; omega))) | with_reducible (first | exact trivial | refine And.intro ?_ ?_ | exact rfl) | exact Eq.refl true | (refine inR_i64.mpr ?_; first | omega | (simp only [List.length_map]; omega)))
  all_goals refine xfinRd (by first | exact .inl rfl | exact .inr rfl) rfl (by repeat' (first | exact trivial | exact rfl | refine And.intro ?_ ?_)) rfl (by omega) (by omega) ?_
  all_goals exact acell _ _ _ _ _ _ _ _ _

end Go.Proofs.Yticgjepndfjafaa

namespace Go.Proofs.Yticgjepndfjafaa
open Go.Fw
attribute [local irreducible] Go.Fw.aops Go.Fw.arun

def APack (r : V) : Prop := ∃ p : Pack, r = vPack p
theorem apack (a b c : Int) (d e f : Bool) (g h i : Int) : APack (.agg [.d (.int .i64 a), .d (.int .i64 b), .d (.int .i64 c), .d (.bool d), .d (.bool e), .d (.bool f), .d (.int .i64 g), .d (.int .i64 h), .d (.int .i64 i)]) :=
  ⟨⟨a, b, c, d, e, f, g, h, i⟩, rfl⟩
theorem c_goodPack (bs : List Byte) (p : Int) (hb : bs.length ≤ 2000) (hp : 0 ≤ p ∧ p < 2^30) :
    ACon Try.prog 106 [.oref 0 0] [.box [.d (.lst (bs.map encByte)), .d (.int .i64 p)]] (Rd (.lst (bs.map encByte)) p (p + 20) APack) := by
  refine ACon.introW tok (nt := 44) Try.func106 rfl rfl rfl (by kernel_rfl) rfl ?_
  repeat' (first | ((with_reducible apply xsim); (first | ((with_reducible apply xbld); exact rfl; exact rfl; exact rfl; (try simp only [List.set_cons_zero, List.set_cons_succ])) | ((with_reducible apply xo); exact rfl) | ((with_reducible apply xst); exact rfl) | with_reducible apply xend | ((with_reducible apply xalloc); exact rfl; simp only [backV, backVs, backVs_mapd, backId, backO, List.map_cons, List.map_nil, List.getElem?_nil, List.length_cons, List.length_nil, Nat.reduceAdd, Nat.reduceSub, List.cons_append, List.nil_append, List.append_nil]) | ((with_reducible apply xbuild); exact rfl; exact rfl; exact rfl; exact rfl; exact rfl; simp only [backV, backVs, backVs_mapd, backId, backO, List.map_cons, List.map_nil, List.getElem?_nil, List.length_cons, List.length_nil, Nat.reduceAdd, Nat.reduceSub, List.cons_append, List.nil_append, List.append_nil]) | ((with_reducible apply xcallRd); exact rfl; exact rfl; exact rfl; exact c_pick bs _ _ hb (by omega) (by omega); rintro _ p' _ _ ⟨v, rfl, h1, h2, h3⟩; (try simp only [List.set_cons_zero, List.set_cons_succ])) | ((with_reducible apply xcallOne); exact rfl; exact rfl; exact rfl; exact rfl; exact c_one rfl rfl hb (by omega) rfl rfl; rintro _ p' _ _ ⟨v, rfl, h1⟩; (try simp only [List.set_cons_zero, List.set_cons_succ])))) | ((with_reducible apply xaw); (first | ((with_reducible apply xstepS); refine AW.step tok rfl ?_) | ((with_reducible apply xstep); refine AW.region tok rfl ?_) | with_reducible (first | refine AW.seq ?_ | refine AW.skip ?_ | refine AW.ret ?_) | ((with_reducible apply xcond); exact rfl))) | with_reducible refine xthen ?_ | (with_reducible intro hc; (try simp only [decide_eq_true_eq, decide_eq_false_iff_not, Bool.not_true, Bool.not_false, Bool.not_eq_true', Bool.not_eq_false', ne_eq, not_true, reduceCtorEq] at hc); (try (exfalso; omega))) | with_reducible (first | exact trivial | refine And.intro ?_ ?_ | exact rfl) | exact Eq.refl true)
  all_goals refine xfinRd (by first | exact .inl rfl | exact .inr rfl) rfl (by repeat' (first | exact trivial | exact rfl | refine And.intro ?_ ?_)) rfl (by omega) (by omega) ?_
  all_goals exact apack _ _ _ _ _ _ _ _ _

def APlace (r : V) : Prop := ∃ p : Place, r = vPlace p
theorem aplace (a b c d e f g h i : Int) : APlace (.agg [.d (.int .i64 a), .d (.int .i64 b), .d (.int .i64 c), .d (.int .i64 d), .d (.int .i64 e), .d (.int .i64 f), .d (.int .i64 g), .d (.int .i64 h), .d (.int .i64 i)]) :=
  ⟨⟨a, b, c, d, e, f, g, h, i⟩, rfl⟩
theorem c_goodPlace (bs : List Byte) (p : Int) (hb : bs.length ≤ 2000) (hp : 0 ≤ p ∧ p < 2^30) :
    ACon Try.prog 107 [.oref 0 0] [.box [.d (.lst (bs.map encByte)), .d (.int .i64 p)]] (Rd (.lst (bs.map encByte)) p (p + 20) APlace) := by
  refine ACon.introW tok (nt := 35) Try.func107 rfl rfl rfl (by kernel_rfl) rfl ?_
  repeat' (first | ((with_reducible apply xsim); (first | ((with_reducible apply xbld); exact rfl; exact rfl; exact rfl; (try simp only [List.set_cons_zero, List.set_cons_succ])) | ((with_reducible apply xo); exact rfl) | ((with_reducible apply xst); exact rfl) | with_reducible apply xend | ((with_reducible apply xalloc); exact rfl; simp only [backV, backVs, backVs_mapd, backId, backO, List.map_cons, List.map_nil, List.getElem?_nil, List.length_cons, List.length_nil, Nat.reduceAdd, Nat.reduceSub, List.cons_append, List.nil_append, List.append_nil]) | ((with_reducible apply xbuild); exact rfl; exact rfl; exact rfl; exact rfl; exact rfl; simp only [backV, backVs, backVs_mapd, backId, backO, List.map_cons, List.map_nil, List.getElem?_nil, List.length_cons, List.length_nil, Nat.reduceAdd, Nat.reduceSub, List.cons_append, List.nil_append, List.append_nil]) | ((with_reducible apply xcallRd); exact rfl; exact rfl; exact rfl; exact c_pick bs _ _ hb (by omega) (by omega); rintro _ p' _ _ ⟨v, rfl, h1, h2, h3⟩; (try simp only [List.set_cons_zero, List.set_cons_succ])) | ((with_reducible apply xcallOne); exact rfl; exact rfl; exact rfl; exact rfl; exact c_one rfl rfl hb (by omega) rfl rfl; rintro _ p' _ _ ⟨v, rfl, h1⟩; (try simp only [List.set_cons_zero, List.set_cons_succ])))) | ((with_reducible apply xaw); (first | ((with_reducible apply xstepS); refine AW.step tok rfl ?_) | with_reducible refine AW.ret ?_)) | with_reducible (first | exact trivial | refine And.intro ?_ ?_) | exact Eq.refl true)
  all_goals refine xfinRd (by first | exact .inl rfl | exact .inr rfl) rfl (by repeat' (first | exact trivial | exact rfl | refine And.intro ?_ ?_)) rfl (by omega) (by omega) ?_
  all_goals exact aplace _ _ _ _ _ _ _ _ _
end Go.Proofs.Yticgjepndfjafaa

namespace Go.Fw

/-- What is asked of the code ahead of a cut. -/
def cutQ {α : Type} (S : α → St) (Pre : α → Prop) (Q : Exit → St → Prop) : Exit → St → Prop
  | .normal, s => ∃ j, Pre j ∧ Weak s (S j)
  | e, s => Q e s
/-- Branches come together. -/
theorem AW.cut {α : Type} {P : Program} {c d : Code} {Q : Exit → St → Prop} {s : St} (S : α → St) (Pre : α → Prop) (h1 : AW P c (cutQ S Pre Q) s) (h2 : ∀ j, Pre j → AW P d Q (S j)) : AW P (.seq c d) Q s := by
  refine AW.seq (AW.mono h1 ?_)
  intro e s' h
  cases e with
  | normal =>
    obtain ⟨j, hp, hw⟩ := h
    exact AW.weak hw (h2 j hp)
  | _ => exact h
/-- The code ahead of a cut is taken out of a sequence already. -/
theorem AW.cutT {α : Type} {P : Program} {c d : Code} {Q : Exit → St → Prop} {s : St} (S : α → St) (Pre : α → Prop) (h1 : AW P c (cutQ S Pre Q) s) (h2 : ∀ j, Pre j → AW P d Q (S j)) : AW P c (thenQ P d Q) s := by
  refine AW.mono h1 ?_
  intro e s' h
  cases e with
  | normal =>
    obtain ⟨j, hp, hw⟩ := h
    exact AW.weak hw (h2 j hp)
  | _ => exact h
theorem xnocond {P : Program} {a : Operand} {b c d r : Code} {Q : Exit → St → Prop} {s : St} (h : AW P (.seq (.seq r (.cond a b c)) d) Q s) : AW P (.seq (.seq r (.cond a b c)) d) Q s := h
theorem cut_end {α : Type} {S : α → St} {Pre : α → Prop} {Q : Exit → St → Prop} {s : St} (j : α) (hp : Pre j) (hw : Weak s (S j)) : cutQ S Pre Q .normal s := ⟨j, hp, hw⟩
end Go.Fw

namespace Go.Proofs.Yticgjepndfjafaa
open Go.Fw
attribute [local irreducible] Go.Fw.aops Go.Fw.arun

/-- One of numbers that are data. -/
theorem c_dOne {zs : List Int} {rows : List (List D)} {bs : List Byte} {p : Int} (hz : unInts rows some none = some zs) (hb : bs.length ≤ 2000) (hp : 0 ≤ p ∧ p < 2^40) (hn : Nat.ble 1 zs.length = true) (hs : Nat.ble zs.length 100 = true) :
    ACon Try.prog 61 [.oref 0 0, .d (.lst rows)] [.box [.d (.lst (bs.map encByte)), .d (.int .i64 p)]] (Rd (.lst (bs.map encByte)) (p + 1) (p + 1) (OneOf zs)) := by
  have hn := Nat.le_of_ble_eq_true hn
  have hs := Nat.le_of_ble_eq_true hs
  obtain rfl := unInts_some hz
  refine ACon.introW tok (nt := 12) Try.func61 rfl rfl rfl (by kernel_rfl) rfl ?_
  repeat' (first | ((with_reducible apply xsim); (first | ((with_reducible apply xlenM); exact rfl; exact rfl) | ((with_reducible apply xo); exact rfl) | with_reducible apply xend | ((with_reducible apply xidxL); exact rfl; exact rfl; exact rfl; (first | exact (atI (by omega))); omega; first | exact rfl | simp only [hsz]) | ((with_reducible apply xcallRd); exact rfl; exact rfl; exact rfl; exact c_pick bs p zs.length hb hp (by omega); rintro _ p' _ _ ⟨v, rfl, h1, h2, h3⟩; (try simp only [List.set_cons_zero, List.set_cons_succ])))) | ((with_reducible apply xaw); (first | ((with_reducible apply xstepS); refine AW.step tok rfl ?_) | with_reducible refine AW.ret ?_)) | with_reducible exact trivial)
  exact xfinRd (.inr rfl) rfl trivial rfl (by omega) (by omega) ⟨_, rfl, List.getElem_mem _⟩
end Go.Proofs.Yticgjepndfjafaa

namespace Go.Proofs.Yticgjepndfjafaa
open Go.Fw
attribute [local irreducible] Go.Fw.aops Go.Fw.arun
/-- The cells of a node with the zero item, cell and place. -/
theorem encNode_at {xs : List Node} {i : Int} (h : 0 ≤ i ∧ i < xs.length) : (xs.map encNode)[idxAdd 0 i.toNat]? = some (encNode (xs[i.toNat]'(by omega))) := at_map (f := encNode) (k := i.toNat) _

theorem all_snoc {α : Type} {p : α → Prop} {xs : List α} {y : α} (h : ∀ x ∈ xs, p x) (hy : p y) : ∀ x ∈ xs ++ [y], p x := by
  intro x hx
  rcases List.mem_append.1 hx with hx | hx
  · exact h x hx
  · rw [List.mem_singleton.1 hx]; exact hy

set_option maxHeartbeats 4000000 in
set_option maxRecDepth 8000 in
theorem c_TgoodTree (bs : List Byte) (p : Int) (hb : bs.length ≤ 2000) (hp : 0 ≤ p ∧ p < 2^27) :
    ACon Try.prog 84 [.oref 0 0] [.box [.d (.lst (bs.map encByte)), .d (.int .i64 p)]] (RdT (.lst (bs.map encByte)) p (p + 1300) 34 encNode fun xs : List Node => 1 ≤ xs.length ∧ xs.length ≤ 10 ∧ ∀ x ∈ xs, x.cols.length ≤ 5 ∧ x.rows.length ≤ 5) := by
  refine ACon.introW tok (nt := 111) Try.func84 rfl rfl rfl (by kernel_rfl) rfl ?_
  repeat' (first | ((with_reducible apply xsim); (first | ((with_reducible apply xbld); exact rfl; exact rfl; exact rfl; (try simp only [List.set_cons_zero, List.set_cons_succ])) | ((with_reducible apply xo); exact rfl) | ((with_reducible apply xst); exact rfl) | with_reducible apply xend | ((with_reducible apply xalloc); exact rfl; simp only [backV, backVs, backVs_mapd, backId, backO, List.map_cons, List.map_nil, List.getElem?_nil, List.length_cons, List.length_nil, Nat.reduceAdd, Nat.reduceSub, List.cons_append, List.nil_append, List.append_nil]) | ((with_reducible apply xbuild); exact rfl; exact rfl; exact rfl; exact rfl; exact rfl; simp only [backV, backVs, backVs_mapd, backId, backO, List.map_cons, List.map_nil, List.getElem?_nil, List.length_cons, List.length_nil, Nat.reduceAdd, Nat.reduceSub, List.cons_append, List.nil_append, List.append_nil]) | ((with_reducible apply xcallOne); exact rfl; exact rfl; exact rfl; exact rfl; exact c_one rfl rfl hb (by omega) rfl rfl; rintro _ p' _ _ ⟨v, rfl, h1⟩; (try simp only [List.set_cons_zero, List.set_cons_succ])))) | ((with_reducible apply xaw); (first | ((with_reducible apply xstepS); refine AW.step tok rfl ?_) | with_reducible (first | refine AW.seq ?_ | refine AW.block ?_))) | with_reducible (first | exact trivial | refine And.intro ?_ ?_) | exact Eq.refl true)
  have hv : 1 ≤ v ∧ v ≤ 10 := by simp only [List.mem_cons, List.not_mem_nil, or_false] at h1; omega
  have hvn : ((v.toNat : Nat) : Int) = v := Int.toNat_of_nonneg (by omega)
  refine AW.weak (Weak.ownBoxCell 2 34 0 rfl rfl) ?_
  refine AW.loop (S := fun i : Nat × List Node × Int => ⟨[(0, .oref 0 0), (2, .oref 1 0), (3, .oref 2 0), (4, .d (.int .i64 i.1))],
      [.box [.d (.lst (bs.map encByte)), .d (.int .i64 i.2.2)], .box [.nils], .box [.msl 3 34 0 i.2.1.length], .arr 34 (i.2.1.map encNode)], 111, 1⟩)
    (Pre := fun i => 1 ≤ i.1 + i.2.1.length ∧ i.1 + i.2.1.length ≤ 10 ∧ p ≤ i.2.2 ∧ i.2.2 ≤ p + 50 + 120 * (10 - i.1) ∧ ∀ x ∈ i.2.1, x.cols.length ≤ 5 ∧ x.rows.length ≤ 5) (μ := fun i => i.1) (v.toNat, [], p') ⟨by dsimp only [List.length_nil]; omega, by dsimp only [List.length_nil]; omega, by dsimp only; omega, by dsimp only; omega, fun x hx => by cases hx⟩ ?_ ?_
  · (refine xwk (π := [0, 1, 2, 4]) (by decide) rfl ?_ ?_; (first | simp -implicitDefEqProofs only [go_sem, Int.reduceEq, Int.reduceLT, Int.reduceLE, Nat.reduceAdd, Nat.reduceSub, Nat.reduceMul, Nat.reduceEqDiff, Nat.reduceLeDiff, Nat.reducePow, ↓reduceIte, reduceCtorEq, hvn]); repeat' (first | exact renE_n | ((with_reducible apply renE_c); exact rfl; focus (first | (simp -implicitDefEqProofs only [go_sem, Int.reduceEq, Int.reduceLT, Int.reduceLE, Nat.reduceAdd, Nat.reduceSub, Nat.reduceMul, Nat.reduceEqDiff, Nat.reduceLeDiff, Nat.reducePow, ↓reduceIte, reduceCtorEq, hvn]; done)))))
  rintro ⟨m, ys, q⟩ ⟨h2, h3, h4, h5, hys⟩
  dsimp only at h2 h3 h4 h5 hys ⊢
  by_cases hm : m = 0
  · subst hm
    repeat' (first | ((with_reducible apply xsim); (first | ((with_reducible apply xo); exact rfl) | ((with_reducible apply xst); exact rfl) | with_reducible apply xend)) | ((with_reducible apply xaw); (first | ((with_reducible apply xstepS); refine AW.step tok rfl ?_) | with_reducible (first | refine AW.seq ?_ | refine AW.ret ?_ | refine AW.exit ?_) | ((with_reducible apply xcond); exact rfl))) | with_reducible (first | refine xthen ?_ | refine xthen_e ?_ | refine xblock_e ?_ | refine xround_e ?_) | (with_reducible intro hc; (try simp only [decide_eq_true_eq, decide_eq_false_iff_not, Bool.not_true, Bool.not_false, Bool.not_eq_true', Bool.not_eq_false', ne_eq, not_true, reduceCtorEq, List.length_map] at hc); (try (exfalso; omega))) | with_reducible (first | exact trivial | refine And.intro ?_ ?_ | exact rfl) | exact Eq.refl true)
    refine xfinRdT (xs := ys) (.inr rfl) rfl (by repeat' (first | exact trivial | exact rfl | refine And.intro ?_ ?_)) rfl rfl rfl rfl (by omega) (by omega) ⟨by omega, by omega, hys⟩
  repeat' ((fail_if_success (with_reducible apply xnocond)); first | fail)
  refine AW.seq ?_
  repeat' ((fail_if_success (with_reducible apply xnocond)); first | ((with_reducible apply xsim); (first | ((with_reducible apply xo); exact rfl) | with_reducible apply xend)) | ((with_reducible apply xaw); (first | ((with_reducible apply xstepS); refine AW.step tok rfl ?_) | with_reducible (first | refine AW.seq ?_ | refine AW.block ?_ | refine AW.skip ?_) | ((with_reducible apply xcond); exact rfl))) | with_reducible refine xthen ?_ | (with_reducible intro hc; (try simp only [decide_eq_true_eq, decide_eq_false_iff_not, Bool.not_true, Bool.not_false, Bool.not_eq_true', Bool.not_eq_false', ne_eq, not_true, reduceCtorEq, List.length_map] at hc); (try (exfalso; omega))) | with_reducible (first | exact trivial | refine And.intro ?_ ?_ | exact rfl))
  refine AW.cutT (S := fun i : Int × Int × Bool × Int × Int => ⟨[(0, .oref 0 0), (2, .oref 1 0), (3, .oref 2 0), (4, .d (.int .i64 m)), (5, .oref 4 0)], [.box [.d (.lst (bs.map encByte)), .d (.int .i64 i.2.2.2.2)], .box [.nils], .box [.msl 3 34 0 ys.length], .arr 34 (ys.map encNode),
      .box (.d (.int .i64 (ys.length - 1)) :: .d (.int .i64 i.1) :: .d (.int .i64 i.2.1) :: .d (.bool i.2.2.1) :: .d (.int .i64 i.2.2.2.1) :: .nils :: .nils :: [.d (.int .i64 0), .d (.int .i64 0), .d (.int .i64 0), .d (.bool false), .d (.bool false), .d (.bool false), .d (.int .i64 0), .d (.int .i64 0), .d (.int .i64 0), .d (.int .i64 0), .d (.int .i64 0), .d (.int .i64 0), .d (.int .i64 0), .d (.int .i64 0), .d (.int .i64 0), .d (.int .i64 0), .d (.int .i64 0), .d (.int .i64 0), .d (.int .i64 0), .d (.int .i64 0), .d (.int .i64 0), .d (.int .i64 0), .d (.int .i64 0), .d (.int .i64 0), .d (.int .i64 0), .d (.int .i64 0), .d (.int .i64 0)])], 111, 1⟩) (Pre := fun i => q ≤ i.2.2.2.2 ∧ i.2.2.2.2 ≤ q + 10) ?_ ?_
  · repeat' (first | ((with_reducible apply xsim); (first | ((with_reducible apply xbld); exact rfl; exact rfl; exact rfl; (try simp only [List.set_cons_zero, List.set_cons_succ])) | ((with_reducible apply xo); exact rfl) | ((with_reducible apply xst); exact rfl) | with_reducible apply xend | ((with_reducible apply xalloc); exact rfl; simp only [backV, backVs, backVs_mapd, backId, backO, List.map_cons, List.map_nil, List.getElem?_nil, List.length_cons, List.length_nil, Nat.reduceAdd, Nat.reduceSub, List.cons_append, List.nil_append, List.append_nil]) | ((with_reducible apply xcallRd); exact rfl; exact rfl; exact rfl; exact c_pick bs _ _ hb (by omega) (by omega); rintro _ p' _ _ ⟨v, rfl, h1, h2, h3⟩; (try simp only [List.set_cons_zero, List.set_cons_succ])) | ((with_reducible apply xcallRd); exact rfl; exact rfl; exact rfl; exact c_dOne rfl hb (by omega) rfl rfl; rintro _ p' _ _ ⟨v, rfl, h1⟩; (try simp only [List.set_cons_zero, List.set_cons_succ])))) | ((with_reducible apply xaw); ((with_reducible apply xdraw (id := 5)); refine AW.draw (id := 5) (.q 0 (.q 4 (.q 5 (.q 9 (.q 10 (.q 14 (.q 17 (.b 18 (.three 1 (.q 2 (.q 3 (.two 6 (.b 7 (.two 8 (.two 11 (.b 12 (.two 13 (.two 15 (.q 16 (.two 19 (.q 20 (.e 21 (.e 22 (.fin)))) 21 (.e 19 (.q 20 (.e 22 (.fin)))))) 21 (.e 15 (.q 16 (.e 19 (.q 20 (.e 22 (.fin))))))) 21 (.e 13 (.e 15 (.q 16 (.e 19 (.q 20 (.e 22 (.fin))))))))) 21 (.e 11 (.b 12 (.e 13 (.e 15 (.q 16 (.e 19 (.q 20 (.e 22 (.fin)))))))))) 21 (.e 8 (.e 11 (.b 12 (.e 13 (.e 15 (.q 16 (.e 19 (.q 20 (.e 22 (.fin)))))))))))) 21 (.e 6 (.b 7 (.e 8 (.e 11 (.b 12 (.e 13 (.e 15 (.q 16 (.e 19 (.q 20 (.e 22 (.fin))))))))))))))) 6 (.b 7 (.three 1 (.q 2 (.q 3 (.two 8 (.two 11 (.b 12 (.two 13 (.two 15 (.q 16 (.two 19 (.q 20 (.e 21 (.e 22 (.fin)))) 21 (.e 19 (.q 20 (.e 22 (.fin)))))) 21 (.e 15 (.q 16 (.e 19 (.q 20 (.e 22 (.fin))))))) 21 (.e 13 (.e 15 (.q 16 (.e 19 (.q 20 (.e 22 (.fin))))))))) 21 (.e 11 (.b 12 (.e 13 (.e 15 (.q 16 (.e 19 (.q 20 (.e 22 (.fin)))))))))) 21 (.e 8 (.e 11 (.b 12 (.e 13 (.e 15 (.q 16 (.e 19 (.q 20 (.e 22 (.fin))))))))))))) 8 (.three 1 (.q 2 (.q 3 (.two 11 (.b 12 (.two 13 (.two 15 (.q 16 (.two 19 (.q 20 (.e 21 (.e 22 (.fin)))) 21 (.e 19 (.q 20 (.e 22 (.fin)))))) 21 (.e 15 (.q 16 (.e 19 (.q 20 (.e 22 (.fin))))))) 21 (.e 13 (.e 15 (.q 16 (.e 19 (.q 20 (.e 22 (.fin))))))))) 21 (.e 11 (.b 12 (.e 13 (.e 15 (.q 16 (.e 19 (.q 20 (.e 22 (.fin)))))))))))) 11 (.b 12 (.three 1 (.q 2 (.q 3 (.two 13 (.two 15 (.q 16 (.two 19 (.q 20 (.e 21 (.e 22 (.fin)))) 21 (.e 19 (.q 20 (.e 22 (.fin)))))) 21 (.e 15 (.q 16 (.e 19 (.q 20 (.e 22 (.fin))))))) 21 (.e 13 (.e 15 (.q 16 (.e 19 (.q 20 (.e 22 (.fin)))))))))) 13 (.three 1 (.q 2 (.q 3 (.two 15 (.q 16 (.two 19 (.q 20 (.e 21 (.e 22 (.fin)))) 21 (.e 19 (.q 20 (.e 22 (.fin)))))) 21 (.e 15 (.q 16 (.e 19 (.q 20 (.e 22 (.fin))))))))) 15 (.q 16 (.three 1 (.q 2 (.q 3 (.two 19 (.q 20 (.e 21 (.e 22 (.fin)))) 21 (.e 19 (.q 20 (.e 22 (.fin))))))) 19 (.two 1 (.q 2 (.q 3 (.q 20 (.e 21 (.e 22 (.fin)))))) 21 (.e 1 (.q 2 (.q 3 (.q 20 (.e 22 (.fin))))))) 21 (.two 1 (.q 2 (.q 3 (.e 19 (.q 20 (.e 22 (.fin)))))) 19 (.e 1 (.q 2 (.q 3 (.q 20 (.e 22 (.fin))))))))) 21 (.two 1 (.q 2 (.q 3 (.e 15 (.q 16 (.e 19 (.q 20 (.e 22 (.fin)))))))) 15 (.q 16 (.two 1 (.q 2 (.q 3 (.e 19 (.q 20 (.e 22 (.fin)))))) 19 (.e 1 (.q 2 (.q 3 (.q 20 (.e 22 (.fin)))))))))) 21 (.two 1 (.q 2 (.q 3 (.e 13 (.e 15 (.q 16 (.e 19 (.q 20 (.e 22 (.fin))))))))) 13 (.two 1 (.q 2 (.q 3 (.e 15 (.q 16 (.e 19 (.q 20 (.e 22 (.fin)))))))) 15 (.q 16 (.two 1 (.q 2 (.q 3 (.e 19 (.q 20 (.e 22 (.fin)))))) 19 (.e 1 (.q 2 (.q 3 (.q 20 (.e 22 (.fin)))))))))))) 21 (.two 1 (.q 2 (.q 3 (.e 11 (.b 12 (.e 13 (.e 15 (.q 16 (.e 19 (.q 20 (.e 22 (.fin))))))))))) 11 (.b 12 (.two 1 (.q 2 (.q 3 (.e 13 (.e 15 (.q 16 (.e 19 (.q 20 (.e 22 (.fin))))))))) 13 (.two 1 (.q 2 (.q 3 (.e 15 (.q 16 (.e 19 (.q 20 (.e 22 (.fin)))))))) 15 (.q 16 (.two 1 (.q 2 (.q 3 (.e 19 (.q 20 (.e 22 (.fin)))))) 19 (.e 1 (.q 2 (.q 3 (.q 20 (.e 22 (.fin))))))))))))) 21 (.two 1 (.q 2 (.q 3 (.e 8 (.e 11 (.b 12 (.e 13 (.e 15 (.q 16 (.e 19 (.q 20 (.e 22 (.fin)))))))))))) 8 (.two 1 (.q 2 (.q 3 (.e 11 (.b 12 (.e 13 (.e 15 (.q 16 (.e 19 (.q 20 (.e 22 (.fin))))))))))) 11 (.b 12 (.two 1 (.q 2 (.q 3 (.e 13 (.e 15 (.q 16 (.e 19 (.q 20 (.e 22 (.fin))))))))) 13 (.two 1 (.q 2 (.q 3 (.e 15 (.q 16 (.e 19 (.q 20 (.e 22 (.fin)))))))) 15 (.q 16 (.two 1 (.q 2 (.q 3 (.e 19 (.q 20 (.e 22 (.fin)))))) 19 (.e 1 (.q 2 (.q 3 (.q 20 (.e 22 (.fin))))))))))))))) 21 (.two 1 (.q 2 (.q 3 (.e 6 (.b 7 (.e 8 (.e 11 (.b 12 (.e 13 (.e 15 (.q 16 (.e 19 (.q 20 (.e 22 (.fin)))))))))))))) 6 (.b 7 (.two 1 (.q 2 (.q 3 (.e 8 (.e 11 (.b 12 (.e 13 (.e 15 (.q 16 (.e 19 (.q 20 (.e 22 (.fin)))))))))))) 8 (.two 1 (.q 2 (.q 3 (.e 11 (.b 12 (.e 13 (.e 15 (.q 16 (.e 19 (.q 20 (.e 22 (.fin))))))))))) 11 (.b 12 (.two 1 (.q 2 (.q 3 (.e 13 (.e 15 (.q 16 (.e 19 (.q 20 (.e 22 (.fin))))))))) 13 (.two 1 (.q 2 (.q 3 (.e 15 (.q 16 (.e 19 (.q 20 (.e 22 (.fin)))))))) 15 (.q 16 (.two 1 (.q 2 (.q 3 (.e 19 (.q 20 (.e 22 (.fin)))))) 19 (.e 1 (.q 2 (.q 3 (.q 20 (.e 22 (.fin)))))))))))))))))))))))) tok (by kernel_rfl) rfl (by kernel_rfl) ?_)) | ((with_reducible apply xarun); (first | ((with_reducible apply xrun_q); exact rfl; exact rfl; exact rfl) | ((with_reducible apply xrun_b); exact rfl; exact rfl; exact rfl; exact rfl; exact rfl; exact rfl; exact rfl; exact rfl; exact rfl) | ((with_reducible apply xrun_e); exact rfl) | with_reducible apply xrun_f | ((with_reducible apply xrun_2); exact rfl; exact rfl) | ((with_reducible apply xrun_3); exact rfl; exact rfl; exact rfl))) | with_reducible (first | exact trivial | refine And.intro ?_ ?_ | exact rfl) | exact Eq.refl true | (refine inR_i64.mpr ?_; first | omega | (simp only [List.length_map, List.length_map]; omega)))
    all_goals
      rename_i wv _ _ _ _ _ _ _ _ _ _ _ hv _ _ _ _ kv _ _ _
      refine cut_end (wv, hv, decide (kv = 0), v, p') (by dsimp only; omega) ?_
      (refine xwk (π := [0, 1, 2, 3, 4]) (by decide) rfl ?_ ?_; (first | simp -implicitDefEqProofs only [go_sem, Int.reduceEq, Int.reduceLT, Int.reduceLE, Nat.reduceAdd, Nat.reduceSub, Nat.reduceMul, Nat.reduceEqDiff, Nat.reduceLeDiff, Nat.reducePow, ↓reduceIte, reduceCtorEq]); repeat' (first | exact renE_n | ((with_reducible apply renE_c); exact rfl; focus (first | (simp -implicitDefEqProofs only [go_sem, Int.reduceEq, Int.reduceLT, Int.reduceLE, Nat.reduceAdd, Nat.reduceSub, Nat.reduceMul, Nat.reduceEqDiff, Nat.reduceLeDiff, Nat.reducePow, ↓reduceIte, reduceCtorEq]; done)))))
  rintro ⟨wv, hv, kp, kd, q2⟩ ⟨h6, h7⟩
  dsimp only at h6 h7 ⊢
  refine AW.cut (S := fun i : Int × Int => ⟨[(0, .oref 0 0), (2, .oref 1 0), (3, .oref 2 0), (4, .d (.int .i64 m)), (5, .oref 4 0)], [.box [.d (.lst (bs.map encByte)), .d (.int .i64 i.2)], .box [.nils], .box [.msl 3 34 0 ys.length], .arr 34 (ys.map encNode),
      .box (.d (.int .i64 i.1) :: .d (.int .i64 wv) :: .d (.int .i64 hv) :: .d (.bool kp) :: .d (.int .i64 kd) :: .nils :: .nils :: [.d (.int .i64 0), .d (.int .i64 0), .d (.int .i64 0), .d (.bool false), .d (.bool false), .d (.bool false), .d (.int .i64 0), .d (.int .i64 0), .d (.int .i64 0), .d (.int .i64 0), .d (.int .i64 0), .d (.int .i64 0), .d (.int .i64 0), .d (.int .i64 0), .d (.int .i64 0), .d (.int .i64 0), .d (.int .i64 0), .d (.int .i64 0), .d (.int .i64 0), .d (.int .i64 0), .d (.int .i64 0), .d (.int .i64 0), .d (.int .i64 0), .d (.int .i64 0), .d (.int .i64 0), .d (.int .i64 0), .d (.int .i64 0)])], 111, 1⟩) (Pre := fun i => -1 ≤ i.1 ∧ i.1 < ys.length ∧ q2 ≤ i.2 ∧ i.2 ≤ q2 + 2) ?_ ?_
  · repeat' (first | ((with_reducible apply xsim); (first | ((with_reducible apply xo); exact rfl) | ((with_reducible apply xst); exact rfl) | with_reducible apply xend | ((with_reducible apply xcallRd); exact rfl; exact rfl; exact rfl; exact c_pick bs _ _ hb (by omega) (by omega); rintro _ p' _ _ ⟨v, rfl, h1, h2, h3⟩; (try simp only [List.set_cons_zero, List.set_cons_succ])))) | ((with_reducible apply xaw); (first | ((with_reducible apply xstepS); refine AW.step tok rfl ?_) | ((with_reducible apply xstep); refine AW.region tok rfl ?_) | with_reducible refine AW.skip ?_ | ((with_reducible apply xcond); exact rfl))) | (with_reducible intro hc; (try simp only [decide_eq_true_eq, decide_eq_false_iff_not, Bool.not_true, Bool.not_false, Bool.not_eq_true', Bool.not_eq_false', ne_eq, not_true, reduceCtorEq, List.length_map] at hc); (try (exfalso; omega))) | with_reducible (first | exact trivial | refine And.intro ?_ ?_ | exact rfl) | exact Eq.refl true)
    · refine cut_end (0, p') (by dsimp only; omega) ?_
      (refine xwk (π := [0, 1, 2, 3, 4]) (by decide) rfl ?_ ?_; (first | simp -implicitDefEqProofs only [go_sem, Int.reduceEq, Int.reduceLT, Int.reduceLE, Nat.reduceAdd, Nat.reduceSub, Nat.reduceMul, Nat.reduceEqDiff, Nat.reduceLeDiff, Nat.reducePow, ↓reduceIte, reduceCtorEq]); repeat' (first | exact renE_n | ((with_reducible apply renE_c); exact rfl; focus (first | (simp -implicitDefEqProofs only [go_sem, Int.reduceEq, Int.reduceLT, Int.reduceLE, Nat.reduceAdd, Nat.reduceSub, Nat.reduceMul, Nat.reduceEqDiff, Nat.reduceLeDiff, Nat.reducePow, ↓reduceIte, reduceCtorEq]; done)))))
    · rename_i v1 _ _ _ _ _
      refine cut_end (v1, p') (by dsimp only; omega) ?_
      (refine xwk (π := [0, 1, 2, 3, 4]) (by decide) rfl ?_ ?_; (first | simp -implicitDefEqProofs only [go_sem, Int.reduceEq, Int.reduceLT, Int.reduceLE, Nat.reduceAdd, Nat.reduceSub, Nat.reduceMul, Nat.reduceEqDiff, Nat.reduceLeDiff, Nat.reducePow, ↓reduceIte, reduceCtorEq]); repeat' (first | exact renE_n | ((with_reducible apply renE_c); exact rfl; focus (first | (simp -implicitDefEqProofs only [go_sem, Int.reduceEq, Int.reduceLT, Int.reduceLE, Nat.reduceAdd, Nat.reduceSub, Nat.reduceMul, Nat.reduceEqDiff, Nat.reduceLeDiff, Nat.reducePow, ↓reduceIte, reduceCtorEq]; done)))))
    · refine cut_end (ys.length - 1, q2) (by dsimp only; omega) ?_
      (refine xwk (π := [0, 1, 2, 3, 4]) (by decide) rfl ?_ ?_; (first | simp -implicitDefEqProofs only [go_sem, Int.reduceEq, Int.reduceLT, Int.reduceLE, Nat.reduceAdd, Nat.reduceSub, Nat.reduceMul, Nat.reduceEqDiff, Nat.reduceLeDiff, Nat.reducePow, ↓reduceIte, reduceCtorEq]); repeat' (first | exact renE_n | ((with_reducible apply renE_c); exact rfl; focus (first | (simp -implicitDefEqProofs only [go_sem, Int.reduceEq, Int.reduceLT, Int.reduceLE, Nat.reduceAdd, Nat.reduceSub, Nat.reduceMul, Nat.reduceEqDiff, Nat.reduceLeDiff, Nat.reducePow, ↓reduceIte, reduceCtorEq]; done)))))
  rintro ⟨pr, q3⟩ ⟨h8, h9, h10, h11⟩
  dsimp only at h8 h9 h10 h11 ⊢
  refine AW.weak (Weak.nilBoxCell 4 5 rfl rfl) ?_
  refine AW.weak (Weak.nilBoxCell 4 6 rfl rfl) ?_
  refine AW.cut (S := fun i : List Line × List Line × Int => ⟨[(0, .oref 0 0), (2, .oref 1 0), (3, .oref 2 0), (4, .d (.int .i64 m)), (5, .oref 4 0)], [.box [.d (.lst (bs.map encByte)), .d (.int .i64 i.2.2)], .box [.nils], .box [.msl 3 34 0 ys.length], .arr 34 (ys.map encNode),
      .box (.d (.int .i64 pr) :: .d (.int .i64 wv) :: .d (.int .i64 hv) :: .d (.bool kp) :: .d (.int .i64 kd) :: .d (.lst (i.1.map encLine)) :: .d (.lst (i.2.1.map encLine)) :: [.d (.int .i64 0), .d (.int .i64 0), .d (.int .i64 0), .d (.bool false), .d (.bool false), .d (.bool false), .d (.int .i64 0), .d (.int .i64 0), .d (.int .i64 0), .d (.int .i64 0), .d (.int .i64 0), .d (.int .i64 0), .d (.int .i64 0), .d (.int .i64 0), .d (.int .i64 0), .d (.int .i64 0), .d (.int .i64 0), .d (.int .i64 0), .d (.int .i64 0), .d (.int .i64 0), .d (.int .i64 0), .d (.int .i64 0), .d (.int .i64 0), .d (.int .i64 0), .d (.int .i64 0), .d (.int .i64 0), .d (.int .i64 0)])], 111, 1⟩) (Pre := fun i => q3 ≤ i.2.2 ∧ i.2.2 ≤ q3 + 40 ∧ i.1.length ≤ 5 ∧ i.2.1.length ≤ 5) ?_ ?_
  · repeat' (first | ((with_reducible apply xsim); (first | ((with_reducible apply xo); exact rfl) | ((with_reducible apply xst); exact rfl) | with_reducible apply xend | ((with_reducible apply xcallRd); exact rfl; exact rfl; exact rfl; exact c_goodLines bs _ hb (by omega); rintro _ p' _ _ ⟨xs, rfl, hx⟩; (try simp only [List.set_cons_zero, List.set_cons_succ])))) | ((with_reducible apply xaw); (first | ((with_reducible apply xstepS); refine AW.step tok rfl ?_) | ((with_reducible apply xstep); refine AW.region tok rfl ?_) | with_reducible refine AW.skip ?_ | ((with_reducible apply xcond); exact rfl))) | (with_reducible intro hc; (try simp only [decide_eq_true_eq, decide_eq_false_iff_not, Bool.not_true, Bool.not_false, Bool.not_eq_true', Bool.not_eq_false', ne_eq, not_true, reduceCtorEq, List.length_map] at hc); (try (exfalso; omega))) | with_reducible (first | exact trivial | refine And.intro ?_ ?_ | exact rfl) | exact Eq.refl true)
    · rename_i xs1 hx1 _ _
      refine cut_end (xs1, xs, p') (by dsimp only; omega) ?_
      (refine xwk (π := [0, 1, 2, 3, 4]) (by decide) rfl ?_ ?_; (first | simp -implicitDefEqProofs only [go_sem, Int.reduceEq, Int.reduceLT, Int.reduceLE, Nat.reduceAdd, Nat.reduceSub, Nat.reduceMul, Nat.reduceEqDiff, Nat.reduceLeDiff, Nat.reducePow, ↓reduceIte, reduceCtorEq]); repeat' (first | exact renE_n | ((with_reducible apply renE_c); exact rfl; focus (first | (simp -implicitDefEqProofs only [go_sem, Int.reduceEq, Int.reduceLT, Int.reduceLE, Nat.reduceAdd, Nat.reduceSub, Nat.reduceMul, Nat.reduceEqDiff, Nat.reduceLeDiff, Nat.reducePow, ↓reduceIte, reduceCtorEq]; done)))))
    · refine cut_end ([], [], q3) (by dsimp only [List.length_nil]; omega) ?_
      (refine xwk (π := [0, 1, 2, 3, 4]) (by decide) rfl ?_ ?_; (first | simp -implicitDefEqProofs only [go_sem, Int.reduceEq, Int.reduceLT, Int.reduceLE, Nat.reduceAdd, Nat.reduceSub, Nat.reduceMul, Nat.reduceEqDiff, Nat.reduceLeDiff, Nat.reducePow, ↓reduceIte, reduceCtorEq]); repeat' (first | exact renE_n | ((with_reducible apply renE_c); exact rfl; focus (first | (simp -implicitDefEqProofs only [go_sem, Int.reduceEq, Int.reduceLT, Int.reduceLE, Nat.reduceAdd, Nat.reduceSub, Nat.reduceMul, Nat.reduceEqDiff, Nat.reduceLeDiff, Nat.reducePow, ↓reduceIte, reduceCtorEq]; done)))))
  rintro ⟨xs1, xs2, q4⟩ ⟨h12, h13, h14, h15⟩
  dsimp only at h12 h13 h14 h15 ⊢
  by_cases hpr : 0 ≤ pr
  · have hk := hys _ (List.getElem_mem (show pr.toNat < ys.length by omega))
    repeat' (first | ((with_reducible apply xsim); (first | ((with_reducible apply xlenM); exact rfl; exact rfl) | ((with_reducible apply xo); exact rfl) | ((with_reducible apply xst); exact rfl) | with_reducible apply xend | ((with_reducible apply xguardS); exact rfl; exact rfl) | ((with_reducible apply xbuild); exact rfl; exact rfl; exact rfl; exact rfl; exact rfl; simp only [backV, backVs, backVs_mapd, backId, backO, List.map_cons, List.map_nil, List.getElem?_nil, List.length_cons, List.length_nil, Nat.reduceAdd, Nat.reduceSub, List.cons_append, List.nil_append, List.append_nil]) | ((with_reducible apply xidxM); exact rfl; exact rfl; exact rfl; omega; omega; exact rfl) | ((with_reducible apply xldA); exact rfl; exact rfl; exact rfl; (first | exact (encNode_at (by omega))); exact rfl) | ((with_reducible apply xcallRd); exact rfl; exact rfl; exact rfl; exact c_goodPack bs _ hb (by omega); rintro _ p' _ _ ⟨pk, rfl⟩; (try simp only [List.set_cons_zero, List.set_cons_succ])) | ((with_reducible apply xcallRd); exact rfl; exact rfl; exact rfl; exact c_goodPlace bs _ hb (by omega); rintro _ p' _ _ ⟨pl, rfl⟩; (try simp only [List.set_cons_zero, List.set_cons_succ])) | ((with_reducible apply xcallRd); exact rfl; exact rfl; exact rfl; exact c_goodCell bs _ _ _ hb (by omega) (by omega) (by omega); rintro _ p' _ _ ⟨c, rfl⟩; (try simp only [List.set_cons_zero, List.set_cons_succ])) | simp -implicitDefEqProofs only [go_sem, Int.reduceEq, Int.reduceLT, Int.reduceLE, Nat.reduceAdd, Nat.reduceSub, Nat.reduceMul, Nat.reduceEqDiff, Nat.reduceLeDiff, Nat.reducePow, ↓reduceIte, reduceCtorEq, List.length_map])) | ((with_reducible apply xaw); (first | ((with_reducible apply xstepS); refine AW.step tok rfl ?_) | ((with_reducible apply xstep); refine AW.region tok rfl ?_) | with_reducible (first | refine AW.seq ?_ | refine AW.skip ?_) | ((with_reducible apply xcond); exact rfl) | ((with_reducible apply xdraw (id := 18)); refine AW.draw (id := 18) (.q 0 (.q 1 (.q 2 (.q 3 (.q 4 (.q 5 (.q 6 (.q 7 (.q 8 (.q 9 (.q 10 (.q 11 (.q 12 (.q 13 (.q 14 (.q 15 (.q 16 (.e 17 (.q 18 (.e 19 (.fin))))))))))))))))))))) tok (by kernel_rfl) rfl (by kernel_rfl) ?_))) | ((with_reducible apply xarun); (first | ((with_reducible apply xrun_q); exact rfl; exact rfl; exact rfl) | ((with_reducible apply xrun_e); exact rfl) | with_reducible apply xrun_f)) | with_reducible refine xthen ?_ | (with_reducible intro hc; (try simp only [decide_eq_true_eq, decide_eq_false_iff_not, Bool.not_true, Bool.not_false, Bool.not_eq_true', Bool.not_eq_false', ne_eq, not_true, reduceCtorEq, List.length_map] at hc); (try (exfalso; omega))) | with_reducible (first | exact trivial | refine And.intro ?_ ?_ | exact rfl) | exact Eq.refl true | (refine inR_i64.mpr ?_; first | omega | (simp only [List.length_map, List.length_map]; omega)) | omega)
    · refine round_end (m - 1, ys ++ [⟨pr, wv, hv, kp, kd, xs1, xs2, ⟨0, 0, pk.side, pk.fillX, pk.fillY, pk.expand, pk.anchor, pk.padX, pk.padY⟩, ⟨c.col, c.row, c.manyCols, c.manyRows, 0, 0, c.stick, c.padX, c.padY⟩, pl⟩], p')
        ⟨by dsimp only; rw [List.length_append]; simp only [List.length_cons, List.length_nil]; omega, by dsimp only; rw [List.length_append]; simp only [List.length_cons, List.length_nil]; omega, by dsimp only; omega, by dsimp only; omega, all_snoc hys ⟨h14, h15⟩⟩ (by dsimp only; omega) (by (refine xwk (π := [0, 1, 2, 6]) (by decide) rfl ?_ ?_; (first | simp -implicitDefEqProofs only [go_sem, Int.reduceEq, Int.reduceLT, Int.reduceLE, Nat.reduceAdd, Nat.reduceSub, Nat.reduceMul, Nat.reduceEqDiff, Nat.reduceLeDiff, Nat.reducePow, ↓reduceIte, reduceCtorEq, List.map_append, List.length_append]); repeat' (first | exact renE_n | ((with_reducible apply renE_c); exact rfl; focus (first | (simp -implicitDefEqProofs only [go_sem, Int.reduceEq, Int.reduceLT, Int.reduceLE, Nat.reduceAdd, Nat.reduceSub, Nat.reduceMul, Nat.reduceEqDiff, Nat.reduceLeDiff, Nat.reducePow, ↓reduceIte, reduceCtorEq, List.map_append, List.length_append]; done) | (simp -implicitDefEqProofs only [go_sem, Int.reduceEq, Int.reduceLT, Int.reduceLE, Nat.reduceAdd, Nat.reduceSub, Nat.reduceMul, Nat.reduceEqDiff, Nat.reduceLeDiff, Nat.reducePow, ↓reduceIte, reduceCtorEq, List.map_append, List.length_append]; omega))))))
    · refine round_end (m - 1, ys ++ [⟨pr, wv, hv, kp, kd, xs1, xs2, ⟨0, 0, pk.side, pk.fillX, pk.fillY, pk.expand, pk.anchor, pk.padX, pk.padY⟩, ⟨0, 0, 0, 0, 0, 0, 0, 0, 0⟩, pl⟩], p')
        ⟨by dsimp only; rw [List.length_append]; simp only [List.length_cons, List.length_nil]; omega, by dsimp only; rw [List.length_append]; simp only [List.length_cons, List.length_nil]; omega, by dsimp only; omega, by dsimp only; omega, all_snoc hys ⟨h14, h15⟩⟩ (by dsimp only; omega) (by (refine xwk (π := [0, 1, 2, 6]) (by decide) rfl ?_ ?_; (first | simp -implicitDefEqProofs only [go_sem, Int.reduceEq, Int.reduceLT, Int.reduceLE, Nat.reduceAdd, Nat.reduceSub, Nat.reduceMul, Nat.reduceEqDiff, Nat.reduceLeDiff, Nat.reducePow, ↓reduceIte, reduceCtorEq, List.map_append, List.length_append]); repeat' (first | exact renE_n | ((with_reducible apply renE_c); exact rfl; focus (first | (simp -implicitDefEqProofs only [go_sem, Int.reduceEq, Int.reduceLT, Int.reduceLE, Nat.reduceAdd, Nat.reduceSub, Nat.reduceMul, Nat.reduceEqDiff, Nat.reduceLeDiff, Nat.reducePow, ↓reduceIte, reduceCtorEq, List.map_append, List.length_append]; done) | (simp -implicitDefEqProofs only [go_sem, Int.reduceEq, Int.reduceLT, Int.reduceLE, Nat.reduceAdd, Nat.reduceSub, Nat.reduceMul, Nat.reduceEqDiff, Nat.reduceLeDiff, Nat.reducePow, ↓reduceIte, reduceCtorEq, List.map_append, List.length_append]; omega))))))
  · repeat' (first | ((with_reducible apply xsim); (first | ((with_reducible apply xo); exact rfl) | ((with_reducible apply xst); exact rfl) | with_reducible apply xend | ((with_reducible apply xguardS); exact rfl; exact rfl) | ((with_reducible apply xbuild); exact rfl; exact rfl; exact rfl; exact rfl; exact rfl; simp only [backV, backVs, backVs_mapd, backId, backO, List.map_cons, List.map_nil, List.getElem?_nil, List.length_cons, List.length_nil, Nat.reduceAdd, Nat.reduceSub, List.cons_append, List.nil_append, List.append_nil]) | ((with_reducible apply xcallRd); exact rfl; exact rfl; exact rfl; exact c_goodPack bs _ hb (by omega); rintro _ p' _ _ ⟨pk, rfl⟩; (try simp only [List.set_cons_zero, List.set_cons_succ])) | ((with_reducible apply xcallRd); exact rfl; exact rfl; exact rfl; exact c_goodPlace bs _ hb (by omega); rintro _ p' _ _ ⟨pl, rfl⟩; (try simp only [List.set_cons_zero, List.set_cons_succ])) | simp -implicitDefEqProofs only [go_sem, Int.reduceEq, Int.reduceLT, Int.reduceLE, Nat.reduceAdd, Nat.reduceSub, Nat.reduceMul, Nat.reduceEqDiff, Nat.reduceLeDiff, Nat.reducePow, ↓reduceIte, reduceCtorEq, List.length_map])) | ((with_reducible apply xaw); (first | ((with_reducible apply xstepS); refine AW.step tok rfl ?_) | ((with_reducible apply xstep); refine AW.region tok rfl ?_) | with_reducible (first | refine AW.seq ?_ | refine AW.skip ?_) | ((with_reducible apply xcond); exact rfl))) | with_reducible refine xthen ?_ | (with_reducible intro hc; (try simp only [decide_eq_true_eq, decide_eq_false_iff_not, Bool.not_true, Bool.not_false, Bool.not_eq_true', Bool.not_eq_false', ne_eq, not_true, reduceCtorEq, List.length_map] at hc); (try (exfalso; omega))) | with_reducible (first | exact trivial | refine And.intro ?_ ?_ | exact rfl) | exact Eq.refl true | (refine inR_i64.mpr ?_; first | omega | (simp only [List.length_map, List.length_map]; omega)) | omega)
    · refine round_end (m - 1, ys ++ [⟨pr, wv, hv, kp, kd, xs1, xs2, ⟨0, 0, pk.side, pk.fillX, pk.fillY, pk.expand, pk.anchor, pk.padX, pk.padY⟩, ⟨0, 0, 0, 0, 0, 0, 0, 0, 0⟩, pl⟩], p')
        ⟨by dsimp only; rw [List.length_append]; simp only [List.length_cons, List.length_nil]; omega, by dsimp only; rw [List.length_append]; simp only [List.length_cons, List.length_nil]; omega, by dsimp only; omega, by dsimp only; omega, all_snoc hys ⟨h14, h15⟩⟩ (by dsimp only; omega) (by (refine xwk (π := [0, 1, 2, 6]) (by decide) rfl ?_ ?_; (first | simp -implicitDefEqProofs only [go_sem, Int.reduceEq, Int.reduceLT, Int.reduceLE, Nat.reduceAdd, Nat.reduceSub, Nat.reduceMul, Nat.reduceEqDiff, Nat.reduceLeDiff, Nat.reducePow, ↓reduceIte, reduceCtorEq, List.map_append, List.length_append]); repeat' (first | exact renE_n | ((with_reducible apply renE_c); exact rfl; focus (first | (simp -implicitDefEqProofs only [go_sem, Int.reduceEq, Int.reduceLT, Int.reduceLE, Nat.reduceAdd, Nat.reduceSub, Nat.reduceMul, Nat.reduceEqDiff, Nat.reduceLeDiff, Nat.reducePow, ↓reduceIte, reduceCtorEq, List.map_append, List.length_append]; done) | (simp -implicitDefEqProofs only [go_sem, Int.reduceEq, Int.reduceLT, Int.reduceLE, Nat.reduceAdd, Nat.reduceSub, Nat.reduceMul, Nat.reduceEqDiff, Nat.reduceLeDiff, Nat.reducePow, ↓reduceIte, reduceCtorEq, List.map_append, List.length_append]; omega))))))
end Go.Proofs.Yticgjepndfjafaa

namespace Go.Proofs.Yticgjepndfjafaa
open Go.Fw
attribute [local irreducible] Go.Fw.aops Go.Fw.arun
/-- A tree. -/
def TreeB (xs : List Node) : Prop := 1 ≤ xs.length ∧ xs.length ≤ 10 ∧ ∀ x ∈ xs, x.cols.length ≤ 5 ∧ x.rows.length ≤ 5
theorem all_set {α : Type} {p : α → Prop} {xs : List α} {i : Nat} {y : α} (h : ∀ x ∈ xs, p x) (hy : p y) : ∀ x ∈ xs.set i y, p x := by
  intro x hx
  rcases List.mem_or_eq_of_mem_set hx with hx | rfl
  · exact h x hx
  · exact hy

theorem TreeB.set {xs : List Node} {i : Nat} {y : Node} (h : TreeB xs) (hi : i < xs.length) (hy : y.cols.length ≤ 5 ∧ y.rows.length ≤ 5) : TreeB (xs.set i y) :=
  ⟨by rw [List.length_set]; exact h.1, by rw [List.length_set]; exact h.2.1, all_set h.2.2 hy⟩

/-- A tree that was drawn. -/
def ATree (r : V) : Prop := ∃ t : List Node, r = vTree t ∧ TreeB t
set_option maxHeartbeats 4000000 in
theorem c_someTree (bs : List Byte) (p : Int) (hb : bs.length ≤ 2000) (hp : 0 ≤ p ∧ p < 2^26) :
    ACon Try.prog 52 [.oref 0 0] [.box [.d (.lst (bs.map encByte)), .d (.int .i64 p)]] (Rd (.lst (bs.map encByte)) p (p + 1310) ATree) := by
  refine ACon.introW tok (nt := 54) Try.func52 rfl rfl rfl (by kernel_rfl) rfl ?_
  repeat' (first | ((with_reducible apply xsim); (first | ((with_reducible apply xo); exact rfl) | ((with_reducible apply xst); exact rfl) | with_reducible apply xend | ((with_reducible apply xalloc); exact rfl; simp only [backV, backVs, backVs_mapd, backId, backO, List.map_cons, List.map_nil, List.getElem?_nil, List.length_cons, List.length_nil, Nat.reduceAdd, Nat.reduceSub, List.cons_append, List.nil_append, List.append_nil]) | ((with_reducible apply xbuild); exact rfl; exact rfl; exact rfl; exact rfl; exact rfl; simp only [backV, backVs, backVs_mapd, backId, backO, List.map_cons, List.map_nil, List.getElem?_nil, List.length_cons, List.length_nil, Nat.reduceAdd, Nat.reduceSub, List.cons_append, List.nil_append, List.append_nil]) | ((with_reducible apply xidxM); exact rfl; exact rfl; exact rfl; omega; omega; exact rfl) | ((with_reducible apply xstA); exact rfl; exact rfl; exact rfl; exact rfl; (first | exact (encNode_at (by omega))); exact rfl; exact rfl; exact rfl; exact rfl; (try simp only [List.set_cons_zero, List.set_cons_succ, List.length_map])) | ((with_reducible apply xcallRdT); exact rfl; exact rfl; exact rfl; exact c_TgoodTree bs _ hb (by omega); rintro p' xs _ _ hx; simp only [backV, backVs, backVs_mapd, backId, backO, List.map_cons, List.map_nil, List.getElem?_nil, List.length_cons, List.length_nil, Nat.reduceAdd, Nat.reduceSub, List.cons_append, List.nil_append, List.append_nil, List.set_cons_zero, List.set_cons_succ]) | ((with_reducible apply xcallRd); exact rfl; exact rfl; exact rfl; exact c_pick bs _ _ hb (by omega) (by omega); rintro _ p' _ _ ⟨v, rfl, h1, h2, h3⟩; (try simp only [List.set_cons_zero, List.set_cons_succ])) | ((with_reducible apply xcallOne); exact rfl; exact rfl; exact rfl; exact rfl; exact c_one rfl rfl hb (by omega) rfl rfl; rintro _ p' _ _ ⟨v, rfl, h1⟩; (try simp only [List.set_cons_zero, List.set_cons_succ])))) | ((with_reducible apply xaw); (first | ((with_reducible apply xstepS); refine AW.step tok rfl ?_) | ((with_reducible apply xstep); refine AW.region tok rfl ?_) | with_reducible (first | refine AW.seq ?_ | refine AW.block ?_ | refine AW.skip ?_ | refine AW.ret ?_) | ((with_reducible apply xcond); exact rfl) | ((with_reducible apply xdraw (id := 5)); refine AW.draw (id := 5) (.q 0 (.q 2 (.q 3 (.q 4 (.two 1 (.e 5 (.e 6 (.q 7 (.q 8 (.e 9 (.fin)))))) 5 (.two 1 (.e 6 (.q 7 (.q 8 (.e 9 (.fin))))) 6 (.e 1 (.q 7 (.q 8 (.e 9 (.fin))))))))))) tok (by kernel_rfl) rfl (by kernel_rfl) ?_) | ((with_reducible apply xdraw (id := 7)); refine AW.draw (id := 7) (.q 0 (.q 2 (.q 3 (.two 1 (.e 4 (.e 5 (.q 6 (.q 7 (.e 8 (.fin)))))) 4 (.two 1 (.e 5 (.q 6 (.q 7 (.e 8 (.fin))))) 5 (.e 1 (.q 6 (.q 7 (.e 8 (.fin)))))))))) tok (by kernel_rfl) rfl (by kernel_rfl) ?_) | ((with_reducible apply xdraw (id := 9)); refine AW.draw (id := 9) (.q 0 (.q 2 (.q 3 (.two 1 (.e 4 (.e 5 (.q 6 (.q 7 (.e 8 (.fin)))))) 4 (.two 1 (.e 5 (.q 6 (.q 7 (.e 8 (.fin))))) 5 (.e 1 (.q 6 (.q 7 (.e 8 (.fin)))))))))) tok (by kernel_rfl) rfl (by kernel_rfl) ?_))) | ((with_reducible apply xarun); (first | ((with_reducible apply xrun_q); exact rfl; exact rfl; exact rfl) | ((with_reducible apply xrun_e); exact rfl) | with_reducible apply xrun_f | ((with_reducible apply xrun_2); exact rfl; exact rfl))) | with_reducible (first | refine xthen ?_ | refine xblock ?_) | (with_reducible intro hc; (try simp only [decide_eq_true_eq, decide_eq_false_iff_not, Bool.not_true, Bool.not_false, Bool.not_eq_true', Bool.not_eq_false', ne_eq, not_true, reduceCtorEq, List.length_map] at hc); (try (exfalso; omega))) | with_reducible (first | exact trivial | refine And.intro ?_ ?_ | exact rfl) | exact Eq.refl true)
  · rename_i k _ _ _ _ _ _ _ _ _ _
    refine xfinW (Weak.freezeBoxCell 1 2 34 0 rfl rfl rfl (by simp)) ?_
    refine xfinRd (by first | exact .inl rfl | exact .inr rfl) rfl (by repeat' (first | exact trivial | exact rfl | refine And.intro ?_ ?_)) rfl (by omega) (by omega) ?_
    exact ⟨xs.set k.toNat ⟨v, (xs[k.toNat]'(by omega)).w, (xs[k.toNat]'(by omega)).h, (xs[k.toNat]'(by omega)).keep, (xs[k.toNat]'(by omega)).kind, (xs[k.toNat]'(by omega)).cols, (xs[k.toNat]'(by omega)).rows, (xs[k.toNat]'(by omega)).pack, (xs[k.toNat]'(by omega)).cell, (xs[k.toNat]'(by omega)).place⟩, by simp only [vTree, encTree, List.map_set]; rfl, TreeB.set hx (by omega) (hx.2.2 (xs[k.toNat]'(by omega)) (List.getElem_mem (show k.toNat < xs.length by omega)))⟩
  · rename_i k _ _ _ _ _ _ _ _ _ _
    refine xfinW (Weak.freezeBoxCell 1 2 34 0 rfl rfl rfl (by simp)) ?_
    refine xfinRd (by first | exact .inl rfl | exact .inr rfl) rfl (by repeat' (first | exact trivial | exact rfl | refine And.intro ?_ ?_)) rfl (by omega) (by omega) ?_
    exact ⟨xs.set k.toNat ⟨v, (xs[k.toNat]'(by omega)).w, (xs[k.toNat]'(by omega)).h, (xs[k.toNat]'(by omega)).keep, (xs[k.toNat]'(by omega)).kind, (xs[k.toNat]'(by omega)).cols, (xs[k.toNat]'(by omega)).rows, (xs[k.toNat]'(by omega)).pack, (xs[k.toNat]'(by omega)).cell, (xs[k.toNat]'(by omega)).place⟩, by simp only [vTree, encTree, List.map_set]; rfl, TreeB.set hx (by omega) (hx.2.2 (xs[k.toNat]'(by omega)) (List.getElem_mem (show k.toNat < xs.length by omega)))⟩
  · rename_i k _ _ _ _ _ _ _ _ _ _
    refine xfinW (Weak.freezeBoxCell 1 2 34 0 rfl rfl rfl (by simp)) ?_
    refine xfinRd (by first | exact .inl rfl | exact .inr rfl) rfl (by repeat' (first | exact trivial | exact rfl | refine And.intro ?_ ?_)) rfl (by omega) (by omega) ?_
    exact ⟨xs.set k.toNat ⟨v, (xs[k.toNat]'(by omega)).w, (xs[k.toNat]'(by omega)).h, (xs[k.toNat]'(by omega)).keep, (xs[k.toNat]'(by omega)).kind, (xs[k.toNat]'(by omega)).cols, (xs[k.toNat]'(by omega)).rows, (xs[k.toNat]'(by omega)).pack, (xs[k.toNat]'(by omega)).cell, (xs[k.toNat]'(by omega)).place⟩, by simp only [vTree, encTree, List.map_set]; rfl, TreeB.set hx (by omega) (hx.2.2 (xs[k.toNat]'(by omega)) (List.getElem_mem (show k.toNat < xs.length by omega)))⟩
  · rename_i k _ _ _ _ _ _ _ _ _ _ _
    refine xfinW (Weak.freezeBoxCell 1 2 34 0 rfl rfl rfl (by simp)) ?_
    refine xfinRd (by first | exact .inl rfl | exact .inr rfl) rfl (by repeat' (first | exact trivial | exact rfl | refine And.intro ?_ ?_)) rfl (by omega) (by omega) ?_
    exact ⟨xs.set k.toNat ⟨(xs[k.toNat]'(by omega)).parent, v, (xs[k.toNat]'(by omega)).h, (xs[k.toNat]'(by omega)).keep, (xs[k.toNat]'(by omega)).kind, (xs[k.toNat]'(by omega)).cols, (xs[k.toNat]'(by omega)).rows, (xs[k.toNat]'(by omega)).pack, (xs[k.toNat]'(by omega)).cell, (xs[k.toNat]'(by omega)).place⟩, by simp only [vTree, encTree, List.map_set]; rfl, TreeB.set hx (by omega) (hx.2.2 (xs[k.toNat]'(by omega)) (List.getElem_mem (show k.toNat < xs.length by omega)))⟩
  · rename_i k _ _ _ _ _ _ _ _ _ _ _
    refine xfinW (Weak.freezeBoxCell 1 2 34 0 rfl rfl rfl (by simp)) ?_
    refine xfinRd (by first | exact .inl rfl | exact .inr rfl) rfl (by repeat' (first | exact trivial | exact rfl | refine And.intro ?_ ?_)) rfl (by omega) (by omega) ?_
    exact ⟨xs.set k.toNat ⟨(xs[k.toNat]'(by omega)).parent, v, (xs[k.toNat]'(by omega)).h, (xs[k.toNat]'(by omega)).keep, (xs[k.toNat]'(by omega)).kind, (xs[k.toNat]'(by omega)).cols, (xs[k.toNat]'(by omega)).rows, (xs[k.toNat]'(by omega)).pack, (xs[k.toNat]'(by omega)).cell, (xs[k.toNat]'(by omega)).place⟩, by simp only [vTree, encTree, List.map_set]; rfl, TreeB.set hx (by omega) (hx.2.2 (xs[k.toNat]'(by omega)) (List.getElem_mem (show k.toNat < xs.length by omega)))⟩
  · rename_i k _ _ _ _ _ _ _ _ _ _ _
    refine xfinW (Weak.freezeBoxCell 1 2 34 0 rfl rfl rfl (by simp)) ?_
    refine xfinRd (by first | exact .inl rfl | exact .inr rfl) rfl (by repeat' (first | exact trivial | exact rfl | refine And.intro ?_ ?_)) rfl (by omega) (by omega) ?_
    exact ⟨xs.set k.toNat ⟨(xs[k.toNat]'(by omega)).parent, v, (xs[k.toNat]'(by omega)).h, (xs[k.toNat]'(by omega)).keep, (xs[k.toNat]'(by omega)).kind, (xs[k.toNat]'(by omega)).cols, (xs[k.toNat]'(by omega)).rows, (xs[k.toNat]'(by omega)).pack, (xs[k.toNat]'(by omega)).cell, (xs[k.toNat]'(by omega)).place⟩, by simp only [vTree, encTree, List.map_set]; rfl, TreeB.set hx (by omega) (hx.2.2 (xs[k.toNat]'(by omega)) (List.getElem_mem (show k.toNat < xs.length by omega)))⟩
  · rename_i k _ _ _ _ _ _ _ _ _ _ _ _
    refine xfinW (Weak.freezeBoxCell 1 2 34 0 rfl rfl rfl (by simp)) ?_
    refine xfinRd (by first | exact .inl rfl | exact .inr rfl) rfl (by repeat' (first | exact trivial | exact rfl | refine And.intro ?_ ?_)) rfl (by omega) (by omega) ?_
    exact ⟨xs.set k.toNat ⟨(xs[k.toNat]'(by omega)).parent, (xs[k.toNat]'(by omega)).w, (xs[k.toNat]'(by omega)).h, (xs[k.toNat]'(by omega)).keep, v, (xs[k.toNat]'(by omega)).cols, (xs[k.toNat]'(by omega)).rows, (xs[k.toNat]'(by omega)).pack, (xs[k.toNat]'(by omega)).cell, (xs[k.toNat]'(by omega)).place⟩, by simp only [vTree, encTree, List.map_set]; rfl, TreeB.set hx (by omega) (hx.2.2 (xs[k.toNat]'(by omega)) (List.getElem_mem (show k.toNat < xs.length by omega)))⟩
  · rename_i k _ _ _ _ _ _ _ _ _ _ _ _
    refine xfinW (Weak.freezeBoxCell 1 2 34 0 rfl rfl rfl (by simp)) ?_
    refine xfinRd (by first | exact .inl rfl | exact .inr rfl) rfl (by repeat' (first | exact trivial | exact rfl | refine And.intro ?_ ?_)) rfl (by omega) (by omega) ?_
    exact ⟨xs.set k.toNat ⟨(xs[k.toNat]'(by omega)).parent, (xs[k.toNat]'(by omega)).w, (xs[k.toNat]'(by omega)).h, (xs[k.toNat]'(by omega)).keep, v, (xs[k.toNat]'(by omega)).cols, (xs[k.toNat]'(by omega)).rows, (xs[k.toNat]'(by omega)).pack, (xs[k.toNat]'(by omega)).cell, (xs[k.toNat]'(by omega)).place⟩, by simp only [vTree, encTree, List.map_set]; rfl, TreeB.set hx (by omega) (hx.2.2 (xs[k.toNat]'(by omega)) (List.getElem_mem (show k.toNat < xs.length by omega)))⟩
  · rename_i k _ _ _ _ _ _ _ _ _ _ _ _
    refine xfinW (Weak.freezeBoxCell 1 2 34 0 rfl rfl rfl (by simp)) ?_
    refine xfinRd (by first | exact .inl rfl | exact .inr rfl) rfl (by repeat' (first | exact trivial | exact rfl | refine And.intro ?_ ?_)) rfl (by omega) (by omega) ?_
    exact ⟨xs.set k.toNat ⟨(xs[k.toNat]'(by omega)).parent, (xs[k.toNat]'(by omega)).w, (xs[k.toNat]'(by omega)).h, (xs[k.toNat]'(by omega)).keep, v, (xs[k.toNat]'(by omega)).cols, (xs[k.toNat]'(by omega)).rows, (xs[k.toNat]'(by omega)).pack, (xs[k.toNat]'(by omega)).cell, (xs[k.toNat]'(by omega)).place⟩, by simp only [vTree, encTree, List.map_set]; rfl, TreeB.set hx (by omega) (hx.2.2 (xs[k.toNat]'(by omega)) (List.getElem_mem (show k.toNat < xs.length by omega)))⟩
  · rename_i k _ _ _ _ _ _ _ _
    refine xfinW (Weak.freezeBoxCell 1 2 34 0 rfl rfl rfl (by simp)) ?_
    refine xfinRd (by first | exact .inl rfl | exact .inr rfl) rfl (by repeat' (first | exact trivial | exact rfl | refine And.intro ?_ ?_)) rfl (by omega) (by omega) ?_
    exact ⟨xs.set k.toNat ⟨(xs[k.toNat]'(by omega)).parent, (xs[k.toNat]'(by omega)).w, (xs[k.toNat]'(by omega)).h, (xs[k.toNat]'(by omega)).keep, (xs[k.toNat]'(by omega)).kind, (xs[k.toNat]'(by omega)).cols, (xs[k.toNat]'(by omega)).rows, ⟨1, (xs[k.toNat]'(by omega)).pack.h, (xs[k.toNat]'(by omega)).pack.side, (xs[k.toNat]'(by omega)).pack.fillX, (xs[k.toNat]'(by omega)).pack.fillY, (xs[k.toNat]'(by omega)).pack.expand, (xs[k.toNat]'(by omega)).pack.anchor, (xs[k.toNat]'(by omega)).pack.padX, (xs[k.toNat]'(by omega)).pack.padY⟩, (xs[k.toNat]'(by omega)).cell, (xs[k.toNat]'(by omega)).place⟩, by simp only [vTree, encTree, List.map_set]; rfl, TreeB.set hx (by omega) (hx.2.2 (xs[k.toNat]'(by omega)) (List.getElem_mem (show k.toNat < xs.length by omega)))⟩
  · refine xfinW (Weak.freezeBoxCell 1 2 34 0 rfl rfl rfl (by simp)) ?_
    refine xfinRd (by first | exact .inl rfl | exact .inr rfl) rfl (by repeat' (first | exact trivial | exact rfl | refine And.intro ?_ ?_)) rfl (by omega) (by omega) ?_
    exact ⟨xs, rfl, hx⟩
end Go.Proofs.Yticgjepndfjafaa

namespace Go.Proofs.Yticgjepndfjafaa
open Go.Fw
attribute [local irreducible] Go.Fw.aops Go.Fw.arun
/-- A tree that was drawn, and a number. -/
def ATreeI (r : V) : Prop := ∃ (t : List Node) (i : Int), r = .tup [vTree t, .d (.int .i64 i)] ∧ TreeB t
set_option maxHeartbeats 4000000 in
theorem c_nodeIn (bs : List Byte) (p : Int) (hb : bs.length ≤ 2000) (hp : 0 ≤ p ∧ p < 2^26) :
    ACon Try.prog 58 [.oref 0 0] [.box [.d (.lst (bs.map encByte)), .d (.int .i64 p)]] (Rd (.lst (bs.map encByte)) p (p + 1320) ATreeI) := by
  refine ACon.introW tok (nt := 30) Try.func58 rfl rfl rfl (by kernel_rfl) rfl ?_
  repeat' ((fail_if_success (with_reducible apply xnocond)); first | ((with_reducible apply xsim); (first | ((with_reducible apply xo); exact rfl) | ((with_reducible apply xst); exact rfl) | with_reducible apply xend | ((with_reducible apply xalloc); exact rfl; simp only [backV, backVs, backVs_mapd, backId, backO, List.map_cons, List.map_nil, List.getElem?_nil, List.length_cons, List.length_nil, Nat.reduceAdd, Nat.reduceSub, List.cons_append, List.nil_append, List.append_nil]) | ((with_reducible apply xcallRd); exact rfl; exact rfl; exact rfl; exact c_someTree bs _ hb (by omega); rintro _ p' _ _ ⟨t, rfl, ht⟩; (try simp only [List.set_cons_zero, List.set_cons_succ])))) | ((with_reducible apply xaw); (first | ((with_reducible apply xstepS); refine AW.step tok rfl ?_) | with_reducible refine AW.seq ?_)) | with_reducible (first | exact trivial | refine And.intro ?_ ?_) | exact Eq.refl true)
  have ht' := ht
  obtain ⟨hx1, hx2, hx3⟩ := ht'
  refine AW.weak (Weak.freezeBox 4 2 (cells := [.lst (t.map encNode)]) rfl rfl) ?_
  repeat' (first | ((with_reducible apply xsim); (first | ((with_reducible apply xlenM); exact rfl; exact rfl) | ((with_reducible apply xo); exact rfl) | ((with_reducible apply xst); exact rfl) | with_reducible apply xend | ((with_reducible apply xcallRd); exact rfl; exact rfl; exact rfl; exact c_pick bs _ _ hb (by omega) (by omega); rintro _ p' _ _ ⟨v, rfl, h1, h2, h3⟩; (try simp only [List.set_cons_zero, List.set_cons_succ])) | ((with_reducible apply xcallRd); exact rfl; exact rfl; exact rfl; exact c_dOne rfl hb (by omega) rfl rfl; rintro _ p' _ _ ⟨v, rfl, h1⟩; (try simp only [List.set_cons_zero, List.set_cons_succ])))) | ((with_reducible apply xaw); (first | with_reducible refine AW.ret ?_ | ((with_reducible apply xdraw (id := 2)); refine AW.draw (id := 2) (.l 0 (.q 1 (.q 2 (.q 3 (.l 4 (.q 5 (.q 7 (.q 8 (.l 9 (.q 10 (.q 12 (.l 13 (.q 14 (.q 15 (.q 16 (.q 17 (.l 18 (.q 19 (.e 6 (.e 11 (.e 20 (.b 21 (.e 22 (.e 23 (.q 24 (.fin)))))))))))))))))))))))))) tok (by kernel_rfl) rfl (by kernel_rfl) ?_))) | ((with_reducible apply xarun); (first | ((with_reducible apply xrun_q); exact rfl; exact rfl; exact rfl) | ((with_reducible apply xrun_l); exact rfl; exact rfl; exact rfl; exact rfl; exact rfl; exact rfl; focus (repeat (first | exact trivial | exact rfl | refine And.intro ?_ ?_))) | ((with_reducible apply xrun_b); exact rfl; exact rfl; exact rfl; exact rfl; exact rfl; exact rfl; exact rfl; exact rfl; exact rfl) | ((with_reducible apply xrun_e); exact rfl) | with_reducible apply xrun_f)) | with_reducible refine xthen ?_ | with_reducible (first | exact trivial | refine And.intro ?_ ?_ | exact rfl) | exact Eq.refl true | (refine inR_i64.mpr ?_; first | omega | (simp only [List.length_map, List.length_map]; omega)))
  all_goals refine xfinRd (by first | exact .inl rfl | exact .inr rfl) rfl (by repeat' (first | exact trivial | exact rfl | refine And.intro ?_ ?_)) rfl (by omega) (by omega) ?_
  all_goals exact ⟨t, _, rfl, ht⟩

end Go.Proofs.Yticgjepndfjafaa

namespace Go.Proofs.Yticgjepndfjafaa
open Go.Fw
attribute [local irreducible] Go.Fw.aops Go.Fw.arun

theorem gridNil {w : World} {ok : Nat → Prop} {ρ : List (Option Nat)} {x y : V} {v : Value} (h : VRep w ok ρ (.agg [x, y, .nils]) v) : VRep w ok ρ (.agg [x, y, .d (.lst [])]) v := by
  cases h with
  | agg hn h =>
    refine .agg hn fun i c hi => ?_
    match i with
    | 0 => exact h 0 c hi
    | 1 => exact h 1 c hi
    | 2 =>
      obtain rfl : V.d (.lst []) = c := by simpa using hi
      have := h 2 .nils rfl
      generalize Array.getD _ 2 undef = u at this ⊢
      cases this
      exact .d .nil
    | n + 3 => simp at hi
theorem gridNil1 {P : Program} {f : Nat} {a x y : V} {Q : V → List O → Prop} (h : ACon P f [a, .agg [x, y, .d (.lst [])]] [] Q) : ACon P f [a, .agg [x, y, .nils]] [] Q := by
  refine ⟨h.1, fun w ok ρ vs hI hs hv => h.2 w ok ρ vs hI hs fun i c hx => ?_⟩
  match i with
  | 0 => exact hv 0 c (by simpa using hx)
  | 1 =>
    obtain rfl : V.agg [x, y, .d (.lst [])] = c := by simpa using hx
    exact gridNil (hv 1 _ rfl)
  | n + 2 => simp at hx
theorem gridNil0 {P : Program} {f : Nat} {a x y : V} {Q : V → List O → Prop} (h : ACon P f [.agg [x, y, .d (.lst [])], a] [] Q) : ACon P f [.agg [x, y, .nils], a] [] Q := by
  refine ⟨h.1, fun w ok ρ vs hI hs hv => h.2 w ok ρ vs hI hs fun i c hx => ?_⟩
  match i with
  | 0 =>
    obtain rfl : V.agg [x, y, .d (.lst [])] = c := by simpa using hx
    exact gridNil (hv 0 _ rfl)
  | 1 => exact hv 1 c (by simpa using hx)
  | n + 2 => simp at hx

theorem c_liesN (c : Cell) (xs ys : List Line) (h1 : xs.length < 2^40) (h2 : ys.length < 2^40) : ACon Try.prog 56 [vCell c, .agg [.d (.lst (xs.map encLine)), .d (.lst (ys.map encLine)), .nils]] [] (Is (.d (.bool (lies c xs.length ys.length)))) :=
  gridNil1 (c_lies c ⟨xs, ys, []⟩ h1 h2)
theorem c_validCellN (c : Cell) (xs ys : List Line) (h1 : xs.length < 2^40) (h2 : ys.length < 2^40) : ACon Try.prog 114 [.agg [.d (.lst (xs.map encLine)), .d (.lst (ys.map encLine)), .nils], vCell c] [] (Is (.d (.bool (cellOk c xs.length ys.length)))) :=
  gridNil0 (c_validCell c ⟨xs, ys, []⟩ h1 h2)

theorem c_validPlace (p : Place) : ACon Try.prog 112 [vPlace p] [] (Is (.d (.bool (validPlace p)))) := by
  refine ACon.introW tok (nt := 46) Try.func112 rfl rfl rfl (by kernel_rfl) rfl ?_
  repeat' (first | ((with_reducible apply xsim); (first | ((with_reducible apply xo); exact rfl) | with_reducible apply xend | ((with_reducible apply xguardS); exact rfl; exact rfl) | ((with_reducible apply xbox); exact rfl; simp only [backV, backVs, backVs_mapd, backId, backO, List.map_cons, List.map_nil, List.getElem?_nil, List.length_cons, List.length_nil, Nat.reduceAdd, Nat.reduceSub, List.cons_append, List.nil_append, List.append_nil]) | ((with_reducible apply xcallIs); exact rfl; exact rfl; (first | exact c_inRange _ _ _ | exact c_validAnchor _); exact rfl))) | ((with_reducible apply xaw); (first | ((with_reducible apply xstepS); refine AW.step tok rfl ?_) | with_reducible refine AW.ret ?_)) | (with_reducible intro hc; (try simp only [decide_eq_true_eq, decide_eq_false_iff_not, Bool.not_true, Bool.not_false, Bool.not_eq_true', Bool.not_eq_false', ne_eq, not_true, reduceCtorEq] at hc); (try (exfalso; omega))) | with_reducible exact trivial)
  all_goals (refine xfinIs (by first | exact .inl rfl | exact .inr rfl) rfl (by repeat' (first | exact trivial | exact rfl | refine And.intro ?_ ?_)) rfl ?_ rfl; first | (simp -implicitDefEqProofs only [go_sem, Int.reduceEq, Int.reduceLT, Int.reduceLE, Nat.reduceAdd, Nat.reduceSub, Nat.reduceMul, Nat.reduceEqDiff, Nat.reduceLeDiff, Nat.reducePow, ↓reduceIte, reduceCtorEq, validPlace] <;> (first | rfl | omega | exact decide_eq_decide.2 (by omega) | exact decide_eq_false (by omega) | exact decide_eq_true (by omega) | (symm; first | exact decide_eq_false (by omega) | exact decide_eq_true (by omega)) | (rw [Bool.eq_iff_iff]; simp only [Bool.not_eq_true', Bool.not_eq_false', Bool.and_eq_true, Bool.or_eq_true, decide_eq_true_eq, decide_eq_false_iff_not, reduceCtorEq, true_iff, iff_true, false_iff, iff_false]; omega))))

set_option maxHeartbeats 4000000 in
theorem c_ValidPlace (p : Place) : ACon Try.prog 86 [vPlace p] [] (Is (.d (.bool (validPlace p)))) := by
  refine ACon.introW tok (nt := 46) Try.func86 rfl rfl rfl (by kernel_rfl) rfl ?_
  repeat' (first | ((with_reducible apply xsim); (first | ((with_reducible apply xo); exact rfl) | with_reducible apply xend | ((with_reducible apply xbox); exact rfl; simp only [backV, backVs, backVs_mapd, backId, backO, List.map_cons, List.map_nil, List.getElem?_nil, List.length_cons, List.length_nil, Nat.reduceAdd, Nat.reduceSub, List.cons_append, List.nil_append, List.append_nil]) | ((with_reducible apply xbuild); exact rfl; exact rfl; exact rfl; exact rfl; exact rfl; simp only [backV, backVs, backVs_mapd, backId, backO, List.map_cons, List.map_nil, List.getElem?_nil, List.length_cons, List.length_nil, Nat.reduceAdd, Nat.reduceSub, List.cons_append, List.nil_append, List.append_nil]))) | ((with_reducible apply xaw); (first | ((with_reducible apply xstepS); refine AW.step tok rfl ?_) | with_reducible (first | refine AW.seq ?_ | refine AW.block ?_))) | with_reducible exact trivial | exact Eq.refl true)
  refine AW.loop (S := fun k : Nat => ⟨[(1, .oref 0 0), (15, .msl 1 1 0 4), (16, .d (.int .i64 4)), (17, .d (.int .i64 k))], [.box ((encPlace p).map .d), .arr 1 [[.int .i64 p.x], [.int .i64 p.y], [.int .i64 p.w], [.int .i64 p.h]]], 46, 0⟩)
    (Pre := fun k => k ≤ 4 ∧ (1 ≤ k → -300 ≤ p.x ∧ p.x ≤ 300) ∧ (2 ≤ k → -300 ≤ p.y ∧ p.y ≤ 300) ∧ (3 ≤ k → -300 ≤ p.w ∧ p.w ≤ 300) ∧ (4 ≤ k → -300 ≤ p.h ∧ p.h ≤ 300)) (μ := fun k => 4 - k) 0 (by omega) ?_ ?_
  · (refine xwk (π := [0, 1]) (by decide) rfl ?_ ?_; (first | simp -implicitDefEqProofs only [go_sem, Int.reduceEq, Int.reduceLT, Int.reduceLE, Nat.reduceAdd, Nat.reduceSub, Nat.reduceMul, Nat.reduceEqDiff, Nat.reduceLeDiff, Nat.reducePow, ↓reduceIte, reduceCtorEq]); repeat' (first | exact renE_n | ((with_reducible apply renE_c); exact rfl; focus (first | (simp -implicitDefEqProofs only [go_sem, Int.reduceEq, Int.reduceLT, Int.reduceLE, Nat.reduceAdd, Nat.reduceSub, Nat.reduceMul, Nat.reduceEqDiff, Nat.reduceLeDiff, Nat.reducePow, ↓reduceIte, reduceCtorEq]; done)))))
  rintro k ⟨hk, a1, a2, a3, a4⟩
  obtain rfl | rfl | rfl | rfl | rfl : k = 0 ∨ k = 1 ∨ k = 2 ∨ k = 3 ∨ k = 4 := by omega
  · repeat' (first | ((with_reducible apply xsim); (first | ((with_reducible apply xo); exact rfl) | with_reducible apply xend | ((with_reducible apply xidxM); exact rfl; exact rfl; exact rfl; omega; omega; exact rfl) | ((with_reducible apply xldA); exact rfl; exact rfl; exact rfl; exact rfl; exact rfl) | ((with_reducible apply xcallIs); exact rfl; exact rfl; exact c_within _ _ _; exact rfl))) | ((with_reducible apply xaw); (first | ((with_reducible apply xstepS); refine AW.step tok rfl ?_) | ((with_reducible apply xstep); refine AW.region tok rfl ?_) | with_reducible (first | refine AW.seq ?_ | refine AW.block ?_ | refine AW.skip ?_ | refine AW.ret ?_) | ((with_reducible apply xcond); exact rfl))) | with_reducible (first | refine xthen ?_ | refine xthen_r ?_ | refine xblock ?_ | refine xblock_r ?_ | refine xround_r ?_) | (with_reducible intro hc; (try simp only [decide_eq_true_eq, decide_eq_false_iff_not, Bool.not_true, Bool.not_false, Bool.not_eq_true', Bool.not_eq_false', ne_eq, not_true, reduceCtorEq] at hc); (try (exfalso; omega))) | with_reducible (first | exact trivial | refine And.intro ?_ ?_ | exact rfl) | (refine inR_i64.mpr ?_; first | omega | (simp only [List.length_map]; omega)))
    · (refine xfinIs (by first | exact .inl rfl | exact .inr rfl) rfl (by repeat' (first | exact trivial | exact rfl | refine And.intro ?_ ?_)) rfl ?_ rfl; first | (simp -implicitDefEqProofs only [go_sem, Int.reduceEq, Int.reduceLT, Int.reduceLE, Nat.reduceAdd, Nat.reduceSub, Nat.reduceMul, Nat.reduceEqDiff, Nat.reduceLeDiff, Nat.reducePow, ↓reduceIte, reduceCtorEq, validPlace] <;> (first | rfl | omega | exact decide_eq_decide.2 (by omega) | exact decide_eq_false (by omega) | exact decide_eq_true (by omega) | (symm; first | exact decide_eq_false (by omega) | exact decide_eq_true (by omega)) | (rw [Bool.eq_iff_iff]; simp only [Bool.not_eq_true', Bool.not_eq_false', Bool.and_eq_true, Bool.or_eq_true, decide_eq_true_eq, decide_eq_false_iff_not, reduceCtorEq, true_iff, iff_true, false_iff, iff_false]; omega))))
    · exact round_end 1 (by omega) (by omega) (by (refine xwk (π := [0, 1]) (by decide) rfl ?_ ?_; (first | simp -implicitDefEqProofs only [go_sem, Int.reduceEq, Int.reduceLT, Int.reduceLE, Nat.reduceAdd, Nat.reduceSub, Nat.reduceMul, Nat.reduceEqDiff, Nat.reduceLeDiff, Nat.reducePow, ↓reduceIte, reduceCtorEq]); repeat' (first | exact renE_n | ((with_reducible apply renE_c); exact rfl; focus (first | (simp -implicitDefEqProofs only [go_sem, Int.reduceEq, Int.reduceLT, Int.reduceLE, Nat.reduceAdd, Nat.reduceSub, Nat.reduceMul, Nat.reduceEqDiff, Nat.reduceLeDiff, Nat.reducePow, ↓reduceIte, reduceCtorEq]; done) | (simp -implicitDefEqProofs only [go_sem, Int.reduceEq, Int.reduceLT, Int.reduceLE, Nat.reduceAdd, Nat.reduceSub, Nat.reduceMul, Nat.reduceEqDiff, Nat.reduceLeDiff, Nat.reducePow, ↓reduceIte, reduceCtorEq]; omega))))))
  · repeat' (first | ((with_reducible apply xsim); (first | ((with_reducible apply xo); exact rfl) | with_reducible apply xend | ((with_reducible apply xidxM); exact rfl; exact rfl; exact rfl; omega; omega; exact rfl) | ((with_reducible apply xldA); exact rfl; exact rfl; exact rfl; exact rfl; exact rfl) | ((with_reducible apply xcallIs); exact rfl; exact rfl; exact c_within _ _ _; exact rfl))) | ((with_reducible apply xaw); (first | ((with_reducible apply xstepS); refine AW.step tok rfl ?_) | ((with_reducible apply xstep); refine AW.region tok rfl ?_) | with_reducible (first | refine AW.seq ?_ | refine AW.block ?_ | refine AW.skip ?_ | refine AW.ret ?_) | ((with_reducible apply xcond); exact rfl))) | with_reducible (first | refine xthen ?_ | refine xthen_r ?_ | refine xblock ?_ | refine xblock_r ?_ | refine xround_r ?_) | (with_reducible intro hc; (try simp only [decide_eq_true_eq, decide_eq_false_iff_not, Bool.not_true, Bool.not_false, Bool.not_eq_true', Bool.not_eq_false', ne_eq, not_true, reduceCtorEq] at hc); (try (exfalso; omega))) | with_reducible (first | exact trivial | refine And.intro ?_ ?_ | exact rfl) | (refine inR_i64.mpr ?_; first | omega | (simp only [List.length_map]; omega)))
    · (refine xfinIs (by first | exact .inl rfl | exact .inr rfl) rfl (by repeat' (first | exact trivial | exact rfl | refine And.intro ?_ ?_)) rfl ?_ rfl; first | (simp -implicitDefEqProofs only [go_sem, Int.reduceEq, Int.reduceLT, Int.reduceLE, Nat.reduceAdd, Nat.reduceSub, Nat.reduceMul, Nat.reduceEqDiff, Nat.reduceLeDiff, Nat.reducePow, ↓reduceIte, reduceCtorEq, validPlace] <;> (first | rfl | omega | exact decide_eq_decide.2 (by omega) | exact decide_eq_false (by omega) | exact decide_eq_true (by omega) | (symm; first | exact decide_eq_false (by omega) | exact decide_eq_true (by omega)) | (rw [Bool.eq_iff_iff]; simp only [Bool.not_eq_true', Bool.not_eq_false', Bool.and_eq_true, Bool.or_eq_true, decide_eq_true_eq, decide_eq_false_iff_not, reduceCtorEq, true_iff, iff_true, false_iff, iff_false]; omega))))
    · exact round_end 2 (by omega) (by omega) (by (refine xwk (π := [0, 1]) (by decide) rfl ?_ ?_; (first | simp -implicitDefEqProofs only [go_sem, Int.reduceEq, Int.reduceLT, Int.reduceLE, Nat.reduceAdd, Nat.reduceSub, Nat.reduceMul, Nat.reduceEqDiff, Nat.reduceLeDiff, Nat.reducePow, ↓reduceIte, reduceCtorEq]); repeat' (first | exact renE_n | ((with_reducible apply renE_c); exact rfl; focus (first | (simp -implicitDefEqProofs only [go_sem, Int.reduceEq, Int.reduceLT, Int.reduceLE, Nat.reduceAdd, Nat.reduceSub, Nat.reduceMul, Nat.reduceEqDiff, Nat.reduceLeDiff, Nat.reducePow, ↓reduceIte, reduceCtorEq]; done) | (simp -implicitDefEqProofs only [go_sem, Int.reduceEq, Int.reduceLT, Int.reduceLE, Nat.reduceAdd, Nat.reduceSub, Nat.reduceMul, Nat.reduceEqDiff, Nat.reduceLeDiff, Nat.reducePow, ↓reduceIte, reduceCtorEq]; omega))))))
  · repeat' (first | ((with_reducible apply xsim); (first | ((with_reducible apply xo); exact rfl) | with_reducible apply xend | ((with_reducible apply xidxM); exact rfl; exact rfl; exact rfl; omega; omega; exact rfl) | ((with_reducible apply xldA); exact rfl; exact rfl; exact rfl; exact rfl; exact rfl) | ((with_reducible apply xcallIs); exact rfl; exact rfl; exact c_within _ _ _; exact rfl))) | ((with_reducible apply xaw); (first | ((with_reducible apply xstepS); refine AW.step tok rfl ?_) | ((with_reducible apply xstep); refine AW.region tok rfl ?_) | with_reducible (first | refine AW.seq ?_ | refine AW.block ?_ | refine AW.skip ?_ | refine AW.ret ?_) | ((with_reducible apply xcond); exact rfl))) | with_reducible (first | refine xthen ?_ | refine xthen_r ?_ | refine xblock ?_ | refine xblock_r ?_ | refine xround_r ?_) | (with_reducible intro hc; (try simp only [decide_eq_true_eq, decide_eq_false_iff_not, Bool.not_true, Bool.not_false, Bool.not_eq_true', Bool.not_eq_false', ne_eq, not_true, reduceCtorEq] at hc); (try (exfalso; omega))) | with_reducible (first | exact trivial | refine And.intro ?_ ?_ | exact rfl) | (refine inR_i64.mpr ?_; first | omega | (simp only [List.length_map]; omega)))
    · (refine xfinIs (by first | exact .inl rfl | exact .inr rfl) rfl (by repeat' (first | exact trivial | exact rfl | refine And.intro ?_ ?_)) rfl ?_ rfl; first | (simp -implicitDefEqProofs only [go_sem, Int.reduceEq, Int.reduceLT, Int.reduceLE, Nat.reduceAdd, Nat.reduceSub, Nat.reduceMul, Nat.reduceEqDiff, Nat.reduceLeDiff, Nat.reducePow, ↓reduceIte, reduceCtorEq, validPlace] <;> (first | rfl | omega | exact decide_eq_decide.2 (by omega) | exact decide_eq_false (by omega) | exact decide_eq_true (by omega) | (symm; first | exact decide_eq_false (by omega) | exact decide_eq_true (by omega)) | (rw [Bool.eq_iff_iff]; simp only [Bool.not_eq_true', Bool.not_eq_false', Bool.and_eq_true, Bool.or_eq_true, decide_eq_true_eq, decide_eq_false_iff_not, reduceCtorEq, true_iff, iff_true, false_iff, iff_false]; omega))))
    · exact round_end 3 (by omega) (by omega) (by (refine xwk (π := [0, 1]) (by decide) rfl ?_ ?_; (first | simp -implicitDefEqProofs only [go_sem, Int.reduceEq, Int.reduceLT, Int.reduceLE, Nat.reduceAdd, Nat.reduceSub, Nat.reduceMul, Nat.reduceEqDiff, Nat.reduceLeDiff, Nat.reducePow, ↓reduceIte, reduceCtorEq]); repeat' (first | exact renE_n | ((with_reducible apply renE_c); exact rfl; focus (first | (simp -implicitDefEqProofs only [go_sem, Int.reduceEq, Int.reduceLT, Int.reduceLE, Nat.reduceAdd, Nat.reduceSub, Nat.reduceMul, Nat.reduceEqDiff, Nat.reduceLeDiff, Nat.reducePow, ↓reduceIte, reduceCtorEq]; done) | (simp -implicitDefEqProofs only [go_sem, Int.reduceEq, Int.reduceLT, Int.reduceLE, Nat.reduceAdd, Nat.reduceSub, Nat.reduceMul, Nat.reduceEqDiff, Nat.reduceLeDiff, Nat.reducePow, ↓reduceIte, reduceCtorEq]; omega))))))
  · repeat' (first | ((with_reducible apply xsim); (first | ((with_reducible apply xo); exact rfl) | with_reducible apply xend | ((with_reducible apply xidxM); exact rfl; exact rfl; exact rfl; omega; omega; exact rfl) | ((with_reducible apply xldA); exact rfl; exact rfl; exact rfl; exact rfl; exact rfl) | ((with_reducible apply xcallIs); exact rfl; exact rfl; exact c_within _ _ _; exact rfl))) | ((with_reducible apply xaw); (first | ((with_reducible apply xstepS); refine AW.step tok rfl ?_) | ((with_reducible apply xstep); refine AW.region tok rfl ?_) | with_reducible (first | refine AW.seq ?_ | refine AW.block ?_ | refine AW.skip ?_ | refine AW.ret ?_) | ((with_reducible apply xcond); exact rfl))) | with_reducible (first | refine xthen ?_ | refine xthen_r ?_ | refine xblock ?_ | refine xblock_r ?_ | refine xround_r ?_) | (with_reducible intro hc; (try simp only [decide_eq_true_eq, decide_eq_false_iff_not, Bool.not_true, Bool.not_false, Bool.not_eq_true', Bool.not_eq_false', ne_eq, not_true, reduceCtorEq] at hc); (try (exfalso; omega))) | with_reducible (first | exact trivial | refine And.intro ?_ ?_ | exact rfl) | (refine inR_i64.mpr ?_; first | omega | (simp only [List.length_map]; omega)))
    · (refine xfinIs (by first | exact .inl rfl | exact .inr rfl) rfl (by repeat' (first | exact trivial | exact rfl | refine And.intro ?_ ?_)) rfl ?_ rfl; first | (simp -implicitDefEqProofs only [go_sem, Int.reduceEq, Int.reduceLT, Int.reduceLE, Nat.reduceAdd, Nat.reduceSub, Nat.reduceMul, Nat.reduceEqDiff, Nat.reduceLeDiff, Nat.reducePow, ↓reduceIte, reduceCtorEq, validPlace] <;> (first | rfl | omega | exact decide_eq_decide.2 (by omega) | exact decide_eq_false (by omega) | exact decide_eq_true (by omega) | (symm; first | exact decide_eq_false (by omega) | exact decide_eq_true (by omega)) | (rw [Bool.eq_iff_iff]; simp only [Bool.not_eq_true', Bool.not_eq_false', Bool.and_eq_true, Bool.or_eq_true, decide_eq_true_eq, decide_eq_false_iff_not, reduceCtorEq, true_iff, iff_true, false_iff, iff_false]; omega))))
    · exact round_end 4 (by omega) (by omega) (by (refine xwk (π := [0, 1]) (by decide) rfl ?_ ?_; (first | simp -implicitDefEqProofs only [go_sem, Int.reduceEq, Int.reduceLT, Int.reduceLE, Nat.reduceAdd, Nat.reduceSub, Nat.reduceMul, Nat.reduceEqDiff, Nat.reduceLeDiff, Nat.reducePow, ↓reduceIte, reduceCtorEq]); repeat' (first | exact renE_n | ((with_reducible apply renE_c); exact rfl; focus (first | (simp -implicitDefEqProofs only [go_sem, Int.reduceEq, Int.reduceLT, Int.reduceLE, Nat.reduceAdd, Nat.reduceSub, Nat.reduceMul, Nat.reduceEqDiff, Nat.reduceLeDiff, Nat.reducePow, ↓reduceIte, reduceCtorEq]; done) | (simp -implicitDefEqProofs only [go_sem, Int.reduceEq, Int.reduceLT, Int.reduceLE, Nat.reduceAdd, Nat.reduceSub, Nat.reduceMul, Nat.reduceEqDiff, Nat.reduceLeDiff, Nat.reducePow, ↓reduceIte, reduceCtorEq]; omega))))))
  have b1 := a1 (by omega); have b2 := a2 (by omega); have b3 := a3 (by omega); have b4 := a4 (by omega)
  repeat' (first | ((with_reducible apply xsim); (first | ((with_reducible apply xo); exact rfl) | with_reducible apply xend | ((with_reducible apply xbuild); exact rfl; exact rfl; exact rfl; exact rfl; exact rfl; simp only [backV, backVs, backVs_mapd, backId, backO, List.map_cons, List.map_nil, List.getElem?_nil, List.length_cons, List.length_nil, Nat.reduceAdd, Nat.reduceSub, List.cons_append, List.nil_append, List.append_nil]))) | ((with_reducible apply xaw); (first | ((with_reducible apply xstepS); refine AW.step tok rfl ?_) | with_reducible (first | refine AW.seq ?_ | refine AW.block ?_ | refine AW.exit ?_) | ((with_reducible apply xcond); exact rfl))) | with_reducible (first | refine xthen ?_ | refine xthen_e ?_ | refine xblock_e ?_ | refine xround_e ?_) | (with_reducible intro hc; (try simp only [decide_eq_true_eq, decide_eq_false_iff_not, Bool.not_true, Bool.not_false, Bool.not_eq_true', Bool.not_eq_false', ne_eq, not_true, reduceCtorEq] at hc); (try (exfalso; omega))) | with_reducible (first | exact trivial | refine And.intro ?_ ?_ | exact rfl) | exact Eq.refl true)
  refine AW.loop (S := fun k : Nat => ⟨[(1, .oref 0 0), (33, .msl 1 1 0 4), (34, .d (.int .i64 4)), (35, .d (.int .i64 k))], [.box ((encPlace p).map .d), .arr 1 [[.int .i64 p.relX], [.int .i64 p.relY], [.int .i64 p.relW], [.int .i64 p.relH]]], 46, 0⟩)
    (Pre := fun k => k ≤ 4 ∧ (1 ≤ k → 0 ≤ p.relX ∧ p.relX ≤ 1000) ∧ (2 ≤ k → 0 ≤ p.relY ∧ p.relY ≤ 1000) ∧ (3 ≤ k → 0 ≤ p.relW ∧ p.relW ≤ 1000) ∧ (4 ≤ k → 0 ≤ p.relH ∧ p.relH ≤ 1000)) (μ := fun k => 4 - k) 0 (by omega) ?_ ?_
  · (refine xwk (π := [0, 2]) (by decide) rfl ?_ ?_; (first | simp -implicitDefEqProofs only [go_sem, Int.reduceEq, Int.reduceLT, Int.reduceLE, Nat.reduceAdd, Nat.reduceSub, Nat.reduceMul, Nat.reduceEqDiff, Nat.reduceLeDiff, Nat.reducePow, ↓reduceIte, reduceCtorEq]); repeat' (first | exact renE_n | ((with_reducible apply renE_c); exact rfl; focus (first | (simp -implicitDefEqProofs only [go_sem, Int.reduceEq, Int.reduceLT, Int.reduceLE, Nat.reduceAdd, Nat.reduceSub, Nat.reduceMul, Nat.reduceEqDiff, Nat.reduceLeDiff, Nat.reducePow, ↓reduceIte, reduceCtorEq]; done)))))
  rintro k ⟨hk, c1, c2, c3, c4⟩
  obtain rfl | rfl | rfl | rfl | rfl : k = 0 ∨ k = 1 ∨ k = 2 ∨ k = 3 ∨ k = 4 := by omega
  · repeat' (first | ((with_reducible apply xsim); (first | ((with_reducible apply xo); exact rfl) | with_reducible apply xend | ((with_reducible apply xidxM); exact rfl; exact rfl; exact rfl; omega; omega; exact rfl) | ((with_reducible apply xldA); exact rfl; exact rfl; exact rfl; exact rfl; exact rfl) | ((with_reducible apply xcallIs); exact rfl; exact rfl; exact c_within _ _ _; exact rfl))) | ((with_reducible apply xaw); (first | ((with_reducible apply xstepS); refine AW.step tok rfl ?_) | ((with_reducible apply xstep); refine AW.region tok rfl ?_) | with_reducible (first | refine AW.seq ?_ | refine AW.block ?_ | refine AW.skip ?_ | refine AW.ret ?_) | ((with_reducible apply xcond); exact rfl))) | with_reducible (first | refine xthen ?_ | refine xthen_r ?_ | refine xblock ?_ | refine xblock_r ?_ | refine xround_r ?_) | (with_reducible intro hc; (try simp only [decide_eq_true_eq, decide_eq_false_iff_not, Bool.not_true, Bool.not_false, Bool.not_eq_true', Bool.not_eq_false', ne_eq, not_true, reduceCtorEq] at hc); (try (exfalso; omega))) | with_reducible (first | exact trivial | refine And.intro ?_ ?_ | exact rfl) | (refine inR_i64.mpr ?_; first | omega | (simp only [List.length_map]; omega)))
    · (refine xfinIs (by first | exact .inl rfl | exact .inr rfl) rfl (by repeat' (first | exact trivial | exact rfl | refine And.intro ?_ ?_)) rfl ?_ rfl; first | (simp -implicitDefEqProofs only [go_sem, Int.reduceEq, Int.reduceLT, Int.reduceLE, Nat.reduceAdd, Nat.reduceSub, Nat.reduceMul, Nat.reduceEqDiff, Nat.reduceLeDiff, Nat.reducePow, ↓reduceIte, reduceCtorEq, validPlace] <;> (first | rfl | omega | exact decide_eq_decide.2 (by omega) | exact decide_eq_false (by omega) | exact decide_eq_true (by omega) | (symm; first | exact decide_eq_false (by omega) | exact decide_eq_true (by omega)) | (rw [Bool.eq_iff_iff]; simp only [Bool.not_eq_true', Bool.not_eq_false', Bool.and_eq_true, Bool.or_eq_true, decide_eq_true_eq, decide_eq_false_iff_not, reduceCtorEq, true_iff, iff_true, false_iff, iff_false]; omega))))
    · exact round_end 1 (by omega) (by omega) (by (refine xwk (π := [0, 1]) (by decide) rfl ?_ ?_; (first | simp -implicitDefEqProofs only [go_sem, Int.reduceEq, Int.reduceLT, Int.reduceLE, Nat.reduceAdd, Nat.reduceSub, Nat.reduceMul, Nat.reduceEqDiff, Nat.reduceLeDiff, Nat.reducePow, ↓reduceIte, reduceCtorEq]); repeat' (first | exact renE_n | ((with_reducible apply renE_c); exact rfl; focus (first | (simp -implicitDefEqProofs only [go_sem, Int.reduceEq, Int.reduceLT, Int.reduceLE, Nat.reduceAdd, Nat.reduceSub, Nat.reduceMul, Nat.reduceEqDiff, Nat.reduceLeDiff, Nat.reducePow, ↓reduceIte, reduceCtorEq]; done) | (simp -implicitDefEqProofs only [go_sem, Int.reduceEq, Int.reduceLT, Int.reduceLE, Nat.reduceAdd, Nat.reduceSub, Nat.reduceMul, Nat.reduceEqDiff, Nat.reduceLeDiff, Nat.reducePow, ↓reduceIte, reduceCtorEq]; omega))))))
  · repeat' (first | ((with_reducible apply xsim); (first | ((with_reducible apply xo); exact rfl) | with_reducible apply xend | ((with_reducible apply xidxM); exact rfl; exact rfl; exact rfl; omega; omega; exact rfl) | ((with_reducible apply xldA); exact rfl; exact rfl; exact rfl; exact rfl; exact rfl) | ((with_reducible apply xcallIs); exact rfl; exact rfl; exact c_within _ _ _; exact rfl))) | ((with_reducible apply xaw); (first | ((with_reducible apply xstepS); refine AW.step tok rfl ?_) | ((with_reducible apply xstep); refine AW.region tok rfl ?_) | with_reducible (first | refine AW.seq ?_ | refine AW.block ?_ | refine AW.skip ?_ | refine AW.ret ?_) | ((with_reducible apply xcond); exact rfl))) | with_reducible (first | refine xthen ?_ | refine xthen_r ?_ | refine xblock ?_ | refine xblock_r ?_ | refine xround_r ?_) | (with_reducible intro hc; (try simp only [decide_eq_true_eq, decide_eq_false_iff_not, Bool.not_true, Bool.not_false, Bool.not_eq_true', Bool.not_eq_false', ne_eq, not_true, reduceCtorEq] at hc); (try (exfalso; omega))) | with_reducible (first | exact trivial | refine And.intro ?_ ?_ | exact rfl) | (refine inR_i64.mpr ?_; first | omega | (simp only [List.length_map]; omega)))
    · (refine xfinIs (by first | exact .inl rfl | exact .inr rfl) rfl (by repeat' (first | exact trivial | exact rfl | refine And.intro ?_ ?_)) rfl ?_ rfl; first | (simp -implicitDefEqProofs only [go_sem, Int.reduceEq, Int.reduceLT, Int.reduceLE, Nat.reduceAdd, Nat.reduceSub, Nat.reduceMul, Nat.reduceEqDiff, Nat.reduceLeDiff, Nat.reducePow, ↓reduceIte, reduceCtorEq, validPlace] <;> (first | rfl | omega | exact decide_eq_decide.2 (by omega) | exact decide_eq_false (by omega) | exact decide_eq_true (by omega) | (symm; first | exact decide_eq_false (by omega) | exact decide_eq_true (by omega)) | (rw [Bool.eq_iff_iff]; simp only [Bool.not_eq_true', Bool.not_eq_false', Bool.and_eq_true, Bool.or_eq_true, decide_eq_true_eq, decide_eq_false_iff_not, reduceCtorEq, true_iff, iff_true, false_iff, iff_false]; omega))))
    · exact round_end 2 (by omega) (by omega) (by (refine xwk (π := [0, 1]) (by decide) rfl ?_ ?_; (first | simp -implicitDefEqProofs only [go_sem, Int.reduceEq, Int.reduceLT, Int.reduceLE, Nat.reduceAdd, Nat.reduceSub, Nat.reduceMul, Nat.reduceEqDiff, Nat.reduceLeDiff, Nat.reducePow, ↓reduceIte, reduceCtorEq]); repeat' (first | exact renE_n | ((with_reducible apply renE_c); exact rfl; focus (first | (simp -implicitDefEqProofs only [go_sem, Int.reduceEq, Int.reduceLT, Int.reduceLE, Nat.reduceAdd, Nat.reduceSub, Nat.reduceMul, Nat.reduceEqDiff, Nat.reduceLeDiff, Nat.reducePow, ↓reduceIte, reduceCtorEq]; done) | (simp -implicitDefEqProofs only [go_sem, Int.reduceEq, Int.reduceLT, Int.reduceLE, Nat.reduceAdd, Nat.reduceSub, Nat.reduceMul, Nat.reduceEqDiff, Nat.reduceLeDiff, Nat.reducePow, ↓reduceIte, reduceCtorEq]; omega))))))
  · repeat' (first | ((with_reducible apply xsim); (first | ((with_reducible apply xo); exact rfl) | with_reducible apply xend | ((with_reducible apply xidxM); exact rfl; exact rfl; exact rfl; omega; omega; exact rfl) | ((with_reducible apply xldA); exact rfl; exact rfl; exact rfl; exact rfl; exact rfl) | ((with_reducible apply xcallIs); exact rfl; exact rfl; exact c_within _ _ _; exact rfl))) | ((with_reducible apply xaw); (first | ((with_reducible apply xstepS); refine AW.step tok rfl ?_) | ((with_reducible apply xstep); refine AW.region tok rfl ?_) | with_reducible (first | refine AW.seq ?_ | refine AW.block ?_ | refine AW.skip ?_ | refine AW.ret ?_) | ((with_reducible apply xcond); exact rfl))) | with_reducible (first | refine xthen ?_ | refine xthen_r ?_ | refine xblock ?_ | refine xblock_r ?_ | refine xround_r ?_) | (with_reducible intro hc; (try simp only [decide_eq_true_eq, decide_eq_false_iff_not, Bool.not_true, Bool.not_false, Bool.not_eq_true', Bool.not_eq_false', ne_eq, not_true, reduceCtorEq] at hc); (try (exfalso; omega))) | with_reducible (first | exact trivial | refine And.intro ?_ ?_ | exact rfl) | (refine inR_i64.mpr ?_; first | omega | (simp only [List.length_map]; omega)))
    · (refine xfinIs (by first | exact .inl rfl | exact .inr rfl) rfl (by repeat' (first | exact trivial | exact rfl | refine And.intro ?_ ?_)) rfl ?_ rfl; first | (simp -implicitDefEqProofs only [go_sem, Int.reduceEq, Int.reduceLT, Int.reduceLE, Nat.reduceAdd, Nat.reduceSub, Nat.reduceMul, Nat.reduceEqDiff, Nat.reduceLeDiff, Nat.reducePow, ↓reduceIte, reduceCtorEq, validPlace] <;> (first | rfl | omega | exact decide_eq_decide.2 (by omega) | exact decide_eq_false (by omega) | exact decide_eq_true (by omega) | (symm; first | exact decide_eq_false (by omega) | exact decide_eq_true (by omega)) | (rw [Bool.eq_iff_iff]; simp only [Bool.not_eq_true', Bool.not_eq_false', Bool.and_eq_true, Bool.or_eq_true, decide_eq_true_eq, decide_eq_false_iff_not, reduceCtorEq, true_iff, iff_true, false_iff, iff_false]; omega))))
    · exact round_end 3 (by omega) (by omega) (by (refine xwk (π := [0, 1]) (by decide) rfl ?_ ?_; (first | simp -implicitDefEqProofs only [go_sem, Int.reduceEq, Int.reduceLT, Int.reduceLE, Nat.reduceAdd, Nat.reduceSub, Nat.reduceMul, Nat.reduceEqDiff, Nat.reduceLeDiff, Nat.reducePow, ↓reduceIte, reduceCtorEq]); repeat' (first | exact renE_n | ((with_reducible apply renE_c); exact rfl; focus (first | (simp -implicitDefEqProofs only [go_sem, Int.reduceEq, Int.reduceLT, Int.reduceLE, Nat.reduceAdd, Nat.reduceSub, Nat.reduceMul, Nat.reduceEqDiff, Nat.reduceLeDiff, Nat.reducePow, ↓reduceIte, reduceCtorEq]; done) | (simp -implicitDefEqProofs only [go_sem, Int.reduceEq, Int.reduceLT, Int.reduceLE, Nat.reduceAdd, Nat.reduceSub, Nat.reduceMul, Nat.reduceEqDiff, Nat.reduceLeDiff, Nat.reducePow, ↓reduceIte, reduceCtorEq]; omega))))))
  · repeat' (first | ((with_reducible apply xsim); (first | ((with_reducible apply xo); exact rfl) | with_reducible apply xend | ((with_reducible apply xidxM); exact rfl; exact rfl; exact rfl; omega; omega; exact rfl) | ((with_reducible apply xldA); exact rfl; exact rfl; exact rfl; exact rfl; exact rfl) | ((with_reducible apply xcallIs); exact rfl; exact rfl; exact c_within _ _ _; exact rfl))) | ((with_reducible apply xaw); (first | ((with_reducible apply xstepS); refine AW.step tok rfl ?_) | ((with_reducible apply xstep); refine AW.region tok rfl ?_) | with_reducible (first | refine AW.seq ?_ | refine AW.block ?_ | refine AW.skip ?_ | refine AW.ret ?_) | ((with_reducible apply xcond); exact rfl))) | with_reducible (first | refine xthen ?_ | refine xthen_r ?_ | refine xblock ?_ | refine xblock_r ?_ | refine xround_r ?_) | (with_reducible intro hc; (try simp only [decide_eq_true_eq, decide_eq_false_iff_not, Bool.not_true, Bool.not_false, Bool.not_eq_true', Bool.not_eq_false', ne_eq, not_true, reduceCtorEq] at hc); (try (exfalso; omega))) | with_reducible (first | exact trivial | refine And.intro ?_ ?_ | exact rfl) | (refine inR_i64.mpr ?_; first | omega | (simp only [List.length_map]; omega)))
    · (refine xfinIs (by first | exact .inl rfl | exact .inr rfl) rfl (by repeat' (first | exact trivial | exact rfl | refine And.intro ?_ ?_)) rfl ?_ rfl; first | (simp -implicitDefEqProofs only [go_sem, Int.reduceEq, Int.reduceLT, Int.reduceLE, Nat.reduceAdd, Nat.reduceSub, Nat.reduceMul, Nat.reduceEqDiff, Nat.reduceLeDiff, Nat.reducePow, ↓reduceIte, reduceCtorEq, validPlace] <;> (first | rfl | omega | exact decide_eq_decide.2 (by omega) | exact decide_eq_false (by omega) | exact decide_eq_true (by omega) | (symm; first | exact decide_eq_false (by omega) | exact decide_eq_true (by omega)) | (rw [Bool.eq_iff_iff]; simp only [Bool.not_eq_true', Bool.not_eq_false', Bool.and_eq_true, Bool.or_eq_true, decide_eq_true_eq, decide_eq_false_iff_not, reduceCtorEq, true_iff, iff_true, false_iff, iff_false]; omega))))
    · exact round_end 4 (by omega) (by omega) (by (refine xwk (π := [0, 1]) (by decide) rfl ?_ ?_; (first | simp -implicitDefEqProofs only [go_sem, Int.reduceEq, Int.reduceLT, Int.reduceLE, Nat.reduceAdd, Nat.reduceSub, Nat.reduceMul, Nat.reduceEqDiff, Nat.reduceLeDiff, Nat.reducePow, ↓reduceIte, reduceCtorEq]); repeat' (first | exact renE_n | ((with_reducible apply renE_c); exact rfl; focus (first | (simp -implicitDefEqProofs only [go_sem, Int.reduceEq, Int.reduceLT, Int.reduceLE, Nat.reduceAdd, Nat.reduceSub, Nat.reduceMul, Nat.reduceEqDiff, Nat.reduceLeDiff, Nat.reducePow, ↓reduceIte, reduceCtorEq]; done) | (simp -implicitDefEqProofs only [go_sem, Int.reduceEq, Int.reduceLT, Int.reduceLE, Nat.reduceAdd, Nat.reduceSub, Nat.reduceMul, Nat.reduceEqDiff, Nat.reduceLeDiff, Nat.reducePow, ↓reduceIte, reduceCtorEq]; omega))))))
  have d1 := c1 (by omega); have d2 := c2 (by omega); have d3 := c3 (by omega); have d4 := c4 (by omega)
  repeat' (first | ((with_reducible apply xsim); (first | ((with_reducible apply xo); exact rfl) | with_reducible apply xend | ((with_reducible apply xcallIs); exact rfl; exact rfl; exact c_within _ _ _; exact rfl))) | ((with_reducible apply xaw); (first | ((with_reducible apply xstepS); refine AW.step tok rfl ?_) | with_reducible (first | refine AW.seq ?_ | refine AW.ret ?_ | refine AW.exit ?_) | ((with_reducible apply xcond); exact rfl))) | with_reducible (first | refine xthen ?_ | refine xthen_e ?_ | refine xblock_e ?_ | refine xround_e ?_) | (with_reducible intro hc; (try simp only [decide_eq_true_eq, decide_eq_false_iff_not, Bool.not_true, Bool.not_false, Bool.not_eq_true', Bool.not_eq_false', ne_eq, not_true, reduceCtorEq] at hc); (try (exfalso; omega))) | with_reducible (first | exact trivial | refine And.intro ?_ ?_ | exact rfl))
  (refine xfinIs (by first | exact .inl rfl | exact .inr rfl) rfl (by repeat' (first | exact trivial | exact rfl | refine And.intro ?_ ?_)) rfl ?_ rfl; first | (simp -implicitDefEqProofs only [go_sem, Int.reduceEq, Int.reduceLT, Int.reduceLE, Nat.reduceAdd, Nat.reduceSub, Nat.reduceMul, Nat.reduceEqDiff, Nat.reduceLeDiff, Nat.reducePow, ↓reduceIte, reduceCtorEq, validPlace] <;> (first | rfl | omega | exact decide_eq_decide.2 (by omega) | exact decide_eq_false (by omega) | exact decide_eq_true (by omega) | (symm; first | exact decide_eq_false (by omega) | exact decide_eq_true (by omega)) | (rw [Bool.eq_iff_iff]; simp only [Bool.not_eq_true', Bool.not_eq_false', Bool.and_eq_true, Bool.or_eq_true, decide_eq_true_eq, decide_eq_false_iff_not, reduceCtorEq, true_iff, iff_true, false_iff, iff_false]; omega))))

set_option maxHeartbeats 4000000 in
theorem c_nodeOk (n : Node) (h1 : n.cols.length < 2^40) (h2 : n.rows.length < 2^40) : ACon Try.prog 55 [vNode n] [] (Is (.d (.bool (nodeOk n)))) := by
  refine ACon.introW tok (nt := 74) Try.func55 rfl rfl rfl (by kernel_rfl) rfl ?_
  repeat' (first | ((with_reducible apply xsim); (first | ((with_reducible apply xlenM); exact rfl; exact rfl) | ((with_reducible apply xo); exact rfl) | with_reducible apply xend | ((with_reducible apply xguardS); exact rfl; exact rfl) | ((with_reducible apply xbox); exact rfl; simp only [backV, backVs, backVs_mapd, backId, backO, List.map_cons, List.map_nil, List.getElem?_nil, List.length_cons, List.length_nil, Nat.reduceAdd, Nat.reduceSub, List.cons_append, List.nil_append, List.append_nil]) | ((with_reducible apply xcallIs); exact rfl; exact rfl; (first | exact c_within _ _ _ | exact c_ValidPack n.pack | exact c_ValidPlace n.place | exact c_linesOk n.cols (by omega) | exact c_linesOk n.rows (by omega)); exact rfl))) | ((with_reducible apply xaw); (first | ((with_reducible apply xstepS); refine AW.step tok rfl ?_) | with_reducible (first | refine AW.seq ?_ | refine AW.skip ?_ | refine AW.ret ?_) | ((with_reducible apply xcond); exact rfl))) | with_reducible (first | refine xthen ?_ | refine xthen_r ?_) | (with_reducible intro hc; (try simp only [decide_eq_true_eq, decide_eq_false_iff_not, Bool.not_true, Bool.not_false, Bool.not_eq_true', Bool.not_eq_false', ne_eq, not_true, reduceCtorEq, List.length_map] at hc); (try (exfalso; omega))) | with_reducible (first | exact trivial | refine And.intro ?_ ?_ | exact rfl) | exact Eq.refl true)
  all_goals (refine xfinIs (by first | exact .inl rfl | exact .inr rfl) rfl (by repeat' (first | exact trivial | exact rfl | refine And.intro ?_ ?_)) rfl ?_ rfl; simp only [V.d.injEq, D.bool.injEq, D.int.injEq]; first | rfl | (simp_all [nodeOk]; done) | (simp_all [nodeOk]; omega))
end Go.Proofs.Yticgjepndfjafaa

namespace Go.Proofs.Yticgjepndfjafaa
open Go.Fw
attribute [local irreducible] Go.Fw.aops Go.Fw.arun

theorem node_at {xs : List Node} {i : Int} (h : 0 ≤ i ∧ i < xs.length) : (xs.map encNode)[idxAdd 0 i.toNat]? = some (encNode (xs[i.toNat]'(by omega))) := at_map (f := encNode) (k := i.toNat) _

theorem treeOk_iff {t : List Node} : treeOk t = true ↔ (1 ≤ t.length ∧ t.length ≤ 10) ∧ ∀ i (h : i < t.length), nodeOk t[i] = true ∧ upOk t i t[i] = true := by
  simp only [treeOk, Bool.and_eq_true, decide_eq_true_eq, List.all_eq_true, List.mem_range]
  refine and_congr_right fun _ => ⟨fun h i hi => ?_, fun h i hi => ?_⟩
  · have := h i hi
    rw [List.getElem?_eq_getElem hi] at this
    simpa using this
  · rw [List.getElem?_eq_getElem hi]
    simpa using h i hi
theorem treeOk_ff {t : List Node} {i : Nat} (hi : i < t.length) (h : (nodeOk t[i] && upOk t i t[i]) = false) : treeOk t = false := by
  refine Bool.eq_false_iff.2 fun hc => ?_
  have := (treeOk_iff.1 hc).2 i hi
  rw [this.1, this.2] at h
  cases h
theorem treeOk_tt {t : List Node} (h1 : 1 ≤ t.length ∧ t.length ≤ 10) (h : ∀ i (h : i < t.length), (nodeOk t[i] && upOk t i t[i]) = true) : treeOk t = true :=
  treeOk_iff.2 ⟨h1, fun i hi => by simpa using h i hi⟩
theorem treeOk_len {t : List Node} (h1 : ¬ (1 ≤ t.length ∧ t.length ≤ 10)) : treeOk t = false := Bool.eq_false_iff.2 fun hc => h1 (treeOk_iff.1 hc).1
theorem upOk_0 {t : List Node} {n : Node} : upOk t 0 n = decide (n.parent = -1) := rfl
theorem upOk_out {t : List Node} {k : Nat} {n : Node} (hk : 0 < k) (h : ¬ (0 ≤ n.parent ∧ n.parent ≤ (k : Int) - 1)) : upOk t k n = false := by
  unfold upOk
  rw [if_neg (by omega), decide_eq_false h, Bool.false_and]
theorem upOk_in {t : List Node} {k : Nat} {n : Node} (hk : 0 < k) (hl : k < t.length) (h : 0 ≤ n.parent ∧ n.parent ≤ (k : Int) - 1) :
    upOk t k n = if (t[n.parent.toNat]'(by omega)).kind = 1 then lies n.cell (t[n.parent.toNat]'(by omega)).cols.length (t[n.parent.toNat]'(by omega)).rows.length else true := by
  unfold upOk
  rw [if_neg (by omega), decide_eq_true h, Bool.true_and, List.getElem?_eq_getElem (by omega)]
theorem ff_l {a b : Bool} (h : a = false) : (a && b) = false := by rw [h]; rfl
theorem ff_r {a b : Bool} (h : b = false) : (a && b) = false := by rw [h]; cases a <;> rfl
theorem tt_b {a b : Bool} (h : a = true) (h' : b = true) : (a && b) = true := by rw [h, h']; rfl
/-- The lengths are no numbers too great. -/
def TreeL (t : List Node) : Prop := t.length < 2^40 ∧ ∀ i (h : i < t.length), t[i].cols.length < 2^40 ∧ t[i].rows.length < 2^40

set_option maxHeartbeats 4000000 in
set_option maxRecDepth 8000 in
theorem c_ValidTree (t : List Node) (hL : TreeL t) : ACon Try.prog 15 [vTree t] [] (Is (.d (.bool (treeOk t)))) := by
  obtain ⟨hL1, hL⟩ := hL
  refine ACon.introW tok (nt := 66) Try.func15 rfl rfl rfl (by kernel_rfl) rfl ?_
  repeat' (first | ((with_reducible apply xsim); (first | ((with_reducible apply xlenM); exact rfl; exact rfl) | ((with_reducible apply xo); exact rfl) | with_reducible apply xend | ((with_reducible apply xbox); exact rfl; simp only [backV, backVs, backVs_mapd, backId, backO, List.map_cons, List.map_nil, List.getElem?_nil, List.length_cons, List.length_nil, Nat.reduceAdd, Nat.reduceSub, List.cons_append, List.nil_append, List.append_nil]) | ((with_reducible apply xcallIs); exact rfl; exact rfl; exact c_within _ _ _; exact rfl))) | ((with_reducible apply xaw); (first | ((with_reducible apply xstepS); refine AW.step tok rfl ?_) | with_reducible (first | refine AW.seq ?_ | refine AW.block ?_ | refine AW.skip ?_ | refine AW.ret ?_) | ((with_reducible apply xcond); exact rfl))) | with_reducible (first | refine xthen ?_ | refine xthen_r ?_) | (with_reducible intro hc; (try simp only [decide_eq_true_eq, decide_eq_false_iff_not, Bool.not_true, Bool.not_false, Bool.not_eq_true', Bool.not_eq_false', ne_eq, not_true, reduceCtorEq, List.length_map] at hc); (try (exfalso; omega))) | with_reducible exact trivial)
  · (refine xfinIs (by first | exact .inl rfl | exact .inr rfl) rfl (by repeat' (first | exact trivial | exact rfl | refine And.intro ?_ ?_)) rfl ?_ rfl; first | (simp -implicitDefEqProofs only [go_sem, Int.reduceEq, Int.reduceLT, Int.reduceLE, Nat.reduceAdd, Nat.reduceSub, Nat.reduceMul, Nat.reduceEqDiff, Nat.reduceLeDiff, Nat.reducePow, ↓reduceIte, reduceCtorEq, treeOk_len (show ¬ (1 ≤ t.length ∧ t.length ≤ 10) by omega)] <;> (first | rfl | omega | exact decide_eq_decide.2 (by omega) | exact decide_eq_false (by omega) | exact decide_eq_true (by omega) | (symm; first | exact decide_eq_false (by omega) | exact decide_eq_true (by omega)) | (rw [Bool.eq_iff_iff]; simp only [Bool.not_eq_true', Bool.not_eq_false', Bool.and_eq_true, Bool.or_eq_true, decide_eq_true_eq, decide_eq_false_iff_not, reduceCtorEq, true_iff, iff_true, false_iff, iff_false]; omega))))
  have hlen' : 1 ≤ t.length ∧ t.length ≤ 10 := by omega
  refine AW.loop (S := fun k : Nat => ⟨[(1, .oref 0 0), (12, .d (.lst (t.map encNode))), (13, .d (.int .i64 t.length)), (14, .d (.int .i64 k))], [.box [.d (.lst (t.map encNode))]], 66, 0⟩)
    (Pre := fun k => k ≤ t.length ∧ ∀ j (h : j < t.length), j < k → (nodeOk t[j] && upOk t j t[j]) = true) (μ := fun k => t.length - k) 0 ⟨Nat.zero_le _, fun j _ h => absurd h (Nat.not_lt_zero _)⟩ ?_ ?_
  · (refine xwk (π := [0]) (by decide) rfl ?_ ?_; (first | simp -implicitDefEqProofs only [go_sem, Int.reduceEq, Int.reduceLT, Int.reduceLE, Nat.reduceAdd, Nat.reduceSub, Nat.reduceMul, Nat.reduceEqDiff, Nat.reduceLeDiff, Nat.reducePow, ↓reduceIte, reduceCtorEq]); repeat' (first | exact renE_n | ((with_reducible apply renE_c); exact rfl; focus (first | (simp -implicitDefEqProofs only [go_sem, Int.reduceEq, Int.reduceLT, Int.reduceLE, Nat.reduceAdd, Nat.reduceSub, Nat.reduceMul, Nat.reduceEqDiff, Nat.reduceLeDiff, Nat.reducePow, ↓reduceIte, reduceCtorEq]; done)))))
  rintro k ⟨hk, hp⟩
  have next : ∀ (hlt : k < t.length), (nodeOk t[k] && upOk t k t[k]) = true → ∀ j (h : j < t.length), j < k + 1 → (nodeOk t[j] && upOk t j t[j]) = true := by
    intro hlt h j hj h'
    by_cases e : j = k
    · subst e; exact h
    · exact hp j hj (by omega)
  by_cases hlt : k < t.length
  · have hrow := at_map (f := encNode) hlt
    have cn := c_nodeOk t[k] (hL k hlt).1 (hL k hlt).2
    by_cases h0 : k = 0
    · subst h0
      by_cases hpm : t[0].parent = -1
      · repeat' (first | ((with_reducible apply xsim); (first | ((with_reducible apply xo); exact rfl) | ((with_reducible apply xst); exact rfl) | with_reducible apply xend | ((with_reducible apply xguardS); exact rfl; exact rfl) | ((with_reducible apply xalloc); exact rfl; simp only [backV, backVs, backVs_mapd, backId, backO, List.map_cons, List.map_nil, List.getElem?_nil, List.length_cons, List.length_nil, Nat.reduceAdd, Nat.reduceSub, List.cons_append, List.nil_append, List.append_nil]) | ((with_reducible apply xidxL); exact rfl; exact rfl; exact rfl; (first | exact hrow); omega; first | exact rfl | simp only [hsz]) | ((with_reducible apply xcallIs); exact rfl; exact rfl; (first | exact c_within _ _ _ | exact cn); exact rfl))) | ((with_reducible apply xaw); (first | ((with_reducible apply xstepS); refine AW.step tok rfl ?_) | ((with_reducible apply xstep); refine AW.region tok rfl ?_) | with_reducible (first | refine AW.seq ?_ | refine AW.block ?_ | refine AW.skip ?_ | refine AW.ret ?_) | ((with_reducible apply xcond); exact rfl))) | with_reducible (first | refine xthen ?_ | refine xthen_r ?_ | refine xblock ?_ | refine xblock_r ?_ | refine xround_r ?_) | (with_reducible intro hc; (try simp only [decide_eq_true_eq, decide_eq_false_iff_not, Bool.not_true, Bool.not_false, Bool.not_eq_true', Bool.not_eq_false', ne_eq, not_true, reduceCtorEq, List.length_map] at hc); (try (exfalso; omega))) | with_reducible (first | exact trivial | refine And.intro ?_ ?_ | exact rfl) | exact Eq.refl true | (refine inR_i64.mpr ?_; first | omega | (simp only [List.length_map, List.length_map]; omega)))
        · (refine xfinIs (by first | exact .inl rfl | exact .inr rfl) rfl (by repeat' (first | exact trivial | exact rfl | refine And.intro ?_ ?_)) rfl ?_ rfl; first | (simp -implicitDefEqProofs only [go_sem, Int.reduceEq, Int.reduceLT, Int.reduceLE, Nat.reduceAdd, Nat.reduceSub, Nat.reduceMul, Nat.reduceEqDiff, Nat.reduceLeDiff, Nat.reducePow, ↓reduceIte, reduceCtorEq, treeOk_ff hlt (ff_l hc)] <;> (first | rfl | omega | exact decide_eq_decide.2 (by omega) | exact decide_eq_false (by omega) | exact decide_eq_true (by omega) | (symm; first | exact decide_eq_false (by omega) | exact decide_eq_true (by omega)) | (rw [Bool.eq_iff_iff]; simp only [Bool.not_eq_true', Bool.not_eq_false', Bool.and_eq_true, Bool.or_eq_true, decide_eq_true_eq, decide_eq_false_iff_not, reduceCtorEq, true_iff, iff_true, false_iff, iff_false]; omega))))
        · rename_i hno _ _ _
          exact round_end 1 ⟨by omega, next hlt (tt_b (by first | exact hno | assumption) (by rw [upOk_0]; exact decide_eq_true hpm))⟩ (by omega) (by (refine xwk (π := [0]) (by decide) rfl ?_ ?_; (first | simp -implicitDefEqProofs only [go_sem, Int.reduceEq, Int.reduceLT, Int.reduceLE, Nat.reduceAdd, Nat.reduceSub, Nat.reduceMul, Nat.reduceEqDiff, Nat.reduceLeDiff, Nat.reducePow, ↓reduceIte, reduceCtorEq]); repeat' (first | exact renE_n | ((with_reducible apply renE_c); exact rfl; focus (first | (simp -implicitDefEqProofs only [go_sem, Int.reduceEq, Int.reduceLT, Int.reduceLE, Nat.reduceAdd, Nat.reduceSub, Nat.reduceMul, Nat.reduceEqDiff, Nat.reduceLeDiff, Nat.reducePow, ↓reduceIte, reduceCtorEq]; done) | (simp -implicitDefEqProofs only [go_sem, Int.reduceEq, Int.reduceLT, Int.reduceLE, Nat.reduceAdd, Nat.reduceSub, Nat.reduceMul, Nat.reduceEqDiff, Nat.reduceLeDiff, Nat.reducePow, ↓reduceIte, reduceCtorEq]; omega))))))
      · repeat' (first | ((with_reducible apply xsim); (first | ((with_reducible apply xo); exact rfl) | ((with_reducible apply xst); exact rfl) | with_reducible apply xend | ((with_reducible apply xguardTS); exact rfl; exact rfl) | ((with_reducible apply xguardS); exact rfl; exact rfl) | ((with_reducible apply xalloc); exact rfl; simp only [backV, backVs, backVs_mapd, backId, backO, List.map_cons, List.map_nil, List.getElem?_nil, List.length_cons, List.length_nil, Nat.reduceAdd, Nat.reduceSub, List.cons_append, List.nil_append, List.append_nil]) | ((with_reducible apply xidxL); exact rfl; exact rfl; exact rfl; (first | exact hrow); omega; first | exact rfl | simp only [hsz]))) | ((with_reducible apply xaw); (first | ((with_reducible apply xstepS); refine AW.step tok rfl ?_) | with_reducible (first | refine AW.seq ?_ | refine AW.block ?_ | refine AW.skip ?_ | refine AW.ret ?_) | ((with_reducible apply xcond); exact rfl))) | with_reducible (first | refine xthen ?_ | refine xthen_r ?_ | refine xblock_r ?_ | refine xround_r ?_) | (with_reducible intro hc; (try simp only [decide_eq_true_eq, decide_eq_false_iff_not, Bool.not_true, Bool.not_false, Bool.not_eq_true', Bool.not_eq_false', ne_eq, not_true, reduceCtorEq, List.length_map] at hc); (try (exfalso; omega))) | with_reducible (first | exact trivial | refine And.intro ?_ ?_ | exact rfl) | exact Eq.refl true)
        (refine xfinIs (by first | exact .inl rfl | exact .inr rfl) rfl (by repeat' (first | exact trivial | exact rfl | refine And.intro ?_ ?_)) rfl ?_ rfl; first | (simp -implicitDefEqProofs only [go_sem, Int.reduceEq, Int.reduceLT, Int.reduceLE, Nat.reduceAdd, Nat.reduceSub, Nat.reduceMul, Nat.reduceEqDiff, Nat.reduceLeDiff, Nat.reducePow, ↓reduceIte, reduceCtorEq, treeOk_ff hlt (ff_r (by rw [upOk_0]; exact decide_eq_false hpm))] <;> (first | rfl | omega | exact decide_eq_decide.2 (by omega) | exact decide_eq_false (by omega) | exact decide_eq_true (by omega) | (symm; first | exact decide_eq_false (by omega) | exact decide_eq_true (by omega)) | (rw [Bool.eq_iff_iff]; simp only [Bool.not_eq_true', Bool.not_eq_false', Bool.and_eq_true, Bool.or_eq_true, decide_eq_true_eq, decide_eq_false_iff_not, reduceCtorEq, true_iff, iff_true, false_iff, iff_false]; omega))))
    by_cases hr : 0 ≤ t[k].parent ∧ t[k].parent ≤ (k : Int) - 1
    · have hu := upOk_in (by omega) hlt hr
      by_cases hkd : (t[t[k].parent.toNat]'(by omega)).kind = 1
      · rw [if_pos hkd] at hu
        repeat' (first | ((with_reducible apply xsim); (first | ((with_reducible apply xo); exact rfl) | ((with_reducible apply xst); exact rfl) | with_reducible apply xend | ((with_reducible apply xguardS); exact rfl; exact rfl) | ((with_reducible apply xalloc); exact rfl; simp only [backV, backVs, backVs_mapd, backId, backO, List.map_cons, List.map_nil, List.getElem?_nil, List.length_cons, List.length_nil, Nat.reduceAdd, Nat.reduceSub, List.cons_append, List.nil_append, List.append_nil]) | ((with_reducible apply xidxL); exact rfl; exact rfl; exact rfl; (first | exact hrow | exact (node_at (by omega))); omega; first | exact rfl | simp only [hsz]) | ((with_reducible apply xcallIs); exact rfl; exact rfl; (first | exact c_within _ _ _ | exact cn | exact c_liesN _ _ _ (hL _ _).1 (hL _ _).2); exact rfl))) | ((with_reducible apply xaw); (first | ((with_reducible apply xstepS); refine AW.step tok rfl ?_) | ((with_reducible apply xstep); refine AW.region tok rfl ?_) | with_reducible (first | refine AW.seq ?_ | refine AW.block ?_ | refine AW.skip ?_ | refine AW.ret ?_) | ((with_reducible apply xcond); exact rfl))) | with_reducible (first | refine xthen ?_ | refine xthen_r ?_ | refine xblock ?_ | refine xblock_r ?_ | refine xround_r ?_) | (with_reducible intro hc; (try simp only [decide_eq_true_eq, decide_eq_false_iff_not, Bool.not_true, Bool.not_false, Bool.not_eq_true', Bool.not_eq_false', ne_eq, not_true, reduceCtorEq, List.length_map] at hc); (try (exfalso; omega))) | with_reducible (first | exact trivial | refine And.intro ?_ ?_ | exact rfl) | exact Eq.refl true | (refine inR_i64.mpr ?_; first | omega | (simp only [List.length_map, List.length_map]; omega)))
        · (refine xfinIs (by first | exact .inl rfl | exact .inr rfl) rfl (by repeat' (first | exact trivial | exact rfl | refine And.intro ?_ ?_)) rfl ?_ rfl; first | (simp -implicitDefEqProofs only [go_sem, Int.reduceEq, Int.reduceLT, Int.reduceLE, Nat.reduceAdd, Nat.reduceSub, Nat.reduceMul, Nat.reduceEqDiff, Nat.reduceLeDiff, Nat.reducePow, ↓reduceIte, reduceCtorEq, treeOk_ff hlt (ff_l hc)] <;> (first | rfl | omega | exact decide_eq_decide.2 (by omega) | exact decide_eq_false (by omega) | exact decide_eq_true (by omega) | (symm; first | exact decide_eq_false (by omega) | exact decide_eq_true (by omega)) | (rw [Bool.eq_iff_iff]; simp only [Bool.not_eq_true', Bool.not_eq_false', Bool.and_eq_true, Bool.or_eq_true, decide_eq_true_eq, decide_eq_false_iff_not, reduceCtorEq, true_iff, iff_true, false_iff, iff_false]; omega))))
        · (refine xfinIs (by first | exact .inl rfl | exact .inr rfl) rfl (by repeat' (first | exact trivial | exact rfl | refine And.intro ?_ ?_)) rfl ?_ rfl; first | (simp -implicitDefEqProofs only [go_sem, Int.reduceEq, Int.reduceLT, Int.reduceLE, Nat.reduceAdd, Nat.reduceSub, Nat.reduceMul, Nat.reduceEqDiff, Nat.reduceLeDiff, Nat.reducePow, ↓reduceIte, reduceCtorEq, treeOk_ff hlt (ff_r (hu.trans hc))] <;> (first | rfl | omega | exact decide_eq_decide.2 (by omega) | exact decide_eq_false (by omega) | exact decide_eq_true (by omega) | (symm; first | exact decide_eq_false (by omega) | exact decide_eq_true (by omega)) | (rw [Bool.eq_iff_iff]; simp only [Bool.not_eq_true', Bool.not_eq_false', Bool.and_eq_true, Bool.or_eq_true, decide_eq_true_eq, decide_eq_false_iff_not, reduceCtorEq, true_iff, iff_true, false_iff, iff_false]; omega))))
        · exact round_end (k + 1) ⟨by omega, next hlt (tt_b (by assumption) (hu.trans hc))⟩ (by omega) (by (refine xwk (π := [0]) (by decide) rfl ?_ ?_; (first | simp -implicitDefEqProofs only [go_sem, Int.reduceEq, Int.reduceLT, Int.reduceLE, Nat.reduceAdd, Nat.reduceSub, Nat.reduceMul, Nat.reduceEqDiff, Nat.reduceLeDiff, Nat.reducePow, ↓reduceIte, reduceCtorEq]); repeat' (first | exact renE_n | ((with_reducible apply renE_c); exact rfl; focus (first | (simp -implicitDefEqProofs only [go_sem, Int.reduceEq, Int.reduceLT, Int.reduceLE, Nat.reduceAdd, Nat.reduceSub, Nat.reduceMul, Nat.reduceEqDiff, Nat.reduceLeDiff, Nat.reducePow, ↓reduceIte, reduceCtorEq]; done))))))
      · rw [if_neg hkd] at hu
        repeat' (first | ((with_reducible apply xsim); (first | ((with_reducible apply xo); exact rfl) | ((with_reducible apply xst); exact rfl) | with_reducible apply xend | ((with_reducible apply xguardS); exact rfl; exact rfl) | ((with_reducible apply xalloc); exact rfl; simp only [backV, backVs, backVs_mapd, backId, backO, List.map_cons, List.map_nil, List.getElem?_nil, List.length_cons, List.length_nil, Nat.reduceAdd, Nat.reduceSub, List.cons_append, List.nil_append, List.append_nil]) | ((with_reducible apply xidxL); exact rfl; exact rfl; exact rfl; (first | exact hrow | exact (node_at (by omega))); omega; first | exact rfl | simp only [hsz]) | ((with_reducible apply xcallIs); exact rfl; exact rfl; (first | exact c_within _ _ _ | exact cn | exact c_liesN _ _ _ (hL _ _).1 (hL _ _).2); exact rfl))) | ((with_reducible apply xaw); (first | ((with_reducible apply xstepS); refine AW.step tok rfl ?_) | ((with_reducible apply xstep); refine AW.region tok rfl ?_) | with_reducible (first | refine AW.seq ?_ | refine AW.block ?_ | refine AW.skip ?_ | refine AW.ret ?_) | ((with_reducible apply xcond); exact rfl))) | with_reducible (first | refine xthen ?_ | refine xthen_r ?_ | refine xblock ?_ | refine xblock_r ?_ | refine xround_r ?_) | (with_reducible intro hc; (try simp only [decide_eq_true_eq, decide_eq_false_iff_not, Bool.not_true, Bool.not_false, Bool.not_eq_true', Bool.not_eq_false', ne_eq, not_true, reduceCtorEq, List.length_map] at hc); (try (exfalso; omega))) | with_reducible (first | exact trivial | refine And.intro ?_ ?_ | exact rfl) | exact Eq.refl true | (refine inR_i64.mpr ?_; first | omega | (simp only [List.length_map, List.length_map]; omega)))
        · (refine xfinIs (by first | exact .inl rfl | exact .inr rfl) rfl (by repeat' (first | exact trivial | exact rfl | refine And.intro ?_ ?_)) rfl ?_ rfl; first | (simp -implicitDefEqProofs only [go_sem, Int.reduceEq, Int.reduceLT, Int.reduceLE, Nat.reduceAdd, Nat.reduceSub, Nat.reduceMul, Nat.reduceEqDiff, Nat.reduceLeDiff, Nat.reducePow, ↓reduceIte, reduceCtorEq, treeOk_ff hlt (ff_l hc)] <;> (first | rfl | omega | exact decide_eq_decide.2 (by omega) | exact decide_eq_false (by omega) | exact decide_eq_true (by omega) | (symm; first | exact decide_eq_false (by omega) | exact decide_eq_true (by omega)) | (rw [Bool.eq_iff_iff]; simp only [Bool.not_eq_true', Bool.not_eq_false', Bool.and_eq_true, Bool.or_eq_true, decide_eq_true_eq, decide_eq_false_iff_not, reduceCtorEq, true_iff, iff_true, false_iff, iff_false]; omega))))
        · exact round_end (k + 1) ⟨by omega, next hlt (tt_b (by assumption) hu)⟩ (by omega) (by (refine xwk (π := [0]) (by decide) rfl ?_ ?_; (first | simp -implicitDefEqProofs only [go_sem, Int.reduceEq, Int.reduceLT, Int.reduceLE, Nat.reduceAdd, Nat.reduceSub, Nat.reduceMul, Nat.reduceEqDiff, Nat.reduceLeDiff, Nat.reducePow, ↓reduceIte, reduceCtorEq]); repeat' (first | exact renE_n | ((with_reducible apply renE_c); exact rfl; focus (first | (simp -implicitDefEqProofs only [go_sem, Int.reduceEq, Int.reduceLT, Int.reduceLE, Nat.reduceAdd, Nat.reduceSub, Nat.reduceMul, Nat.reduceEqDiff, Nat.reduceLeDiff, Nat.reducePow, ↓reduceIte, reduceCtorEq]; done))))))
    · have hu := upOk_out (t := t) (by omega) hr
      repeat' (first | ((with_reducible apply xsim); (first | ((with_reducible apply xo); exact rfl) | ((with_reducible apply xst); exact rfl) | with_reducible apply xend | ((with_reducible apply xguardS); exact rfl; exact rfl) | ((with_reducible apply xalloc); exact rfl; simp only [backV, backVs, backVs_mapd, backId, backO, List.map_cons, List.map_nil, List.getElem?_nil, List.length_cons, List.length_nil, Nat.reduceAdd, Nat.reduceSub, List.cons_append, List.nil_append, List.append_nil]) | ((with_reducible apply xidxL); exact rfl; exact rfl; exact rfl; (first | exact hrow); omega; first | exact rfl | simp only [hsz]) | ((with_reducible apply xcallIs); exact rfl; exact rfl; (first | exact c_within _ _ _ | exact cn); exact rfl))) | ((with_reducible apply xaw); (first | ((with_reducible apply xstepS); refine AW.step tok rfl ?_) | with_reducible (first | refine AW.seq ?_ | refine AW.block ?_ | refine AW.skip ?_ | refine AW.ret ?_) | ((with_reducible apply xcond); exact rfl))) | with_reducible (first | refine xthen ?_ | refine xthen_r ?_ | refine xblock_r ?_ | refine xround_r ?_) | (with_reducible intro hc; (try simp only [decide_eq_true_eq, decide_eq_false_iff_not, Bool.not_true, Bool.not_false, Bool.not_eq_true', Bool.not_eq_false', ne_eq, not_true, reduceCtorEq, List.length_map] at hc); (try (exfalso; omega))) | with_reducible (first | exact trivial | refine And.intro ?_ ?_ | exact rfl) | exact Eq.refl true | (refine inR_i64.mpr ?_; first | omega | (simp only [List.length_map, List.length_map]; omega)))
      (refine xfinIs (by first | exact .inl rfl | exact .inr rfl) rfl (by repeat' (first | exact trivial | exact rfl | refine And.intro ?_ ?_)) rfl ?_ rfl; first | (simp -implicitDefEqProofs only [go_sem, Int.reduceEq, Int.reduceLT, Int.reduceLE, Nat.reduceAdd, Nat.reduceSub, Nat.reduceMul, Nat.reduceEqDiff, Nat.reduceLeDiff, Nat.reducePow, ↓reduceIte, reduceCtorEq, treeOk_ff hlt (ff_r hu)] <;> (first | rfl | omega | exact decide_eq_decide.2 (by omega) | exact decide_eq_false (by omega) | exact decide_eq_true (by omega) | (symm; first | exact decide_eq_false (by omega) | exact decide_eq_true (by omega)) | (rw [Bool.eq_iff_iff]; simp only [Bool.not_eq_true', Bool.not_eq_false', Bool.and_eq_true, Bool.or_eq_true, decide_eq_true_eq, decide_eq_false_iff_not, reduceCtorEq, true_iff, iff_true, false_iff, iff_false]; omega))))
  · repeat' (first | ((with_reducible apply xsim); (first | ((with_reducible apply xo); exact rfl) | with_reducible apply xend)) | ((with_reducible apply xaw); (first | ((with_reducible apply xstepS); refine AW.step tok rfl ?_) | with_reducible (first | refine AW.seq ?_ | refine AW.ret ?_ | refine AW.exit ?_) | ((with_reducible apply xcond); exact rfl))) | with_reducible (first | refine xthen ?_ | refine xthen_e ?_ | refine xblock_e ?_ | refine xround_e ?_) | (with_reducible intro hc; (try simp only [decide_eq_true_eq, decide_eq_false_iff_not, Bool.not_true, Bool.not_false, Bool.not_eq_true', Bool.not_eq_false', ne_eq, not_true, reduceCtorEq, List.length_map] at hc); (try (exfalso; omega))) | with_reducible (first | exact trivial | refine And.intro ?_ ?_ | exact rfl))
    (refine xfinIs (by first | exact .inl rfl | exact .inr rfl) rfl (by repeat' (first | exact trivial | exact rfl | refine And.intro ?_ ?_)) rfl ?_ rfl; first | (simp -implicitDefEqProofs only [go_sem, Int.reduceEq, Int.reduceLT, Int.reduceLE, Nat.reduceAdd, Nat.reduceSub, Nat.reduceMul, Nat.reduceEqDiff, Nat.reduceLeDiff, Nat.reducePow, ↓reduceIte, reduceCtorEq, treeOk_tt hlen' fun i h => hp i h (by omega)] <;> (first | rfl | omega | exact decide_eq_decide.2 (by omega) | exact decide_eq_false (by omega) | exact decide_eq_true (by omega) | (symm; first | exact decide_eq_false (by omega) | exact decide_eq_true (by omega)) | (rw [Bool.eq_iff_iff]; simp only [Bool.not_eq_true', Bool.not_eq_false', Bool.and_eq_true, Bool.or_eq_true, decide_eq_true_eq, decide_eq_false_iff_not, reduceCtorEq, true_iff, iff_true, false_iff, iff_false]; omega))))
end Go.Proofs.Yticgjepndfjafaa

namespace Go.Proofs.Yticgjepndfjafaa
open Go.Fw
attribute [local irreducible] Go.Fw.aops Go.Fw.arun

structure Rect where
  x : Int
  y : Int
  w : Int
  h : Int
@[go_sem] def encRect (r : Rect) : List D := [.int .i64 r.x, .int .i64 r.y, .int .i64 r.w, .int .i64 r.h]
@[go_sem] def vRect (r : Rect) : V := .agg ((encRect r).map .d)

/-- A rectangle in the room. -/
structure RectIn (r : Rect) : Prop where
  x : -1048576 ≤ r.x
  y : -1048576 ≤ r.y
  w : 0 ≤ r.w
  h : 0 ≤ r.h
  xw : r.x + r.w ≤ 1048576
  yh : r.y + r.h ≤ 1048576
end Go.Proofs.Yticgjepndfjafaa

namespace Go.Proofs.Yticgjepndfjafaa
open Go.Fw
attribute [local irreducible] Go.Fw.aops Go.Fw.arun

def cut (r : Rect) (side n : Int) : Rect × Rect :=
  if side = 0 then (⟨r.x, r.y, r.w, min n r.h⟩, ⟨r.x, r.y + min n r.h, r.w, r.h - min n r.h⟩)
  else if side = 1 then (⟨r.x, r.y + (r.h - min n r.h), r.w, min n r.h⟩, ⟨r.x, r.y, r.w, r.h - min n r.h⟩)
  else if side = 2 then (⟨r.x, r.y, min n r.w, r.h⟩, ⟨r.x + min n r.w, r.y, r.w - min n r.w, r.h⟩)
  else (⟨r.x + (r.w - min n r.w), r.y, min n r.w, r.h⟩, ⟨r.x, r.y, r.w - min n r.w, r.h⟩)

theorem all_drop {xs : List Pack} {k : Nat} (h : xs.all packB = true) : (xs.drop k).all packB = true :=
  List.all_eq_true.2 fun x hx => List.all_eq_true.1 h x (List.mem_of_mem_drop hx)

end Go.Proofs.Yticgjepndfjafaa

namespace Go.Proofs.Yticgjepndfjafaa
open Go.Fw
attribute [local irreducible] Go.Fw.aops Go.Fw.arun

@[go_sem] def encN (n : Int) : List D := [.int .i64 n]
def sumI : List Int → Int
  | [] => 0
  | x :: xs => x + sumI xs
theorem sumI_app (a b : List Int) : sumI (a ++ b) = sumI a + sumI b := by
  induction a with
  | nil => simp [sumI]
  | cons x a ih => simp only [List.cons_append, sumI, ih]; omega
theorem sumI_take {xs : List Int} {k : Nat} (h : k < xs.length) : sumI (xs.take (k + 1)) = sumI (xs.take k) + xs[k] := by
  rw [List.take_succ_eq_append_getElem h, sumI_app]; simp [sumI]
/-- Small numbers, not too many. -/
def NumsOk (xs : List Int) : Prop := xs.length ≤ 2^20 ∧ ∀ x ∈ xs, 0 ≤ x ∧ x ≤ 2^30
theorem NumsOk.at {xs : List Int} (h : NumsOk xs) {k : Nat} (hk : k < xs.length) : 0 ≤ xs[k] ∧ xs[k] ≤ 2^30 := h.2 _ (List.getElem_mem hk)
theorem NumsOk.sum {xs : List Int} (h : NumsOk xs) : ∀ k, k ≤ xs.length → 0 ≤ sumI (xs.take k) ∧ sumI (xs.take k) ≤ 2^30 * k := by
  intro k
  induction k with
  | zero => intro _; simp [sumI]
  | succ k ih =>
    intro hk
    have := h.at (show k < xs.length by omega)
    rw [sumI_take (by omega)]
    have := ih (by omega)
    omega

theorem c_sum (xs : List Int) (h : NumsOk xs) : ACon Try.prog 118 [.d (.lst (xs.map encN))] [] (Is (.d (.int .i64 (sumI xs)))) := by
  have hl := h.1
  refine ACon.introW tok (nt := 17) Try.func118 rfl rfl rfl (by kernel_rfl) rfl ?_
  repeat' (first | ((with_reducible apply xsim); (first | ((with_reducible apply xlenM); exact rfl; exact rfl) | ((with_reducible apply xo); exact rfl) | with_reducible apply xend)) | ((with_reducible apply xaw); (first | ((with_reducible apply xstepS); refine AW.step tok rfl ?_) | with_reducible (first | refine AW.seq ?_ | refine AW.block ?_))) | with_reducible exact trivial)
  refine AW.loop (S := fun k : Nat => ⟨[(3, .d (.int .i64 (sumI (xs.take k)))), (6, .d (.lst (xs.map encN))), (7, .d (.int .i64 xs.length)), (8, .d (.int .i64 k))], [], 17, 0⟩)
    (Pre := fun k => k ≤ xs.length) (μ := fun k => xs.length - k) 0 (Nat.zero_le _) ?_ ?_
  · (refine xwk (π := []) (by decide) rfl ?_ ?_; (first | exact trivial); repeat' (first | exact renE_n | ((with_reducible apply renE_c); exact rfl; focus (first | (simp -implicitDefEqProofs only [go_sem, Int.reduceEq, Int.reduceLT, Int.reduceLE, Nat.reduceAdd, Nat.reduceSub, Nat.reduceMul, Nat.reduceEqDiff, Nat.reduceLeDiff, Nat.reducePow, ↓reduceIte, reduceCtorEq, List.take_zero, sumI]; done)))))
  · intro k hk
    have hs := h.sum k hk
    by_cases hlt : k < xs.length
    · have hrow := at_map (f := encN) hlt
      have hx := h.at hlt
      repeat' (first | ((with_reducible apply xsim); (first | ((with_reducible apply xo); exact rfl) | with_reducible apply xend | ((with_reducible apply xidxL); exact rfl; exact rfl; exact rfl; (first | exact hrow); omega; first | exact rfl | simp only [hsz]))) | ((with_reducible apply xaw); (first | ((with_reducible apply xstepS); refine AW.step tok rfl ?_) | ((with_reducible apply xstep); refine AW.region tok rfl ?_) | with_reducible (first | refine AW.seq ?_ | refine AW.block ?_ | refine AW.skip ?_) | ((with_reducible apply xcond); exact rfl))) | with_reducible (first | refine xthen ?_ | refine xblock ?_) | (with_reducible intro hc; (try simp only [decide_eq_true_eq, decide_eq_false_iff_not, Bool.not_true, Bool.not_false, Bool.not_eq_true', Bool.not_eq_false', ne_eq, not_true, reduceCtorEq, List.length_map] at hc); (try (exfalso; omega))) | with_reducible (first | exact trivial | refine And.intro ?_ ?_ | exact rfl) | (refine inR_i64.mpr ?_; first | omega | (simp only [List.length_map, List.length_map]; omega)))
      refine round_end (k+1) hlt (by omega) (by (refine xwk (π := []) (by decide) rfl ?_ ?_; (first | exact trivial); repeat' (first | exact renE_n | ((with_reducible apply renE_c); exact rfl; focus (first | (simp -implicitDefEqProofs only [go_sem, Int.reduceEq, Int.reduceLT, Int.reduceLE, Nat.reduceAdd, Nat.reduceSub, Nat.reduceMul, Nat.reduceEqDiff, Nat.reduceLeDiff, Nat.reducePow, ↓reduceIte, reduceCtorEq, sumI_take hlt]; done))))))
    · have hk' : k = xs.length := by omega
      subst hk'
      repeat' (first | ((with_reducible apply xsim); (first | ((with_reducible apply xo); exact rfl) | with_reducible apply xend)) | ((with_reducible apply xaw); (first | ((with_reducible apply xstepS); refine AW.step tok rfl ?_) | with_reducible (first | refine AW.seq ?_ | refine AW.ret ?_ | refine AW.exit ?_) | ((with_reducible apply xcond); exact rfl))) | with_reducible (first | refine xthen ?_ | refine xthen_e ?_ | refine xblock_e ?_ | refine xround_e ?_) | (with_reducible intro hc; (try simp only [decide_eq_true_eq, decide_eq_false_iff_not, Bool.not_true, Bool.not_false, Bool.not_eq_true', Bool.not_eq_false', ne_eq, not_true, reduceCtorEq, List.length_map] at hc); (try (exfalso; omega))) | with_reducible (first | exact trivial | refine And.intro ?_ ?_ | exact rfl))
      (refine xfinIs (by first | exact .inl rfl | exact .inr rfl) rfl (by repeat' (first | exact trivial | exact rfl | refine And.intro ?_ ?_)) rfl ?_ rfl; first | (simp -implicitDefEqProofs only [go_sem, Int.reduceEq, Int.reduceLT, Int.reduceLE, Nat.reduceAdd, Nat.reduceSub, Nat.reduceMul, Nat.reduceEqDiff, Nat.reduceLeDiff, Nat.reducePow, ↓reduceIte, reduceCtorEq, List.take_length] <;> (first | rfl | omega | exact decide_eq_decide.2 (by omega) | exact decide_eq_false (by omega) | exact decide_eq_true (by omega) | (symm; first | exact decide_eq_false (by omega) | exact decide_eq_true (by omega)) | (rw [Bool.eq_iff_iff]; simp only [Bool.not_eq_true', Bool.not_eq_false', Bool.and_eq_true, Bool.or_eq_true, decide_eq_true_eq, decide_eq_false_iff_not, reduceCtorEq, true_iff, iff_true, false_iff, iff_false]; omega))))

theorem c_total (xs : List Int) (h : NumsOk xs) : ACon Try.prog 122 [.d (.lst (xs.map encN))] [] (Is (.d (.int .i64 (sumI xs)))) := by
  have hl := h.1
  refine ACon.introW tok (nt := 18) Try.func122 rfl rfl rfl (by kernel_rfl) rfl ?_
  repeat' (first | ((with_reducible apply xsim); (first | ((with_reducible apply xo); exact rfl) | with_reducible apply xend)) | ((with_reducible apply xaw); (first | ((with_reducible apply xstepS); refine AW.step tok rfl ?_) | with_reducible (first | refine AW.seq ?_ | refine AW.block ?_))) | with_reducible exact trivial)
  refine AW.loop (S := fun k : Nat => ⟨[(0, .d (.lst (xs.map encN))), (3, .d (.int .i64 (sumI (xs.take k)))), (4, .d (.int .i64 k))], [], 18, 0⟩)
    (Pre := fun k => k ≤ xs.length) (μ := fun k => xs.length - k) 0 (Nat.zero_le _) ?_ ?_
  · (refine xwk (π := []) (by decide) rfl ?_ ?_; (first | exact trivial); repeat' (first | exact renE_n | ((with_reducible apply renE_c); exact rfl; focus (first | (simp -implicitDefEqProofs only [go_sem, Int.reduceEq, Int.reduceLT, Int.reduceLE, Nat.reduceAdd, Nat.reduceSub, Nat.reduceMul, Nat.reduceEqDiff, Nat.reduceLeDiff, Nat.reducePow, ↓reduceIte, reduceCtorEq, List.take_zero, sumI]; done)))))
  · intro k hk
    have hs := h.sum k hk
    by_cases hlt : k < xs.length
    · have hrow := at_map (f := encN) hlt
      have hx := h.at hlt
      repeat' (first | ((with_reducible apply xsim); (first | ((with_reducible apply xlenM); exact rfl; exact rfl) | ((with_reducible apply xo); exact rfl) | with_reducible apply xend | ((with_reducible apply xidxL); exact rfl; exact rfl; exact rfl; (first | exact hrow); omega; first | exact rfl | simp only [hsz]))) | ((with_reducible apply xaw); (first | ((with_reducible apply xstepS); refine AW.step tok rfl ?_) | ((with_reducible apply xstep); refine AW.region tok rfl ?_) | with_reducible (first | refine AW.seq ?_ | refine AW.block ?_ | refine AW.skip ?_) | ((with_reducible apply xcond); exact rfl))) | with_reducible (first | refine xthen ?_ | refine xblock ?_) | (with_reducible intro hc; (try simp only [decide_eq_true_eq, decide_eq_false_iff_not, Bool.not_true, Bool.not_false, Bool.not_eq_true', Bool.not_eq_false', ne_eq, not_true, reduceCtorEq, List.length_map] at hc); (try (exfalso; omega))) | with_reducible (first | exact trivial | refine And.intro ?_ ?_ | exact rfl) | (refine inR_i64.mpr ?_; first | omega | (simp only [List.length_map, List.length_map]; omega)))
      refine round_end (k+1) hlt (by omega) (by (refine xwk (π := []) (by decide) rfl ?_ ?_; (first | exact trivial); repeat' (first | exact renE_n | ((with_reducible apply renE_c); exact rfl; focus (first | (simp -implicitDefEqProofs only [go_sem, Int.reduceEq, Int.reduceLT, Int.reduceLE, Nat.reduceAdd, Nat.reduceSub, Nat.reduceMul, Nat.reduceEqDiff, Nat.reduceLeDiff, Nat.reducePow, ↓reduceIte, reduceCtorEq, sumI_take hlt]; done))))))
    · have hk' : k = xs.length := by omega
      subst hk'
      repeat' (first | ((with_reducible apply xsim); (first | ((with_reducible apply xlenM); exact rfl; exact rfl) | ((with_reducible apply xo); exact rfl) | with_reducible apply xend)) | ((with_reducible apply xaw); (first | ((with_reducible apply xstepS); refine AW.step tok rfl ?_) | with_reducible (first | refine AW.seq ?_ | refine AW.ret ?_ | refine AW.exit ?_) | ((with_reducible apply xcond); exact rfl))) | with_reducible (first | refine xthen ?_ | refine xthen_e ?_ | refine xblock_e ?_ | refine xround_e ?_) | (with_reducible intro hc; (try simp only [decide_eq_true_eq, decide_eq_false_iff_not, Bool.not_true, Bool.not_false, Bool.not_eq_true', Bool.not_eq_false', ne_eq, not_true, reduceCtorEq, List.length_map] at hc); (try (exfalso; omega))) | with_reducible (first | exact trivial | refine And.intro ?_ ?_ | exact rfl))
      (refine xfinIs (by first | exact .inl rfl | exact .inr rfl) rfl (by repeat' (first | exact trivial | exact rfl | refine And.intro ?_ ?_)) rfl ?_ rfl; first | (simp -implicitDefEqProofs only [go_sem, Int.reduceEq, Int.reduceLT, Int.reduceLE, Nat.reduceAdd, Nat.reduceSub, Nat.reduceMul, Nat.reduceEqDiff, Nat.reduceLeDiff, Nat.reducePow, ↓reduceIte, reduceCtorEq, List.take_length] <;> (first | rfl | omega | exact decide_eq_decide.2 (by omega) | exact decide_eq_false (by omega) | exact decide_eq_true (by omega) | (symm; first | exact decide_eq_false (by omega) | exact decide_eq_true (by omega)) | (rw [Bool.eq_iff_iff]; simp only [Bool.not_eq_true', Bool.not_eq_false', Bool.and_eq_true, Bool.or_eq_true, decide_eq_true_eq, decide_eq_false_iff_not, reduceCtorEq, true_iff, iff_true, false_iff, iff_false]; omega))))
end Go.Proofs.Yticgjepndfjafaa

namespace Go.Proofs.Yticgjepndfjafaa
open Go.Fw

def floors (n : Int) (ws : List Int) : List Int := ws.map fun w => (n * w).tdiv (sumI ws)
/-- The first ones whose weight is not 0 have one more: after k weights. -/
def bumpTo (ws bs : List Int) (m : Int) : Nat → List Int × Int
  | 0 => (bs, m)
  | k + 1 =>
    let s := bumpTo ws bs m k
    if (ws[k]?).getD 0 ≠ 0 ∧ 0 < s.2 then (s.1.set k ((s.1[k]?).getD 0 + 1), s.2 - 1) else s
def spread (n : Int) (ws : List Int) : List Int :=
  if sumI ws = 0 then (ws.map fun _ => (0 : Int)).set (ws.length - 1) n
  else (bumpTo ws (floors n ws) (n - sumI (floors n ws)) ws.length).1

theorem bumpTo_len {ws bs : List Int} {m : Int} : ∀ k, (bumpTo ws bs m k).1.length = bs.length := by
  intro k
  induction k with
  | zero => rfl
  | succ k ih => simp only [bumpTo]; split <;> simp [ih]
theorem bumpTo_done {ws bs : List Int} {m : Int} {k : Nat} (h : (bumpTo ws bs m k).2 ≤ 0) : ∀ j, k ≤ j → bumpTo ws bs m j = bumpTo ws bs m k := by
  intro j hj
  induction j with
  | zero => obtain rfl : k = 0 := by omega
            rfl
  | succ j ih =>
    by_cases e : k = j + 1
    · rw [e]
    · have := ih (by omega)
      simp only [bumpTo]
      rw [this, if_neg (by omega)]
end Go.Proofs.Yticgjepndfjafaa

namespace Go.Proofs.Yticgjepndfjafaa
open Go.Fw
attribute [local irreducible] Go.Fw.aops Go.Fw.arun

structure WOk (ws : List Int) : Prop where
  lo : 1 ≤ ws.length
  hi : ws.length ≤ 5
  w : ∀ x ∈ ws, 0 ≤ x ∧ x ≤ 5
theorem WOk.nums {ws : List Int} (h : WOk ws) : NumsOk ws := ⟨by have := h.hi; omega, fun x hx => by have := h.w x hx; omega⟩
theorem WOk.sum {ws : List Int} (h : WOk ws) : 0 ≤ sumI ws := by
  have := (h.nums.sum ws.length (Nat.le_refl _)).1
  rwa [List.take_length] at this
theorem floors_len {n : Int} {ws : List Int} : (floors n ws).length = ws.length := by simp [floors]
theorem floors_at {n : Int} {ws : List Int} {k : Nat} (h : k < ws.length) : (floors n ws)[k]'(by rw [floors_len]; exact h) = (n * ws[k]).tdiv (sumI ws) := by simp [floors]

theorem floors_bd {n : Int} {ws : List Int} (h : WOk ws) (hn : 0 ≤ n ∧ n ≤ 2^27) : NumsOk (floors n ws) := by
  have hi := h.hi
  refine ⟨by rw [floors_len]; omega, fun x hx => ?_⟩
  obtain ⟨w, hw, rfl⟩ := List.mem_map.1 hx
  have hw := h.w w hw
  have m1 : 0 ≤ n * w := Int.mul_nonneg hn.1 hw.1
  have m2 : n * w ≤ 2^27 * 5 := Int.mul_le_mul hn.2 hw.2 hw.1 (by omega)
  have d1 : 0 ≤ (n * w).tdiv (sumI ws) := Int.tdiv_nonneg m1 h.sum
  have d2 : (n * w).tdiv (sumI ws) ≤ n * w := Int.tdiv_le_self _ m1
  omega
theorem bumpTo_at {ws bs : List Int} {m : Int} : ∀ k j, k ≤ j → (bumpTo ws bs m k).1[j]? = bs[j]? := by
  intro k
  induction k with
  | zero => intro j _; rfl
  | succ k ih =>
    intro j hj
    simp only [bumpTo]
    split
    · rw [List.getElem?_set_ne (by omega)]; exact ih j (by omega)
    · exact ih j (by omega)
theorem bumpTo_m {ws bs : List Int} {m : Int} : ∀ k, (bumpTo ws bs m k).2 ≤ m ∧ m - k ≤ (bumpTo ws bs m k).2 := by
  intro k
  induction k with
  | zero => simp [bumpTo]
  | succ k ih => simp only [bumpTo]; split <;> (try dsimp only) <;> omega

theorem bumpTo_succ {ws bs : List Int} {m : Int} {k : Nat} (h : k < ws.length) (h' : k < bs.length) : bumpTo ws bs m (k + 1) = if ws[k] ≠ 0 ∧ 0 < (bumpTo ws bs m k).2 then ((bumpTo ws bs m k).1.set k (bs[k] + 1), (bumpTo ws bs m k).2 - 1) else bumpTo ws bs m k := by
  rw [bumpTo]
  simp only [bumpTo_at k k (Nat.le_refl _), List.getElem?_eq_getElem h, List.getElem?_eq_getElem h', Option.getD_some]

def zN : List D := [.int .i64 0]
def ONums (xs : List Int) : V → List O → Prop := ORows encN 1 xs

theorem c_spreadI (n : Int) (ws : List Int) (hn : 0 ≤ n ∧ n ≤ 2^27) (hw : WOk ws) : ACon Try.prog 139 [.d (.int .i64 n), .d (.lst (ws.map encN))] [] (ONums (spread n ws)) := by
  have hlo := hw.lo; have hhi := hw.hi
  have hsum := hw.nums.sum ws.length (Nat.le_refl _)
  rw [List.take_length] at hsum
  have cs := c_sum ws hw.nums
  have hfb := floors_bd hw hn
  have hfl := floors_len (n := n) (ws := ws)
  have cf := c_sum (floors n ws) hfb
  have hfs := hfb.sum _ (Nat.le_refl _)
  rw [List.take_length, hfl] at hfs
  by_cases h0 : sumI ws = 0
  · refine ACon.introW tok (nt := 69) Try.func139 rfl rfl rfl (by kernel_rfl) rfl ?_
    have hz : (List.replicate ws.length [D.int .i64 0])[((ws.length : Int) - 1).toNat]? = some [D.int .i64 0] := by rw [List.getElem?_replicate, if_pos (by omega)]
    have he : (spread n ws).map encN = (List.replicate ws.length [D.int .i64 0]).set ((ws.length : Int) - 1).toNat [D.int .i64 n] := by
      rw [spread, if_pos h0, show ((ws.length : Int) - 1).toNat = ws.length - 1 by omega, List.map_set]
      congr 1
      rw [List.map_map]
      exact List.map_const' ..
    have hsl : (spread n ws).length = ws.length := by rw [spread, if_pos h0]; simp
    repeat' (first | ((with_reducible apply xsim); (first | ((with_reducible apply xlenM); exact rfl; exact rfl) | ((with_reducible apply xo); exact rfl) | with_reducible apply xend | ((with_reducible apply xidxM); exact rfl; exact rfl; exact rfl; omega; omega; exact rfl) | ((with_reducible apply xstA); exact rfl; exact rfl; exact rfl; exact rfl; (first | exact hz); exact rfl; exact rfl; exact rfl; exact rfl; (try simp only [List.set_cons_zero, List.set_cons_succ, List.length_map, List.length_replicate])) | ((with_reducible apply xcallIs); exact rfl; exact rfl; exact cs; exact rfl) | simp -implicitDefEqProofs only [go_sem, Int.reduceEq, Int.reduceLT, Int.reduceLE, Nat.reduceAdd, Nat.reduceSub, Nat.reduceMul, Nat.reduceEqDiff, Nat.reduceLeDiff, Nat.reducePow, ↓reduceIte, reduceCtorEq, List.length_map, List.length_replicate])) | ((with_reducible apply xaw); (first | ((with_reducible apply xstepS); refine AW.step tok rfl ?_) | with_reducible (first | refine AW.seq ?_ | refine AW.ret ?_) | ((with_reducible apply xcond); exact rfl))) | with_reducible refine xthen_r ?_ | (with_reducible intro hc; (try simp only [decide_eq_true_eq, decide_eq_false_iff_not, Bool.not_true, Bool.not_false, Bool.not_eq_true', Bool.not_eq_false', ne_eq, not_true, reduceCtorEq, List.length_map, List.length_replicate] at hc); (try (exfalso; omega))) | with_reducible (first | exact trivial | refine And.intro ?_ ?_ | exact rfl) | exact Eq.refl true | (refine inR_i64.mpr ?_; first | omega | (simp only [List.length_map, List.length_map, List.length_replicate]; omega)) | omega)
    (refine xfinOwn [0] (by first | exact .inl rfl | exact .inr rfl) rfl (by repeat' (first | exact trivial | exact rfl | refine And.intro ?_ ?_)) (by decide) rfl ?_ ?_ <;> simp -implicitDefEqProofs only [go_sem, Int.reduceEq, Int.reduceLT, Int.reduceLE, Nat.reduceAdd, Nat.reduceSub, Nat.reduceMul, Nat.reduceEqDiff, Nat.reduceLeDiff, Nat.reducePow, ↓reduceIte, reduceCtorEq, he, hsl])
  · have he : spread n ws = (bumpTo ws (floors n ws) (n - sumI (floors n ws)) ws.length).1 := by rw [spread, if_neg h0]
    refine ACon.introW tok (nt := 69) Try.func139 rfl rfl rfl (by kernel_rfl) rfl ?_
    repeat' (first | ((with_reducible apply xsim); (first | ((with_reducible apply xlenM); exact rfl; exact rfl) | ((with_reducible apply xo); exact rfl) | with_reducible apply xend | ((with_reducible apply xcallIs); exact rfl; exact rfl; exact cs; exact rfl) | simp -implicitDefEqProofs only [go_sem, Int.reduceEq, Int.reduceLT, Int.reduceLE, Nat.reduceAdd, Nat.reduceSub, Nat.reduceMul, Nat.reduceEqDiff, Nat.reduceLeDiff, Nat.reducePow, ↓reduceIte, reduceCtorEq, List.length_map, List.length_replicate])) | ((with_reducible apply xaw); (first | ((with_reducible apply xstepS); refine AW.step tok rfl ?_) | with_reducible (first | refine AW.seq ?_ | refine AW.block ?_ | refine AW.skip ?_) | ((with_reducible apply xcond); exact rfl))) | with_reducible refine xthen ?_ | (with_reducible intro hc; (try simp only [decide_eq_true_eq, decide_eq_false_iff_not, Bool.not_true, Bool.not_false, Bool.not_eq_true', Bool.not_eq_false', ne_eq, not_true, reduceCtorEq, List.length_map, List.length_replicate] at hc); (try (exfalso; omega))) | with_reducible (first | exact trivial | refine And.intro ?_ ?_ | exact rfl) | omega)
    refine AW.loop (S := fun k : Nat => ⟨[(0, .d (.int .i64 n)), (1, .d (.lst (ws.map encN))), (5, .msl 0 1 0 ws.length), (6, .d (.int .i64 (sumI ws))), (26, .d (.lst (ws.map encN))), (27, .d (.int .i64 ws.length)), (28, .d (.int .i64 k))], [.arr 1 (fillRows encN zN (floors n ws) k)], 69, 0⟩)
      (Pre := fun k => k ≤ ws.length) (μ := fun k => ws.length - k) 0 (Nat.zero_le _) ?_ ?_
    · (refine xwk (π := [0]) (by decide) rfl ?_ ?_; (first | simp -implicitDefEqProofs only [go_sem, Int.reduceEq, Int.reduceLT, Int.reduceLE, Nat.reduceAdd, Nat.reduceSub, Nat.reduceMul, Nat.reduceEqDiff, Nat.reduceLeDiff, Nat.reducePow, ↓reduceIte, reduceCtorEq, fillRows_zero, zN, hfl]); repeat' (first | exact renE_n | ((with_reducible apply renE_c); exact rfl; focus (first | (simp -implicitDefEqProofs only [go_sem, Int.reduceEq, Int.reduceLT, Int.reduceLE, Nat.reduceAdd, Nat.reduceSub, Nat.reduceMul, Nat.reduceEqDiff, Nat.reduceLeDiff, Nat.reducePow, ↓reduceIte, reduceCtorEq, fillRows_zero, zN, hfl]; done)))))
    · intro k hk
      by_cases hlt : k < ws.length
      · have hrow := at_map (f := encN) hlt
        have hx := hw.w _ (List.getElem_mem hlt)
        have m1 : 0 ≤ n * ws[k] := Int.mul_nonneg hn.1 hx.1
        have m2 : n * ws[k] ≤ 2^27 * 5 := Int.mul_le_mul hn.2 hx.2 hx.1 (by omega)
        have d1 : 0 ≤ (n * ws[k]).tdiv (sumI ws) := Int.tdiv_nonneg m1 hw.sum
        have d2 : (n * ws[k]).tdiv (sumI ws) ≤ n * ws[k] := Int.tdiv_le_self _ m1
        have hz := fillRows_at (enc := encN) (z := zN) (show k < (floors n ws).length by omega)
        have hset := fillRows_set (enc := encN) (z := zN) (show k < (floors n ws).length by omega)
        rw [floors_at hlt] at hset
        simp only [encN] at hset
        repeat' (first | ((with_reducible apply xsim); (first | ((with_reducible apply xo); exact rfl) | with_reducible apply xend | ((with_reducible apply xidxL); exact rfl; exact rfl; exact rfl; (first | exact hrow | exact hz); omega; first | exact rfl | simp only [hsz]) | ((with_reducible apply xidxM); exact rfl; exact rfl; exact rfl; omega; omega; exact rfl) | ((with_reducible apply xstA); exact rfl; exact rfl; exact rfl; exact rfl; (first | exact hrow | exact hz); exact rfl; exact rfl; exact rfl; exact rfl; (try simp only [List.set_cons_zero, List.set_cons_succ, List.length_map])))) | ((with_reducible apply xaw); (first | ((with_reducible apply xstepS); refine AW.step tok rfl ?_) | ((with_reducible apply xstep); refine AW.region tok rfl ?_) | with_reducible (first | refine AW.seq ?_ | refine AW.block ?_ | refine AW.skip ?_) | ((with_reducible apply xcond); exact rfl))) | with_reducible (first | refine xthen ?_ | refine xblock ?_) | (with_reducible intro hc; (try simp only [decide_eq_true_eq, decide_eq_false_iff_not, Bool.not_true, Bool.not_false, Bool.not_eq_true', Bool.not_eq_false', ne_eq, not_true, reduceCtorEq, List.length_map] at hc); (try (exfalso; omega))) | with_reducible (first | exact trivial | refine And.intro ?_ ?_ | exact rfl) | (refine inR_i64.mpr ?_; first | omega | (simp only [List.length_map, List.length_map]; omega)) | omega)
        refine round_end (k+1) hlt (by omega) (by (refine xwk (π := [0]) (by decide) rfl ?_ ?_; (first | simp -implicitDefEqProofs only [go_sem, Int.reduceEq, Int.reduceLT, Int.reduceLE, Nat.reduceAdd, Nat.reduceSub, Nat.reduceMul, Nat.reduceEqDiff, Nat.reduceLeDiff, Nat.reducePow, ↓reduceIte, reduceCtorEq, hset]); repeat' (first | exact renE_n | ((with_reducible apply renE_c); exact rfl; focus (first | (simp -implicitDefEqProofs only [go_sem, Int.reduceEq, Int.reduceLT, Int.reduceLE, Nat.reduceAdd, Nat.reduceSub, Nat.reduceMul, Nat.reduceEqDiff, Nat.reduceLeDiff, Nat.reducePow, ↓reduceIte, reduceCtorEq, hset]; done))))))
      · have hk' : k = ws.length := by omega
        subst hk'
        have hall := fillRows_all (enc := encN) (z := zN) (xs := floors n ws)
        rw [hfl] at hall
        rw [hall]
        have htk : List.take ws.length (List.map encN (floors n ws)) = List.map encN (floors n ws) := List.take_of_length_le (by simp [hfl])
        repeat' (first | ((with_reducible apply xsim); (first | ((with_reducible apply xlenM); exact rfl; exact rfl) | ((with_reducible apply xo); exact rfl) | with_reducible apply xend | ((with_reducible apply xcallLend [0]); exact rfl; exact cf; (focus (first | exact rfl | (simp -implicitDefEqProofs only [go_sem, ↓reduceIte, Nat.reduceEqDiff, List.length_map, hfl, htk]; done))); exact rfl; exact rfl))) | ((with_reducible apply xaw); (first | ((with_reducible apply xstepS); refine AW.step tok rfl ?_) | with_reducible (first | refine AW.seq ?_ | refine AW.block ?_ | refine AW.exit ?_) | ((with_reducible apply xcond); exact rfl))) | with_reducible (first | refine xthen ?_ | refine xthen_e ?_ | refine xblock_e ?_ | refine xround_e ?_) | (with_reducible intro hc; (try simp only [decide_eq_true_eq, decide_eq_false_iff_not, Bool.not_true, Bool.not_false, Bool.not_eq_true', Bool.not_eq_false', ne_eq, not_true, reduceCtorEq, List.length_map, hfl, htk] at hc); (try (exfalso; omega))) | with_reducible (first | exact trivial | refine And.intro ?_ ?_ | exact rfl) | (refine inR_i64.mpr ?_; first | omega | (simp only [List.length_map, List.length_map, hfl, htk]; omega)))
        generalize hB : bumpTo ws (floors n ws) (n - sumI (floors n ws)) = B at *
        have hBl : ∀ k, (B k).1.length = ws.length := fun k => by rw [← hB, bumpTo_len, hfl]
        have hBm : ∀ k : Nat, (B k).2 ≤ n - sumI (floors n ws) ∧ n - sumI (floors n ws) - k ≤ (B k).2 := fun k => by rw [← hB]; exact bumpTo_m k
        have hB0 : B 0 = (floors n ws, n - sumI (floors n ws)) := by rw [← hB]; rfl
        have hBs : ∀ k (h : k < ws.length), B (k + 1) = if ws[k] ≠ 0 ∧ 0 < (B k).2 then ((B k).1.set k ((floors n ws)[k]'(by omega) + 1), (B k).2 - 1) else B k := fun k h => by
          rw [← hB]; exact bumpTo_succ h _
        refine AW.loop (S := fun k : Nat => ⟨[(5, .msl 0 1 0 ws.length), (9, .d (.int .i64 (B k).2)), (46, .d (.lst (ws.map encN))), (47, .d (.int .i64 ws.length)), (48, .d (.int .i64 k))], [.arr 1 ((B k).1.map encN)], 69, 0⟩)
          (Pre := fun k => k ≤ ws.length) (μ := fun k => ws.length - k) 0 (Nat.zero_le _) ?_ ?_
        · (refine xwk (π := [0]) (by decide) rfl ?_ ?_; (first | simp -implicitDefEqProofs only [go_sem, Int.reduceEq, Int.reduceLT, Int.reduceLE, Nat.reduceAdd, Nat.reduceSub, Nat.reduceMul, Nat.reduceEqDiff, Nat.reduceLeDiff, Nat.reducePow, ↓reduceIte, reduceCtorEq, hB0]); repeat' (first | exact renE_n | ((with_reducible apply renE_c); exact rfl; focus (first | (simp -implicitDefEqProofs only [go_sem, Int.reduceEq, Int.reduceLT, Int.reduceLE, Nat.reduceAdd, Nat.reduceSub, Nat.reduceMul, Nat.reduceEqDiff, Nat.reduceLeDiff, Nat.reducePow, ↓reduceIte, reduceCtorEq, hB0]; done)))))
        · intro k hk
          have hm := hBm k
          by_cases hlt : k < ws.length
          · have hrow := at_map (f := encN) hlt
            have hx := hw.w _ (List.getElem_mem hlt)
            have hf := hfb.at (show k < (floors n ws).length by omega)
            have hz : ((B k).1.map encN)[k]? = some [.int .i64 ((floors n ws)[k]'(by omega))] := by
              rw [List.getElem?_map, ← hB, bumpTo_at k k (Nat.le_refl _), List.getElem?_eq_getElem (show k < (floors n ws).length by omega)]; rfl
            repeat' (first | ((with_reducible apply xsim); (first | ((with_reducible apply xo); exact rfl) | with_reducible apply xend | ((with_reducible apply xguardS); exact rfl; exact rfl) | ((with_reducible apply xidxL); exact rfl; exact rfl; exact rfl; (first | exact hrow | exact hz); omega; first | exact rfl | simp only [hsz]) | ((with_reducible apply xidxM); exact rfl; exact rfl; exact rfl; omega; omega; exact rfl) | ((with_reducible apply xldA); exact rfl; exact rfl; exact rfl; (first | exact hrow | exact hz); exact rfl) | ((with_reducible apply xstA); exact rfl; exact rfl; exact rfl; exact rfl; (first | exact hrow | exact hz); exact rfl; exact rfl; exact rfl; exact rfl; (try simp only [List.set_cons_zero, List.set_cons_succ, List.length_map])))) | ((with_reducible apply xaw); (first | ((with_reducible apply xstepS); refine AW.step tok rfl ?_) | ((with_reducible apply xstep); refine AW.region tok rfl ?_) | with_reducible (first | refine AW.seq ?_ | refine AW.block ?_ | refine AW.skip ?_) | ((with_reducible apply xcond); exact rfl))) | with_reducible (first | refine xthen ?_ | refine xblock ?_) | (with_reducible intro hc; (try simp only [decide_eq_true_eq, decide_eq_false_iff_not, Bool.not_true, Bool.not_false, Bool.not_eq_true', Bool.not_eq_false', ne_eq, not_true, reduceCtorEq, List.length_map] at hc); (try (exfalso; omega))) | with_reducible (first | exact trivial | refine And.intro ?_ ?_ | exact rfl) | (refine inR_i64.mpr ?_; first | omega | (simp only [List.length_map, List.length_map]; omega)))
            all_goals have hb := hBs k hlt
            · rw [if_pos (by omega)] at hb
              refine round_end (k+1) hlt (by omega) (by (refine xwk (π := [0]) (by decide) rfl ?_ ?_; (first | simp -implicitDefEqProofs only [go_sem, Int.reduceEq, Int.reduceLT, Int.reduceLE, Nat.reduceAdd, Nat.reduceSub, Nat.reduceMul, Nat.reduceEqDiff, Nat.reduceLeDiff, Nat.reducePow, ↓reduceIte, reduceCtorEq, hb, List.map_set, encN]); repeat' (first | exact renE_n | ((with_reducible apply renE_c); exact rfl; focus (first | (simp -implicitDefEqProofs only [go_sem, Int.reduceEq, Int.reduceLT, Int.reduceLE, Nat.reduceAdd, Nat.reduceSub, Nat.reduceMul, Nat.reduceEqDiff, Nat.reduceLeDiff, Nat.reducePow, ↓reduceIte, reduceCtorEq, hb, List.map_set, encN]; done))))))
            all_goals (rw [if_neg (by omega)] at hb; refine round_end (k+1) hlt (by omega) (by (refine xwk (π := [0]) (by decide) rfl ?_ ?_; (first | simp -implicitDefEqProofs only [go_sem, Int.reduceEq, Int.reduceLT, Int.reduceLE, Nat.reduceAdd, Nat.reduceSub, Nat.reduceMul, Nat.reduceEqDiff, Nat.reduceLeDiff, Nat.reducePow, ↓reduceIte, reduceCtorEq, hb]); repeat' (first | exact renE_n | ((with_reducible apply renE_c); exact rfl; focus (first | (simp -implicitDefEqProofs only [go_sem, Int.reduceEq, Int.reduceLT, Int.reduceLE, Nat.reduceAdd, Nat.reduceSub, Nat.reduceMul, Nat.reduceEqDiff, Nat.reduceLeDiff, Nat.reducePow, ↓reduceIte, reduceCtorEq, hb]; done)))))))
          · have hk' : k = ws.length := by omega
            subst hk'
            repeat' (first | ((with_reducible apply xsim); (first | ((with_reducible apply xo); exact rfl) | with_reducible apply xend)) | ((with_reducible apply xaw); (first | ((with_reducible apply xstepS); refine AW.step tok rfl ?_) | with_reducible (first | refine AW.seq ?_ | refine AW.ret ?_ | refine AW.exit ?_) | ((with_reducible apply xcond); exact rfl))) | with_reducible (first | refine xthen ?_ | refine xthen_e ?_ | refine xblock_e ?_ | refine xround_e ?_) | (with_reducible intro hc; (try simp only [decide_eq_true_eq, decide_eq_false_iff_not, Bool.not_true, Bool.not_false, Bool.not_eq_true', Bool.not_eq_false', ne_eq, not_true, reduceCtorEq, List.length_map] at hc); (try (exfalso; omega))) | with_reducible (first | exact trivial | refine And.intro ?_ ?_ | exact rfl))
            (refine xfinOwn [0] (by first | exact .inl rfl | exact .inr rfl) rfl (by repeat' (first | exact trivial | exact rfl | refine And.intro ?_ ?_)) (by decide) rfl ?_ ?_ <;> simp -implicitDefEqProofs only [go_sem, Int.reduceEq, Int.reduceLT, Int.reduceLE, Nat.reduceAdd, Nat.reduceSub, Nat.reduceMul, Nat.reduceEqDiff, Nat.reduceLeDiff, Nat.reducePow, ↓reduceIte, reduceCtorEq, he, hBl])
end Go.Proofs.Yticgjepndfjafaa

namespace Go.Proofs.Yticgjepndfjafaa
open Go.Fw

def nzI (ws : List Int) : Int := sumI (ws.map fun w => if w = 0 then 0 else 1)

theorem sumI_nonneg {xs : List Int} (h : ∀ x ∈ xs, 0 ≤ x) : 0 ≤ sumI xs := by
  induction xs with
  | nil => simp [sumI]
  | cons x xs ih =>
    have := h x (by simp)
    have := ih fun y hy => h y (by simp [hy])
    simp only [sumI]; omega
theorem sumI_mem {xs : List Int} (h : ∀ x ∈ xs, 0 ≤ x) {y : Int} (hy : y ∈ xs) : y ≤ sumI xs := by
  induction xs with
  | nil => cases hy
  | cons x xs ih =>
    have := h x (by simp)
    have := sumI_nonneg (xs := xs) fun y hy => h y (by simp [hy])
    simp only [sumI]
    rcases List.mem_cons.1 hy with rfl | hy
    · omega
    · have := ih (fun y hy => h y (by simp [hy])) hy; omega
theorem sumI_set {xs : List Int} {k : Nat} (hk : k < xs.length) (v : Int) : sumI (xs.set k v) = sumI xs - xs[k] + v := by
  induction xs generalizing k with
  | nil => simp at hk
  | cons x xs ih =>
    cases k with
    | zero => simp only [List.set_cons_zero, sumI, List.getElem_cons_zero]; omega
    | succ k =>
      simp only [List.set_cons_succ, sumI, List.getElem_cons_succ]
      rw [ih (by simpa using hk)]; omega
theorem sumI_zeros {α : Type} (xs : List α) : sumI (xs.map fun _ => (0 : Int)) = 0 := by
  induction xs with
  | nil => rfl
  | cons x xs ih => simp only [List.map_cons, sumI, ih]; omega
theorem nz_nonneg (ws : List Int) : 0 ≤ nzI ws := by
  refine sumI_nonneg fun x hx => ?_
  obtain ⟨w, _, rfl⟩ := List.mem_map.1 hx
  split <;> omega
theorem nz_take {ws : List Int} {k : Nat} (h : k < ws.length) : nzI (ws.take (k + 1)) = nzI (ws.take k) + if ws[k] = 0 then 0 else 1 := by
  rw [nzI, nzI, List.take_succ_eq_append_getElem h, List.map_append, sumI_app]; simp [sumI]

theorem floors_rest {n S : Int} (hn : 0 ≤ n) (hS : 0 < S) : ∀ ws : List Int, (∀ x ∈ ws, 0 ≤ x) →
    S * sumI (ws.map fun w => (n * w).tdiv S) ≤ n * sumI ws ∧ n * sumI ws ≤ S * sumI (ws.map fun w => (n * w).tdiv S) + nzI ws * (S - 1) := by
  intro ws
  induction ws with
  | nil => intro _; simp [sumI, nzI]
  | cons w ws ih =>
    intro h
    have hw := h w (by simp)
    obtain ⟨i1, i2⟩ := ih fun y hy => h y (by simp [hy])
    have hm : 0 ≤ n * w := Int.mul_nonneg hn hw
    have hq : (n * w).tdiv S = n * w / S := Int.tdiv_eq_ediv_of_nonneg hm
    have q1 := Int.mul_ediv_add_emod (n * w) S
    have q2 := Int.emod_nonneg (n * w) (show S ≠ 0 by omega)
    have q3 := Int.emod_lt_of_pos (n * w) hS
    have e : nzI (w :: ws) = (if w = 0 then 0 else 1) + nzI ws := rfl
    simp only [List.map_cons, sumI, e, Int.mul_add, Int.add_mul, hq]
    by_cases h0 : w = 0
    · subst h0
      simp only [Int.mul_zero, Int.zero_ediv, if_true, Int.zero_mul]
      omega
    · rw [if_neg h0]
      constructor <;> omega

theorem left_bd {n : Int} {ws : List Int} (h : WOk ws) (hn : 0 ≤ n) (h0 : sumI ws ≠ 0) : 0 ≤ n - sumI (floors n ws) ∧ n - sumI (floors n ws) ≤ nzI ws := by
  have hS := h.sum
  obtain ⟨h1, h2⟩ := floors_rest (n := n) (S := sumI ws) hn (by omega) ws fun x hx => (h.w x hx).1
  rw [show (ws.map fun w => (n * w).tdiv (sumI ws)) = floors n ws from rfl] at h1 h2
  have hz := nz_nonneg ws
  generalize sumI (floors n ws) = F at *
  generalize sumI ws = S at *
  generalize nzI ws = Z at *
  constructor
  · by_cases hc : F ≤ n
    · omega
    · have := Int.mul_le_mul_of_nonneg_left (show n + 1 ≤ F by omega) (show 0 ≤ S by omega)
      rw [Int.mul_add, Int.mul_comm S n] at this
      omega
  · by_cases hc : n - F ≤ Z
    · omega
    · have := Int.mul_le_mul_of_nonneg_left (show F + Z + 1 ≤ n by omega) (show 0 ≤ S by omega)
      rw [Int.mul_add, Int.mul_add, Int.mul_comm S n] at this
      rw [Int.mul_sub, Int.mul_comm Z S] at h2
      omega

theorem bump_left {ws bs : List Int} {m : Int} (hl : bs.length = ws.length) (hm : 0 ≤ m) : ∀ k, k ≤ ws.length → (bumpTo ws bs m k).2 = max 0 (m - nzI (ws.take k)) := by
  intro k
  induction k with
  | zero => intro _; simp only [bumpTo, List.take_zero]; simp only [nzI, List.map_nil, sumI]; omega
  | succ k ih =>
    intro hk
    have e := ih (by omega)
    have hz := nz_take (ws := ws) (k := k) (by omega)
    rw [bumpTo_succ (by omega) (by omega), hz]
    have hw := nz_nonneg (ws.take k)
    by_cases h0 : ws[k] = 0
    · rw [if_neg (fun h => h.1 h0), e, if_pos h0]; omega
    · rw [if_neg h0]
      by_cases h1 : 0 < (bumpTo ws bs m k).2
      · rw [if_pos ⟨h0, h1⟩]; dsimp only; omega
      · rw [if_neg (fun h => h1 h.2)]; omega
theorem bump_sum {ws bs : List Int} {m : Int} (hl : bs.length = ws.length) : ∀ k, k ≤ ws.length → sumI (bumpTo ws bs m k).1 = sumI bs + m - (bumpTo ws bs m k).2 := by
  intro k
  induction k with
  | zero => intro _; simp only [bumpTo]; omega
  | succ k ih =>
    intro hk
    have e := ih (by omega)
    have ha := bumpTo_at (ws := ws) (bs := bs) (m := m) k k (Nat.le_refl _)
    have hbl := bumpTo_len (ws := ws) (bs := bs) (m := m) k
    rw [List.getElem?_eq_getElem (by omega), List.getElem?_eq_getElem (by omega)] at ha
    injection ha with ha
    rw [bumpTo_succ (by omega) (by omega)]
    split
    · dsimp only; rw [sumI_set (by omega), ha]; omega
    · exact e
theorem bump_nonneg {ws bs : List Int} {m : Int} (hb : ∀ x ∈ bs, 0 ≤ x) : ∀ k, ∀ x ∈ (bumpTo ws bs m k).1, 0 ≤ x := by
  intro k
  induction k with
  | zero => exact hb
  | succ k ih =>
    intro x hx
    simp only [bumpTo] at hx
    split at hx
    · rcases List.mem_or_eq_of_mem_set hx with hx | rfl
      · exact ih x hx
      · rename_i hc
        cases hg : (bumpTo ws bs m k).1[k]? with
        | none => simp
        | some y => have := ih y (List.mem_of_getElem? hg); simp only [Option.getD_some]; omega
    · exact ih x hx
theorem spread_len {n : Int} {ws : List Int} : (spread n ws).length = ws.length := by
  unfold spread; split
  · simp
  · rw [bumpTo_len, floors_len]
theorem spread_sum {n : Int} {ws : List Int} (h : WOk ws) (hn : 0 ≤ n) : sumI (spread n ws) = n := by
  have := h.lo
  unfold spread; split
  · rw [sumI_set (by simp; omega), sumI_zeros]
    simp
  · rename_i h0
    obtain ⟨b1, b2⟩ := left_bd h hn h0
    have e := bump_left (ws := ws) (bs := floors n ws) floors_len b1 ws.length (Nat.le_refl _)
    rw [List.take_length] at e
    rw [bump_sum floors_len ws.length (Nat.le_refl _), e]; omega
theorem spread_nonneg {n : Int} {ws : List Int} (h : WOk ws) (hn : 0 ≤ n) : ∀ x ∈ spread n ws, 0 ≤ x := by
  unfold spread; split
  · intro x hx
    rcases List.mem_or_eq_of_mem_set hx with hx | rfl
    · obtain ⟨_, _, rfl⟩ := List.mem_map.1 hx; omega
    · exact hn
  · refine bump_nonneg (fun x hx => ?_) _
    obtain ⟨w, hw, rfl⟩ := List.mem_map.1 hx
    exact Int.tdiv_nonneg (Int.mul_nonneg hn (h.w w hw).1) h.sum
theorem spread_bd {n : Int} {ws : List Int} (h : WOk ws) (hn : 0 ≤ n) : ∀ x ∈ spread n ws, 0 ≤ x ∧ x ≤ n := by
  intro x hx
  have h1 := spread_nonneg h hn
  have h2 := sumI_mem h1 hx
  rw [spread_sum h hn] at h2
  exact ⟨h1 x hx, h2⟩
end Go.Proofs.Yticgjepndfjafaa

namespace Go.Proofs.Yticgjepndfjafaa
open Go.Fw

def slc {α : Type} (xs : List α) (a m : Nat) : List α := (xs.drop a).take m
theorem slc_len {α : Type} {xs : List α} {a m : Nat} (h : a + m ≤ xs.length) : (slc xs a m).length = m := by simp [slc]; omega
theorem slc_at {α : Type} {xs : List α} {a m i : Nat} (h : i < (slc xs a m).length) : (slc xs a m)[i] = xs[a + i]'(by simp [slc] at h; omega) := by
  simp [slc]
theorem slc_mem {α : Type} {xs : List α} {a m : Nat} {x : α} (h : x ∈ slc xs a m) : x ∈ xs := List.mem_of_mem_drop (List.mem_of_mem_take h)
theorem slc_map {α β : Type} {f : α → β} {xs : List α} {a m : Nat} : slc (xs.map f) a m = (slc xs a m).map f := by simp [slc, List.map_take, List.map_drop]

/-- The first k parts are put to those from a on. -/
def putN (ps : List Int) (a k : Nat) (out : List Int) : List Int := out.mapIdx fun i x => if a ≤ i ∧ i < a + k then x + (ps[i - a]?).getD 0 else x
theorem putN_len {ps out : List Int} {a k : Nat} : (putN ps a k out).length = out.length := by simp [putN]
theorem putN_zero {ps out : List Int} {a : Nat} : putN ps a 0 out = out := by
  refine List.ext_getElem (by simp [putN]) fun i h1 h2 => ?_
  simp only [putN, List.getElem_mapIdx]
  rw [if_neg (by omega)]
theorem putN_at {ps out : List Int} {a k : Nat} (h : a + k < out.length) : (putN ps a k out)[a + k]? = some out[a + k] := by
  rw [List.getElem?_eq_getElem (by rw [putN_len]; exact h)]
  simp only [putN, List.getElem_mapIdx]
  rw [if_neg (by omega)]
theorem putN_set {ps out : List Int} {a k : Nat} (h : a + k < out.length) (hp : k < ps.length) : (putN ps a k out).set (a + k) (out[a + k] + ps[k]) = putN ps a (k + 1) out := by
  refine List.ext_getElem (by simp [putN]) fun i h1 h2 => ?_
  rw [List.getElem_set]
  simp only [putN, List.getElem_mapIdx]
  split
  · rename_i e; subst e
    rw [if_pos (by omega), show a + k - a = k by omega, List.getElem?_eq_getElem hp]; rfl
  · by_cases hc : a ≤ i ∧ i < a + k
    · rw [if_pos hc, if_pos (by omega)]
    · rw [if_neg hc, if_neg (by omega)]

theorem sumI_zip : ∀ {xs ys : List Int}, xs.length = ys.length → sumI (List.zipWith (· + ·) xs ys) = sumI xs + sumI ys
  | [], [], _ => rfl
  | x :: xs, y :: ys, h => by
    have := sumI_zip (xs := xs) (ys := ys) (by simpa using h)
    simp only [List.zipWith_cons_cons, sumI, this]; omega
theorem putN_slc {ps out : List Int} {a m : Nat} (h : a + m ≤ out.length) (hp : ps.length = m) : slc (putN ps a m out) a m = List.zipWith (· + ·) (slc out a m) ps := by
  refine List.ext_getElem (by rw [slc_len (by rw [putN_len]; exact h), List.length_zipWith, slc_len h]; omega) fun i h1 h2 => ?_
  have hi : i < m := by rw [slc_len (by rw [putN_len]; exact h)] at h1; exact h1
  rw [slc_at h1, List.getElem_zipWith, slc_at]
  simp only [putN, List.getElem_mapIdx]
  rw [if_pos (by omega), show a + i - a = i by omega, List.getElem?_eq_getElem (by omega)]; rfl
def weights (ls : List Line) : List Int := ls.map Line.weight
def mins (ls : List Line) : List Int := ls.map Line.min
def missing (out : List Int) (s : Span) : Int := s.need - sumI (slc out s.at.toNat s.many.toNat)
def reqStep (ls : List Line) (many : Int) (out : List Int) (s : Span) : List Int :=
  if s.many = many ∧ 0 < missing out s then putN (spread (missing out s) (slc (weights ls) s.at.toNat s.many.toNat)) s.at.toNat s.many.toNat out else out
def reqRound (ls : List Line) (ss : List Span) (many : Int) (out : List Int) (k : Nat) : List Int := (ss.take k).foldl (reqStep ls many) out
def reqs (ls : List Line) (ss : List Span) : Nat → List Int
  | 0 => mins ls
  | m + 1 => reqRound ls ss (m + 1) (reqs ls ss m) ss.length
def requests (ls : List Line) (ss : List Span) : List Int := reqs ls ss ls.length

theorem reqRound_zero {ls ss m out} : reqRound ls ss m out 0 = out := rfl
theorem reqRound_succ {ls : List Line} {ss : List Span} {m : Int} {out : List Int} {k : Nat} (h : k < ss.length) : reqRound ls ss m out (k + 1) = reqStep ls m (reqRound ls ss m out k) ss[k] := by
  unfold reqRound; rw [List.take_succ_eq_append_getElem h, List.foldl_append]; rfl

/-- Sizes of some lines. -/
structure ROk (n : Nat) (out : List Int) : Prop where
  len : out.length = n
  bd : ∀ x ∈ out, 0 ≤ x ∧ x ≤ 4096
theorem ROk.nums {n : Nat} {out : List Int} (h : ROk n out) (hn : n ≤ 5) : NumsOk out := ⟨by rw [h.len]; omega, fun x hx => by have := h.bd x hx; omega⟩
theorem ROk.slc {n : Nat} {out : List Int} (h : ROk n out) (hn : n ≤ 5) {a m : Nat} : NumsOk (slc out a m) := ⟨by
  have := h.len; simp [Go.Proofs.Yticgjepndfjafaa.slc]; omega, fun x hx => by have := h.bd x (slc_mem hx); omega⟩
theorem validLine_iff {l : Line} (h : validLine l = true) : 0 ≤ l.weight ∧ l.weight ≤ 5 ∧ 0 ≤ l.min ∧ l.min ≤ 30 := of_decide_eq_true h
structure LOk (ls : List Line) : Prop where
  lo : 1 ≤ ls.length
  hi : ls.length ≤ 5
  ok : ∀ l ∈ ls, 0 ≤ l.weight ∧ l.weight ≤ 5 ∧ 0 ≤ l.min ∧ l.min ≤ 30
theorem linesOk_iff {ls : List Line} (h : linesOk ls = true) : LOk ls := by
  simp only [linesOk, Bool.and_eq_true, decide_eq_true_eq, List.all_eq_true] at h
  exact ⟨h.1.1, h.1.2, fun l hl => validLine_iff (h.2 l hl)⟩
structure SOk (ss : List Span) (n : Int) : Prop where
  hi : ss.length ≤ 10
  ok : ∀ s ∈ ss, 0 ≤ s.at ∧ s.at ≤ n - 1 ∧ 1 ≤ s.many ∧ s.many ≤ n - s.at ∧ 0 ≤ s.need ∧ s.need ≤ 4096
theorem LOk.w {ls : List Line} (h : LOk ls) : ∀ x ∈ weights ls, 0 ≤ x ∧ x ≤ 5 := fun x hx => by
  obtain ⟨l, hl, rfl⟩ := List.mem_map.1 hx
  have := h.ok l hl; omega
theorem LOk.slc {ls : List Line} (h : LOk ls) {a m : Nat} (h1 : 1 ≤ m) (h2 : a + m ≤ ls.length) : WOk (Go.Proofs.Yticgjepndfjafaa.slc (weights ls) a m) := by
  have hl : (Go.Proofs.Yticgjepndfjafaa.slc (weights ls) a m).length = m := slc_len (by simp [weights]; omega)
  have := h.hi
  exact ⟨by omega, by omega, fun x hx => h.w x (slc_mem hx)⟩
theorem LOk.all {ls : List Line} (h : LOk ls) : WOk (weights ls) := ⟨by simp [weights]; exact h.lo, by simp [weights]; exact h.hi, h.w⟩
theorem LOk.mins {ls : List Line} (h : LOk ls) : ROk ls.length (mins ls) := ⟨by simp [Go.Proofs.Yticgjepndfjafaa.mins], fun x hx => by
  obtain ⟨l, hl, rfl⟩ := List.mem_map.1 hx
  have := h.ok l hl; omega⟩

theorem step_rok {ls : List Line} (h : LOk ls) {m : Int} {out : List Int} (ho : ROk ls.length out) {s : Span} (hs : 0 ≤ s.at ∧ s.at ≤ (ls.length : Int) - 1 ∧ 1 ≤ s.many ∧ s.many ≤ ls.length - s.at ∧ 0 ≤ s.need ∧ s.need ≤ 4096) :
    ROk ls.length (reqStep ls m out s) := by
  unfold reqStep
  split
  · rename_i hc
    have hw := h.slc (a := s.at.toNat) (m := s.many.toNat) (by omega) (by omega)
    have hsp := spread_bd hw (n := missing out s) (by omega)
    have hsl := ho.slc h.hi (a := s.at.toNat) (m := s.many.toNat)
    have hle : ∀ x ∈ slc out s.at.toNat s.many.toNat, 0 ≤ x := fun x hx => (ho.bd x (slc_mem hx)).1
    have hpl : (spread (missing out s) (slc (weights ls) s.at.toNat s.many.toNat)).length = s.many.toNat := by rw [spread_len]; exact slc_len (by simp [weights]; omega)
    have hmi : missing out s = s.need - sumI (slc out s.at.toNat s.many.toNat) := rfl
    generalize spread (missing out s) (slc (weights ls) s.at.toNat s.many.toNat) = ps at *
    refine ⟨by rw [putN_len]; exact ho.len, fun x hx => ?_⟩
    obtain ⟨i, hi, rfl⟩ := List.mem_iff_getElem.1 hx
    rw [putN_len] at hi
    have hb := ho.bd _ (List.getElem_mem hi)
    simp only [putN, List.getElem_mapIdx]
    split
    · have hj : i - s.at.toNat < ps.length := by omega
      rw [List.getElem?_eq_getElem hj]
      have hp := hsp _ (List.getElem_mem hj)
      have hjl : i - s.at.toNat < (slc out s.at.toNat s.many.toNat).length := by rw [slc_len (by rw [ho.len]; omega)]; omega
      have := sumI_mem hle (List.getElem_mem hjl)
      rw [slc_at hjl] at this
      simp only [show s.at.toNat + (i - s.at.toNat) = i by omega] at this
      simp only [Option.getD_some]
      omega
    · exact hb
  · exact ho
theorem round_rok {ls : List Line} (h : LOk ls) {ss : List Span} (hs : SOk ss ls.length) {m : Int} {out : List Int} (ho : ROk ls.length out) : ∀ k, k ≤ ss.length → ROk ls.length (reqRound ls ss m out k) := by
  intro k
  induction k with
  | zero => intro _; exact ho
  | succ k ih =>
    intro hk
    rw [reqRound_succ (by omega)]
    exact step_rok h (ih (by omega)) (hs.ok _ (List.getElem_mem _))
theorem reqs_rok {ls : List Line} (h : LOk ls) {ss : List Span} (hs : SOk ss ls.length) : ∀ k, ROk ls.length (reqs ls ss k) := by
  intro k
  induction k with
  | zero => exact h.mins
  | succ k ih => exact round_rok h hs ih _ (Nat.le_refl _)
theorem requests_rok {ls : List Line} (h : LOk ls) {ss : List Span} (hs : SOk ss ls.length) : ROk ls.length (requests ls ss) := reqs_rok h hs _
end Go.Proofs.Yticgjepndfjafaa

namespace Go.Proofs.Yticgjepndfjafaa
open Go.Fw

theorem sumI_le : ∀ {xs ys : List Int}, (h : xs.length = ys.length) → (∀ i (h1 : i < xs.length), xs[i] ≤ ys[i]) → sumI xs ≤ sumI ys
  | [], [], _, _ => Int.le_refl _
  | x :: xs, y :: ys, h, hle => by
    have := sumI_le (xs := xs) (ys := ys) (by simpa using h) (fun i hi => hle (i + 1) (by simpa using hi))
    have h0 := hle 0 (by simp)
    simp only [List.getElem_cons_zero] at h0
    simp only [sumI]; omega

end Go.Proofs.Yticgjepndfjafaa

namespace Go.Proofs.Yticgjepndfjafaa
open Go.Fw

/-- No less anywhere. -/
def Up (xs ys : List Int) : Prop := xs.length = ys.length ∧ ∀ i (h1 : i < xs.length) (h2 : i < ys.length), xs[i] ≤ ys[i]
theorem Up.refl (xs : List Int) : Up xs xs := ⟨rfl, fun _ _ _ => Int.le_refl _⟩
theorem Up.trans {xs ys zs : List Int} (h1 : Up xs ys) (h2 : Up ys zs) : Up xs zs := ⟨h1.1.trans h2.1, fun i a b => Int.le_trans (h1.2 i a (by have := h1.1; omega)) (h2.2 i (by have := h1.1; omega) b)⟩
theorem Up.slc {xs ys : List Int} (h : Up xs ys) {a m : Nat} : sumI (slc xs a m) ≤ sumI (Go.Proofs.Yticgjepndfjafaa.slc ys a m) := by
  refine sumI_le (by simp [Go.Proofs.Yticgjepndfjafaa.slc, h.1]) fun i h1 => ?_
  rw [slc_at h1, slc_at]
  exact h.2 _ _ _

variable {ls : List Line} {ss : List Span}
end Go.Proofs.Yticgjepndfjafaa

namespace Go.Proofs.Yticgjepndfjafaa
open Go.Fw

def colSpan (c : Cell) : Span := ⟨c.col, c.manyCols, c.w + 2 * c.padX⟩
def rowSpan (c : Cell) : Span := ⟨c.row, c.manyRows, c.h + 2 * c.padY⟩
def colSpans (cs : List Cell) : List Span := cs.map colSpan
def rowSpans (cs : List Cell) : List Span := cs.map rowSpan

/-- A grid that is valid, taken apart. -/
structure GOk (g : Grid) : Prop where
  cols : LOk g.cols
  rows : LOk g.rows
  hi : g.cells.length ≤ 10
  ok : ∀ c ∈ g.cells, (0 ≤ c.w ∧ c.w ≤ 4076 ∧ 0 ≤ c.h ∧ c.h ≤ 4076) ∧ (0 ≤ c.col ∧ c.col ≤ (g.cols.length : Int) - 1 ∧ 1 ≤ c.manyCols ∧ c.manyCols ≤ g.cols.length - c.col ∧ 0 ≤ c.row ∧ c.row ≤ (g.rows.length : Int) - 1 ∧ 1 ≤ c.manyRows ∧ c.manyRows ≤ g.rows.length - c.row ∧ 0 ≤ c.stick ∧ c.stick ≤ 15 ∧ 0 ≤ c.padX ∧ c.padX ≤ 10 ∧ 0 ≤ c.padY ∧ c.padY ≤ 10)
theorem GOk.cspans {g : Grid} (h : GOk g) : SOk (colSpans g.cells) g.cols.length := by
  refine ⟨by simp [colSpans]; exact h.hi, fun s hs => ?_⟩
  obtain ⟨c, hc, rfl⟩ := List.mem_map.1 hs
  have := h.ok c hc
  simp only [colSpan]; omega
theorem GOk.rspans {g : Grid} (h : GOk g) : SOk (rowSpans g.cells) g.rows.length := by
  refine ⟨by simp [rowSpans]; exact h.hi, fun s hs => ?_⟩
  obtain ⟨c, hc, rfl⟩ := List.mem_map.1 hs
  have := h.ok c hc
  simp only [rowSpan]; omega

def gridReq (g : Grid) : Int × Int := (sumI (requests g.cols (colSpans g.cells)), sumI (requests g.rows (rowSpans g.cells)))
end Go.Proofs.Yticgjepndfjafaa

namespace Go.Proofs.Yticgjepndfjafaa
open Go.Fw
attribute [local irreducible] Go.Fw.aops Go.Fw.arun

/-- Needs of items together. -/
def preqs : List Pack → Int × Int
  | [] => (0, 0)
  | p :: ps => if down p then (max (needW p) (preqs ps).1, needH p + (preqs ps).2) else (needW p + (preqs ps).1, max (needH p) (preqs ps).2)

theorem needWH {p : Pack} (h : packB p = true) : 0 ≤ needW p ∧ needW p ≤ 4096 ∧ 0 ≤ needH p ∧ needH p ≤ 4096 := by
  have := packB_iff.1 h
  unfold needW needH
  omega

theorem preqs_bd : ∀ {xs : List Pack}, xs.all packB = true → 0 ≤ (preqs xs).1 ∧ (preqs xs).1 ≤ 4096 * xs.length ∧ 0 ≤ (preqs xs).2 ∧ (preqs xs).2 ≤ 4096 * xs.length
  | [], _ => by simp [preqs]
  | p :: ps, h => by
    simp only [List.all_cons, Bool.and_eq_true] at h
    have h1 := needWH h.1
    have h2 := preqs_bd h.2
    simp only [preqs, List.length_cons]
    split <;> dsimp only <;> omega

/-- Needs together are no more than all needs. -/
theorem preqs_sum : ∀ {xs : List Pack}, xs.all packB = true → 0 ≤ sumI (xs.map needW) ∧ 0 ≤ sumI (xs.map needH) ∧ (preqs xs).1 ≤ sumI (xs.map needW) ∧ (preqs xs).2 ≤ sumI (xs.map needH)
  | [], _ => by simp [preqs, sumI]
  | p :: ps, h => by
    simp only [List.all_cons, Bool.and_eq_true] at h
    have h1 := needWH h.1
    have h2 := preqs_sum h.2
    simp only [preqs, List.map_cons, sumI]
    split <;> dsimp only <;> omega

theorem preqs_drop {xs : List Pack} {k : Nat} (h : k < xs.length) : preqs (xs.drop k) = if down xs[k] then (max (needW xs[k]) (preqs (xs.drop (k + 1))).1, needH xs[k] + (preqs (xs.drop (k + 1))).2) else (needW xs[k] + (preqs (xs.drop (k + 1))).1, max (needH xs[k]) (preqs (xs.drop (k + 1))).2) := by
  rw [List.drop_eq_getElem_cons h]; rfl

theorem c_preqS (xs : List Pack) (hl : xs.length ≤ 10) (hv : xs.all packB = true) : ACon Try.prog 96 [.d (.lst (xs.map encPack))] [] (Is (.tup [.d (.int .i64 (preqs xs).1), .d (.int .i64 (preqs xs).2)])) := by
  refine ACon.introW tok (nt := 44) Try.func96 rfl rfl rfl (by kernel_rfl) rfl ?_
  repeat' (first | ((with_reducible apply xsim); (first | ((with_reducible apply xlenM); exact rfl; exact rfl) | ((with_reducible apply xo); exact rfl) | with_reducible apply xend)) | ((with_reducible apply xaw); (first | ((with_reducible apply xstepS); refine AW.step tok rfl ?_) | with_reducible (first | refine AW.seq ?_ | refine AW.block ?_))) | with_reducible (first | exact trivial | refine And.intro ?_ ?_ | exact rfl) | (refine inR_i64.mpr ?_; first | omega | (simp only [List.length_map]; omega)))
  refine AW.loop (S := fun k : Nat => ⟨[(0, .d (.lst (xs.map encPack))), (4, .d (.int .i64 (preqs (xs.drop k)).1)), (5, .d (.int .i64 (preqs (xs.drop k)).2)), (6, .d (.int .i64 ((k : Int) - 1)))], [], 44, 0⟩)
    (Pre := fun k => k ≤ xs.length) (μ := fun k => k) xs.length (Nat.le_refl _) ?_ ?_
  · (refine xwk (π := []) (by decide) rfl ?_ ?_; (first | exact trivial); repeat' (first | exact renE_n | ((with_reducible apply renE_c); exact rfl; focus (first | (simp -implicitDefEqProofs only [go_sem, Int.reduceEq, Int.reduceLT, Int.reduceLE, Nat.reduceAdd, Nat.reduceSub, Nat.reduceMul, Nat.reduceEqDiff, Nat.reduceLeDiff, Nat.reducePow, ↓reduceIte, reduceCtorEq, List.drop_length, preqs]; done)))))
  · intro k hk
    have b1 := preqs_bd (all_drop (k := k) hv)
    rw [List.length_drop] at b1
    by_cases h0 : k = 0
    · subst h0
      repeat' (first | ((with_reducible apply xsim); (first | ((with_reducible apply xo); exact rfl) | with_reducible apply xend)) | ((with_reducible apply xaw); (first | ((with_reducible apply xstepS); refine AW.step tok rfl ?_) | with_reducible (first | refine AW.seq ?_ | refine AW.ret ?_ | refine AW.exit ?_) | ((with_reducible apply xcond); exact rfl))) | with_reducible (first | refine xthen ?_ | refine xthen_e ?_ | refine xblock_e ?_ | refine xround_e ?_) | (with_reducible intro hc; (try simp only [decide_eq_true_eq, decide_eq_false_iff_not, Bool.not_true, Bool.not_false, Bool.not_eq_true', Bool.not_eq_false', ne_eq, not_true, reduceCtorEq] at hc); (try (exfalso; omega))) | with_reducible (first | exact trivial | refine And.intro ?_ ?_ | exact rfl))
      (refine xfinIs (by first | exact .inl rfl | exact .inr rfl) rfl (by repeat' (first | exact trivial | exact rfl | refine And.intro ?_ ?_)) rfl ?_ rfl; first | (simp -implicitDefEqProofs only [go_sem, Int.reduceEq, Int.reduceLT, Int.reduceLE, Nat.reduceAdd, Nat.reduceSub, Nat.reduceMul, Nat.reduceEqDiff, Nat.reduceLeDiff, Nat.reducePow, ↓reduceIte, reduceCtorEq, List.drop_zero] <;> (first | rfl | omega | exact decide_eq_decide.2 (by omega) | exact decide_eq_false (by omega) | exact decide_eq_true (by omega) | (symm; first | exact decide_eq_false (by omega) | exact decide_eq_true (by omega)) | (rw [Bool.eq_iff_iff]; simp only [Bool.not_eq_true', Bool.not_eq_false', Bool.and_eq_true, Bool.or_eq_true, decide_eq_true_eq, decide_eq_false_iff_not, reduceCtorEq, true_iff, iff_true, false_iff, iff_false]; omega))))
    · obtain ⟨j, rfl⟩ : ∃ j, k = j + 1 := ⟨k - 1, by omega⟩
      have hj : j < xs.length := by omega
      have hrow := at_map (f := encPack) hj
      have hv1 := all_at hv hj
      have hn := needWH hv1
      have hd := preqs_drop hj
      have hdn : decide (xs[j].side = 0 ∨ xs[j].side = 1) = down xs[j] := rfl
      have hrow2 : (List.map encPack xs)[(((j + 1 : Nat) : Int) - 1).toNat]? = some (encPack xs[j]) := by rw [show (((j + 1 : Nat) : Int) - 1).toNat = j by omega]; exact hrow
      cases hdd : down xs[j]
      all_goals
        rw [hdd] at hd
        simp only [Bool.false_eq_true, if_false, if_true] at hd
        repeat' (first | ((with_reducible apply xsim); (first | ((with_reducible apply xo); exact rfl) | with_reducible apply xend | ((with_reducible apply xidxL); exact rfl; exact rfl; exact rfl; (first | exact hrow2); omega; first | exact rfl | simp only [hsz]) | ((with_reducible apply xcallIs); exact rfl; exact rfl; (first | exact c_outer xs[j] hv1 | exact c_upright xs[j].side); exact rfl))) | ((with_reducible apply xaw); (first | ((with_reducible apply xstepS); refine AW.step tok rfl ?_) | ((with_reducible apply xstep); refine AW.region tok rfl ?_) | with_reducible (first | refine AW.seq ?_ | refine AW.block ?_ | refine AW.skip ?_) | ((with_reducible apply xcond); exact rfl))) | with_reducible (first | refine xthen ?_ | refine xblock ?_) | (with_reducible intro hc; (try simp only [decide_eq_true_eq, decide_eq_false_iff_not, Bool.not_true, Bool.not_false, Bool.not_eq_true', Bool.not_eq_false', ne_eq, not_true, reduceCtorEq, hdn, hdd] at hc); (try (exfalso; omega))) | with_reducible (first | exact trivial | refine And.intro ?_ ?_ | exact rfl) | exact Eq.refl true | (refine inR_i64.mpr ?_; first | omega | (simp only [List.length_map, hdn, hdd]; omega)))
        refine round_end j (by omega) (by omega) (by (refine xwk (π := []) (by decide) rfl ?_ ?_; (first | exact trivial); repeat' (first | exact renE_n | ((with_reducible apply renE_c); exact rfl; focus (first | (simp -implicitDefEqProofs only [go_sem, Int.reduceEq, Int.reduceLT, Int.reduceLE, Nat.reduceAdd, Nat.reduceSub, Nat.reduceMul, Nat.reduceEqDiff, Nat.reduceLeDiff, Nat.reducePow, ↓reduceIte, reduceCtorEq, hd]; done) | (simp -implicitDefEqProofs only [go_sem, Int.reduceEq, Int.reduceLT, Int.reduceLE, Nat.reduceAdd, Nat.reduceSub, Nat.reduceMul, Nat.reduceEqDiff, Nat.reduceLeDiff, Nat.reducePow, ↓reduceIte, reduceCtorEq, hd]; omega))))))

theorem c_preqI : ∀ (xs : List Pack) (hl : xs.length ≤ 10) (hv : xs.all packB = true), ACon Try.prog 92 [.d (.lst (xs.map encPack))] [] (Is (.tup [.d (.int .i64 (preqs xs).1), .d (.int .i64 (preqs xs).2)]))
  | [], hl, hv => by
    refine ACon.introW tok (nt := 40) Try.func92 rfl rfl rfl (by kernel_rfl) rfl ?_
    repeat' (first | ((with_reducible apply xsim); (first | ((with_reducible apply xlenM); exact rfl; exact rfl) | ((with_reducible apply xo); exact rfl) | with_reducible apply xend)) | ((with_reducible apply xaw); (first | ((with_reducible apply xstepS); refine AW.step tok rfl ?_) | with_reducible (first | refine AW.seq ?_ | refine AW.ret ?_) | ((with_reducible apply xcond); exact rfl))) | with_reducible refine xthen_r ?_ | (with_reducible intro hc; (try simp only [decide_eq_true_eq, decide_eq_false_iff_not, Bool.not_true, Bool.not_false, Bool.not_eq_true', Bool.not_eq_false', ne_eq, not_true, reduceCtorEq, List.length_nil, Int.natCast_zero] at hc); (try (exfalso; omega))) | with_reducible (first | exact trivial | refine And.intro ?_ ?_ | exact rfl))
    (refine xfinIs (by first | exact .inl rfl | exact .inr rfl) rfl (by repeat' (first | exact trivial | exact rfl | refine And.intro ?_ ?_)) rfl ?_ rfl; first | (simp -implicitDefEqProofs only [go_sem, Int.reduceEq, Int.reduceLT, Int.reduceLE, Nat.reduceAdd, Nat.reduceSub, Nat.reduceMul, Nat.reduceEqDiff, Nat.reduceLeDiff, Nat.reducePow, ↓reduceIte, reduceCtorEq, preqs] <;> (first | rfl | omega | exact decide_eq_decide.2 (by omega) | exact decide_eq_false (by omega) | exact decide_eq_true (by omega) | (symm; first | exact decide_eq_false (by omega) | exact decide_eq_true (by omega)) | (rw [Bool.eq_iff_iff]; simp only [Bool.not_eq_true', Bool.not_eq_false', Bool.and_eq_true, Bool.or_eq_true, decide_eq_true_eq, decide_eq_false_iff_not, reduceCtorEq, true_iff, iff_true, false_iff, iff_false]; omega))))
  | p :: ps, hl, hv => by
    have hv2 := hv
    simp only [List.all_cons, Bool.and_eq_true] at hv2
    simp only [List.length_cons] at hl
    have ih := c_preqI ps (by omega) hv2.2
    have b1 := preqs_bd hv2.2
    have hn := needWH hv2.1
    cases hd : down p
    all_goals
      refine ACon.introW tok (nt := 40) Try.func92 rfl rfl rfl (by kernel_rfl) rfl ?_
      repeat' (first | ((with_reducible apply xsim); (first | ((with_reducible apply xlenM); exact rfl; exact rfl) | ((with_reducible apply xo); exact rfl) | with_reducible apply xend | ((with_reducible apply xidxL); exact rfl; exact rfl; exact rfl; exact rfl; omega; first | exact rfl | simp only [hsz]) | ((with_reducible apply xslcLo); exact rfl; exact rfl; exact rfl; exact (fun r hr => by obtain ⟨a, _, rfl⟩ := List.mem_map.1 hr; rfl); first | omega | (simp only [List.length_cons, List.length_nil]; omega)) | ((with_reducible apply xcallIs); exact rfl; exact rfl; (first | exact ih | exact c_needs p hv2.1 | exact c_down p); exact rfl))) | ((with_reducible apply xaw); (first | ((with_reducible apply xstepS); refine AW.step tok rfl ?_) | with_reducible (first | refine AW.seq ?_ | refine AW.skip ?_ | refine AW.ret ?_) | ((with_reducible apply xcond); exact rfl))) | with_reducible (first | refine xthen ?_ | refine xthen_r ?_) | (with_reducible intro hc; (try simp only [decide_eq_true_eq, decide_eq_false_iff_not, Bool.not_true, Bool.not_false, Bool.not_eq_true', Bool.not_eq_false', ne_eq, not_true, reduceCtorEq, List.length_cons, hd] at hc); (try (exfalso; omega))) | with_reducible (first | exact trivial | refine And.intro ?_ ?_ | exact rfl) | exact Eq.refl true | (refine inR_i64.mpr ?_; first | omega | (simp only [List.length_map, List.length_cons, hd]; omega)))
      all_goals (refine xfinIs (by first | exact .inl rfl | exact .inr rfl) rfl (by repeat' (first | exact trivial | exact rfl | refine And.intro ?_ ?_)) rfl ?_ rfl; first | (simp -implicitDefEqProofs only [go_sem, Int.reduceEq, Int.reduceLT, Int.reduceLE, Nat.reduceAdd, Nat.reduceSub, Nat.reduceMul, Nat.reduceEqDiff, Nat.reduceLeDiff, Nat.reducePow, ↓reduceIte, reduceCtorEq, preqs, hd, Bool.false_eq_true] <;> (first | rfl | omega | exact decide_eq_decide.2 (by omega) | exact decide_eq_false (by omega) | exact decide_eq_true (by omega) | (symm; first | exact decide_eq_false (by omega) | exact decide_eq_true (by omega)) | (rw [Bool.eq_iff_iff]; simp only [Bool.not_eq_true', Bool.not_eq_false', Bool.and_eq_true, Bool.or_eq_true, decide_eq_true_eq, decide_eq_false_iff_not, reduceCtorEq, true_iff, iff_true, false_iff, iff_false]; omega))))

/-! Requests of lines are no more than all that is asked for. -/
theorem sumI_putN {ps out : List Int} {a m : Nat} (h : a + m ≤ out.length) (hp : ps.length = m) : sumI (putN ps a m out) = sumI out + sumI ps := by
  have key : ∀ (xs : List Int), sumI xs = sumI (xs.take a) + sumI (slc xs a m) + sumI (xs.drop (a + m)) := by
    intro xs
    rw [slc, ← sumI_app, ← sumI_app]
    congr 1
    rw [← List.drop_drop, List.append_assoc, List.take_append_drop, List.take_append_drop]
  have e1 : (putN ps a m out).take a = out.take a := by
    refine List.ext_getElem (by simp [putN_len]) fun i h1 h2 => ?_
    simp only [List.getElem_take, putN, List.getElem_mapIdx]
    rw [if_neg (by simp at h2; omega)]
  have e2 : (putN ps a m out).drop (a + m) = out.drop (a + m) := by
    refine List.ext_getElem (by simp [putN_len]) fun i h1 h2 => ?_
    simp only [List.getElem_drop, putN, List.getElem_mapIdx]
    rw [if_neg (by omega)]
  rw [key (putN ps a m out), key out, e1, e2, putN_slc h hp, sumI_zip (by rw [slc_len h, hp])]
  omega

theorem step_most {ls : List Line} (h : LOk ls) {m : Int} {out : List Int} (ho : ROk ls.length out) {s : Span} (hs : 0 ≤ s.at ∧ s.at ≤ (ls.length : Int) - 1 ∧ 1 ≤ s.many ∧ s.many ≤ ls.length - s.at ∧ 0 ≤ s.need ∧ s.need ≤ 4096) :
    sumI (reqStep ls m out s) ≤ sumI out + if s.many = m then s.need else 0 := by
  unfold reqStep
  split
  · rename_i hc
    have hw := h.slc (a := s.at.toNat) (m := s.many.toNat) (by omega) (by omega)
    have hpl : (spread (missing out s) (slc (weights ls) s.at.toNat s.many.toNat)).length = s.many.toNat := by rw [spread_len]; exact slc_len (by simp [weights]; omega)
    have hle : 0 ≤ sumI (slc out s.at.toNat s.many.toNat) := sumI_nonneg fun x hx => (ho.bd x (slc_mem hx)).1
    have hmi : missing out s = s.need - sumI (slc out s.at.toNat s.many.toNat) := rfl
    rw [sumI_putN (by rw [ho.len]; omega) hpl, spread_sum hw (by omega), if_pos hc.1]
    omega
  · split <;> omega
theorem round_most {ls : List Line} (h : LOk ls) {ss : List Span} (hs : SOk ss ls.length) {m : Int} {out : List Int} (ho : ROk ls.length out) : ∀ k, k ≤ ss.length → sumI (reqRound ls ss m out k) ≤ sumI out + sumI ((ss.map fun s : Span => if s.many = m then s.need else 0).take k) := by
  intro k
  induction k with
  | zero => intro _; simp [reqRound, sumI]
  | succ k ih =>
    intro hk
    rw [reqRound_succ (by omega), sumI_take (by simp; omega)]
    have := step_most h (m := m) (round_rok h hs (m := m) ho k (by omega)) (hs.ok _ (List.getElem_mem (show k < ss.length by omega)))
    have := ih (by omega)
    simp only [List.getElem_map]
    omega
theorem sumI_maps {α : Type} {f g : α → Int} {h : α → Int} : ∀ {xs : List α}, (∀ x ∈ xs, f x + g x = h x) → sumI (xs.map f) + sumI (xs.map g) = sumI (xs.map h)
  | [], _ => rfl
  | x :: xs, he => by
    have h1 := sumI_maps (xs := xs) fun y hy => he y (by simp [hy])
    have h2 := he x (by simp)
    simp only [List.map_cons, sumI]; omega
theorem sumI_mono {α : Type} {f g : α → Int} : ∀ {xs : List α}, (∀ x ∈ xs, f x ≤ g x) → sumI (xs.map f) ≤ sumI (xs.map g)
  | [], _ => Int.le_refl _
  | x :: xs, he => by
    have h1 := sumI_mono (xs := xs) fun y hy => he y (by simp [hy])
    have h2 := he x (by simp)
    simp only [List.map_cons, sumI]; omega
theorem reqs_most {ls : List Line} (h : LOk ls) {ss : List Span} (hs : SOk ss ls.length) : ∀ k : Nat, sumI (reqs ls ss k) ≤ sumI (mins ls) + sumI (ss.map fun s : Span => if s.many ≤ k then s.need else 0) := by
  intro k
  induction k with
  | zero =>
    have : 0 ≤ sumI (ss.map fun s : Span => if s.many ≤ ((0 : Nat) : Int) then s.need else 0) := sumI_nonneg fun x hx => by
      obtain ⟨s, hs', rfl⟩ := List.mem_map.1 hx
      have := hs.ok s hs'
      split <;> omega
    simp only [reqs]; omega
  | succ k ih =>
    have h1 := round_most h hs (m := ((k + 1 : Nat) : Int)) (reqs_rok h hs k) ss.length (Nat.le_refl _)
    rw [List.take_of_length_le (by simp)] at h1
    have h2 := sumI_maps (xs := ss) (f := fun s : Span => if s.many ≤ (k : Int) then s.need else 0) (g := fun s : Span => if s.many = ((k + 1 : Nat) : Int) then s.need else 0) (h := fun s : Span => if s.many ≤ ((k + 1 : Nat) : Int) then s.need else 0) (by
      intro s _
      by_cases c1 : s.many ≤ (k : Int)
      · rw [if_pos c1, if_neg (by omega), if_pos (by omega)]; omega
      · by_cases c2 : s.many = ((k + 1 : Nat) : Int)
        · rw [if_neg c1, if_pos c2, if_pos (by omega)]; omega
        · rw [if_neg c1, if_neg c2, if_neg (by omega)]; omega)
    simp only [reqs]
    have e : (((k : Nat) : Int) + 1) = ((k + 1 : Nat) : Int) := by omega
    rw [e]
    omega
theorem requests_most {ls : List Line} (h : LOk ls) {ss : List Span} (hs : SOk ss ls.length) : sumI (requests ls ss) ≤ 150 + sumI (ss.map Span.need) := by
  have h1 := reqs_most h hs ls.length
  have h2 : sumI (ss.map fun s : Span => if s.many ≤ (ls.length : Int) then s.need else 0) ≤ sumI (ss.map Span.need) := sumI_mono fun s hs' => by
    have := hs.ok s hs'
    split <;> omega
  have h3 : sumI (mins ls) ≤ 30 * 5 := by
    have key : ∀ xs : List Line, (∀ l ∈ xs, l.min ≤ 30) → sumI (mins xs) ≤ 30 * xs.length := by
      intro xs
      induction xs with
      | nil => intro _; simp [mins, sumI]
      | cons x xs ih =>
        intro hx
        have a := ih fun l hl => hx l (by simp [hl])
        have b := hx x (by simp)
        simp only [mins, List.map_cons, sumI, List.length_cons] at a ⊢
        omega
    have := key ls fun l hl => by have := h.ok l hl; omega
    have := h.hi
    omega
  unfold requests
  omega
theorem requests_least {ls : List Line} (h : LOk ls) {ss : List Span} (hs : SOk ss ls.length) : 0 ≤ sumI (requests ls ss) := sumI_nonneg fun x hx => ((requests_rok h hs).bd x hx).1
end Go.Proofs.Yticgjepndfjafaa

