/- Contracts of the functions and the plain law behind them, as far as FnExactAskFor needs them; joined out of the texts Q1 R8 R9 G2 K1 K2 T1 T6 T7 G3 X1 X2 R10 R2 G6 G7 G8 G10 G12 G16 G18 K7 T9 G25 T10 T11 R11 T8 T30 T14 X3. -/
import Derived.Deep.Slices
import Derived.Deep.Fields
import Derived.ChangeSame
import Derived.Below
import Derived.ProofKit
import Derived.Test.YtagbfbamhfjbaaaTt
set_option linter.unusedSimpArgs false
set_option linter.unusedVariables false
namespace Go.Proofs.Ytagbfbamhfjbaaa
open Go.Fw
attribute [local irreducible] Go.Fw.aops Go.Fw.arun
@[go_sem] def lv16 : List (List Nat) := [[0, 1, 2], [6]]
@[go_sem] def lv23 : List (List Nat) := [[0, 1, 2], [6]]
@[go_sem] def lv54 : List (List Nat) := [[0, 1], [0, 1, 7, 8], [0, 1, 7, 8, 9], [0, 1, 5, 7, 8], [0, 1, 5, 7, 8, 16], [4], [0, 1, 7, 8], [4]]
@[go_sem] def lv47 : List (List Nat) := [[0, 1], [4]]

theorem c_within (n lo hi : Int) : ACon Try.prog 16 [.d (.int .i64 n), .d (.int .i64 lo), .d (.int .i64 hi)] [] (Is (.d (.bool (decide (lo ≤ n ∧ n ≤ hi))))) := by
  refine ACon.introW tok (nt := 15) Try.func16 rfl rfl rfl (by kernel_rfl) rfl ?_
  repeat' (first | ((with_reducible apply xsim); (first | ((with_reducible apply xo); exact rfl) | with_reducible apply xend | ((with_reducible apply xguardTS); exact rfl; exact rfl) | ((with_reducible apply xguardS); exact rfl; exact rfl) | simp -implicitDefEqProofs only [go_sem])) | ((with_reducible apply xaw); (first | ((with_reducible apply xstepS); refine AW.step tok rfl ?_) | ((with_reducible apply xstep); refine AW.region tok rfl ?_) | with_reducible (first | refine AW.seq ?_ | refine AW.block ?_ | refine AW.skip ?_ | refine AW.ret ?_ | refine AW.exit ?_) | ((with_reducible apply xcond); exact rfl))) | with_reducible (first | refine xthen ?_ | refine xthen_r ?_ | refine xthen_e ?_ | refine xblock ?_ | refine xblock_r ?_ | refine xblock_e ?_ | refine xblock_n rfl ?_ | refine xround_r ?_ | refine xround_e ?_) | (with_reducible intro hc; (try simp only [hcL, reduceCtorEq] at hc); (try (exfalso; omega))) | with_reducible (first | exact trivial | refine And.intro ?_ ?_ | exact rfl | exact Nat.le_refl _) | exact Eq.refl true | exact (rfl : (_ : List Nat) = _) | exact Nat.le_of_ble_eq_true rfl | (refine inR_i64.mpr ?_; first | omega | (simp only [List.length_map]; omega)) | omega)
  all_goals (refine xfinIs (by first | exact .inl rfl | exact .inr rfl) rfl (by repeat' (first | exact trivial | exact rfl | refine And.intro ?_ ?_)) rfl ?_ rfl; first | with_reducible exact rfl | (simp -implicitDefEqProofs only [go_sem] <;> (first | rfl | omega | exact decide_eq_decide.2 (by omega) | exact decide_eq_false (by omega) | exact decide_eq_true (by omega) | (symm; first | exact decide_eq_false (by omega) | exact decide_eq_true (by omega)) | (rw [Bool.eq_iff_iff]; simp only [boL, reduceCtorEq]; omega))))

theorem c_inRange (n lo hi : Int) : ACon Try.prog 23 [.d (.int .i64 n), .d (.int .i64 lo), .d (.int .i64 hi)] [] (Is (.d (.bool (decide (lo ≤ n ∧ n ≤ hi))))) := by
  refine ACon.introW tok (nt := 15) Try.func23 rfl rfl rfl (by kernel_rfl) rfl ?_
  repeat' (first | ((with_reducible apply xsim); (first | ((with_reducible apply xo); exact rfl) | with_reducible apply xend | ((with_reducible apply xguardTS); exact rfl; exact rfl) | ((with_reducible apply xguardS); exact rfl; exact rfl) | simp -implicitDefEqProofs only [go_sem])) | ((with_reducible apply xaw); (first | ((with_reducible apply xstepS); refine AW.step tok rfl ?_) | ((with_reducible apply xstep); refine AW.region tok rfl ?_) | with_reducible (first | refine AW.seq ?_ | refine AW.block ?_ | refine AW.skip ?_ | refine AW.ret ?_ | refine AW.exit ?_) | ((with_reducible apply xcond); exact rfl))) | with_reducible (first | refine xthen ?_ | refine xthen_r ?_ | refine xthen_e ?_ | refine xblock ?_ | refine xblock_r ?_ | refine xblock_e ?_ | refine xblock_n rfl ?_ | refine xround_r ?_ | refine xround_e ?_) | (with_reducible intro hc; (try simp only [hcL, reduceCtorEq] at hc); (try (exfalso; omega))) | with_reducible (first | exact trivial | refine And.intro ?_ ?_ | exact rfl | exact Nat.le_refl _) | exact Eq.refl true | exact (rfl : (_ : List Nat) = _) | exact Nat.le_of_ble_eq_true rfl | (refine inR_i64.mpr ?_; first | omega | (simp only [List.length_map]; omega)) | omega)
  all_goals (refine xfinIs (by first | exact .inl rfl | exact .inr rfl) rfl (by repeat' (first | exact trivial | exact rfl | refine And.intro ?_ ?_)) rfl ?_ rfl; first | with_reducible exact rfl | (simp -implicitDefEqProofs only [go_sem] <;> (first | rfl | omega | exact decide_eq_decide.2 (by omega) | exact decide_eq_false (by omega) | exact decide_eq_true (by omega) | (symm; first | exact decide_eq_false (by omega) | exact decide_eq_true (by omega)) | (rw [Bool.eq_iff_iff]; simp only [boL, reduceCtorEq]; omega))))

def idxOf {α : Type} (p : α → Bool) (xs : List α) : Int := match xs.findIdx? p with | some i => i | none => -1

theorem idxOf_at {α : Type} {p : α → Bool} {xs : List α} {k : Nat} (hlt : k < xs.length) (hp : ∀ j (h : j < xs.length), j < k → p xs[j] = false) (h : p xs[k] = true) : idxOf p xs = k := by
  have : xs.findIdx? p = some k := by
    rw [List.findIdx?_eq_some_iff_getElem]
    exact ⟨hlt, h, fun j hj => by simp [hp j (by omega) hj]⟩
  simp [idxOf, this]
theorem idxOf_none {α : Type} {p : α → Bool} {xs : List α} {k : Nat} (hlt : ¬ k < xs.length) (hp : ∀ j (h : j < xs.length), j < k → p xs[j] = false) : idxOf p xs = -1 := by
  have : xs.findIdx? p = none := by
    rw [List.findIdx?_eq_none_iff]
    intro x hx
    obtain ⟨j, hj, rfl⟩ := List.mem_iff_getElem.1 hx
    exact hp j hj (by omega)
  simp [idxOf, this]
theorem idxOf_any {α : Type} {p : α → Bool} {xs : List α} : decide (idxOf p xs ≥ 0) = xs.any p := by
  unfold idxOf
  cases h : xs.findIdx? p with
  | none =>
    rw [List.findIdx?_eq_none_iff] at h
    rw [show xs.any p = false by simpa [List.any_eq_false] using h]
    decide
  | some i =>
    have : xs.any p = true := by
      rw [List.findIdx?_eq_some_iff_getElem] at h
      obtain ⟨h1, h2, _⟩ := h
      exact List.any_eq_true.2 ⟨_, List.getElem_mem h1, h2⟩
    rw [this]; simp

theorem c_IndexFuncLine {α : Type} (enc : α → List D) (xs : List α) (g : Nat) (cap : List D) (p : α → Bool) (hsz : ∀ x, (enc x).length = 2) (hlen : xs.length < 2^63)
    (hg : ∀ x ∈ xs, ACon Try.prog g (.agg ((enc x).map .d) :: cap.map .d) [] (Is (.d (.bool (p x))))) :
    ACon Try.prog 54 [.d (.lst (xs.map enc)), .d (.fn g cap)] [] (Is (.d (.int .i64 (idxOf p xs)))) := by
  refine ACon.introW tok (nt := 19) Try.func54 rfl rfl rfl (by kernel_rfl) rfl ?_
  repeat' (first | ((first | refine AW.stepL lv54 tok rfl ?_ | refine AW.region tok rfl ?_ | refine AW.condE ?_ | refine AW.skip ?_ | refine AW.ret ?_ | refine AW.exit ?_ | refine aops_call ?_) <;> simp -implicitDefEqProofs only [go_sem]) | refine AW.seq ?_ | refine AW.block ?_ | refine And.intro ?_ ?_ | exact fun h => (h trivial).elim | exact fun h => h.elim | refine fun _ => ?_ | exact rfl | exact Nat.le_of_ble_eq_true rfl | omega | exact ⟨_, rfl, fun r hr => (by simp at hr; obtain ⟨a, _, rfl⟩ := hr; rfl)⟩ | (rename_i hm; simp only [List.take_succ_cons, List.take_zero, List.drop_zero, List.mem_singleton] at hm; subst hm; rfl) | (simp only [List.take_succ_cons, List.take_zero, List.drop_zero, List.length_cons, List.length_nil]; omega))
  refine AW.loop (S := fun k : Nat => ⟨[(0, .d (.lst (xs.map enc))), (1, .d (.fn g cap)), (7, .d (.int .i64 xs.length)), (8, .d (.int .i64 k))], [], 19, 0⟩)
    (Pre := fun k => k ≤ xs.length ∧ ∀ j (h : j < xs.length), j < k → p xs[j] = false) (μ := fun k => xs.length - k) 0 ⟨Nat.zero_le _, fun j _ h => absurd h (Nat.not_lt_zero _)⟩ ?_ ?_
  · (refine xwk (π := []) (by decide) rfl ?_ ?_; (first | exact trivial | simp -implicitDefEqProofs only [go_sem, List.length_map]); repeat' (first | exact renE_n | ((with_reducible apply renE_c); exact rfl; focus (first | with_reducible exact rfl | (simp -implicitDefEqProofs only [go_sem, List.length_map]; done) | (simp -implicitDefEqProofs only [go_sem, List.length_map]; omega)))))
  · rintro k ⟨hk, hp⟩
    by_cases hlt : k < xs.length
    · have hrow := at_map (f := enc) hlt
      have hrow2 : List.take 2 (List.map V.d (enc xs[k])) = List.map V.d (enc xs[k]) := by rw [List.take_of_length_le]; rw [List.length_map, hsz]; omega
      repeat' (first | ((first | refine AW.stepL lv54 tok rfl ?_ | refine AW.region tok rfl ?_ | refine AW.condE ?_ | refine AW.skip ?_ | refine AW.ret ?_ | refine AW.exit ?_ | refine aops_call ?_ | refine ACall.is (by first | rfl | simp -implicitDefEqProofs only [go_sem, ↓reduceIte, Nat.reduceEqDiff, ltT hlt, not_true, hrow, hrow2, hsz, List.length_map]) (hg _ (List.getElem_mem hlt)) ?_) <;> simp -implicitDefEqProofs only [go_sem, ltT hlt, not_true, hrow, hrow2, hsz, List.length_map]) | refine AW.seq ?_ | refine AW.block ?_ | refine And.intro ?_ ?_ | exact fun h => (h trivial).elim | exact fun h => h.elim | refine fun _ => ?_ | exact rfl | exact Nat.le_of_ble_eq_true rfl | omega | exact ⟨_, rfl, fun r hr => (by simp at hr; obtain ⟨a, _, rfl⟩ := hr; rfl)⟩ | (rename_i hm; simp only [List.take_succ_cons, List.take_zero, List.drop_zero, List.mem_singleton] at hm; subst hm; rfl) | (simp only [List.take_succ_cons, List.take_zero, List.drop_zero, List.length_cons, List.length_nil]; omega))
      · rename_i hpk
        (refine xfinIs (by first | exact .inl rfl | exact .inr rfl) rfl (by repeat' (first | exact trivial | exact rfl | refine And.intro ?_ ?_)) rfl ?_ rfl; first | with_reducible exact rfl | (simp -implicitDefEqProofs only [go_sem, idxOf_at hlt hp hpk] <;> (first | rfl | omega | exact decide_eq_decide.2 (by omega) | exact decide_eq_false (by omega) | exact decide_eq_true (by omega) | (symm; first | exact decide_eq_false (by omega) | exact decide_eq_true (by omega)) | (rw [Bool.eq_iff_iff]; simp only [boL, reduceCtorEq]; omega))))
      · rename_i hpk
        refine round_end (k+1) ⟨by omega, ?_⟩ (by omega) (Weak.of [] rfl rfl List.nodup_nil rfl trivial ?_)
        · intro j hj h; by_cases h' : j = k
          · subst h'; exact hpk
          · exact hp j hj (by omega)
        · simp -implicitDefEqProofs only [go_sem]
    · repeat' (first | ((with_reducible apply xsim); (first | ((with_reducible apply xlenM); exact rfl; exact rfl) | ((with_reducible apply xo); exact rfl) | with_reducible apply xend | ((with_reducible apply xidxL); exact rfl; exact rfl; exact rfl; exact rfl; omega; first | exact rfl | simp only [hsz]) | ((with_reducible apply xidxM); exact rfl; exact rfl; exact rfl; omega; omega; exact rfl) | ((with_reducible apply xldA); exact rfl; exact rfl; exact rfl; exact rfl; exact rfl) | simp -implicitDefEqProofs only [go_sem, List.length_map])) | ((with_reducible apply xaw); (first | ((with_reducible apply xstepS); refine AW.step tok rfl ?_) | ((with_reducible apply xstep); refine AW.region tok rfl ?_) | with_reducible (first | refine AW.seq ?_ | refine AW.block ?_ | refine AW.skip ?_ | refine AW.ret ?_ | refine AW.exit ?_) | ((with_reducible apply xcond); exact rfl))) | with_reducible (first | refine xthen ?_ | refine xthen_r ?_ | refine xthen_e ?_ | refine xblock ?_ | refine xblock_r ?_ | refine xblock_e ?_ | refine xblock_n rfl ?_ | refine xround_r ?_ | refine xround_e ?_) | (with_reducible intro hc; (try simp only [hcL, reduceCtorEq, List.length_map] at hc); (try (exfalso; omega))) | with_reducible (first | exact trivial | refine And.intro ?_ ?_ | exact rfl | exact Nat.le_refl _) | exact Eq.refl true | exact (rfl : (_ : List Nat) = _) | exact Nat.le_of_ble_eq_true rfl | (refine inR_i64.mpr ?_; first | omega | (simp only [List.length_map, List.length_map]; omega)) | omega)
      (refine xfinIs (by first | exact .inl rfl | exact .inr rfl) rfl (by repeat' (first | exact trivial | exact rfl | refine And.intro ?_ ?_)) rfl ?_ rfl; first | with_reducible exact rfl | (simp -implicitDefEqProofs only [go_sem, idxOf_none hlt hp] <;> (first | rfl | omega | exact decide_eq_decide.2 (by omega) | exact decide_eq_false (by omega) | exact decide_eq_true (by omega) | (symm; first | exact decide_eq_false (by omega) | exact decide_eq_true (by omega)) | (rw [Bool.eq_iff_iff]; simp only [boL, reduceCtorEq]; omega))))

theorem c_ContainsFuncLine {α : Type} (enc : α → List D) (xs : List α) (g : Nat) (cap : List D) (p : α → Bool) (hsz : ∀ x, (enc x).length = 2) (hlen : xs.length < 2^63)
    (hg : ∀ x ∈ xs, ACon Try.prog g (.agg ((enc x).map .d) :: cap.map .d) [] (Is (.d (.bool (p x))))) :
    ACon Try.prog 47 [.d (.lst (xs.map enc)), .d (.fn g cap)] [] (Is (.d (.bool (xs.any p)))) := by
  refine ACon.introW tok (nt := 9) Try.func47 rfl rfl rfl (by kernel_rfl) rfl ?_
  repeat' (first | ((with_reducible apply xsim); (first | ((with_reducible apply xo); exact rfl) | with_reducible apply xend | ((with_reducible apply xcallIs); exact rfl; exact rfl; exact c_IndexFuncLine enc xs g cap p hsz hlen hg; exact rfl) | simp -implicitDefEqProofs only [go_sem])) | ((with_reducible apply xaw); (first | ((with_reducible apply xstepS); refine AW.step tok rfl ?_) | ((with_reducible apply xstep); refine AW.region tok rfl ?_) | with_reducible (first | refine AW.seq ?_ | refine AW.block ?_ | refine AW.skip ?_ | refine AW.ret ?_ | refine AW.exit ?_) | ((with_reducible apply xcond); exact rfl))) | with_reducible (first | refine xthen ?_ | refine xthen_r ?_ | refine xthen_e ?_ | refine xblock ?_ | refine xblock_r ?_ | refine xblock_e ?_ | refine xblock_n rfl ?_ | refine xround_r ?_ | refine xround_e ?_) | (with_reducible intro hc; (try simp only [hcL, reduceCtorEq] at hc); (try (exfalso; omega))) | with_reducible (first | exact trivial | refine And.intro ?_ ?_ | exact rfl | exact Nat.le_refl _) | exact Eq.refl true | exact (rfl : (_ : List Nat) = _) | exact Nat.le_of_ble_eq_true rfl | (refine inR_i64.mpr ?_; first | omega | (simp only [List.length_map]; omega)) | omega)
  (refine xfinIs (by first | exact .inl rfl | exact .inr rfl) rfl (by repeat' (first | exact trivial | exact rfl | refine And.intro ?_ ?_)) rfl ?_ rfl; first | with_reducible exact rfl | (simp -implicitDefEqProofs only [go_sem, idxOf_any] <;> (first | rfl | omega | exact decide_eq_decide.2 (by omega) | exact decide_eq_false (by omega) | exact decide_eq_true (by omega) | (symm; first | exact decide_eq_false (by omega) | exact decide_eq_true (by omega)) | (rw [Bool.eq_iff_iff]; simp only [boL, reduceCtorEq]; omega))))

end Go.Proofs.Ytagbfbamhfjbaaa

namespace Go.Proofs.Ytagbfbamhfjbaaa
open Go.Fw

/-- Rows that are filled one by one. -/
def fillRows {α : Type} (enc : α → List D) (z : List D) (xs : List α) (k : Nat) : List (List D) := (xs.take k).map enc ++ List.replicate (xs.length - k) z

theorem fillRows_len {α : Type} {enc : α → List D} {z : List D} {xs : List α} {k : Nat} (hk : k ≤ xs.length) : (fillRows enc z xs k).length = xs.length := by
  simp [fillRows]; omega
theorem fillRows_at {α : Type} {enc : α → List D} {z : List D} {xs : List α} {k : Nat} (hk : k < xs.length) : (fillRows enc z xs k)[k]? = some z := by
  unfold fillRows
  rw [List.getElem?_append_right (by simp; omega)]
  simp only [List.length_map, List.length_take]
  rw [List.getElem?_replicate, if_pos (by omega)]
theorem fillRows_set {α : Type} {enc : α → List D} {z : List D} {xs : List α} {k : Nat} (hk : k < xs.length) : (fillRows enc z xs k).set k (enc xs[k]) = fillRows enc z xs (k + 1) := by
  unfold fillRows
  rw [List.set_append_right _ _ (by simp; omega)]
  simp only [List.length_map, List.length_take]
  rw [show k - min k xs.length = 0 by omega, show xs.length - k = (xs.length - (k + 1)) + 1 by omega, List.replicate_succ, List.set_cons_zero, List.take_succ_eq_append_getElem hk, List.map_append, List.append_assoc]
  rfl
theorem fillRows_all {α : Type} {enc : α → List D} {z : List D} {xs : List α} : fillRows enc z xs xs.length = xs.map enc := by simp [fillRows]
theorem fillRows_zero {α : Type} {enc : α → List D} {z : List D} {xs : List α} : fillRows enc z xs 0 = List.replicate xs.length z := by simp [fillRows]

/-- A slice of rows that is handed over. -/
def ORows {α : Type} (enc : α → List D) (sz : Nat) (xs : List α) : V → List O → Prop := Own (.msl 0 sz 0 xs.length) [.arr sz (xs.map enc)]

theorem ORows.data {α : Type} {P : Program} {f : Nat} {args : List V} {sz : Nat} {enc : α → List D} {xs : List α} (h : ACon P f args [] (ORows enc sz xs)) : ACon P f args [] (Is (.d (.lst (xs.map enc)))) := by
  have h2 : ACon P f args [] (fun r os => r = .d (.lst (xs.map enc)) ∧ os = [.dead]) := by
    refine h.frz ?_
    rintro r os ⟨rfl, rfl⟩
    exact ⟨0, sz, xs.map enc, by rw [List.length_map], rfl, rfl, rfl⟩
  refine h2.ren ?_
  rintro r os ⟨rfl, rfl⟩
  exact ⟨[], .d (.lst (xs.map enc)), [], by decide, rfl, trivial, rfl, rfl, rfl⟩

end Go.Proofs.Ytagbfbamhfjbaaa

namespace Go.Proofs.Ytagbfbamhfjbaaa
open Go.Fw Go.ChangeShapes Go.WideShapes Go.Deep Go.RowKit Go.ChangeAt

section
variable {H : Type} {enc : TypeId × Value → H} {P : Program} {w : World} {base : Nat} {spare : Nat → Bool} {held : Bool}

theorem list_of {α : Type} {R : Nat → α → Prop} : ∀ n : Nat, (∀ i, i < n → ∃ p, R i p) → ∃ xs : List α, xs.length = n ∧ ∀ (i : Nat) (p : α), xs[i]? = some p → R i p := by
  intro n
  induction n with
  | zero => intro _; exact ⟨[], rfl, fun i p h => by simp at h⟩
  | succ n ih =>
    intro h
    obtain ⟨xs, h1, h2⟩ := ih fun i hi => h i (by omega)
    obtain ⟨p, hp⟩ := h n (by omega)
    refine ⟨xs ++ [p], by simp [h1], fun i q hq => ?_⟩
    rcases Nat.lt_or_ge i xs.length with hl | hl
    · rw [List.getElem?_append_left hl] at hq; exact h2 i q hq
    · rw [List.getElem?_append_right hl] at hq
      have : i - xs.length = 0 := by
        rcases Nat.eq_zero_or_pos (i - xs.length) with e | e
        · exact e
        · rw [List.getElem?_eq_none (by simp; omega)] at hq; cases hq
      rw [this] at hq
      simp only [List.getElem?_cons_zero, Option.some.injEq] at hq
      subst hq
      rw [show i = n by omega]
      exact hp

/-- A slice of records that the input brings. -/
theorem open_recs {α : Type} {encR : α → List D} {nf : Nat} {t e : TypeId} {fuel : Nat} {v : Value} {x : DataW H × List MemPlace} (ht : P.underlying t = some (.slice e)) (hC : P.cellsOf e = nf) (hnf : 0 < nf)
    (hlen : ∀ p, (encR p).length = nf)
    (hdec : ∀ (n : Nat) (cs : List Value) (y : DataW H × List MemPlace), DataW.trod enc P w base spare held n e cs = some y → ∃ p : α, ∀ (j : Nat) (d : D), (encR p)[j]? = some d → ∃ u : Value, cs[j]? = some u ∧ DRep w (· < w.heap.size) d u)
    (h : DataW.trod enc P w base spare held fuel t [v] = some x) : ∃ xs : List α, DRep w (· < w.heap.size) (.lst (xs.map encR)) v ∧ xs.length ≤ maxLen := by
  rcases open_slice ht h with ⟨h0, _⟩ | ⟨a, len, cap, m, n, D0, Pl, hcs, hb, hl, hm, hmm, hx, hi⟩
  · obtain rfl : v = .slice none 0 0 := by simpa using h0
    exact ⟨[], .nil, Nat.zero_le _⟩
  · obtain rfl : v = .slice (some a) len cap := by simpa using hcs
    have hlm : len ≤ m := by rw [hmm]; split <;> omega
    obtain ⟨xs, h1, h2⟩ := list_of (R := fun i (p : α) => ∀ (j : Nat) (d : D), (encR p)[j]? = some d → ∃ u : Value, w.cell? (a.add (i * nf + j)) = some u ∧ DRep w (· < w.heap.size) d u) len fun i hil => by
      obtain ⟨cs', hc, htr⟩ := hi i (by omega)
      obtain ⟨p, hp⟩ := hdec _ _ _ htr
      rw [hC] at hc
      obtain ⟨_, hcl, hat⟩ := World.cells?_some hc
      refine ⟨p, fun j d hd => ?_⟩
      obtain ⟨u, hu, hr⟩ := hp j d hd
      have hj : j < nf := by rw [← hlen p]; exact (List.getElem?_eq_some_iff.1 hd).1
      refine ⟨u, ?_, hr⟩
      rw [← Go.Deep.add_add, hat j hj, hu]
    refine ⟨xs, ?_, by omega⟩
    subst h1
    cases xs with
    | nil => exact .nil
    | cons p0 xs =>
      have hfirst : ∃ u, w.cell? (a.add 0) = some u := by
        have hd : (encR p0)[0]? = some ((encR p0)[0]'(by rw [hlen]; exact hnf)) := List.getElem?_eq_getElem _
        obtain ⟨u, hu, _⟩ := h2 0 p0 rfl 0 _ hd
        exact ⟨u, by simpa using hu⟩
      obtain ⟨u, hu⟩ := hfirst
      obtain ⟨b, off, spot⟩ := a
      have hs : spot = none ∧ b < w.heap.size := by
        unfold World.cell? Addr.add at hu
        simp only at hu
        split at hu
        · rename_i c _ _ hb
          refine ⟨?_, (Array.getElem?_eq_some_iff.1 hb).1⟩
          cases spot with
          | none => rfl
          | some q => simp at hu
        · cases hu
      obtain ⟨rfl, hbl⟩ := hs
      have := DRep.lst (w := w) (ok := (· < w.heap.size)) (rows := (p0 :: xs).map encR) (sz := nf) (b := b) (off := off) (cap := cap)
        (vs := fun i j => (w.cell? ⟨b, off + (i * nf + j), none⟩).getD undef) hbl
        (fun r hr => by obtain ⟨p, _, rfl⟩ := List.mem_map.1 hr; exact hlen p) (by rw [List.length_map]; exact hl)
        (fun i j r d hi hj => by
          rw [List.getElem?_map, Option.map_eq_some_iff] at hi
          obtain ⟨p, hp, rfl⟩ := hi
          obtain ⟨u, hu, _⟩ := h2 i p hp j d hj
          have hu : w.cell? ⟨b, off + (i * nf + j), none⟩ = some u := by rw [addr_add] at hu; exact hu
          rw [hu]; rfl)
        (fun i j r d hi hj => by
          rw [List.getElem?_map, Option.map_eq_some_iff] at hi
          obtain ⟨p, hp, rfl⟩ := hi
          obtain ⟨u, hu, hr⟩ := h2 i p hp j d hj
          have hu : w.cell? ⟨b, off + (i * nf + j), none⟩ = some u := by rw [addr_add] at hu; exact hu
          rw [hu]; exact hr)
      rwa [List.length_map] at this

end

/-- A law that is proved on the abstract machine, as the row asks for it. -/
theorem bridge {P : Program} {f : Nat} {args : List V} {vs : Array Value} {W : World} (hc : ACon P f args [] (Is (.d (.bool true)))) (hs : vs.size = args.length)
    (hv : ∀ (i : Nat) x, args[i]? = some x → VRep W (· < W.heap.size) [] x (vs.getD i undef)) : Calls P f vs W fun e W' => e = .returned (.bool true) ∧ Below W.heap.size W W' := by
  refine (hc.run W (· < W.heap.size) [] vs ⟨rfl, fun _ h => h, fun id o h => by simp at h, fun i j oi oj b h => by simp at h, fun i o b h => by simp at h⟩ hs hv).mono ?_
  rintro e W' ⟨v, r, os, ok', ρ', rfl, ⟨rfl, rfl⟩, hI, hV, hF⟩
  cases hV with
  | d h =>
    cases h
    exact ⟨rfl, hF.os, hF.tape, hF.output, hF.size, fun k hk => hF.block k hk (fun id o h => by simp at h) (fun e => by cases e)⟩

section
variable {H : Type} {enc : TypeId × Value → H} {w : World} {base : Nat} {spare : Nat → Bool} {held : Bool}

theorem take1 {cs : List Value} {j : Nat} {v : Value} (h : (cs.drop j).take 1 = [v]) : cs[j]? = some v := by
  have : ((cs.drop j).take 1)[0]? = some v := by rw [h]; rfl
  rw [List.getElem?_take_of_lt (by omega), List.getElem?_drop] at this
  simpa using this

theorem fieldI {cs : List Value} {n' j : Nat} {z : DataW H × List MemPlace} (h : DataW.trod enc Try.prog w base spare held n' 3 ((cs.drop j).take (Try.prog.cellsOf 3)) = some z) : ∃ k : Int, cs[j]? = some (.int .i64 k) := by
  obtain ⟨k, hk, _, _⟩ := DataW.trod_int Try.underlying3 h
  rw [show Try.prog.cellsOf 3 = 1 by kernel_rfl] at hk
  exact ⟨k, take1 hk⟩

theorem fieldB {cs : List Value} {n' j : Nat} {z : DataW H × List MemPlace} (h : DataW.trod enc Try.prog w base spare held n' 4 ((cs.drop j).take (Try.prog.cellsOf 4)) = some z) : ∃ k : Bool, cs[j]? = some (.bool k) := by
  obtain ⟨k, hk, _⟩ := DataW.trod_bool Try.underlying4 h
  rw [show Try.prog.cellsOf 4 = 1 by kernel_rfl] at hk
  exact ⟨k, take1 hk⟩

/-- What a record's cells hold. -/
def DecR {α : Type} (w : World) (encR : α → List D) (ok : α → Prop) (cs : List Value) : Prop :=
  ∃ p : α, ok p ∧ ∀ (j : Nat) (d : D), (encR p)[j]? = some d → ∃ u : Value, cs[j]? = some u ∧ DRep w (· < w.heap.size) d u

theorem fieldL {α : Type} {encR : α → List D} {nf : Nat} {t e : TypeId} {cs : List Value} {n' j : Nat} {z : DataW H × List MemPlace} (ht : Try.prog.underlying t = some (.slice e)) (hct : Try.prog.cellsOf t = 1) (hC : Try.prog.cellsOf e = nf) (hnf : 0 < nf)
    (hlen : ∀ p, (encR p).length = nf) (hdec : ∀ (n : Nat) (cs : List Value) (y : DataW H × List MemPlace), DataW.trod enc Try.prog w base spare held n e cs = some y → DecR w encR (fun _ => True) cs)
    (h : DataW.trod enc Try.prog w base spare held n' t ((cs.drop j).take (Try.prog.cellsOf t)) = some z) : ∃ (u : Value) (xs : List α), cs[j]? = some u ∧ DRep w (· < w.heap.size) (.lst (xs.map encR)) u ∧ xs.length ≤ maxLen := by
  rw [hct] at h
  obtain ⟨v, hv⟩ : ∃ v, (cs.drop j).take 1 = [v] := by
    rcases open_slice ht h with ⟨h0, _⟩ | ⟨a, len, cap, m, n, D0, Pl, hcs, _⟩
    · exact ⟨_, h0⟩
    · exact ⟨_, hcs⟩
  rw [hv] at h
  obtain ⟨xs, h1, h2⟩ := open_recs ht hC hnf hlen (fun n cs y hy => by obtain ⟨p, _, hp⟩ := hdec n cs y hy; exact ⟨p, hp⟩) h
  exact ⟨v, xs, take1 hv, h1, h2⟩

/-- A record that the input brings. -/
theorem open_rec {α : Type} {encR : α → List D} {ok : α → Prop} {cs : Array Value} (hl : ∀ p, (encR p).length = cs.size) (h : DecR w encR ok cs.toList) : ∃ p : α, ok p ∧ ∀ ρ, VRep w (· < w.heap.size) ρ (.agg ((encR p).map .d)) (.agg cs) := by
  obtain ⟨p, ho, hp⟩ := h
  refine ⟨p, ho, fun ρ => .agg (by simp [hl p]) fun i c hc => ?_⟩
  rw [List.getElem?_map, Option.map_eq_some_iff] at hc
  obtain ⟨d, hd, rfl⟩ := hc
  obtain ⟨u, hu, hr⟩ := hp i d hd
  have : cs[i]? = some u := by simpa using hu
  rw [show cs.getD i undef = u by simp [Array.getD_eq_getD_getElem?, this]]
  exact .d hr

end
end Go.Proofs.Ytagbfbamhfjbaaa

namespace Go.Proofs.Ytagbfbamhfjbaaa
open Go.Fw
attribute [local irreducible] Go.Fw.aops Go.Fw.arun

structure Line where
  weight : Int
  min : Int
@[go_sem] def encLine (l : Line) : List D := [.int .i64 l.weight, .int .i64 l.min]
@[go_sem] def vLine (l : Line) : V := .agg ((encLine l).map .d)
structure Span where
  «at» : Int
  many : Int
  need : Int
@[go_sem] def encSpan (s : Span) : List D := [.int .i64 s.at, .int .i64 s.many, .int .i64 s.need]
@[go_sem] def vSpan (s : Span) : V := .agg ((encSpan s).map .d)
structure Cell where
  col : Int
  row : Int
  manyCols : Int
  manyRows : Int
  w : Int
  h : Int
  stick : Int
  padX : Int
  padY : Int
@[go_sem] def encCell (c : Cell) : List D := [.int .i64 c.col, .int .i64 c.row, .int .i64 c.manyCols, .int .i64 c.manyRows, .int .i64 c.w, .int .i64 c.h, .int .i64 c.stick, .int .i64 c.padX, .int .i64 c.padY]
@[go_sem] def vCell (c : Cell) : V := .agg ((encCell c).map .d)
structure Grid where
  cols : List Line
  rows : List Line
  cells : List Cell
@[go_sem] def encGrid (g : Grid) : List D := [.lst (g.cols.map encLine), .lst (g.rows.map encLine), .lst (g.cells.map encCell)]
@[go_sem] def vGrid (g : Grid) : V := .agg ((encGrid g).map .d)

def validLine (l : Line) : Bool := decide (0 ≤ l.weight ∧ l.weight ≤ 5 ∧ 0 ≤ l.min ∧ l.min ≤ 30)
def linesOk (ls : List Line) : Bool := decide (1 ≤ ls.length ∧ ls.length ≤ 5) && ls.all validLine
def lies (c : Cell) (nc nr : Int) : Bool := decide (0 ≤ c.col ∧ c.col ≤ nc - 1 ∧ 1 ≤ c.manyCols ∧ c.manyCols ≤ nc - c.col ∧ 0 ≤ c.row ∧ c.row ≤ nr - 1 ∧ 1 ≤ c.manyRows ∧ c.manyRows ≤ nr - c.row ∧ 0 ≤ c.stick ∧ c.stick ≤ 15 ∧ 0 ≤ c.padX ∧ c.padX ≤ 10 ∧ 0 ≤ c.padY ∧ c.padY ≤ 10)
def cellOk (c : Cell) (nc nr : Int) : Bool := decide (0 ≤ c.w ∧ c.w ≤ 30 ∧ 0 ≤ c.h ∧ c.h ≤ 30) && lies c nc nr
theorem any_not {α : Type} {p : α → Bool} {xs : List α} : (!xs.any fun x => !p x) = xs.all p := by
  induction xs with
  | nil => rfl
  | cons x xs ih => simp only [List.any_cons, List.all_cons, ← ih, Bool.not_or, Bool.not_not]

theorem c_spanOk (a m n : Int) (hn : 0 ≤ n ∧ n < 2^40) : ACon Try.prog 40 [.d (.int .i64 a), .d (.int .i64 m), .d (.int .i64 n)] [] (Is (.d (.bool (decide (0 ≤ a ∧ a ≤ n - 1 ∧ 1 ≤ m ∧ m ≤ n - a))))) := by
  refine ACon.introW tok (nt := 18) Try.func40 rfl rfl rfl (by kernel_rfl) rfl ?_
  repeat' (first | ((with_reducible apply xsim); (first | ((with_reducible apply xo); exact rfl) | with_reducible apply xend | ((with_reducible apply xguardTS); exact rfl; exact rfl) | ((with_reducible apply xguardS); exact rfl; exact rfl) | ((with_reducible apply xcallIs); exact rfl; exact rfl; exact c_within _ _ _; exact rfl) | simp -implicitDefEqProofs only [go_sem])) | ((with_reducible apply xaw); (first | ((with_reducible apply xstepS); refine AW.step tok rfl ?_) | ((with_reducible apply xstep); refine AW.region tok rfl ?_) | with_reducible (first | refine AW.seq ?_ | refine AW.block ?_ | refine AW.skip ?_ | refine AW.ret ?_ | refine AW.exit ?_) | ((with_reducible apply xcond); exact rfl))) | with_reducible (first | refine xthen ?_ | refine xthen_r ?_ | refine xthen_e ?_ | refine xblock ?_ | refine xblock_r ?_ | refine xblock_e ?_ | refine xblock_n rfl ?_ | refine xround_r ?_ | refine xround_e ?_) | (with_reducible intro hc; (try simp only [hcL, reduceCtorEq] at hc); (try (exfalso; omega))) | with_reducible (first | exact trivial | refine And.intro ?_ ?_ | exact rfl | exact Nat.le_refl _) | exact Eq.refl true | exact (rfl : (_ : List Nat) = _) | exact Nat.le_of_ble_eq_true rfl | (refine inR_i64.mpr ?_; first | omega | (simp only [List.length_map]; omega)) | omega)
  all_goals (refine xfinIs (by first | exact .inl rfl | exact .inr rfl) rfl (by repeat' (first | exact trivial | exact rfl | refine And.intro ?_ ?_)) rfl ?_ rfl; first | with_reducible exact rfl | (simp -implicitDefEqProofs only [go_sem] <;> (first | rfl | omega | exact decide_eq_decide.2 (by omega) | exact decide_eq_false (by omega) | exact decide_eq_true (by omega) | (symm; first | exact decide_eq_false (by omega) | exact decide_eq_true (by omega)) | (rw [Bool.eq_iff_iff]; simp only [boL, reduceCtorEq]; omega))))

theorem c_linesOk1 (l : Line) : ACon Try.prog 48 [vLine l] [] (Is (.d (.bool (!validLine l)))) := by
  refine ACon.introW tok (nt := 13) Try.func48 rfl rfl rfl (by kernel_rfl) rfl ?_
  repeat' (first | ((with_reducible apply xsim); (first | ((with_reducible apply xo); exact rfl) | with_reducible apply xend | ((with_reducible apply xguardTS); exact rfl; exact rfl) | ((with_reducible apply xguardS); exact rfl; exact rfl) | ((with_reducible apply xbox); exact rfl; simp only [bkL, Nat.reduceAdd, Nat.reduceSub]) | ((with_reducible apply xcallIs); exact rfl; exact rfl; exact c_within _ _ _; exact rfl) | simp -implicitDefEqProofs only [go_sem])) | ((with_reducible apply xaw); (first | ((with_reducible apply xstepS); refine AW.step tok rfl ?_) | ((with_reducible apply xstep); refine AW.region tok rfl ?_) | with_reducible (first | refine AW.seq ?_ | refine AW.block ?_ | refine AW.skip ?_ | refine AW.ret ?_ | refine AW.exit ?_) | ((with_reducible apply xcond); exact rfl))) | with_reducible (first | refine xthen ?_ | refine xthen_r ?_ | refine xthen_e ?_ | refine xblock ?_ | refine xblock_r ?_ | refine xblock_e ?_ | refine xblock_n rfl ?_ | refine xround_r ?_ | refine xround_e ?_) | (with_reducible intro hc; (try simp only [hcL, reduceCtorEq] at hc); (try (exfalso; omega))) | with_reducible (first | exact trivial | refine And.intro ?_ ?_ | exact rfl | exact Nat.le_refl _) | exact Eq.refl true | exact (rfl : (_ : List Nat) = _) | exact Nat.le_of_ble_eq_true rfl | (refine inR_i64.mpr ?_; first | omega | (simp only [List.length_map]; omega)) | omega)
  all_goals (refine xfinIs (by first | exact .inl rfl | exact .inr rfl) rfl (by repeat' (first | exact trivial | exact rfl | refine And.intro ?_ ?_)) rfl ?_ rfl; first | with_reducible exact rfl | (simp -implicitDefEqProofs only [go_sem, validLine] <;> (first | rfl | omega | exact decide_eq_decide.2 (by omega) | exact decide_eq_false (by omega) | exact decide_eq_true (by omega) | (symm; first | exact decide_eq_false (by omega) | exact decide_eq_true (by omega)) | (rw [Bool.eq_iff_iff]; simp only [boL, reduceCtorEq]; omega))))

theorem c_linesOk (ls : List Line) (hl : ls.length < 2^63) : ACon Try.prog 39 [.d (.lst (ls.map encLine))] [] (Is (.d (.bool (linesOk ls)))) := by
  refine ACon.introW tok (nt := 11) Try.func39 rfl rfl rfl (by kernel_rfl) rfl ?_
  repeat' (first | ((with_reducible apply xsim); (first | ((with_reducible apply xlenM); exact rfl; exact rfl) | ((with_reducible apply xo); exact rfl) | with_reducible apply xend | ((with_reducible apply xguardTS); exact rfl; exact rfl) | ((with_reducible apply xguardS); exact rfl; exact rfl) | ((with_reducible apply xcallIs); exact rfl; exact rfl; (first | exact c_within _ _ _ | exact c_ContainsFuncLine encLine ls _ [] (fun p => !validLine p) (fun _ => rfl) hl (fun x _ => c_linesOk1 x)); exact rfl) | simp -implicitDefEqProofs only [go_sem, List.length_map])) | ((with_reducible apply xaw); (first | ((with_reducible apply xstepS); refine AW.step tok rfl ?_) | ((with_reducible apply xstep); refine AW.region tok rfl ?_) | with_reducible (first | refine AW.seq ?_ | refine AW.block ?_ | refine AW.skip ?_ | refine AW.ret ?_ | refine AW.exit ?_) | ((with_reducible apply xcond); exact rfl))) | with_reducible (first | refine xthen ?_ | refine xthen_r ?_ | refine xthen_e ?_ | refine xblock ?_ | refine xblock_r ?_ | refine xblock_e ?_ | refine xblock_n rfl ?_ | refine xround_r ?_ | refine xround_e ?_) | (with_reducible intro hc; (try simp only [hcL, reduceCtorEq, List.length_map] at hc); (try (exfalso; omega))) | with_reducible (first | exact trivial | refine And.intro ?_ ?_ | exact rfl | exact Nat.le_refl _) | exact Eq.refl true | exact (rfl : (_ : List Nat) = _) | exact Nat.le_of_ble_eq_true rfl | (refine inR_i64.mpr ?_; first | omega | (simp only [List.length_map, List.length_map]; omega)) | omega)
  · rename_i h1 h2
    have h1 : 1 ≤ ls.length ∧ ls.length ≤ 5 := by omega
    (refine xfinIs (by first | exact .inl rfl | exact .inr rfl) rfl (by repeat' (first | exact trivial | exact rfl | refine And.intro ?_ ?_)) rfl ?_ rfl; first | with_reducible exact rfl | (simp -implicitDefEqProofs only [go_sem, linesOk, any_not, h1, and_self, decide_true, Bool.true_and] <;> (first | rfl | omega | exact decide_eq_decide.2 (by omega) | exact decide_eq_false (by omega) | exact decide_eq_true (by omega) | (symm; first | exact decide_eq_false (by omega) | exact decide_eq_true (by omega)) | (rw [Bool.eq_iff_iff]; simp only [boL, reduceCtorEq]; omega))))
  · (refine xfinIs (by first | exact .inl rfl | exact .inr rfl) rfl (by repeat' (first | exact trivial | exact rfl | refine And.intro ?_ ?_)) rfl ?_ rfl; first | with_reducible exact rfl | (simp -implicitDefEqProofs only [go_sem, linesOk, decide_eq_false (show ¬ (1 ≤ ls.length ∧ ls.length ≤ 5) by omega), Bool.false_and] <;> (first | rfl | omega | exact decide_eq_decide.2 (by omega) | exact decide_eq_false (by omega) | exact decide_eq_true (by omega) | (symm; first | exact decide_eq_false (by omega) | exact decide_eq_true (by omega)) | (rw [Bool.eq_iff_iff]; simp only [boL, reduceCtorEq]; omega))))

theorem c_lies (c : Cell) (g : Grid) (h1 : g.cols.length < 2^40) (h2 : g.rows.length < 2^40) : ACon Try.prog 26 [vCell c, vGrid g] [] (Is (.d (.bool (lies c g.cols.length g.rows.length)))) := by
  refine ACon.introW tok (nt := 38) Try.func26 rfl rfl rfl (by kernel_rfl) rfl ?_
  repeat' (first | ((with_reducible apply xsim); (first | ((with_reducible apply xlenM); exact rfl; exact rfl) | ((with_reducible apply xo); exact rfl) | with_reducible apply xend | ((with_reducible apply xguardTS); exact rfl; exact rfl) | ((with_reducible apply xguardS); exact rfl; exact rfl) | ((with_reducible apply xbox); exact rfl; simp only [bkL, Nat.reduceAdd, Nat.reduceSub]) | ((with_reducible apply xcallIs); exact rfl; exact rfl; (first | exact c_within _ _ _ | exact c_spanOk _ _ _ (by omega)); exact rfl) | simp -implicitDefEqProofs only [go_sem, List.length_map])) | ((with_reducible apply xaw); (first | ((with_reducible apply xstepS); refine AW.step tok rfl ?_) | ((with_reducible apply xstep); refine AW.region tok rfl ?_) | with_reducible (first | refine AW.seq ?_ | refine AW.block ?_ | refine AW.skip ?_ | refine AW.ret ?_ | refine AW.exit ?_) | ((with_reducible apply xcond); exact rfl))) | with_reducible (first | refine xthen ?_ | refine xthen_r ?_ | refine xthen_e ?_ | refine xblock ?_ | refine xblock_r ?_ | refine xblock_e ?_ | refine xblock_n rfl ?_ | refine xround_r ?_ | refine xround_e ?_) | (with_reducible intro hc; (try simp only [hcL, reduceCtorEq, List.length_map] at hc); (try (exfalso; omega))) | with_reducible (first | exact trivial | refine And.intro ?_ ?_ | exact rfl | exact Nat.le_refl _) | exact Eq.refl true | exact (rfl : (_ : List Nat) = _) | exact Nat.le_of_ble_eq_true rfl | (refine inR_i64.mpr ?_; first | omega | (simp only [List.length_map, List.length_map]; omega)) | omega)
  all_goals (refine xfinIs (by first | exact .inl rfl | exact .inr rfl) rfl (by repeat' (first | exact trivial | exact rfl | refine And.intro ?_ ?_)) rfl ?_ rfl; first | with_reducible exact rfl | (simp -implicitDefEqProofs only [go_sem, lies] <;> (first | rfl | omega | exact decide_eq_decide.2 (by omega) | exact decide_eq_false (by omega) | exact decide_eq_true (by omega) | (symm; first | exact decide_eq_false (by omega) | exact decide_eq_true (by omega)) | (rw [Bool.eq_iff_iff]; simp only [boL, reduceCtorEq]; omega))))

theorem c_validLine (l : Line) : ACon Try.prog 57 [vLine l] [] (Is (.d (.bool (validLine l)))) := by
  refine ACon.introW tok (nt := 11) Try.func57 rfl rfl rfl (by kernel_rfl) rfl ?_
  repeat' (first | ((with_reducible apply xsim); (first | ((with_reducible apply xo); exact rfl) | with_reducible apply xend | ((with_reducible apply xguardTS); exact rfl; exact rfl) | ((with_reducible apply xguardS); exact rfl; exact rfl) | ((with_reducible apply xbox); exact rfl; simp only [bkL, Nat.reduceAdd, Nat.reduceSub]) | ((with_reducible apply xcallIs); exact rfl; exact rfl; exact c_inRange _ _ _; exact rfl) | simp -implicitDefEqProofs only [go_sem])) | ((with_reducible apply xaw); (first | ((with_reducible apply xstepS); refine AW.step tok rfl ?_) | ((with_reducible apply xstep); refine AW.region tok rfl ?_) | with_reducible (first | refine AW.seq ?_ | refine AW.block ?_ | refine AW.skip ?_ | refine AW.ret ?_ | refine AW.exit ?_) | ((with_reducible apply xcond); exact rfl))) | with_reducible (first | refine xthen ?_ | refine xthen_r ?_ | refine xthen_e ?_ | refine xblock ?_ | refine xblock_r ?_ | refine xblock_e ?_ | refine xblock_n rfl ?_ | refine xround_r ?_ | refine xround_e ?_) | (with_reducible intro hc; (try simp only [hcL, reduceCtorEq] at hc); (try (exfalso; omega))) | with_reducible (first | exact trivial | refine And.intro ?_ ?_ | exact rfl | exact Nat.le_refl _) | exact Eq.refl true | exact (rfl : (_ : List Nat) = _) | exact Nat.le_of_ble_eq_true rfl | (refine inR_i64.mpr ?_; first | omega | (simp only [List.length_map]; omega)) | omega)
  all_goals (refine xfinIs (by first | exact .inl rfl | exact .inr rfl) rfl (by repeat' (first | exact trivial | exact rfl | refine And.intro ?_ ?_)) rfl ?_ rfl; first | with_reducible exact rfl | (simp -implicitDefEqProofs only [go_sem, validLine] <;> (first | rfl | omega | exact decide_eq_decide.2 (by omega) | exact decide_eq_false (by omega) | exact decide_eq_true (by omega) | (symm; first | exact decide_eq_false (by omega) | exact decide_eq_true (by omega)) | (rw [Bool.eq_iff_iff]; simp only [boL, reduceCtorEq]; omega))))

theorem c_validCell (c : Cell) (g : Grid) (h1 : g.cols.length < 2^40) (h2 : g.rows.length < 2^40) : ACon Try.prog 53 [vGrid g, vCell c] [] (Is (.d (.bool (cellOk c g.cols.length g.rows.length)))) := by
  refine ACon.introW tok (nt := 68) Try.func53 rfl rfl rfl (by kernel_rfl) rfl ?_
  repeat' (first | ((with_reducible apply xsim); (first | ((with_reducible apply xlenM); exact rfl; exact rfl) | ((with_reducible apply xo); exact rfl) | with_reducible apply xend | ((with_reducible apply xguardTS); exact rfl; exact rfl) | ((with_reducible apply xguardS); exact rfl; exact rfl) | ((with_reducible apply xbox); exact rfl; simp only [bkL, Nat.reduceAdd, Nat.reduceSub]) | ((with_reducible apply xcallIs); exact rfl; exact rfl; exact c_inRange _ _ _; exact rfl) | simp -implicitDefEqProofs only [go_sem, List.length_map])) | ((with_reducible apply xaw); (first | ((with_reducible apply xstepS); refine AW.step tok rfl ?_) | ((with_reducible apply xstep); refine AW.region tok rfl ?_) | with_reducible (first | refine AW.seq ?_ | refine AW.block ?_ | refine AW.skip ?_ | refine AW.ret ?_ | refine AW.exit ?_) | ((with_reducible apply xcond); exact rfl))) | with_reducible (first | refine xthen ?_ | refine xthen_r ?_ | refine xthen_e ?_ | refine xblock ?_ | refine xblock_r ?_ | refine xblock_e ?_ | refine xblock_n rfl ?_ | refine xround_r ?_ | refine xround_e ?_) | (with_reducible intro hc; (try simp only [hcL, reduceCtorEq, List.length_map] at hc); (try (exfalso; omega))) | with_reducible (first | exact trivial | refine And.intro ?_ ?_ | exact rfl | exact Nat.le_refl _) | exact Eq.refl true | exact (rfl : (_ : List Nat) = _) | exact Nat.le_of_ble_eq_true rfl | (refine inR_i64.mpr ?_; first | omega | (simp only [List.length_map, List.length_map]; omega)) | omega)
  all_goals (refine xfinIs (by first | exact .inl rfl | exact .inr rfl) rfl (by repeat' (first | exact trivial | exact rfl | refine And.intro ?_ ?_)) rfl ?_ rfl; first | with_reducible exact rfl | (simp -implicitDefEqProofs only [go_sem, cellOk, lies, ← Bool.decide_and] <;> (first | rfl | omega | exact decide_eq_decide.2 (by omega) | exact decide_eq_false (by omega) | exact decide_eq_true (by omega) | (symm; first | exact decide_eq_false (by omega) | exact decide_eq_true (by omega)) | (rw [Bool.eq_iff_iff]; simp only [boL, reduceCtorEq]; omega))))

theorem all_ff {α : Type} {p : α → Bool} {xs : List α} {k : Nat} (h : k < xs.length) (hp : p xs[k] = false) : xs.all p = false := List.all_eq_false.2 ⟨_, List.getElem_mem h, by simp [hp]⟩
theorem all_tt {α : Type} {p : α → Bool} {xs : List α} (hp : ∀ j (h : j < xs.length), p xs[j] = true) : xs.all p = true := List.all_eq_true.2 fun x hx => by
  obtain ⟨j, hj, rfl⟩ := List.mem_iff_getElem.1 hx
  exact hp j hj

theorem c_validLines (ls : List Line) (hl : ls.length < 2^40) : ACon Try.prog 52 [.d (.lst (ls.map encLine))] [] (Is (.d (.bool (linesOk ls)))) := by
  refine ACon.introW tok (nt := 19) Try.func52 rfl rfl rfl (by kernel_rfl) rfl ?_
  repeat' (first | ((with_reducible apply xsim); (first | ((with_reducible apply xlenM); exact rfl; exact rfl) | ((with_reducible apply xo); exact rfl) | with_reducible apply xend | ((with_reducible apply xidxL); exact rfl; exact rfl; exact rfl; exact rfl; omega; first | exact rfl | simp only [hsz]) | ((with_reducible apply xidxM); exact rfl; exact rfl; exact rfl; omega; omega; exact rfl) | ((with_reducible apply xldA); exact rfl; exact rfl; exact rfl; exact rfl; exact rfl) | simp -implicitDefEqProofs only [go_sem])) | ((with_reducible apply xaw); (first | ((with_reducible apply xstepS); refine AW.step tok rfl ?_) | ((with_reducible apply xstep); refine AW.region tok rfl ?_) | with_reducible (first | refine AW.seq ?_ | refine AW.block ?_ | refine AW.skip ?_ | refine AW.ret ?_ | refine AW.exit ?_) | ((with_reducible apply xcond); exact rfl))) | with_reducible (first | refine xthen ?_ | refine xthen_r ?_ | refine xthen_e ?_ | refine xblock ?_ | refine xblock_r ?_ | refine xblock_e ?_ | refine xblock_n rfl ?_ | refine xround_r ?_ | refine xround_e ?_) | (with_reducible intro hc; (try simp only [hcL, reduceCtorEq] at hc); (try (exfalso; omega))) | with_reducible (first | exact trivial | refine And.intro ?_ ?_ | exact rfl | exact Nat.le_refl _) | exact Eq.refl true | exact (rfl : (_ : List Nat) = _) | exact Nat.le_of_ble_eq_true rfl | (refine inR_i64.mpr ?_; first | omega | (simp only [List.length_map]; omega)) | omega)
  refine AW.loop (S := fun k : Nat => ⟨[(0, .d (.lst (ls.map encLine))), (3, .d (.int .i64 k))], [], 19, .p 0⟩)
    (Pre := fun k => k ≤ ls.length ∧ ∀ j (h : j < ls.length), j < k → validLine ls[j] = true) (μ := fun k => ls.length - k) 0 ⟨Nat.zero_le _, fun j _ h => absurd h (Nat.not_lt_zero _)⟩ ?_ ?_
  · (refine xwk (π := []) (by decide) rfl ?_ ?_; (first | exact trivial | simp -implicitDefEqProofs only [go_sem]); repeat' (first | exact renE_n | ((with_reducible apply renE_c); exact rfl; focus (first | with_reducible exact rfl | (simp -implicitDefEqProofs only [go_sem]; done) | (simp -implicitDefEqProofs only [go_sem]; omega)))))
  · rintro k ⟨hk, hp⟩
    by_cases hlt : k < ls.length
    · have hrow := at_map (f := encLine) hlt
      repeat' (first | ((with_reducible apply xsim); (first | ((with_reducible apply xlenM); exact rfl; exact rfl) | ((with_reducible apply xo); exact rfl) | with_reducible apply xend | ((with_reducible apply xidxL); exact rfl; exact rfl; exact rfl; (first | exact hrow); omega; first | exact rfl | simp only [hsz]) | ((with_reducible apply xidxM); exact rfl; exact rfl; exact rfl; omega; omega; exact rfl) | ((with_reducible apply xldA); exact rfl; exact rfl; exact rfl; (first | exact hrow); exact rfl) | ((with_reducible apply xcallIs); exact rfl; exact rfl; exact c_validLine ls[k]; exact rfl) | simp -implicitDefEqProofs only [go_sem, List.length_map])) | ((with_reducible apply xaw); (first | ((with_reducible apply xstepS); refine AW.step tok rfl ?_) | ((with_reducible apply xstep); refine AW.region tok rfl ?_) | with_reducible (first | refine AW.seq ?_ | refine AW.block ?_ | refine AW.skip ?_ | refine AW.ret ?_ | refine AW.exit ?_) | ((with_reducible apply xcond); exact rfl))) | with_reducible (first | refine xthen ?_ | refine xthen_r ?_ | refine xthen_e ?_ | refine xblock ?_ | refine xblock_r ?_ | refine xblock_e ?_ | refine xblock_n rfl ?_ | refine xround_r ?_ | refine xround_e ?_) | (with_reducible intro hc; (try simp only [hcL, reduceCtorEq, List.length_map] at hc); (try (exfalso; omega))) | with_reducible (first | exact trivial | refine And.intro ?_ ?_ | exact rfl | exact Nat.le_refl _) | exact Eq.refl true | exact (rfl : (_ : List Nat) = _) | exact Nat.le_of_ble_eq_true rfl | (refine inR_i64.mpr ?_; first | omega | (simp only [List.length_map, List.length_map]; omega)) | omega)
      · (refine xfinIs (by first | exact .inl rfl | exact .inr rfl) rfl (by repeat' (first | exact trivial | exact rfl | refine And.intro ?_ ?_)) rfl ?_ rfl; first | with_reducible exact rfl | (simp -implicitDefEqProofs only [go_sem, linesOk, all_ff hlt hc, Bool.and_false] <;> (first | rfl | omega | exact decide_eq_decide.2 (by omega) | exact decide_eq_false (by omega) | exact decide_eq_true (by omega) | (symm; first | exact decide_eq_false (by omega) | exact decide_eq_true (by omega)) | (rw [Bool.eq_iff_iff]; simp only [boL, reduceCtorEq]; omega))))
      · refine round_end (k+1) ⟨by omega, ?_⟩ (by omega) (by (refine xwk (π := []) (by decide) rfl ?_ ?_; (first | exact trivial | simp -implicitDefEqProofs only [go_sem]); repeat' (first | exact renE_n | ((with_reducible apply renE_c); exact rfl; focus (first | with_reducible exact rfl | (simp -implicitDefEqProofs only [go_sem]; done) | (simp -implicitDefEqProofs only [go_sem]; omega))))))
        intro j hj h; by_cases h' : j = k
        · subst h'; exact hc
        · exact hp j hj (by omega)
    · have hall := all_tt (p := validLine) (xs := ls) fun j h => hp j h (by omega)
      repeat' (first | ((with_reducible apply xsim); (first | ((with_reducible apply xlenM); exact rfl; exact rfl) | ((with_reducible apply xo); exact rfl) | with_reducible apply xend | ((with_reducible apply xidxL); exact rfl; exact rfl; exact rfl; exact rfl; omega; first | exact rfl | simp only [hsz]) | ((with_reducible apply xidxM); exact rfl; exact rfl; exact rfl; omega; omega; exact rfl) | ((with_reducible apply xldA); exact rfl; exact rfl; exact rfl; exact rfl; exact rfl) | ((with_reducible apply xcallIs); exact rfl; exact rfl; exact c_inRange _ _ _; exact rfl) | simp -implicitDefEqProofs only [go_sem, List.length_map])) | ((with_reducible apply xaw); (first | ((with_reducible apply xstepS); refine AW.step tok rfl ?_) | ((with_reducible apply xstep); refine AW.region tok rfl ?_) | with_reducible (first | refine AW.seq ?_ | refine AW.block ?_ | refine AW.skip ?_ | refine AW.ret ?_ | refine AW.exit ?_) | ((with_reducible apply xcond); exact rfl))) | with_reducible (first | refine xthen ?_ | refine xthen_r ?_ | refine xthen_e ?_ | refine xblock ?_ | refine xblock_r ?_ | refine xblock_e ?_ | refine xblock_n rfl ?_ | refine xround_r ?_ | refine xround_e ?_) | (with_reducible intro hc; (try simp only [hcL, reduceCtorEq, List.length_map] at hc); (try (exfalso; omega))) | with_reducible (first | exact trivial | refine And.intro ?_ ?_ | exact rfl | exact Nat.le_refl _) | exact Eq.refl true | exact (rfl : (_ : List Nat) = _) | exact Nat.le_of_ble_eq_true rfl | (refine inR_i64.mpr ?_; first | omega | (simp only [List.length_map, List.length_map]; omega)) | omega)
      (refine xfinIs (by first | exact .inl rfl | exact .inr rfl) rfl (by repeat' (first | exact trivial | exact rfl | refine And.intro ?_ ?_)) rfl ?_ rfl; first | with_reducible exact rfl | (simp -implicitDefEqProofs only [go_sem, linesOk, hall, Bool.and_true] <;> (first | rfl | omega | exact decide_eq_decide.2 (by omega) | exact decide_eq_false (by omega) | exact decide_eq_true (by omega) | (symm; first | exact decide_eq_false (by omega) | exact decide_eq_true (by omega)) | (rw [Bool.eq_iff_iff]; simp only [boL, reduceCtorEq]; omega))))

end Go.Proofs.Ytagbfbamhfjbaaa

namespace Go.Proofs.Ytagbfbamhfjbaaa
open Go.Fw
attribute [local irreducible] Go.Fw.aops Go.Fw.arun

structure Pack where
  w : Int
  h : Int
  side : Int
  fillX : Bool
  fillY : Bool
  expand : Bool
  anchor : Int
  padX : Int
  padY : Int

@[go_sem] def encPack (p : Pack) : List D := [.int .i64 p.w, .int .i64 p.h, .int .i64 p.side, .bool p.fillX, .bool p.fillY, .bool p.expand, .int .i64 p.anchor, .int .i64 p.padX, .int .i64 p.padY]
@[go_sem] def vPack (p : Pack) : V := .agg ((encPack p).map .d)

def validPack (p : Pack) : Bool := decide (0 ≤ p.w ∧ p.w ≤ 30 ∧ 0 ≤ p.h ∧ p.h ≤ 30 ∧ 0 ≤ p.side ∧ p.side ≤ 3 ∧ 0 ≤ p.anchor ∧ p.anchor ≤ 8 ∧ 0 ≤ p.padX ∧ p.padX ≤ 10 ∧ 0 ≤ p.padY ∧ p.padY ≤ 10)

theorem c_ValidPack (p : Pack) : ACon Try.prog 37 [vPack p] [] (Is (.d (.bool (validPack p)))) := by
  refine ACon.introW tok (nt := 31) Try.func37 rfl rfl rfl (by kernel_rfl) rfl ?_
  repeat' (first | ((with_reducible apply xsim); (first | ((with_reducible apply xo); exact rfl) | with_reducible apply xend | ((with_reducible apply xguardTS); exact rfl; exact rfl) | ((with_reducible apply xguardS); exact rfl; exact rfl) | ((with_reducible apply xbox); exact rfl; simp only [bkL, Nat.reduceAdd, Nat.reduceSub]) | ((with_reducible apply xcallIs); exact rfl; exact rfl; exact c_within _ _ _; exact rfl) | simp -implicitDefEqProofs only [go_sem])) | ((with_reducible apply xaw); (first | ((with_reducible apply xstepS); refine AW.step tok rfl ?_) | ((with_reducible apply xstep); refine AW.region tok rfl ?_) | with_reducible (first | refine AW.seq ?_ | refine AW.block ?_ | refine AW.skip ?_ | refine AW.ret ?_ | refine AW.exit ?_) | ((with_reducible apply xcond); exact rfl))) | with_reducible (first | refine xthen ?_ | refine xthen_r ?_ | refine xthen_e ?_ | refine xblock ?_ | refine xblock_r ?_ | refine xblock_e ?_ | refine xblock_n rfl ?_ | refine xround_r ?_ | refine xround_e ?_) | (with_reducible intro hc; (try simp only [hcL, reduceCtorEq] at hc); (try (exfalso; omega))) | with_reducible (first | exact trivial | refine And.intro ?_ ?_ | exact rfl | exact Nat.le_refl _) | exact Eq.refl true | exact (rfl : (_ : List Nat) = _) | exact Nat.le_of_ble_eq_true rfl | (refine inR_i64.mpr ?_; first | omega | (simp only [List.length_map]; omega)) | omega)
  all_goals (refine xfinIs (by first | exact .inl rfl | exact .inr rfl) rfl (by repeat' (first | exact trivial | exact rfl | refine And.intro ?_ ?_)) rfl ?_ rfl; first | with_reducible exact rfl | (simp -implicitDefEqProofs only [go_sem, validPack] <;> (first | rfl | omega | exact decide_eq_decide.2 (by omega) | exact decide_eq_false (by omega) | exact decide_eq_true (by omega) | (symm; first | exact decide_eq_false (by omega) | exact decide_eq_true (by omega)) | (rw [Bool.eq_iff_iff]; simp only [boL, reduceCtorEq]; omega))))

theorem c_validSide (n : Int) : ACon Try.prog 55 [.d (.int .i64 n)] [] (Is (.d (.bool (decide (0 ≤ n ∧ n ≤ 3))))) := by
  refine ACon.introW tok (nt := 5) Try.func55 rfl rfl rfl (by kernel_rfl) rfl ?_
  repeat' (first | ((with_reducible apply xsim); (first | ((with_reducible apply xo); exact rfl) | with_reducible apply xend | ((with_reducible apply xcallIs); exact rfl; exact rfl; exact c_inRange _ _ _; exact rfl) | simp -implicitDefEqProofs only [go_sem])) | ((with_reducible apply xaw); (first | ((with_reducible apply xstepS); refine AW.step tok rfl ?_) | ((with_reducible apply xstep); refine AW.region tok rfl ?_) | with_reducible (first | refine AW.seq ?_ | refine AW.block ?_ | refine AW.skip ?_ | refine AW.ret ?_ | refine AW.exit ?_) | ((with_reducible apply xcond); exact rfl))) | with_reducible (first | refine xthen ?_ | refine xthen_r ?_ | refine xthen_e ?_ | refine xblock ?_ | refine xblock_r ?_ | refine xblock_e ?_ | refine xblock_n rfl ?_ | refine xround_r ?_ | refine xround_e ?_) | (with_reducible intro hc; (try simp only [hcL, reduceCtorEq] at hc); (try (exfalso; omega))) | with_reducible (first | exact trivial | refine And.intro ?_ ?_ | exact rfl | exact Nat.le_refl _) | exact Eq.refl true | exact (rfl : (_ : List Nat) = _) | exact Nat.le_of_ble_eq_true rfl | (refine inR_i64.mpr ?_; first | omega | (simp only [List.length_map]; omega)) | omega)
  all_goals (refine xfinIs (by first | exact .inl rfl | exact .inr rfl) rfl (by repeat' (first | exact trivial | exact rfl | refine And.intro ?_ ?_)) rfl ?_ rfl; first | with_reducible exact rfl | (simp -implicitDefEqProofs only [go_sem] <;> (first | rfl | omega | exact decide_eq_decide.2 (by omega) | exact decide_eq_false (by omega) | exact decide_eq_true (by omega) | (symm; first | exact decide_eq_false (by omega) | exact decide_eq_true (by omega)) | (rw [Bool.eq_iff_iff]; simp only [boL, reduceCtorEq]; omega))))

theorem c_validAnchor (n : Int) : ACon Try.prog 56 [.d (.int .i64 n)] [] (Is (.d (.bool (decide (0 ≤ n ∧ n ≤ 8))))) := by
  refine ACon.introW tok (nt := 5) Try.func56 rfl rfl rfl (by kernel_rfl) rfl ?_
  repeat' (first | ((with_reducible apply xsim); (first | ((with_reducible apply xo); exact rfl) | with_reducible apply xend | ((with_reducible apply xcallIs); exact rfl; exact rfl; exact c_inRange _ _ _; exact rfl) | simp -implicitDefEqProofs only [go_sem])) | ((with_reducible apply xaw); (first | ((with_reducible apply xstepS); refine AW.step tok rfl ?_) | ((with_reducible apply xstep); refine AW.region tok rfl ?_) | with_reducible (first | refine AW.seq ?_ | refine AW.block ?_ | refine AW.skip ?_ | refine AW.ret ?_ | refine AW.exit ?_) | ((with_reducible apply xcond); exact rfl))) | with_reducible (first | refine xthen ?_ | refine xthen_r ?_ | refine xthen_e ?_ | refine xblock ?_ | refine xblock_r ?_ | refine xblock_e ?_ | refine xblock_n rfl ?_ | refine xround_r ?_ | refine xround_e ?_) | (with_reducible intro hc; (try simp only [hcL, reduceCtorEq] at hc); (try (exfalso; omega))) | with_reducible (first | exact trivial | refine And.intro ?_ ?_ | exact rfl | exact Nat.le_refl _) | exact Eq.refl true | exact (rfl : (_ : List Nat) = _) | exact Nat.le_of_ble_eq_true rfl | (refine inR_i64.mpr ?_; first | omega | (simp only [List.length_map]; omega)) | omega)
  all_goals (refine xfinIs (by first | exact .inl rfl | exact .inr rfl) rfl (by repeat' (first | exact trivial | exact rfl | refine And.intro ?_ ?_)) rfl ?_ rfl; first | with_reducible exact rfl | (simp -implicitDefEqProofs only [go_sem] <;> (first | rfl | omega | exact decide_eq_decide.2 (by omega) | exact decide_eq_false (by omega) | exact decide_eq_true (by omega) | (symm; first | exact decide_eq_false (by omega) | exact decide_eq_true (by omega)) | (rw [Bool.eq_iff_iff]; simp only [boL, reduceCtorEq]; omega))))

theorem c_validPack (p : Pack) : ACon Try.prog 50 [vPack p] [] (Is (.d (.bool (validPack p)))) := by
  refine ACon.introW tok (nt := 31) Try.func50 rfl rfl rfl (by kernel_rfl) rfl ?_
  repeat' (first | ((with_reducible apply xsim); (first | ((with_reducible apply xo); exact rfl) | with_reducible apply xend | ((with_reducible apply xguardTS); exact rfl; exact rfl) | ((with_reducible apply xguardS); exact rfl; exact rfl) | ((with_reducible apply xbox); exact rfl; simp only [bkL, Nat.reduceAdd, Nat.reduceSub]) | ((with_reducible apply xcallIs); exact rfl; exact rfl; (first | exact c_inRange _ _ _ | exact c_validSide _ | exact c_validAnchor _); exact rfl) | simp -implicitDefEqProofs only [go_sem])) | ((with_reducible apply xaw); (first | ((with_reducible apply xstepS); refine AW.step tok rfl ?_) | ((with_reducible apply xstep); refine AW.region tok rfl ?_) | with_reducible (first | refine AW.seq ?_ | refine AW.block ?_ | refine AW.skip ?_ | refine AW.ret ?_ | refine AW.exit ?_) | ((with_reducible apply xcond); exact rfl))) | with_reducible (first | refine xthen ?_ | refine xthen_r ?_ | refine xthen_e ?_ | refine xblock ?_ | refine xblock_r ?_ | refine xblock_e ?_ | refine xblock_n rfl ?_ | refine xround_r ?_ | refine xround_e ?_) | (with_reducible intro hc; (try simp only [hcL, reduceCtorEq] at hc); (try (exfalso; omega))) | with_reducible (first | exact trivial | refine And.intro ?_ ?_ | exact rfl | exact Nat.le_refl _) | exact Eq.refl true | exact (rfl : (_ : List Nat) = _) | exact Nat.le_of_ble_eq_true rfl | (refine inR_i64.mpr ?_; first | omega | (simp only [List.length_map]; omega)) | omega)
  all_goals (refine xfinIs (by first | exact .inl rfl | exact .inr rfl) rfl (by repeat' (first | exact trivial | exact rfl | refine And.intro ?_ ?_)) rfl ?_ rfl; first | with_reducible exact rfl | (simp -implicitDefEqProofs only [go_sem, validPack] <;> (first | rfl | omega | exact decide_eq_decide.2 (by omega) | exact decide_eq_false (by omega) | exact decide_eq_true (by omega) | (symm; first | exact decide_eq_false (by omega) | exact decide_eq_true (by omega)) | (rw [Bool.eq_iff_iff]; simp only [boL, reduceCtorEq]; omega))))

end Go.Proofs.Ytagbfbamhfjbaaa

namespace Go.Proofs.Ytagbfbamhfjbaaa
open Go.Fw

def down (p : Pack) : Bool := decide (p.side = 0 ∨ p.side = 1)
def needW (p : Pack) : Int := p.w + 2 * p.padX
def needH (p : Pack) : Int := p.h + 2 * p.padY
def need (p : Pack) (d : Bool) : Int := if d then needH p else needW p

end Go.Proofs.Ytagbfbamhfjbaaa

namespace Go.Proofs.Ytagbfbamhfjbaaa
open Go.Fw

structure Place where
  x : Int
  y : Int
  relX : Int
  relY : Int
  w : Int
  h : Int
  relW : Int
  relH : Int
  anchor : Int
@[go_sem] def encPlace (p : Place) : List D := [.int .i64 p.x, .int .i64 p.y, .int .i64 p.relX, .int .i64 p.relY, .int .i64 p.w, .int .i64 p.h, .int .i64 p.relW, .int .i64 p.relH, .int .i64 p.anchor]
@[go_sem] def vPlace (p : Place) : V := .agg ((encPlace p).map .d)
structure Node where
  parent : Int
  w : Int
  h : Int
  keep : Bool
  kind : Int
  cols : List Line
  rows : List Line
  pack : Pack
  cell : Cell
  place : Place
@[go_sem] def encNode (n : Node) : List D := .int .i64 n.parent :: .int .i64 n.w :: .int .i64 n.h :: .bool n.keep :: .int .i64 n.kind :: .lst (n.cols.map encLine) :: .lst (n.rows.map encLine) :: [
  .int .i64 n.pack.w, .int .i64 n.pack.h, .int .i64 n.pack.side, .bool n.pack.fillX, .bool n.pack.fillY, .bool n.pack.expand, .int .i64 n.pack.anchor, .int .i64 n.pack.padX, .int .i64 n.pack.padY,
  .int .i64 n.cell.col, .int .i64 n.cell.row, .int .i64 n.cell.manyCols, .int .i64 n.cell.manyRows, .int .i64 n.cell.w, .int .i64 n.cell.h, .int .i64 n.cell.stick, .int .i64 n.cell.padX, .int .i64 n.cell.padY,
  .int .i64 n.place.x, .int .i64 n.place.y, .int .i64 n.place.relX, .int .i64 n.place.relY, .int .i64 n.place.w, .int .i64 n.place.h, .int .i64 n.place.relW, .int .i64 n.place.relH, .int .i64 n.place.anchor]
@[go_sem] def vNode (n : Node) : V := .agg ((encNode n).map .d)
@[go_sem] def encTree (t : List Node) : List D := [.lst (t.map encNode)]
@[go_sem] def vTree (t : List Node) : V := .agg ((encTree t).map .d)

def validPlace (p : Place) : Bool := decide (-300 ≤ p.x ∧ p.x ≤ 300 ∧ -300 ≤ p.y ∧ p.y ≤ 300 ∧ 0 ≤ p.relX ∧ p.relX ≤ 1000 ∧ 0 ≤ p.relY ∧ p.relY ≤ 1000 ∧ -300 ≤ p.w ∧ p.w ≤ 300 ∧ -300 ≤ p.h ∧ p.h ≤ 300 ∧ 0 ≤ p.relW ∧ p.relW ≤ 1000 ∧ 0 ≤ p.relH ∧ p.relH ≤ 1000 ∧ 0 ≤ p.anchor ∧ p.anchor ≤ 8)
/-- A node by itself. -/
def nodeOk (n : Node) : Bool := decide (0 ≤ n.w ∧ n.w ≤ 30 ∧ 0 ≤ n.h ∧ n.h ≤ 30 ∧ 0 ≤ n.kind ∧ n.kind ≤ 2) && validPack n.pack && decide (n.pack.w = 0 ∧ n.pack.h = 0) && validPlace n.place && decide (n.cell.w = 0 ∧ n.cell.h = 0) &&
  if n.kind = 1 then linesOk n.cols && linesOk n.rows else decide (n.cols.length = 0 ∧ n.rows.length = 0)
/-- A node and its parent. -/
def upOk (t : List Node) (i : Nat) (n : Node) : Bool :=
  if i = 0 then decide (n.parent = -1)
  else decide (0 ≤ n.parent ∧ n.parent ≤ (i : Int) - 1) && match t[n.parent.toNat]? with
    | some u => if u.kind = 1 then lies n.cell u.cols.length u.rows.length else true
    | none => true
def treeOk (t : List Node) : Bool := decide (1 ≤ t.length ∧ t.length ≤ 10) && (List.range t.length).all fun i => match t[i]? with
  | some n => nodeOk n && upOk t i n
  | none => true
end Go.Proofs.Ytagbfbamhfjbaaa

namespace Go.Proofs.Ytagbfbamhfjbaaa
open Go.Fw
attribute [local irreducible] Go.Fw.aops Go.Fw.arun

theorem gridNil {w : World} {ok : Nat → Prop} {ρ : List (Option Nat)} {x y : V} {v : Value} (h : VRep w ok ρ (.agg [x, y, .nils]) v) : VRep w ok ρ (.agg [x, y, .d (.lst [])]) v := by
  cases h with
  | agg hn h =>
    refine .agg hn fun i c hi => ?_
    match i with
    | 0 => exact h 0 c hi
    | 1 => exact h 1 c hi
    | 2 =>
      obtain rfl : V.d (.lst []) = c := by simpa using hi
      have := h 2 .nils rfl
      generalize Array.getD _ 2 undef = u at this ⊢
      cases this
      exact .d .nil
    | n + 3 => simp at hi
theorem gridNil1 {P : Program} {f : Nat} {a x y : V} {Q : V → List O → Prop} (h : ACon P f [a, .agg [x, y, .d (.lst [])]] [] Q) : ACon P f [a, .agg [x, y, .nils]] [] Q := by
  refine ⟨h.1, fun w ok ρ vs hI hs hv => h.2 w ok ρ vs hI hs fun i c hx => ?_⟩
  match i with
  | 0 => exact hv 0 c (by simpa using hx)
  | 1 =>
    obtain rfl : V.agg [x, y, .d (.lst [])] = c := by simpa using hx
    exact gridNil (hv 1 _ rfl)
  | n + 2 => simp at hx
theorem gridNil0 {P : Program} {f : Nat} {a x y : V} {Q : V → List O → Prop} (h : ACon P f [.agg [x, y, .d (.lst [])], a] [] Q) : ACon P f [.agg [x, y, .nils], a] [] Q := by
  refine ⟨h.1, fun w ok ρ vs hI hs hv => h.2 w ok ρ vs hI hs fun i c hx => ?_⟩
  match i with
  | 0 =>
    obtain rfl : V.agg [x, y, .d (.lst [])] = c := by simpa using hx
    exact gridNil (hv 0 _ rfl)
  | 1 => exact hv 1 c (by simpa using hx)
  | n + 2 => simp at hx

theorem c_liesN (c : Cell) (xs ys : List Line) (h1 : xs.length < 2^40) (h2 : ys.length < 2^40) : ACon Try.prog 26 [vCell c, .agg [.d (.lst (xs.map encLine)), .d (.lst (ys.map encLine)), .nils]] [] (Is (.d (.bool (lies c xs.length ys.length)))) :=
  gridNil1 (c_lies c ⟨xs, ys, []⟩ h1 h2)
theorem c_validCellN (c : Cell) (xs ys : List Line) (h1 : xs.length < 2^40) (h2 : ys.length < 2^40) : ACon Try.prog 53 [.agg [.d (.lst (xs.map encLine)), .d (.lst (ys.map encLine)), .nils], vCell c] [] (Is (.d (.bool (cellOk c xs.length ys.length)))) :=
  gridNil0 (c_validCell c ⟨xs, ys, []⟩ h1 h2)

theorem c_validPlace (p : Place) : ACon Try.prog 51 [vPlace p] [] (Is (.d (.bool (validPlace p)))) := by
  refine ACon.introW tok (nt := 46) Try.func51 rfl rfl rfl (by kernel_rfl) rfl ?_
  repeat' (first | ((with_reducible apply xsim); (first | ((with_reducible apply xo); exact rfl) | with_reducible apply xend | ((with_reducible apply xguardTS); exact rfl; exact rfl) | ((with_reducible apply xguardS); exact rfl; exact rfl) | ((with_reducible apply xbox); exact rfl; simp only [bkL, Nat.reduceAdd, Nat.reduceSub]) | ((with_reducible apply xcallIs); exact rfl; exact rfl; (first | exact c_inRange _ _ _ | exact c_validAnchor _); exact rfl) | simp -implicitDefEqProofs only [go_sem])) | ((with_reducible apply xaw); (first | ((with_reducible apply xstepS); refine AW.step tok rfl ?_) | ((with_reducible apply xstep); refine AW.region tok rfl ?_) | with_reducible (first | refine AW.seq ?_ | refine AW.block ?_ | refine AW.skip ?_ | refine AW.ret ?_ | refine AW.exit ?_) | ((with_reducible apply xcond); exact rfl))) | with_reducible (first | refine xthen ?_ | refine xthen_r ?_ | refine xthen_e ?_ | refine xblock ?_ | refine xblock_r ?_ | refine xblock_e ?_ | refine xblock_n rfl ?_ | refine xround_r ?_ | refine xround_e ?_) | (with_reducible intro hc; (try simp only [hcL, reduceCtorEq] at hc); (try (exfalso; omega))) | with_reducible (first | exact trivial | refine And.intro ?_ ?_ | exact rfl | exact Nat.le_refl _) | exact Eq.refl true | exact (rfl : (_ : List Nat) = _) | exact Nat.le_of_ble_eq_true rfl | (refine inR_i64.mpr ?_; first | omega | (simp only [List.length_map]; omega)) | omega)
  all_goals (refine xfinIs (by first | exact .inl rfl | exact .inr rfl) rfl (by repeat' (first | exact trivial | exact rfl | refine And.intro ?_ ?_)) rfl ?_ rfl; first | with_reducible exact rfl | (simp -implicitDefEqProofs only [go_sem, validPlace] <;> (first | rfl | omega | exact decide_eq_decide.2 (by omega) | exact decide_eq_false (by omega) | exact decide_eq_true (by omega) | (symm; first | exact decide_eq_false (by omega) | exact decide_eq_true (by omega)) | (rw [Bool.eq_iff_iff]; simp only [boL, reduceCtorEq]; omega))))

set_option maxHeartbeats 4000000 in
theorem c_ValidPlace (p : Place) : ACon Try.prog 38 [vPlace p] [] (Is (.d (.bool (validPlace p)))) := by
  refine ACon.introW tok (nt := 46) Try.func38 rfl rfl rfl (by kernel_rfl) rfl ?_
  repeat' (first | ((with_reducible apply xsim); (first | ((with_reducible apply xlenM); exact rfl; exact rfl) | ((with_reducible apply xo); exact rfl) | with_reducible apply xend | ((with_reducible apply xbox); exact rfl; simp only [bkL, Nat.reduceAdd, Nat.reduceSub]) | ((with_reducible apply xbuild); exact rfl; exact rfl; exact rfl; exact rfl; exact rfl; simp only [bkL, Nat.reduceAdd, Nat.reduceSub]) | ((with_reducible apply xidxL); exact rfl; exact rfl; exact rfl; exact rfl; omega; first | exact rfl | simp only [hsz]) | ((with_reducible apply xidxM); exact rfl; exact rfl; exact rfl; omega; omega; exact rfl) | ((with_reducible apply xldA); exact rfl; exact rfl; exact rfl; exact rfl; exact rfl) | ((with_reducible apply xcallIs); exact rfl; exact rfl; exact c_within _ _ _; exact rfl) | simp -implicitDefEqProofs only [go_sem])) | ((with_reducible apply xaw); (first | ((with_reducible apply xstepS); refine AW.step tok rfl ?_) | ((with_reducible apply xstep); refine AW.region tok rfl ?_) | with_reducible (first | refine AW.seq ?_ | refine AW.block ?_ | refine AW.skip ?_ | refine AW.ret ?_ | refine AW.exit ?_) | ((with_reducible apply xcond); exact rfl))) | with_reducible (first | refine xthen ?_ | refine xthen_r ?_ | refine xthen_e ?_ | refine xblock ?_ | refine xblock_r ?_ | refine xblock_e ?_ | refine xblock_n rfl ?_ | refine xround_r ?_ | refine xround_e ?_) | (with_reducible intro hc; (try simp only [hcL, reduceCtorEq] at hc); (try (exfalso; omega))) | with_reducible (first | exact trivial | refine And.intro ?_ ?_ | exact rfl | exact Nat.le_refl _) | exact Eq.refl true | exact (rfl : (_ : List Nat) = _) | exact Nat.le_of_ble_eq_true rfl | (refine inR_i64.mpr ?_; first | omega | (simp only [List.length_map]; omega)) | omega)
  refine AW.loop (S := fun k : Nat => ⟨[(1, .oref 0 0), (15, .msl 1 1 0 4), (16, .d (.int .i64 4)), (17, .d (.int .i64 k))], [.box ((encPlace p).map .d), .arr 1 [[.int .i64 p.x], [.int .i64 p.y], [.int .i64 p.w], [.int .i64 p.h]]], 46, .p 0⟩)
    (Pre := fun k => k ≤ 4 ∧ (1 ≤ k → -300 ≤ p.x ∧ p.x ≤ 300) ∧ (2 ≤ k → -300 ≤ p.y ∧ p.y ≤ 300) ∧ (3 ≤ k → -300 ≤ p.w ∧ p.w ≤ 300) ∧ (4 ≤ k → -300 ≤ p.h ∧ p.h ≤ 300)) (μ := fun k => 4 - k) 0 (by omega) ?_ ?_
  · (refine xwk (π := [0, 1]) (by decide) rfl ?_ ?_; (first | exact trivial | simp -implicitDefEqProofs only [go_sem]); repeat' (first | exact renE_n | ((with_reducible apply renE_c); exact rfl; focus (first | with_reducible exact rfl | (simp -implicitDefEqProofs only [go_sem]; done) | (simp -implicitDefEqProofs only [go_sem]; omega)))))
  rintro k ⟨hk, a1, a2, a3, a4⟩
  obtain rfl | rfl | rfl | rfl | rfl : k = 0 ∨ k = 1 ∨ k = 2 ∨ k = 3 ∨ k = 4 := by omega
  · repeat' (first | ((with_reducible apply xsim); (first | ((with_reducible apply xlenM); exact rfl; exact rfl) | ((with_reducible apply xo); exact rfl) | with_reducible apply xend | ((with_reducible apply xbox); exact rfl; simp only [bkL, Nat.reduceAdd, Nat.reduceSub]) | ((with_reducible apply xbuild); exact rfl; exact rfl; exact rfl; exact rfl; exact rfl; simp only [bkL, Nat.reduceAdd, Nat.reduceSub]) | ((with_reducible apply xidxL); exact rfl; exact rfl; exact rfl; exact rfl; omega; first | exact rfl | simp only [hsz]) | ((with_reducible apply xidxM); exact rfl; exact rfl; exact rfl; omega; omega; exact rfl) | ((with_reducible apply xldA); exact rfl; exact rfl; exact rfl; exact rfl; exact rfl) | ((with_reducible apply xcallIs); exact rfl; exact rfl; exact c_within _ _ _; exact rfl) | simp -implicitDefEqProofs only [go_sem])) | ((with_reducible apply xaw); (first | ((with_reducible apply xstepS); refine AW.step tok rfl ?_) | ((with_reducible apply xstep); refine AW.region tok rfl ?_) | with_reducible (first | refine AW.seq ?_ | refine AW.block ?_ | refine AW.skip ?_ | refine AW.ret ?_ | refine AW.exit ?_) | ((with_reducible apply xcond); exact rfl))) | with_reducible (first | refine xthen ?_ | refine xthen_r ?_ | refine xthen_e ?_ | refine xblock ?_ | refine xblock_r ?_ | refine xblock_e ?_ | refine xblock_n rfl ?_ | refine xround_r ?_ | refine xround_e ?_) | (with_reducible intro hc; (try simp only [hcL, reduceCtorEq] at hc); (try (exfalso; omega))) | with_reducible (first | exact trivial | refine And.intro ?_ ?_ | exact rfl | exact Nat.le_refl _) | exact Eq.refl true | exact (rfl : (_ : List Nat) = _) | exact Nat.le_of_ble_eq_true rfl | (refine inR_i64.mpr ?_; first | omega | (simp only [List.length_map]; omega)) | omega)
    · (refine xfinIs (by first | exact .inl rfl | exact .inr rfl) rfl (by repeat' (first | exact trivial | exact rfl | refine And.intro ?_ ?_)) rfl ?_ rfl; first | with_reducible exact rfl | (simp -implicitDefEqProofs only [go_sem, validPlace] <;> (first | rfl | omega | exact decide_eq_decide.2 (by omega) | exact decide_eq_false (by omega) | exact decide_eq_true (by omega) | (symm; first | exact decide_eq_false (by omega) | exact decide_eq_true (by omega)) | (rw [Bool.eq_iff_iff]; simp only [boL, reduceCtorEq]; omega))))
    · exact round_end 1 (by omega) (by omega) (by (refine xwk (π := [0, 1]) (by decide) rfl ?_ ?_; (first | exact trivial | simp -implicitDefEqProofs only [go_sem]); repeat' (first | exact renE_n | ((with_reducible apply renE_c); exact rfl; focus (first | with_reducible exact rfl | (simp -implicitDefEqProofs only [go_sem]; done) | (simp -implicitDefEqProofs only [go_sem]; omega))))))
  · repeat' (first | ((with_reducible apply xsim); (first | ((with_reducible apply xlenM); exact rfl; exact rfl) | ((with_reducible apply xo); exact rfl) | with_reducible apply xend | ((with_reducible apply xbox); exact rfl; simp only [bkL, Nat.reduceAdd, Nat.reduceSub]) | ((with_reducible apply xbuild); exact rfl; exact rfl; exact rfl; exact rfl; exact rfl; simp only [bkL, Nat.reduceAdd, Nat.reduceSub]) | ((with_reducible apply xidxL); exact rfl; exact rfl; exact rfl; exact rfl; omega; first | exact rfl | simp only [hsz]) | ((with_reducible apply xidxM); exact rfl; exact rfl; exact rfl; omega; omega; exact rfl) | ((with_reducible apply xldA); exact rfl; exact rfl; exact rfl; exact rfl; exact rfl) | ((with_reducible apply xcallIs); exact rfl; exact rfl; exact c_within _ _ _; exact rfl) | simp -implicitDefEqProofs only [go_sem])) | ((with_reducible apply xaw); (first | ((with_reducible apply xstepS); refine AW.step tok rfl ?_) | ((with_reducible apply xstep); refine AW.region tok rfl ?_) | with_reducible (first | refine AW.seq ?_ | refine AW.block ?_ | refine AW.skip ?_ | refine AW.ret ?_ | refine AW.exit ?_) | ((with_reducible apply xcond); exact rfl))) | with_reducible (first | refine xthen ?_ | refine xthen_r ?_ | refine xthen_e ?_ | refine xblock ?_ | refine xblock_r ?_ | refine xblock_e ?_ | refine xblock_n rfl ?_ | refine xround_r ?_ | refine xround_e ?_) | (with_reducible intro hc; (try simp only [hcL, reduceCtorEq] at hc); (try (exfalso; omega))) | with_reducible (first | exact trivial | refine And.intro ?_ ?_ | exact rfl | exact Nat.le_refl _) | exact Eq.refl true | exact (rfl : (_ : List Nat) = _) | exact Nat.le_of_ble_eq_true rfl | (refine inR_i64.mpr ?_; first | omega | (simp only [List.length_map]; omega)) | omega)
    · (refine xfinIs (by first | exact .inl rfl | exact .inr rfl) rfl (by repeat' (first | exact trivial | exact rfl | refine And.intro ?_ ?_)) rfl ?_ rfl; first | with_reducible exact rfl | (simp -implicitDefEqProofs only [go_sem, validPlace] <;> (first | rfl | omega | exact decide_eq_decide.2 (by omega) | exact decide_eq_false (by omega) | exact decide_eq_true (by omega) | (symm; first | exact decide_eq_false (by omega) | exact decide_eq_true (by omega)) | (rw [Bool.eq_iff_iff]; simp only [boL, reduceCtorEq]; omega))))
    · exact round_end 2 (by omega) (by omega) (by (refine xwk (π := [0, 1]) (by decide) rfl ?_ ?_; (first | exact trivial | simp -implicitDefEqProofs only [go_sem]); repeat' (first | exact renE_n | ((with_reducible apply renE_c); exact rfl; focus (first | with_reducible exact rfl | (simp -implicitDefEqProofs only [go_sem]; done) | (simp -implicitDefEqProofs only [go_sem]; omega))))))
  · repeat' (first | ((with_reducible apply xsim); (first | ((with_reducible apply xlenM); exact rfl; exact rfl) | ((with_reducible apply xo); exact rfl) | with_reducible apply xend | ((with_reducible apply xbox); exact rfl; simp only [bkL, Nat.reduceAdd, Nat.reduceSub]) | ((with_reducible apply xbuild); exact rfl; exact rfl; exact rfl; exact rfl; exact rfl; simp only [bkL, Nat.reduceAdd, Nat.reduceSub]) | ((with_reducible apply xidxL); exact rfl; exact rfl; exact rfl; exact rfl; omega; first | exact rfl | simp only [hsz]) | ((with_reducible apply xidxM); exact rfl; exact rfl; exact rfl; omega; omega; exact rfl) | ((with_reducible apply xldA); exact rfl; exact rfl; exact rfl; exact rfl; exact rfl) | ((with_reducible apply xcallIs); exact rfl; exact rfl; exact c_within _ _ _; exact rfl) | simp -implicitDefEqProofs only [go_sem])) | ((with_reducible apply xaw); (first | ((with_reducible apply xstepS); refine AW.step tok rfl ?_) | ((with_reducible apply xstep); refine AW.region tok rfl ?_) | with_reducible (first | refine AW.seq ?_ | refine AW.block ?_ | refine AW.skip ?_ | refine AW.ret ?_ | refine AW.exit ?_) | ((with_reducible apply xcond); exact rfl))) | with_reducible (first | refine xthen ?_ | refine xthen_r ?_ | refine xthen_e ?_ | refine xblock ?_ | refine xblock_r ?_ | refine xblock_e ?_ | refine xblock_n rfl ?_ | refine xround_r ?_ | refine xround_e ?_) | (with_reducible intro hc; (try simp only [hcL, reduceCtorEq] at hc); (try (exfalso; omega))) | with_reducible (first | exact trivial | refine And.intro ?_ ?_ | exact rfl | exact Nat.le_refl _) | exact Eq.refl true | exact (rfl : (_ : List Nat) = _) | exact Nat.le_of_ble_eq_true rfl | (refine inR_i64.mpr ?_; first | omega | (simp only [List.length_map]; omega)) | omega)
    · (refine xfinIs (by first | exact .inl rfl | exact .inr rfl) rfl (by repeat' (first | exact trivial | exact rfl | refine And.intro ?_ ?_)) rfl ?_ rfl; first | with_reducible exact rfl | (simp -implicitDefEqProofs only [go_sem, validPlace] <;> (first | rfl | omega | exact decide_eq_decide.2 (by omega) | exact decide_eq_false (by omega) | exact decide_eq_true (by omega) | (symm; first | exact decide_eq_false (by omega) | exact decide_eq_true (by omega)) | (rw [Bool.eq_iff_iff]; simp only [boL, reduceCtorEq]; omega))))
    · exact round_end 3 (by omega) (by omega) (by (refine xwk (π := [0, 1]) (by decide) rfl ?_ ?_; (first | exact trivial | simp -implicitDefEqProofs only [go_sem]); repeat' (first | exact renE_n | ((with_reducible apply renE_c); exact rfl; focus (first | with_reducible exact rfl | (simp -implicitDefEqProofs only [go_sem]; done) | (simp -implicitDefEqProofs only [go_sem]; omega))))))
  · repeat' (first | ((with_reducible apply xsim); (first | ((with_reducible apply xlenM); exact rfl; exact rfl) | ((with_reducible apply xo); exact rfl) | with_reducible apply xend | ((with_reducible apply xbox); exact rfl; simp only [bkL, Nat.reduceAdd, Nat.reduceSub]) | ((with_reducible apply xbuild); exact rfl; exact rfl; exact rfl; exact rfl; exact rfl; simp only [bkL, Nat.reduceAdd, Nat.reduceSub]) | ((with_reducible apply xidxL); exact rfl; exact rfl; exact rfl; exact rfl; omega; first | exact rfl | simp only [hsz]) | ((with_reducible apply xidxM); exact rfl; exact rfl; exact rfl; omega; omega; exact rfl) | ((with_reducible apply xldA); exact rfl; exact rfl; exact rfl; exact rfl; exact rfl) | ((with_reducible apply xcallIs); exact rfl; exact rfl; exact c_within _ _ _; exact rfl) | simp -implicitDefEqProofs only [go_sem])) | ((with_reducible apply xaw); (first | ((with_reducible apply xstepS); refine AW.step tok rfl ?_) | ((with_reducible apply xstep); refine AW.region tok rfl ?_) | with_reducible (first | refine AW.seq ?_ | refine AW.block ?_ | refine AW.skip ?_ | refine AW.ret ?_ | refine AW.exit ?_) | ((with_reducible apply xcond); exact rfl))) | with_reducible (first | refine xthen ?_ | refine xthen_r ?_ | refine xthen_e ?_ | refine xblock ?_ | refine xblock_r ?_ | refine xblock_e ?_ | refine xblock_n rfl ?_ | refine xround_r ?_ | refine xround_e ?_) | (with_reducible intro hc; (try simp only [hcL, reduceCtorEq] at hc); (try (exfalso; omega))) | with_reducible (first | exact trivial | refine And.intro ?_ ?_ | exact rfl | exact Nat.le_refl _) | exact Eq.refl true | exact (rfl : (_ : List Nat) = _) | exact Nat.le_of_ble_eq_true rfl | (refine inR_i64.mpr ?_; first | omega | (simp only [List.length_map]; omega)) | omega)
    · (refine xfinIs (by first | exact .inl rfl | exact .inr rfl) rfl (by repeat' (first | exact trivial | exact rfl | refine And.intro ?_ ?_)) rfl ?_ rfl; first | with_reducible exact rfl | (simp -implicitDefEqProofs only [go_sem, validPlace] <;> (first | rfl | omega | exact decide_eq_decide.2 (by omega) | exact decide_eq_false (by omega) | exact decide_eq_true (by omega) | (symm; first | exact decide_eq_false (by omega) | exact decide_eq_true (by omega)) | (rw [Bool.eq_iff_iff]; simp only [boL, reduceCtorEq]; omega))))
    · exact round_end 4 (by omega) (by omega) (by (refine xwk (π := [0, 1]) (by decide) rfl ?_ ?_; (first | exact trivial | simp -implicitDefEqProofs only [go_sem]); repeat' (first | exact renE_n | ((with_reducible apply renE_c); exact rfl; focus (first | with_reducible exact rfl | (simp -implicitDefEqProofs only [go_sem]; done) | (simp -implicitDefEqProofs only [go_sem]; omega))))))
  have b1 := a1 (by omega); have b2 := a2 (by omega); have b3 := a3 (by omega); have b4 := a4 (by omega)
  repeat' (first | ((with_reducible apply xsim); (first | ((with_reducible apply xlenM); exact rfl; exact rfl) | ((with_reducible apply xo); exact rfl) | with_reducible apply xend | ((with_reducible apply xbox); exact rfl; simp only [bkL, Nat.reduceAdd, Nat.reduceSub]) | ((with_reducible apply xbuild); exact rfl; exact rfl; exact rfl; exact rfl; exact rfl; simp only [bkL, Nat.reduceAdd, Nat.reduceSub]) | ((with_reducible apply xidxL); exact rfl; exact rfl; exact rfl; exact rfl; omega; first | exact rfl | simp only [hsz]) | ((with_reducible apply xidxM); exact rfl; exact rfl; exact rfl; omega; omega; exact rfl) | ((with_reducible apply xldA); exact rfl; exact rfl; exact rfl; exact rfl; exact rfl) | ((with_reducible apply xcallIs); exact rfl; exact rfl; exact c_within _ _ _; exact rfl) | simp -implicitDefEqProofs only [go_sem])) | ((with_reducible apply xaw); (first | ((with_reducible apply xstepS); refine AW.step tok rfl ?_) | ((with_reducible apply xstep); refine AW.region tok rfl ?_) | with_reducible (first | refine AW.seq ?_ | refine AW.block ?_ | refine AW.skip ?_ | refine AW.ret ?_ | refine AW.exit ?_) | ((with_reducible apply xcond); exact rfl))) | with_reducible (first | refine xthen ?_ | refine xthen_r ?_ | refine xthen_e ?_ | refine xblock ?_ | refine xblock_r ?_ | refine xblock_e ?_ | refine xblock_n rfl ?_ | refine xround_r ?_ | refine xround_e ?_) | (with_reducible intro hc; (try simp only [hcL, reduceCtorEq] at hc); (try (exfalso; omega))) | with_reducible (first | exact trivial | refine And.intro ?_ ?_ | exact rfl | exact Nat.le_refl _) | exact Eq.refl true | exact (rfl : (_ : List Nat) = _) | exact Nat.le_of_ble_eq_true rfl | (refine inR_i64.mpr ?_; first | omega | (simp only [List.length_map]; omega)) | omega)
  refine AW.loop (S := fun k : Nat => ⟨[(1, .oref 0 0), (33, .msl 1 1 0 4), (34, .d (.int .i64 4)), (35, .d (.int .i64 k))], [.box ((encPlace p).map .d), .arr 1 [[.int .i64 p.relX], [.int .i64 p.relY], [.int .i64 p.relW], [.int .i64 p.relH]]], 46, .p 0⟩)
    (Pre := fun k => k ≤ 4 ∧ (1 ≤ k → 0 ≤ p.relX ∧ p.relX ≤ 1000) ∧ (2 ≤ k → 0 ≤ p.relY ∧ p.relY ≤ 1000) ∧ (3 ≤ k → 0 ≤ p.relW ∧ p.relW ≤ 1000) ∧ (4 ≤ k → 0 ≤ p.relH ∧ p.relH ≤ 1000)) (μ := fun k => 4 - k) 0 (by omega) ?_ ?_
  · (refine xwk (π := [0, 2]) (by decide) rfl ?_ ?_; (first | exact trivial | simp -implicitDefEqProofs only [go_sem]); repeat' (first | exact renE_n | ((with_reducible apply renE_c); exact rfl; focus (first | with_reducible exact rfl | (simp -implicitDefEqProofs only [go_sem]; done) | (simp -implicitDefEqProofs only [go_sem]; omega)))))
  rintro k ⟨hk, c1, c2, c3, c4⟩
  obtain rfl | rfl | rfl | rfl | rfl : k = 0 ∨ k = 1 ∨ k = 2 ∨ k = 3 ∨ k = 4 := by omega
  · repeat' (first | ((with_reducible apply xsim); (first | ((with_reducible apply xlenM); exact rfl; exact rfl) | ((with_reducible apply xo); exact rfl) | with_reducible apply xend | ((with_reducible apply xbox); exact rfl; simp only [bkL, Nat.reduceAdd, Nat.reduceSub]) | ((with_reducible apply xbuild); exact rfl; exact rfl; exact rfl; exact rfl; exact rfl; simp only [bkL, Nat.reduceAdd, Nat.reduceSub]) | ((with_reducible apply xidxL); exact rfl; exact rfl; exact rfl; exact rfl; omega; first | exact rfl | simp only [hsz]) | ((with_reducible apply xidxM); exact rfl; exact rfl; exact rfl; omega; omega; exact rfl) | ((with_reducible apply xldA); exact rfl; exact rfl; exact rfl; exact rfl; exact rfl) | ((with_reducible apply xcallIs); exact rfl; exact rfl; exact c_within _ _ _; exact rfl) | simp -implicitDefEqProofs only [go_sem])) | ((with_reducible apply xaw); (first | ((with_reducible apply xstepS); refine AW.step tok rfl ?_) | ((with_reducible apply xstep); refine AW.region tok rfl ?_) | with_reducible (first | refine AW.seq ?_ | refine AW.block ?_ | refine AW.skip ?_ | refine AW.ret ?_ | refine AW.exit ?_) | ((with_reducible apply xcond); exact rfl))) | with_reducible (first | refine xthen ?_ | refine xthen_r ?_ | refine xthen_e ?_ | refine xblock ?_ | refine xblock_r ?_ | refine xblock_e ?_ | refine xblock_n rfl ?_ | refine xround_r ?_ | refine xround_e ?_) | (with_reducible intro hc; (try simp only [hcL, reduceCtorEq] at hc); (try (exfalso; omega))) | with_reducible (first | exact trivial | refine And.intro ?_ ?_ | exact rfl | exact Nat.le_refl _) | exact Eq.refl true | exact (rfl : (_ : List Nat) = _) | exact Nat.le_of_ble_eq_true rfl | (refine inR_i64.mpr ?_; first | omega | (simp only [List.length_map]; omega)) | omega)
    · (refine xfinIs (by first | exact .inl rfl | exact .inr rfl) rfl (by repeat' (first | exact trivial | exact rfl | refine And.intro ?_ ?_)) rfl ?_ rfl; first | with_reducible exact rfl | (simp -implicitDefEqProofs only [go_sem, validPlace] <;> (first | rfl | omega | exact decide_eq_decide.2 (by omega) | exact decide_eq_false (by omega) | exact decide_eq_true (by omega) | (symm; first | exact decide_eq_false (by omega) | exact decide_eq_true (by omega)) | (rw [Bool.eq_iff_iff]; simp only [boL, reduceCtorEq]; omega))))
    · exact round_end 1 (by omega) (by omega) (by (refine xwk (π := [0, 1]) (by decide) rfl ?_ ?_; (first | exact trivial | simp -implicitDefEqProofs only [go_sem]); repeat' (first | exact renE_n | ((with_reducible apply renE_c); exact rfl; focus (first | with_reducible exact rfl | (simp -implicitDefEqProofs only [go_sem]; done) | (simp -implicitDefEqProofs only [go_sem]; omega))))))
  · repeat' (first | ((with_reducible apply xsim); (first | ((with_reducible apply xlenM); exact rfl; exact rfl) | ((with_reducible apply xo); exact rfl) | with_reducible apply xend | ((with_reducible apply xbox); exact rfl; simp only [bkL, Nat.reduceAdd, Nat.reduceSub]) | ((with_reducible apply xbuild); exact rfl; exact rfl; exact rfl; exact rfl; exact rfl; simp only [bkL, Nat.reduceAdd, Nat.reduceSub]) | ((with_reducible apply xidxL); exact rfl; exact rfl; exact rfl; exact rfl; omega; first | exact rfl | simp only [hsz]) | ((with_reducible apply xidxM); exact rfl; exact rfl; exact rfl; omega; omega; exact rfl) | ((with_reducible apply xldA); exact rfl; exact rfl; exact rfl; exact rfl; exact rfl) | ((with_reducible apply xcallIs); exact rfl; exact rfl; exact c_within _ _ _; exact rfl) | simp -implicitDefEqProofs only [go_sem])) | ((with_reducible apply xaw); (first | ((with_reducible apply xstepS); refine AW.step tok rfl ?_) | ((with_reducible apply xstep); refine AW.region tok rfl ?_) | with_reducible (first | refine AW.seq ?_ | refine AW.block ?_ | refine AW.skip ?_ | refine AW.ret ?_ | refine AW.exit ?_) | ((with_reducible apply xcond); exact rfl))) | with_reducible (first | refine xthen ?_ | refine xthen_r ?_ | refine xthen_e ?_ | refine xblock ?_ | refine xblock_r ?_ | refine xblock_e ?_ | refine xblock_n rfl ?_ | refine xround_r ?_ | refine xround_e ?_) | (with_reducible intro hc; (try simp only [hcL, reduceCtorEq] at hc); (try (exfalso; omega))) | with_reducible (first | exact trivial | refine And.intro ?_ ?_ | exact rfl | exact Nat.le_refl _) | exact Eq.refl true | exact (rfl : (_ : List Nat) = _) | exact Nat.le_of_ble_eq_true rfl | (refine inR_i64.mpr ?_; first | omega | (simp only [List.length_map]; omega)) | omega)
    · (refine xfinIs (by first | exact .inl rfl | exact .inr rfl) rfl (by repeat' (first | exact trivial | exact rfl | refine And.intro ?_ ?_)) rfl ?_ rfl; first | with_reducible exact rfl | (simp -implicitDefEqProofs only [go_sem, validPlace] <;> (first | rfl | omega | exact decide_eq_decide.2 (by omega) | exact decide_eq_false (by omega) | exact decide_eq_true (by omega) | (symm; first | exact decide_eq_false (by omega) | exact decide_eq_true (by omega)) | (rw [Bool.eq_iff_iff]; simp only [boL, reduceCtorEq]; omega))))
    · exact round_end 2 (by omega) (by omega) (by (refine xwk (π := [0, 1]) (by decide) rfl ?_ ?_; (first | exact trivial | simp -implicitDefEqProofs only [go_sem]); repeat' (first | exact renE_n | ((with_reducible apply renE_c); exact rfl; focus (first | with_reducible exact rfl | (simp -implicitDefEqProofs only [go_sem]; done) | (simp -implicitDefEqProofs only [go_sem]; omega))))))
  · repeat' (first | ((with_reducible apply xsim); (first | ((with_reducible apply xlenM); exact rfl; exact rfl) | ((with_reducible apply xo); exact rfl) | with_reducible apply xend | ((with_reducible apply xbox); exact rfl; simp only [bkL, Nat.reduceAdd, Nat.reduceSub]) | ((with_reducible apply xbuild); exact rfl; exact rfl; exact rfl; exact rfl; exact rfl; simp only [bkL, Nat.reduceAdd, Nat.reduceSub]) | ((with_reducible apply xidxL); exact rfl; exact rfl; exact rfl; exact rfl; omega; first | exact rfl | simp only [hsz]) | ((with_reducible apply xidxM); exact rfl; exact rfl; exact rfl; omega; omega; exact rfl) | ((with_reducible apply xldA); exact rfl; exact rfl; exact rfl; exact rfl; exact rfl) | ((with_reducible apply xcallIs); exact rfl; exact rfl; exact c_within _ _ _; exact rfl) | simp -implicitDefEqProofs only [go_sem])) | ((with_reducible apply xaw); (first | ((with_reducible apply xstepS); refine AW.step tok rfl ?_) | ((with_reducible apply xstep); refine AW.region tok rfl ?_) | with_reducible (first | refine AW.seq ?_ | refine AW.block ?_ | refine AW.skip ?_ | refine AW.ret ?_ | refine AW.exit ?_) | ((with_reducible apply xcond); exact rfl))) | with_reducible (first | refine xthen ?_ | refine xthen_r ?_ | refine xthen_e ?_ | refine xblock ?_ | refine xblock_r ?_ | refine xblock_e ?_ | refine xblock_n rfl ?_ | refine xround_r ?_ | refine xround_e ?_) | (with_reducible intro hc; (try simp only [hcL, reduceCtorEq] at hc); (try (exfalso; omega))) | with_reducible (first | exact trivial | refine And.intro ?_ ?_ | exact rfl | exact Nat.le_refl _) | exact Eq.refl true | exact (rfl : (_ : List Nat) = _) | exact Nat.le_of_ble_eq_true rfl | (refine inR_i64.mpr ?_; first | omega | (simp only [List.length_map]; omega)) | omega)
    · (refine xfinIs (by first | exact .inl rfl | exact .inr rfl) rfl (by repeat' (first | exact trivial | exact rfl | refine And.intro ?_ ?_)) rfl ?_ rfl; first | with_reducible exact rfl | (simp -implicitDefEqProofs only [go_sem, validPlace] <;> (first | rfl | omega | exact decide_eq_decide.2 (by omega) | exact decide_eq_false (by omega) | exact decide_eq_true (by omega) | (symm; first | exact decide_eq_false (by omega) | exact decide_eq_true (by omega)) | (rw [Bool.eq_iff_iff]; simp only [boL, reduceCtorEq]; omega))))
    · exact round_end 3 (by omega) (by omega) (by (refine xwk (π := [0, 1]) (by decide) rfl ?_ ?_; (first | exact trivial | simp -implicitDefEqProofs only [go_sem]); repeat' (first | exact renE_n | ((with_reducible apply renE_c); exact rfl; focus (first | with_reducible exact rfl | (simp -implicitDefEqProofs only [go_sem]; done) | (simp -implicitDefEqProofs only [go_sem]; omega))))))
  · repeat' (first | ((with_reducible apply xsim); (first | ((with_reducible apply xlenM); exact rfl; exact rfl) | ((with_reducible apply xo); exact rfl) | with_reducible apply xend | ((with_reducible apply xbox); exact rfl; simp only [bkL, Nat.reduceAdd, Nat.reduceSub]) | ((with_reducible apply xbuild); exact rfl; exact rfl; exact rfl; exact rfl; exact rfl; simp only [bkL, Nat.reduceAdd, Nat.reduceSub]) | ((with_reducible apply xidxL); exact rfl; exact rfl; exact rfl; exact rfl; omega; first | exact rfl | simp only [hsz]) | ((with_reducible apply xidxM); exact rfl; exact rfl; exact rfl; omega; omega; exact rfl) | ((with_reducible apply xldA); exact rfl; exact rfl; exact rfl; exact rfl; exact rfl) | ((with_reducible apply xcallIs); exact rfl; exact rfl; exact c_within _ _ _; exact rfl) | simp -implicitDefEqProofs only [go_sem])) | ((with_reducible apply xaw); (first | ((with_reducible apply xstepS); refine AW.step tok rfl ?_) | ((with_reducible apply xstep); refine AW.region tok rfl ?_) | with_reducible (first | refine AW.seq ?_ | refine AW.block ?_ | refine AW.skip ?_ | refine AW.ret ?_ | refine AW.exit ?_) | ((with_reducible apply xcond); exact rfl))) | with_reducible (first | refine xthen ?_ | refine xthen_r ?_ | refine xthen_e ?_ | refine xblock ?_ | refine xblock_r ?_ | refine xblock_e ?_ | refine xblock_n rfl ?_ | refine xround_r ?_ | refine xround_e ?_) | (with_reducible intro hc; (try simp only [hcL, reduceCtorEq] at hc); (try (exfalso; omega))) | with_reducible (first | exact trivial | refine And.intro ?_ ?_ | exact rfl | exact Nat.le_refl _) | exact Eq.refl true | exact (rfl : (_ : List Nat) = _) | exact Nat.le_of_ble_eq_true rfl | (refine inR_i64.mpr ?_; first | omega | (simp only [List.length_map]; omega)) | omega)
    · (refine xfinIs (by first | exact .inl rfl | exact .inr rfl) rfl (by repeat' (first | exact trivial | exact rfl | refine And.intro ?_ ?_)) rfl ?_ rfl; first | with_reducible exact rfl | (simp -implicitDefEqProofs only [go_sem, validPlace] <;> (first | rfl | omega | exact decide_eq_decide.2 (by omega) | exact decide_eq_false (by omega) | exact decide_eq_true (by omega) | (symm; first | exact decide_eq_false (by omega) | exact decide_eq_true (by omega)) | (rw [Bool.eq_iff_iff]; simp only [boL, reduceCtorEq]; omega))))
    · exact round_end 4 (by omega) (by omega) (by (refine xwk (π := [0, 1]) (by decide) rfl ?_ ?_; (first | exact trivial | simp -implicitDefEqProofs only [go_sem]); repeat' (first | exact renE_n | ((with_reducible apply renE_c); exact rfl; focus (first | with_reducible exact rfl | (simp -implicitDefEqProofs only [go_sem]; done) | (simp -implicitDefEqProofs only [go_sem]; omega))))))
  have d1 := c1 (by omega); have d2 := c2 (by omega); have d3 := c3 (by omega); have d4 := c4 (by omega)
  repeat' (first | ((with_reducible apply xsim); (first | ((with_reducible apply xlenM); exact rfl; exact rfl) | ((with_reducible apply xo); exact rfl) | with_reducible apply xend | ((with_reducible apply xbox); exact rfl; simp only [bkL, Nat.reduceAdd, Nat.reduceSub]) | ((with_reducible apply xbuild); exact rfl; exact rfl; exact rfl; exact rfl; exact rfl; simp only [bkL, Nat.reduceAdd, Nat.reduceSub]) | ((with_reducible apply xidxL); exact rfl; exact rfl; exact rfl; exact rfl; omega; first | exact rfl | simp only [hsz]) | ((with_reducible apply xidxM); exact rfl; exact rfl; exact rfl; omega; omega; exact rfl) | ((with_reducible apply xldA); exact rfl; exact rfl; exact rfl; exact rfl; exact rfl) | ((with_reducible apply xcallIs); exact rfl; exact rfl; exact c_within _ _ _; exact rfl) | simp -implicitDefEqProofs only [go_sem])) | ((with_reducible apply xaw); (first | ((with_reducible apply xstepS); refine AW.step tok rfl ?_) | ((with_reducible apply xstep); refine AW.region tok rfl ?_) | with_reducible (first | refine AW.seq ?_ | refine AW.block ?_ | refine AW.skip ?_ | refine AW.ret ?_ | refine AW.exit ?_) | ((with_reducible apply xcond); exact rfl))) | with_reducible (first | refine xthen ?_ | refine xthen_r ?_ | refine xthen_e ?_ | refine xblock ?_ | refine xblock_r ?_ | refine xblock_e ?_ | refine xblock_n rfl ?_ | refine xround_r ?_ | refine xround_e ?_) | (with_reducible intro hc; (try simp only [hcL, reduceCtorEq] at hc); (try (exfalso; omega))) | with_reducible (first | exact trivial | refine And.intro ?_ ?_ | exact rfl | exact Nat.le_refl _) | exact Eq.refl true | exact (rfl : (_ : List Nat) = _) | exact Nat.le_of_ble_eq_true rfl | (refine inR_i64.mpr ?_; first | omega | (simp only [List.length_map]; omega)) | omega)
  (refine xfinIs (by first | exact .inl rfl | exact .inr rfl) rfl (by repeat' (first | exact trivial | exact rfl | refine And.intro ?_ ?_)) rfl ?_ rfl; first | with_reducible exact rfl | (simp -implicitDefEqProofs only [go_sem, validPlace] <;> (first | rfl | omega | exact decide_eq_decide.2 (by omega) | exact decide_eq_false (by omega) | exact decide_eq_true (by omega) | (symm; first | exact decide_eq_false (by omega) | exact decide_eq_true (by omega)) | (rw [Bool.eq_iff_iff]; simp only [boL, reduceCtorEq]; omega))))

set_option maxHeartbeats 4000000 in
theorem c_nodeOk (n : Node) (h1 : n.cols.length < 2^40) (h2 : n.rows.length < 2^40) : ACon Try.prog 25 [vNode n] [] (Is (.d (.bool (nodeOk n)))) := by
  refine ACon.introW tok (nt := 74) Try.func25 rfl rfl rfl (by kernel_rfl) rfl ?_
  repeat' (first | ((with_reducible apply xsim); (first | ((with_reducible apply xlenM); exact rfl; exact rfl) | ((with_reducible apply xo); exact rfl) | with_reducible apply xend | ((with_reducible apply xguardTS); exact rfl; exact rfl) | ((with_reducible apply xguardS); exact rfl; exact rfl) | ((with_reducible apply xbox); exact rfl; simp only [bkL, Nat.reduceAdd, Nat.reduceSub]) | ((with_reducible apply xcallIs); exact rfl; exact rfl; (first | exact c_within _ _ _ | exact c_ValidPack n.pack | exact c_ValidPlace n.place | exact c_linesOk n.cols (by omega) | exact c_linesOk n.rows (by omega)); exact rfl) | simp -implicitDefEqProofs only [go_sem, List.length_map])) | ((with_reducible apply xaw); (first | ((with_reducible apply xstepS); refine AW.step tok rfl ?_) | ((with_reducible apply xstep); refine AW.region tok rfl ?_) | with_reducible (first | refine AW.seq ?_ | refine AW.block ?_ | refine AW.skip ?_ | refine AW.ret ?_ | refine AW.exit ?_) | ((with_reducible apply xcond); exact rfl))) | with_reducible (first | refine xthen ?_ | refine xthen_r ?_ | refine xthen_e ?_ | refine xblock ?_ | refine xblock_r ?_ | refine xblock_e ?_ | refine xblock_n rfl ?_ | refine xround_r ?_ | refine xround_e ?_) | (with_reducible intro hc; (try simp only [hcL, reduceCtorEq, List.length_map] at hc); (try (exfalso; omega))) | with_reducible (first | exact trivial | refine And.intro ?_ ?_ | exact rfl | exact Nat.le_refl _) | exact Eq.refl true | exact (rfl : (_ : List Nat) = _) | exact Nat.le_of_ble_eq_true rfl | (refine inR_i64.mpr ?_; first | omega | (simp only [List.length_map, List.length_map]; omega)) | omega)
  all_goals (refine xfinIs (by first | exact .inl rfl | exact .inr rfl) rfl (by repeat' (first | exact trivial | exact rfl | refine And.intro ?_ ?_)) rfl ?_ rfl; simp only [V.d.injEq, D.bool.injEq, D.int.injEq]; first | rfl | (simp_all [nodeOk]; done) | (simp_all [nodeOk]; omega))
end Go.Proofs.Ytagbfbamhfjbaaa

namespace Go.Proofs.Ytagbfbamhfjbaaa
open Go.Fw
attribute [local irreducible] Go.Fw.aops Go.Fw.arun

theorem node_at {xs : List Node} {i : Int} (h : 0 ≤ i ∧ i < xs.length) : (xs.map encNode)[idxAdd 0 i.toNat]? = some (encNode (xs[i.toNat]'(by omega))) := at_map (f := encNode) (k := i.toNat) _

theorem treeOk_iff {t : List Node} : treeOk t = true ↔ (1 ≤ t.length ∧ t.length ≤ 10) ∧ ∀ i (h : i < t.length), nodeOk t[i] = true ∧ upOk t i t[i] = true := by
  simp only [treeOk, Bool.and_eq_true, decide_eq_true_eq, List.all_eq_true, List.mem_range]
  refine and_congr_right fun _ => ⟨fun h i hi => ?_, fun h i hi => ?_⟩
  · have := h i hi
    rw [List.getElem?_eq_getElem hi] at this
    simpa using this
  · rw [List.getElem?_eq_getElem hi]
    simpa using h i hi
theorem treeOk_ff {t : List Node} {i : Nat} (hi : i < t.length) (h : (nodeOk t[i] && upOk t i t[i]) = false) : treeOk t = false := by
  refine Bool.eq_false_iff.2 fun hc => ?_
  have := (treeOk_iff.1 hc).2 i hi
  rw [this.1, this.2] at h
  cases h
theorem treeOk_tt {t : List Node} (h1 : 1 ≤ t.length ∧ t.length ≤ 10) (h : ∀ i (h : i < t.length), (nodeOk t[i] && upOk t i t[i]) = true) : treeOk t = true :=
  treeOk_iff.2 ⟨h1, fun i hi => by simpa using h i hi⟩
theorem treeOk_len {t : List Node} (h1 : ¬ (1 ≤ t.length ∧ t.length ≤ 10)) : treeOk t = false := Bool.eq_false_iff.2 fun hc => h1 (treeOk_iff.1 hc).1
theorem upOk_0 {t : List Node} {n : Node} : upOk t 0 n = decide (n.parent = -1) := rfl
theorem upOk_out {t : List Node} {k : Nat} {n : Node} (hk : 0 < k) (h : ¬ (0 ≤ n.parent ∧ n.parent ≤ (k : Int) - 1)) : upOk t k n = false := by
  unfold upOk
  rw [if_neg (by omega), decide_eq_false h, Bool.false_and]
theorem upOk_in {t : List Node} {k : Nat} {n : Node} (hk : 0 < k) (hl : k < t.length) (h : 0 ≤ n.parent ∧ n.parent ≤ (k : Int) - 1) :
    upOk t k n = if (t[n.parent.toNat]'(by omega)).kind = 1 then lies n.cell (t[n.parent.toNat]'(by omega)).cols.length (t[n.parent.toNat]'(by omega)).rows.length else true := by
  unfold upOk
  rw [if_neg (by omega), decide_eq_true h, Bool.true_and, List.getElem?_eq_getElem (by omega)]
theorem ff_l {a b : Bool} (h : a = false) : (a && b) = false := by rw [h]; rfl
theorem ff_r {a b : Bool} (h : b = false) : (a && b) = false := by rw [h]; cases a <;> rfl
theorem tt_b {a b : Bool} (h : a = true) (h' : b = true) : (a && b) = true := by rw [h, h']; rfl
/-- The lengths are no numbers too great. -/
def TreeL (t : List Node) : Prop := t.length < 2^40 ∧ ∀ i (h : i < t.length), t[i].cols.length < 2^40 ∧ t[i].rows.length < 2^40

set_option maxHeartbeats 4000000 in
set_option maxRecDepth 8000 in
theorem c_ValidTree (t : List Node) (hL : TreeL t) : ACon Try.prog 15 [vTree t] [] (Is (.d (.bool (treeOk t)))) := by
  obtain ⟨hL1, hL⟩ := hL
  refine ACon.introW tok (nt := 66) Try.func15 rfl rfl rfl (by kernel_rfl) rfl ?_
  repeat' (first | ((with_reducible apply xsim); (first | ((with_reducible apply xlenM); exact rfl; exact rfl) | ((with_reducible apply xo); exact rfl) | ((with_reducible apply xst); exact rfl) | with_reducible apply xend | ((with_reducible apply xguardTS); exact rfl; exact rfl) | ((with_reducible apply xguardS); exact rfl; exact rfl) | ((with_reducible apply xalloc); exact rfl; simp only [bkL, Nat.reduceAdd, Nat.reduceSub]) | ((with_reducible apply xbox); exact rfl; simp only [bkL, Nat.reduceAdd, Nat.reduceSub]) | ((with_reducible apply xidxL); exact rfl; exact rfl; exact rfl; exact rfl; omega; first | exact rfl | simp only [hsz]) | ((with_reducible apply xidxM); exact rfl; exact rfl; exact rfl; omega; omega; exact rfl) | ((with_reducible apply xldA); exact rfl; exact rfl; exact rfl; exact rfl; exact rfl) | ((with_reducible apply xstA); exact rfl; exact rfl; exact rfl; exact rfl; exact rfl; exact rfl; exact rfl; exact rfl; exact rfl; (try simp only [List.set_cons_zero, List.set_cons_succ, List.length_map])) | ((with_reducible apply xcallIs); exact rfl; exact rfl; exact c_within _ _ _; exact rfl) | simp -implicitDefEqProofs only [go_sem, List.length_map])) | ((with_reducible apply xaw); (first | ((with_reducible apply xstepS); refine AW.step tok rfl ?_) | ((with_reducible apply xstep); refine AW.region tok rfl ?_) | with_reducible (first | refine AW.seq ?_ | refine AW.block ?_ | refine AW.skip ?_ | refine AW.ret ?_ | refine AW.exit ?_) | ((with_reducible apply xcond); exact rfl))) | with_reducible (first | refine xthen ?_ | refine xthen_r ?_ | refine xthen_e ?_ | refine xblock ?_ | refine xblock_r ?_ | refine xblock_e ?_ | refine xblock_n rfl ?_ | refine xround_r ?_ | refine xround_e ?_) | (with_reducible intro hc; (try simp only [hcL, reduceCtorEq, List.length_map] at hc); (try (exfalso; omega))) | with_reducible (first | exact trivial | refine And.intro ?_ ?_ | exact rfl | exact Nat.le_refl _) | exact Eq.refl true | exact (rfl : (_ : List Nat) = _) | exact Nat.le_of_ble_eq_true rfl | (refine inR_i64.mpr ?_; first | omega | (simp only [List.length_map, List.length_map]; omega)) | omega)
  · (refine xfinIs (by first | exact .inl rfl | exact .inr rfl) rfl (by repeat' (first | exact trivial | exact rfl | refine And.intro ?_ ?_)) rfl ?_ rfl; first | with_reducible exact rfl | (simp -implicitDefEqProofs only [go_sem, treeOk_len (show ¬ (1 ≤ t.length ∧ t.length ≤ 10) by omega)] <;> (first | rfl | omega | exact decide_eq_decide.2 (by omega) | exact decide_eq_false (by omega) | exact decide_eq_true (by omega) | (symm; first | exact decide_eq_false (by omega) | exact decide_eq_true (by omega)) | (rw [Bool.eq_iff_iff]; simp only [boL, reduceCtorEq]; omega))))
  have hlen' : 1 ≤ t.length ∧ t.length ≤ 10 := by omega
  refine AW.loop (S := fun k : Nat => ⟨[(1, .oref 0 0), (12, .d (.lst (t.map encNode))), (13, .d (.int .i64 t.length)), (14, .d (.int .i64 k))], [.box [.d (.lst (t.map encNode))]], 66, .p 0⟩)
    (Pre := fun k => k ≤ t.length ∧ ∀ j (h : j < t.length), j < k → (nodeOk t[j] && upOk t j t[j]) = true) (μ := fun k => t.length - k) 0 ⟨Nat.zero_le _, fun j _ h => absurd h (Nat.not_lt_zero _)⟩ ?_ ?_
  · (refine xwk (π := [0]) (by decide) rfl ?_ ?_; (first | exact trivial | simp -implicitDefEqProofs only [go_sem]); repeat' (first | exact renE_n | ((with_reducible apply renE_c); exact rfl; focus (first | with_reducible exact rfl | (simp -implicitDefEqProofs only [go_sem]; done) | (simp -implicitDefEqProofs only [go_sem]; omega)))))
  rintro k ⟨hk, hp⟩
  have next : ∀ (hlt : k < t.length), (nodeOk t[k] && upOk t k t[k]) = true → ∀ j (h : j < t.length), j < k + 1 → (nodeOk t[j] && upOk t j t[j]) = true := by
    intro hlt h j hj h'
    by_cases e : j = k
    · subst e; exact h
    · exact hp j hj (by omega)
  by_cases hlt : k < t.length
  · have hrow := at_map (f := encNode) hlt
    have cn := c_nodeOk t[k] (hL k hlt).1 (hL k hlt).2
    by_cases h0 : k = 0
    · subst h0
      by_cases hpm : t[0].parent = -1
      · repeat' (first | ((with_reducible apply xsim); (first | ((with_reducible apply xlenM); exact rfl; exact rfl) | ((with_reducible apply xo); exact rfl) | ((with_reducible apply xst); exact rfl) | with_reducible apply xend | ((with_reducible apply xguardTS); exact rfl; exact rfl) | ((with_reducible apply xguardS); exact rfl; exact rfl) | ((with_reducible apply xalloc); exact rfl; simp only [bkL, Nat.reduceAdd, Nat.reduceSub]) | ((with_reducible apply xbox); exact rfl; simp only [bkL, Nat.reduceAdd, Nat.reduceSub]) | ((with_reducible apply xidxL); exact rfl; exact rfl; exact rfl; (first | exact hrow); omega; first | exact rfl | simp only [hsz]) | ((with_reducible apply xidxM); exact rfl; exact rfl; exact rfl; omega; omega; exact rfl) | ((with_reducible apply xldA); exact rfl; exact rfl; exact rfl; (first | exact hrow); exact rfl) | ((with_reducible apply xstA); exact rfl; exact rfl; exact rfl; exact rfl; (first | exact hrow); exact rfl; exact rfl; exact rfl; exact rfl; (try simp only [List.set_cons_zero, List.set_cons_succ, List.length_map])) | ((with_reducible apply xcallIs); exact rfl; exact rfl; (first | exact c_within _ _ _ | exact cn); exact rfl) | simp -implicitDefEqProofs only [go_sem, List.length_map])) | ((with_reducible apply xaw); (first | ((with_reducible apply xstepS); refine AW.step tok rfl ?_) | ((with_reducible apply xstep); refine AW.region tok rfl ?_) | with_reducible (first | refine AW.seq ?_ | refine AW.block ?_ | refine AW.skip ?_ | refine AW.ret ?_ | refine AW.exit ?_) | ((with_reducible apply xcond); exact rfl))) | with_reducible (first | refine xthen ?_ | refine xthen_r ?_ | refine xthen_e ?_ | refine xblock ?_ | refine xblock_r ?_ | refine xblock_e ?_ | refine xblock_n rfl ?_ | refine xround_r ?_ | refine xround_e ?_) | (with_reducible intro hc; (try simp only [hcL, reduceCtorEq, List.length_map] at hc); (try (exfalso; omega))) | with_reducible (first | exact trivial | refine And.intro ?_ ?_ | exact rfl | exact Nat.le_refl _) | exact Eq.refl true | exact (rfl : (_ : List Nat) = _) | exact Nat.le_of_ble_eq_true rfl | (refine inR_i64.mpr ?_; first | omega | (simp only [List.length_map, List.length_map]; omega)) | omega)
        · (refine xfinIs (by first | exact .inl rfl | exact .inr rfl) rfl (by repeat' (first | exact trivial | exact rfl | refine And.intro ?_ ?_)) rfl ?_ rfl; first | with_reducible exact rfl | (simp -implicitDefEqProofs only [go_sem, treeOk_ff hlt (ff_l hc)] <;> (first | rfl | omega | exact decide_eq_decide.2 (by omega) | exact decide_eq_false (by omega) | exact decide_eq_true (by omega) | (symm; first | exact decide_eq_false (by omega) | exact decide_eq_true (by omega)) | (rw [Bool.eq_iff_iff]; simp only [boL, reduceCtorEq]; omega))))
        · rename_i hno _ _ _
          exact round_end 1 ⟨by omega, next hlt (tt_b (by first | exact hno | assumption) (by rw [upOk_0]; exact decide_eq_true hpm))⟩ (by omega) (by (refine xwk (π := [0]) (by decide) rfl ?_ ?_; (first | exact trivial | simp -implicitDefEqProofs only [go_sem]); repeat' (first | exact renE_n | ((with_reducible apply renE_c); exact rfl; focus (first | with_reducible exact rfl | (simp -implicitDefEqProofs only [go_sem]; done) | (simp -implicitDefEqProofs only [go_sem]; omega))))))
      · repeat' (first | ((with_reducible apply xsim); (first | ((with_reducible apply xlenM); exact rfl; exact rfl) | ((with_reducible apply xo); exact rfl) | ((with_reducible apply xst); exact rfl) | with_reducible apply xend | ((with_reducible apply xguardTS); exact rfl; exact rfl) | ((with_reducible apply xguardS); exact rfl; exact rfl) | ((with_reducible apply xalloc); exact rfl; simp only [bkL, Nat.reduceAdd, Nat.reduceSub]) | ((with_reducible apply xbox); exact rfl; simp only [bkL, Nat.reduceAdd, Nat.reduceSub]) | ((with_reducible apply xidxL); exact rfl; exact rfl; exact rfl; (first | exact hrow); omega; first | exact rfl | simp only [hsz]) | ((with_reducible apply xidxM); exact rfl; exact rfl; exact rfl; omega; omega; exact rfl) | ((with_reducible apply xldA); exact rfl; exact rfl; exact rfl; (first | exact hrow); exact rfl) | ((with_reducible apply xstA); exact rfl; exact rfl; exact rfl; exact rfl; (first | exact hrow); exact rfl; exact rfl; exact rfl; exact rfl; (try simp only [List.set_cons_zero, List.set_cons_succ, List.length_map])) | ((with_reducible apply xcallIs); exact rfl; exact rfl; (first | exact c_within _ _ _ | exact cn); exact rfl) | simp -implicitDefEqProofs only [go_sem, List.length_map])) | ((with_reducible apply xaw); (first | ((with_reducible apply xstepS); refine AW.step tok rfl ?_) | ((with_reducible apply xstep); refine AW.region tok rfl ?_) | with_reducible (first | refine AW.seq ?_ | refine AW.block ?_ | refine AW.skip ?_ | refine AW.ret ?_ | refine AW.exit ?_) | ((with_reducible apply xcond); exact rfl))) | with_reducible (first | refine xthen ?_ | refine xthen_r ?_ | refine xthen_e ?_ | refine xblock ?_ | refine xblock_r ?_ | refine xblock_e ?_ | refine xblock_n rfl ?_ | refine xround_r ?_ | refine xround_e ?_) | (with_reducible intro hc; (try simp only [hcL, reduceCtorEq, List.length_map] at hc); (try (exfalso; omega))) | with_reducible (first | exact trivial | refine And.intro ?_ ?_ | exact rfl | exact Nat.le_refl _) | exact Eq.refl true | exact (rfl : (_ : List Nat) = _) | exact Nat.le_of_ble_eq_true rfl | (refine inR_i64.mpr ?_; first | omega | (simp only [List.length_map, List.length_map]; omega)) | omega)
        (refine xfinIs (by first | exact .inl rfl | exact .inr rfl) rfl (by repeat' (first | exact trivial | exact rfl | refine And.intro ?_ ?_)) rfl ?_ rfl; first | with_reducible exact rfl | (simp -implicitDefEqProofs only [go_sem, treeOk_ff hlt (ff_r (by rw [upOk_0]; exact decide_eq_false hpm))] <;> (first | rfl | omega | exact decide_eq_decide.2 (by omega) | exact decide_eq_false (by omega) | exact decide_eq_true (by omega) | (symm; first | exact decide_eq_false (by omega) | exact decide_eq_true (by omega)) | (rw [Bool.eq_iff_iff]; simp only [boL, reduceCtorEq]; omega))))
    by_cases hr : 0 ≤ t[k].parent ∧ t[k].parent ≤ (k : Int) - 1
    · have hu := upOk_in (by omega) hlt hr
      by_cases hkd : (t[t[k].parent.toNat]'(by omega)).kind = 1
      · rw [if_pos hkd] at hu
        repeat' (first | ((with_reducible apply xsim); (first | ((with_reducible apply xlenM); exact rfl; exact rfl) | ((with_reducible apply xo); exact rfl) | ((with_reducible apply xst); exact rfl) | with_reducible apply xend | ((with_reducible apply xguardTS); exact rfl; exact rfl) | ((with_reducible apply xguardS); exact rfl; exact rfl) | ((with_reducible apply xalloc); exact rfl; simp only [bkL, Nat.reduceAdd, Nat.reduceSub]) | ((with_reducible apply xbox); exact rfl; simp only [bkL, Nat.reduceAdd, Nat.reduceSub]) | ((with_reducible apply xidxL); exact rfl; exact rfl; exact rfl; (first | exact hrow | exact (node_at (by omega))); omega; first | exact rfl | simp only [hsz]) | ((with_reducible apply xidxM); exact rfl; exact rfl; exact rfl; omega; omega; exact rfl) | ((with_reducible apply xldA); exact rfl; exact rfl; exact rfl; (first | exact hrow | exact (node_at (by omega))); exact rfl) | ((with_reducible apply xstA); exact rfl; exact rfl; exact rfl; exact rfl; (first | exact hrow | exact (node_at (by omega))); exact rfl; exact rfl; exact rfl; exact rfl; (try simp only [List.set_cons_zero, List.set_cons_succ, List.length_map])) | ((with_reducible apply xcallIs); exact rfl; exact rfl; (first | exact c_within _ _ _ | exact cn | exact c_liesN _ _ _ (hL _ _).1 (hL _ _).2); exact rfl) | simp -implicitDefEqProofs only [go_sem, List.length_map])) | ((with_reducible apply xaw); (first | ((with_reducible apply xstepS); refine AW.step tok rfl ?_) | ((with_reducible apply xstep); refine AW.region tok rfl ?_) | with_reducible (first | refine AW.seq ?_ | refine AW.block ?_ | refine AW.skip ?_ | refine AW.ret ?_ | refine AW.exit ?_) | ((with_reducible apply xcond); exact rfl))) | with_reducible (first | refine xthen ?_ | refine xthen_r ?_ | refine xthen_e ?_ | refine xblock ?_ | refine xblock_r ?_ | refine xblock_e ?_ | refine xblock_n rfl ?_ | refine xround_r ?_ | refine xround_e ?_) | (with_reducible intro hc; (try simp only [hcL, reduceCtorEq, List.length_map] at hc); (try (exfalso; omega))) | with_reducible (first | exact trivial | refine And.intro ?_ ?_ | exact rfl | exact Nat.le_refl _) | exact Eq.refl true | exact (rfl : (_ : List Nat) = _) | exact Nat.le_of_ble_eq_true rfl | (refine inR_i64.mpr ?_; first | omega | (simp only [List.length_map, List.length_map]; omega)) | omega)
        · (refine xfinIs (by first | exact .inl rfl | exact .inr rfl) rfl (by repeat' (first | exact trivial | exact rfl | refine And.intro ?_ ?_)) rfl ?_ rfl; first | with_reducible exact rfl | (simp -implicitDefEqProofs only [go_sem, treeOk_ff hlt (ff_l hc)] <;> (first | rfl | omega | exact decide_eq_decide.2 (by omega) | exact decide_eq_false (by omega) | exact decide_eq_true (by omega) | (symm; first | exact decide_eq_false (by omega) | exact decide_eq_true (by omega)) | (rw [Bool.eq_iff_iff]; simp only [boL, reduceCtorEq]; omega))))
        · (refine xfinIs (by first | exact .inl rfl | exact .inr rfl) rfl (by repeat' (first | exact trivial | exact rfl | refine And.intro ?_ ?_)) rfl ?_ rfl; first | with_reducible exact rfl | (simp -implicitDefEqProofs only [go_sem, treeOk_ff hlt (ff_r (hu.trans hc))] <;> (first | rfl | omega | exact decide_eq_decide.2 (by omega) | exact decide_eq_false (by omega) | exact decide_eq_true (by omega) | (symm; first | exact decide_eq_false (by omega) | exact decide_eq_true (by omega)) | (rw [Bool.eq_iff_iff]; simp only [boL, reduceCtorEq]; omega))))
        · exact round_end (k + 1) ⟨by omega, next hlt (tt_b (by assumption) (hu.trans hc))⟩ (by omega) (by (refine xwk (π := [0]) (by decide) rfl ?_ ?_; (first | exact trivial | simp -implicitDefEqProofs only [go_sem]); repeat' (first | exact renE_n | ((with_reducible apply renE_c); exact rfl; focus (first | with_reducible exact rfl | (simp -implicitDefEqProofs only [go_sem]; done) | (simp -implicitDefEqProofs only [go_sem]; omega))))))
      · rw [if_neg hkd] at hu
        repeat' (first | ((with_reducible apply xsim); (first | ((with_reducible apply xlenM); exact rfl; exact rfl) | ((with_reducible apply xo); exact rfl) | ((with_reducible apply xst); exact rfl) | with_reducible apply xend | ((with_reducible apply xguardTS); exact rfl; exact rfl) | ((with_reducible apply xguardS); exact rfl; exact rfl) | ((with_reducible apply xalloc); exact rfl; simp only [bkL, Nat.reduceAdd, Nat.reduceSub]) | ((with_reducible apply xbox); exact rfl; simp only [bkL, Nat.reduceAdd, Nat.reduceSub]) | ((with_reducible apply xidxL); exact rfl; exact rfl; exact rfl; (first | exact hrow | exact (node_at (by omega))); omega; first | exact rfl | simp only [hsz]) | ((with_reducible apply xidxM); exact rfl; exact rfl; exact rfl; omega; omega; exact rfl) | ((with_reducible apply xldA); exact rfl; exact rfl; exact rfl; (first | exact hrow | exact (node_at (by omega))); exact rfl) | ((with_reducible apply xstA); exact rfl; exact rfl; exact rfl; exact rfl; (first | exact hrow | exact (node_at (by omega))); exact rfl; exact rfl; exact rfl; exact rfl; (try simp only [List.set_cons_zero, List.set_cons_succ, List.length_map])) | ((with_reducible apply xcallIs); exact rfl; exact rfl; (first | exact c_within _ _ _ | exact cn | exact c_liesN _ _ _ (hL _ _).1 (hL _ _).2); exact rfl) | simp -implicitDefEqProofs only [go_sem, List.length_map])) | ((with_reducible apply xaw); (first | ((with_reducible apply xstepS); refine AW.step tok rfl ?_) | ((with_reducible apply xstep); refine AW.region tok rfl ?_) | with_reducible (first | refine AW.seq ?_ | refine AW.block ?_ | refine AW.skip ?_ | refine AW.ret ?_ | refine AW.exit ?_) | ((with_reducible apply xcond); exact rfl))) | with_reducible (first | refine xthen ?_ | refine xthen_r ?_ | refine xthen_e ?_ | refine xblock ?_ | refine xblock_r ?_ | refine xblock_e ?_ | refine xblock_n rfl ?_ | refine xround_r ?_ | refine xround_e ?_) | (with_reducible intro hc; (try simp only [hcL, reduceCtorEq, List.length_map] at hc); (try (exfalso; omega))) | with_reducible (first | exact trivial | refine And.intro ?_ ?_ | exact rfl | exact Nat.le_refl _) | exact Eq.refl true | exact (rfl : (_ : List Nat) = _) | exact Nat.le_of_ble_eq_true rfl | (refine inR_i64.mpr ?_; first | omega | (simp only [List.length_map, List.length_map]; omega)) | omega)
        · (refine xfinIs (by first | exact .inl rfl | exact .inr rfl) rfl (by repeat' (first | exact trivial | exact rfl | refine And.intro ?_ ?_)) rfl ?_ rfl; first | with_reducible exact rfl | (simp -implicitDefEqProofs only [go_sem, treeOk_ff hlt (ff_l hc)] <;> (first | rfl | omega | exact decide_eq_decide.2 (by omega) | exact decide_eq_false (by omega) | exact decide_eq_true (by omega) | (symm; first | exact decide_eq_false (by omega) | exact decide_eq_true (by omega)) | (rw [Bool.eq_iff_iff]; simp only [boL, reduceCtorEq]; omega))))
        · exact round_end (k + 1) ⟨by omega, next hlt (tt_b (by assumption) hu)⟩ (by omega) (by (refine xwk (π := [0]) (by decide) rfl ?_ ?_; (first | exact trivial | simp -implicitDefEqProofs only [go_sem]); repeat' (first | exact renE_n | ((with_reducible apply renE_c); exact rfl; focus (first | with_reducible exact rfl | (simp -implicitDefEqProofs only [go_sem]; done) | (simp -implicitDefEqProofs only [go_sem]; omega))))))
    · have hu := upOk_out (t := t) (by omega) hr
      repeat' (first | ((with_reducible apply xsim); (first | ((with_reducible apply xlenM); exact rfl; exact rfl) | ((with_reducible apply xo); exact rfl) | ((with_reducible apply xst); exact rfl) | with_reducible apply xend | ((with_reducible apply xguardTS); exact rfl; exact rfl) | ((with_reducible apply xguardS); exact rfl; exact rfl) | ((with_reducible apply xalloc); exact rfl; simp only [bkL, Nat.reduceAdd, Nat.reduceSub]) | ((with_reducible apply xbox); exact rfl; simp only [bkL, Nat.reduceAdd, Nat.reduceSub]) | ((with_reducible apply xidxL); exact rfl; exact rfl; exact rfl; (first | exact hrow); omega; first | exact rfl | simp only [hsz]) | ((with_reducible apply xidxM); exact rfl; exact rfl; exact rfl; omega; omega; exact rfl) | ((with_reducible apply xldA); exact rfl; exact rfl; exact rfl; (first | exact hrow); exact rfl) | ((with_reducible apply xstA); exact rfl; exact rfl; exact rfl; exact rfl; (first | exact hrow); exact rfl; exact rfl; exact rfl; exact rfl; (try simp only [List.set_cons_zero, List.set_cons_succ, List.length_map])) | ((with_reducible apply xcallIs); exact rfl; exact rfl; (first | exact c_within _ _ _ | exact cn); exact rfl) | simp -implicitDefEqProofs only [go_sem, List.length_map])) | ((with_reducible apply xaw); (first | ((with_reducible apply xstepS); refine AW.step tok rfl ?_) | ((with_reducible apply xstep); refine AW.region tok rfl ?_) | with_reducible (first | refine AW.seq ?_ | refine AW.block ?_ | refine AW.skip ?_ | refine AW.ret ?_ | refine AW.exit ?_) | ((with_reducible apply xcond); exact rfl))) | with_reducible (first | refine xthen ?_ | refine xthen_r ?_ | refine xthen_e ?_ | refine xblock ?_ | refine xblock_r ?_ | refine xblock_e ?_ | refine xblock_n rfl ?_ | refine xround_r ?_ | refine xround_e ?_) | (with_reducible intro hc; (try simp only [hcL, reduceCtorEq, List.length_map] at hc); (try (exfalso; omega))) | with_reducible (first | exact trivial | refine And.intro ?_ ?_ | exact rfl | exact Nat.le_refl _) | exact Eq.refl true | exact (rfl : (_ : List Nat) = _) | exact Nat.le_of_ble_eq_true rfl | (refine inR_i64.mpr ?_; first | omega | (simp only [List.length_map, List.length_map]; omega)) | omega)
      (refine xfinIs (by first | exact .inl rfl | exact .inr rfl) rfl (by repeat' (first | exact trivial | exact rfl | refine And.intro ?_ ?_)) rfl ?_ rfl; first | with_reducible exact rfl | (simp -implicitDefEqProofs only [go_sem, treeOk_ff hlt (ff_r hu)] <;> (first | rfl | omega | exact decide_eq_decide.2 (by omega) | exact decide_eq_false (by omega) | exact decide_eq_true (by omega) | (symm; first | exact decide_eq_false (by omega) | exact decide_eq_true (by omega)) | (rw [Bool.eq_iff_iff]; simp only [boL, reduceCtorEq]; omega))))
  · repeat' (first | ((with_reducible apply xsim); (first | ((with_reducible apply xlenM); exact rfl; exact rfl) | ((with_reducible apply xo); exact rfl) | ((with_reducible apply xst); exact rfl) | with_reducible apply xend | ((with_reducible apply xguardTS); exact rfl; exact rfl) | ((with_reducible apply xguardS); exact rfl; exact rfl) | ((with_reducible apply xalloc); exact rfl; simp only [bkL, Nat.reduceAdd, Nat.reduceSub]) | ((with_reducible apply xbox); exact rfl; simp only [bkL, Nat.reduceAdd, Nat.reduceSub]) | ((with_reducible apply xidxL); exact rfl; exact rfl; exact rfl; exact rfl; omega; first | exact rfl | simp only [hsz]) | ((with_reducible apply xidxM); exact rfl; exact rfl; exact rfl; omega; omega; exact rfl) | ((with_reducible apply xldA); exact rfl; exact rfl; exact rfl; exact rfl; exact rfl) | ((with_reducible apply xstA); exact rfl; exact rfl; exact rfl; exact rfl; exact rfl; exact rfl; exact rfl; exact rfl; exact rfl; (try simp only [List.set_cons_zero, List.set_cons_succ, List.length_map])) | simp -implicitDefEqProofs only [go_sem, List.length_map])) | ((with_reducible apply xaw); (first | ((with_reducible apply xstepS); refine AW.step tok rfl ?_) | ((with_reducible apply xstep); refine AW.region tok rfl ?_) | with_reducible (first | refine AW.seq ?_ | refine AW.block ?_ | refine AW.skip ?_ | refine AW.ret ?_ | refine AW.exit ?_) | ((with_reducible apply xcond); exact rfl))) | with_reducible (first | refine xthen ?_ | refine xthen_r ?_ | refine xthen_e ?_ | refine xblock ?_ | refine xblock_r ?_ | refine xblock_e ?_ | refine xblock_n rfl ?_ | refine xround_r ?_ | refine xround_e ?_) | (with_reducible intro hc; (try simp only [hcL, reduceCtorEq, List.length_map] at hc); (try (exfalso; omega))) | with_reducible (first | exact trivial | refine And.intro ?_ ?_ | exact rfl | exact Nat.le_refl _) | exact Eq.refl true | exact (rfl : (_ : List Nat) = _) | exact Nat.le_of_ble_eq_true rfl | (refine inR_i64.mpr ?_; first | omega | (simp only [List.length_map, List.length_map]; omega)) | omega)
    (refine xfinIs (by first | exact .inl rfl | exact .inr rfl) rfl (by repeat' (first | exact trivial | exact rfl | refine And.intro ?_ ?_)) rfl ?_ rfl; first | with_reducible exact rfl | (simp -implicitDefEqProofs only [go_sem, treeOk_tt hlen' fun i h => hp i h (by omega)] <;> (first | rfl | omega | exact decide_eq_decide.2 (by omega) | exact decide_eq_false (by omega) | exact decide_eq_true (by omega) | (symm; first | exact decide_eq_false (by omega) | exact decide_eq_true (by omega)) | (rw [Bool.eq_iff_iff]; simp only [boL, reduceCtorEq]; omega))))
end Go.Proofs.Ytagbfbamhfjbaaa

namespace Go.Proofs.Ytagbfbamhfjbaaa
open Go.Fw
attribute [local irreducible] Go.Fw.aops Go.Fw.arun

theorem c_szLineS (xs : List Line) (n : Int) (hn : 0 ≤ n ∧ n ≤ 2^20) (hl : xs.length < 2^63) : ACon Try.prog 31 [.d (.lst (xs.map encLine)), .d (.int .i64 n)] [] (Is (.d (.int .i64 (if n - xs.length < 0 then -1 else n - xs.length)))) := by
  by_cases h : n - xs.length < 0
  · refine ACon.introW tok (nt := 12) Try.func31 rfl rfl rfl (by kernel_rfl) rfl ?_
    repeat' (first | ((with_reducible apply xsim); (first | ((with_reducible apply xlenM); exact rfl; exact rfl) | ((with_reducible apply xo); exact rfl) | with_reducible apply xend | simp -implicitDefEqProofs only [go_sem, List.length_map])) | ((with_reducible apply xaw); (first | ((with_reducible apply xstepS); refine AW.step tok rfl ?_) | ((with_reducible apply xstep); refine AW.region tok rfl ?_) | with_reducible (first | refine AW.seq ?_ | refine AW.block ?_ | refine AW.skip ?_ | refine AW.ret ?_ | refine AW.exit ?_) | ((with_reducible apply xcond); exact rfl))) | with_reducible (first | refine xthen ?_ | refine xthen_r ?_ | refine xthen_e ?_ | refine xblock ?_ | refine xblock_r ?_ | refine xblock_e ?_ | refine xblock_n rfl ?_ | refine xround_r ?_ | refine xround_e ?_) | (with_reducible intro hc; (try simp only [hcL, reduceCtorEq, List.length_map] at hc); (try (exfalso; omega))) | with_reducible (first | exact trivial | refine And.intro ?_ ?_ | exact rfl | exact Nat.le_refl _) | exact Eq.refl true | exact (rfl : (_ : List Nat) = _) | exact Nat.le_of_ble_eq_true rfl | (refine inR_i64.mpr ?_; first | omega | (simp only [List.length_map, List.length_map]; omega)) | omega)
    all_goals (refine xfinIs (by first | exact .inl rfl | exact .inr rfl) rfl (by repeat' (first | exact trivial | exact rfl | refine And.intro ?_ ?_)) rfl ?_ rfl; first | with_reducible exact rfl | (simp -implicitDefEqProofs only [go_sem, if_pos h] <;> (first | rfl | omega | exact decide_eq_decide.2 (by omega) | exact decide_eq_false (by omega) | exact decide_eq_true (by omega) | (symm; first | exact decide_eq_false (by omega) | exact decide_eq_true (by omega)) | (rw [Bool.eq_iff_iff]; simp only [boL, reduceCtorEq]; omega))))
  · refine ACon.introW tok (nt := 12) Try.func31 rfl rfl rfl (by kernel_rfl) rfl ?_
    repeat' (first | ((with_reducible apply xsim); (first | ((with_reducible apply xlenM); exact rfl; exact rfl) | ((with_reducible apply xo); exact rfl) | with_reducible apply xend | simp -implicitDefEqProofs only [go_sem, List.length_map])) | ((with_reducible apply xaw); (first | ((with_reducible apply xstepS); refine AW.step tok rfl ?_) | ((with_reducible apply xstep); refine AW.region tok rfl ?_) | with_reducible (first | refine AW.seq ?_ | refine AW.block ?_ | refine AW.skip ?_ | refine AW.ret ?_ | refine AW.exit ?_) | ((with_reducible apply xcond); exact rfl))) | with_reducible (first | refine xthen ?_ | refine xthen_r ?_ | refine xthen_e ?_ | refine xblock ?_ | refine xblock_r ?_ | refine xblock_e ?_ | refine xblock_n rfl ?_ | refine xround_r ?_ | refine xround_e ?_) | (with_reducible intro hc; (try simp only [hcL, reduceCtorEq, List.length_map] at hc); (try (exfalso; omega))) | with_reducible (first | exact trivial | refine And.intro ?_ ?_ | exact rfl | exact Nat.le_refl _) | exact Eq.refl true | exact (rfl : (_ : List Nat) = _) | exact Nat.le_of_ble_eq_true rfl | (refine inR_i64.mpr ?_; first | omega | (simp only [List.length_map, List.length_map]; omega)) | omega)
    all_goals (refine xfinIs (by first | exact .inl rfl | exact .inr rfl) rfl (by repeat' (first | exact trivial | exact rfl | refine And.intro ?_ ?_)) rfl ?_ rfl; first | with_reducible exact rfl | (simp -implicitDefEqProofs only [go_sem, if_neg h] <;> (first | rfl | omega | exact decide_eq_decide.2 (by omega) | exact decide_eq_false (by omega) | exact decide_eq_true (by omega) | (symm; first | exact decide_eq_false (by omega) | exact decide_eq_true (by omega)) | (rw [Bool.eq_iff_iff]; simp only [boL, reduceCtorEq]; omega))))
theorem c_toLine (p : Line) : ACon Try.prog 46 [vLine p] [] (Is (vLine p)) := by
  refine ACon.introW tok (nt := 11) Try.func46 rfl rfl rfl (by kernel_rfl) rfl ?_
  repeat' (first | ((with_reducible apply xsim); (first | ((with_reducible apply xo); exact rfl) | ((with_reducible apply xst); exact rfl) | with_reducible apply xend | ((with_reducible apply xalloc); exact rfl; simp only [bkL, Nat.reduceAdd, Nat.reduceSub]) | ((with_reducible apply xbox); exact rfl; simp only [bkL, Nat.reduceAdd, Nat.reduceSub]) | simp -implicitDefEqProofs only [go_sem])) | ((with_reducible apply xaw); (first | ((with_reducible apply xstepS); refine AW.step tok rfl ?_) | ((with_reducible apply xstep); refine AW.region tok rfl ?_) | with_reducible (first | refine AW.seq ?_ | refine AW.block ?_ | refine AW.skip ?_ | refine AW.ret ?_ | refine AW.exit ?_) | ((with_reducible apply xcond); exact rfl))) | with_reducible (first | refine xthen ?_ | refine xthen_r ?_ | refine xthen_e ?_ | refine xblock ?_ | refine xblock_r ?_ | refine xblock_e ?_ | refine xblock_n rfl ?_ | refine xround_r ?_ | refine xround_e ?_) | (with_reducible intro hc; (try simp only [hcL, reduceCtorEq] at hc); (try (exfalso; omega))) | with_reducible (first | exact trivial | refine And.intro ?_ ?_ | exact rfl | exact Nat.le_refl _) | exact Eq.refl true | exact (rfl : (_ : List Nat) = _) | exact Nat.le_of_ble_eq_true rfl | (refine inR_i64.mpr ?_; first | omega | (simp only [List.length_map]; omega)) | omega)
  all_goals (refine xfinIs (by first | exact .inl rfl | exact .inr rfl) rfl (by repeat' (first | exact trivial | exact rfl | refine And.intro ?_ ?_)) rfl ?_ rfl; first | with_reducible exact rfl | (simp -implicitDefEqProofs only [go_sem] <;> (first | rfl | omega | exact decide_eq_decide.2 (by omega) | exact decide_eq_false (by omega) | exact decide_eq_true (by omega) | (symm; first | exact decide_eq_false (by omega) | exact decide_eq_true (by omega)) | (rw [Bool.eq_iff_iff]; simp only [boL, reduceCtorEq]; omega))))
theorem c_toCell (p : Cell) : ACon Try.prog 35 [vCell p] [] (Is (vCell p)) := by
  refine ACon.introW tok (nt := 32) Try.func35 rfl rfl rfl (by kernel_rfl) rfl ?_
  repeat' (first | ((with_reducible apply xsim); (first | ((with_reducible apply xo); exact rfl) | ((with_reducible apply xst); exact rfl) | with_reducible apply xend | ((with_reducible apply xalloc); exact rfl; simp only [bkL, Nat.reduceAdd, Nat.reduceSub]) | ((with_reducible apply xbox); exact rfl; simp only [bkL, Nat.reduceAdd, Nat.reduceSub]) | simp -implicitDefEqProofs only [go_sem])) | ((with_reducible apply xaw); (first | ((with_reducible apply xstepS); refine AW.step tok rfl ?_) | ((with_reducible apply xstep); refine AW.region tok rfl ?_) | with_reducible (first | refine AW.seq ?_ | refine AW.block ?_ | refine AW.skip ?_ | refine AW.ret ?_ | refine AW.exit ?_) | ((with_reducible apply xcond); exact rfl))) | with_reducible (first | refine xthen ?_ | refine xthen_r ?_ | refine xthen_e ?_ | refine xblock ?_ | refine xblock_r ?_ | refine xblock_e ?_ | refine xblock_n rfl ?_ | refine xround_r ?_ | refine xround_e ?_) | (with_reducible intro hc; (try simp only [hcL, reduceCtorEq] at hc); (try (exfalso; omega))) | with_reducible (first | exact trivial | refine And.intro ?_ ?_ | exact rfl | exact Nat.le_refl _) | exact Eq.refl true | exact (rfl : (_ : List Nat) = _) | exact Nat.le_of_ble_eq_true rfl | (refine inR_i64.mpr ?_; first | omega | (simp only [List.length_map]; omega)) | omega)
  all_goals (refine xfinIs (by first | exact .inl rfl | exact .inr rfl) rfl (by repeat' (first | exact trivial | exact rfl | refine And.intro ?_ ?_)) rfl ?_ rfl; first | with_reducible exact rfl | (simp -implicitDefEqProofs only [go_sem] <;> (first | rfl | omega | exact decide_eq_decide.2 (by omega) | exact decide_eq_false (by omega) | exact decide_eq_true (by omega) | (symm; first | exact decide_eq_false (by omega) | exact decide_eq_true (by omega)) | (rw [Bool.eq_iff_iff]; simp only [boL, reduceCtorEq]; omega))))
theorem c_eqLine (p : Line) : ACon Try.prog 49 [vLine p, vLine p] [] (Is (.d (.bool true))) := by
  refine ACon.introW tok (nt := 15) Try.func49 rfl rfl rfl (by kernel_rfl) rfl ?_
  repeat' (first | ((with_reducible apply xsim); (first | ((with_reducible apply xo); exact rfl) | with_reducible apply xend | ((with_reducible apply xbox); exact rfl; simp only [bkL, Nat.reduceAdd, Nat.reduceSub]) | simp -implicitDefEqProofs only [go_sem, ne_eq, not_true_eq_false, decide_false, bne_self_eq_false])) | ((with_reducible apply xaw); (first | ((with_reducible apply xstepS); refine AW.step tok rfl ?_) | ((with_reducible apply xstep); refine AW.region tok rfl ?_) | with_reducible (first | refine AW.seq ?_ | refine AW.block ?_ | refine AW.skip ?_ | refine AW.ret ?_ | refine AW.exit ?_) | ((with_reducible apply xcond); exact rfl))) | with_reducible (first | refine xthen ?_ | refine xthen_r ?_ | refine xthen_e ?_ | refine xblock ?_ | refine xblock_r ?_ | refine xblock_e ?_ | refine xblock_n rfl ?_ | refine xround_r ?_ | refine xround_e ?_) | (with_reducible intro hc; (try simp only [hcL, reduceCtorEq, ne_eq, not_true_eq_false, decide_false, bne_self_eq_false] at hc); (try (exfalso; omega))) | with_reducible (first | exact trivial | refine And.intro ?_ ?_ | exact rfl | exact Nat.le_refl _) | exact Eq.refl true | exact (rfl : (_ : List Nat) = _) | exact Nat.le_of_ble_eq_true rfl | (refine inR_i64.mpr ?_; first | omega | (simp only [List.length_map, ne_eq, not_true_eq_false, decide_false, bne_self_eq_false]; omega)) | omega)
  all_goals (refine xfinIs (by first | exact .inl rfl | exact .inr rfl) rfl (by repeat' (first | exact trivial | exact rfl | refine And.intro ?_ ?_)) rfl ?_ rfl; first | with_reducible exact rfl | (simp -implicitDefEqProofs only [go_sem] <;> (first | rfl | omega | exact decide_eq_decide.2 (by omega) | exact decide_eq_false (by omega) | exact decide_eq_true (by omega) | (symm; first | exact decide_eq_false (by omega) | exact decide_eq_true (by omega)) | (rw [Bool.eq_iff_iff]; simp only [boL, reduceCtorEq]; omega))))
theorem c_eqLineS (xs : List Line) (hl : xs.length < 2^63) : ACon Try.prog 41 [.d (.lst (xs.map encLine)), .d (.lst (xs.map encLine))] [] (Is (.d (.bool true))) := by
  refine ACon.introW tok (nt := 27) Try.func41 rfl rfl rfl (by kernel_rfl) rfl ?_
  repeat' (first | ((with_reducible apply xsim); (first | ((with_reducible apply xlenM); exact rfl; exact rfl) | ((with_reducible apply xo); exact rfl) | with_reducible apply xend | ((with_reducible apply xidxL); exact rfl; exact rfl; exact rfl; exact rfl; omega; first | exact rfl | simp only [hsz]) | ((with_reducible apply xidxM); exact rfl; exact rfl; exact rfl; omega; omega; exact rfl) | ((with_reducible apply xldA); exact rfl; exact rfl; exact rfl; exact rfl; exact rfl) | simp -implicitDefEqProofs only [go_sem, List.length_map])) | ((with_reducible apply xaw); (first | ((with_reducible apply xstepS); refine AW.step tok rfl ?_) | ((with_reducible apply xstep); refine AW.region tok rfl ?_) | with_reducible (first | refine AW.seq ?_ | refine AW.block ?_ | refine AW.skip ?_ | refine AW.ret ?_ | refine AW.exit ?_) | ((with_reducible apply xcond); exact rfl) | ((with_reducible apply xdrawS (id := 6)); refine AW.drawS (id := 6) (.q 0 (.q 1 (.q 2 (.q 3 (.q 4 (.q 5 (.q 6 (.q 7 (.q 8 (.q 9 (.fin))))))))))) tok (by kernel_rfl) rfl (by kernel_rfl) ?_) | ((with_reducible apply xdraw (id := 6)); refine AW.draw (id := 6) (.q 0 (.q 1 (.q 2 (.q 3 (.q 4 (.q 5 (.q 6 (.q 7 (.q 8 (.q 9 (.fin))))))))))) tok (by kernel_rfl) rfl (by kernel_rfl) ?_))) | ((with_reducible apply xarun); (first | ((with_reducible apply xrun_q); exact rfl; exact rfl; exact rfl) | ((with_reducible apply xrun_e); exact rfl) | with_reducible apply xrun_f)) | with_reducible (first | refine xthen ?_ | refine xthen_r ?_ | refine xthen_e ?_ | refine xblock ?_ | refine xblock_r ?_ | refine xblock_e ?_ | refine xblock_n rfl ?_ | refine xround_r ?_ | refine xround_e ?_) | (with_reducible intro hc; (try simp only [hcL, reduceCtorEq, List.length_map] at hc); (try (exfalso; omega))) | with_reducible (first | exact trivial | refine And.intro ?_ ?_ | exact rfl | exact Nat.le_refl _) | exact Eq.refl true | exact (rfl : (_ : List Nat) = _) | exact Nat.le_of_ble_eq_true rfl | (refine inR_i64.mpr ?_; first | omega | (simp only [List.length_map, List.length_map]; omega)) | omega)
  refine AW.loop (S := fun k : Nat => ⟨[(0, .d (.lst (xs.map encLine))), (1, .d (.lst (xs.map encLine))), (5, .d (.int .i64 k))], [], 27, .p 0⟩)
    (Pre := fun k => k ≤ xs.length) (μ := fun k => xs.length - k) 0 (Nat.zero_le _) ?_ ?_
  · (refine xwk (π := []) (by decide) rfl ?_ ?_; (first | exact trivial | simp -implicitDefEqProofs only [go_sem]); repeat' (first | exact renE_n | ((with_reducible apply renE_c); exact rfl; focus (first | with_reducible exact rfl | (simp -implicitDefEqProofs only [go_sem]; done) | (simp -implicitDefEqProofs only [go_sem]; omega)))))
  · intro k hk
    by_cases hlt : k < xs.length
    · have hrow := at_map (f := encLine) hlt
      repeat' (first | ((with_reducible apply xsim); (first | ((with_reducible apply xlenM); exact rfl; exact rfl) | ((with_reducible apply xo); exact rfl) | with_reducible apply xend | ((with_reducible apply xidxL); exact rfl; exact rfl; exact rfl; (first | exact hrow); omega; first | exact rfl | simp only [hsz]) | ((with_reducible apply xidxM); exact rfl; exact rfl; exact rfl; omega; omega; exact rfl) | ((with_reducible apply xldA); exact rfl; exact rfl; exact rfl; (first | exact hrow); exact rfl) | ((with_reducible apply xcallIs); exact rfl; exact rfl; exact c_eqLine xs[k]; exact rfl) | simp -implicitDefEqProofs only [go_sem, List.length_map])) | ((with_reducible apply xaw); (first | ((with_reducible apply xstepS); refine AW.step tok rfl ?_) | ((with_reducible apply xstep); refine AW.region tok rfl ?_) | with_reducible (first | refine AW.seq ?_ | refine AW.block ?_ | refine AW.skip ?_ | refine AW.ret ?_ | refine AW.exit ?_) | ((with_reducible apply xcond); exact rfl) | ((with_reducible apply xdrawS (id := 6)); refine AW.drawS (id := 6) (.q 0 (.q 1 (.q 2 (.q 3 (.q 4 (.q 5 (.q 6 (.q 7 (.q 8 (.q 9 (.fin))))))))))) tok (by kernel_rfl) rfl (by kernel_rfl) ?_) | ((with_reducible apply xdraw (id := 6)); refine AW.draw (id := 6) (.q 0 (.q 1 (.q 2 (.q 3 (.q 4 (.q 5 (.q 6 (.q 7 (.q 8 (.q 9 (.fin))))))))))) tok (by kernel_rfl) rfl (by kernel_rfl) ?_))) | ((with_reducible apply xarun); (first | ((with_reducible apply xrun_q); exact rfl; exact rfl; exact rfl) | ((with_reducible apply xrun_c); exact rfl; exact rfl; exact rfl; exact rfl; exact rfl; exact rfl; exact c_eqLine xs[k]; exact rfl) | ((with_reducible apply xrun_e); exact rfl) | with_reducible apply xrun_f)) | with_reducible (first | refine xthen ?_ | refine xthen_r ?_ | refine xthen_e ?_ | refine xblock ?_ | refine xblock_r ?_ | refine xblock_e ?_ | refine xblock_n rfl ?_ | refine xround_r ?_ | refine xround_e ?_) | (with_reducible intro hc; (try simp only [hcL, reduceCtorEq, List.length_map] at hc); (try (exfalso; omega))) | with_reducible (first | exact trivial | refine And.intro ?_ ?_ | exact rfl | exact Nat.le_refl _) | exact Eq.refl true | exact (rfl : (_ : List Nat) = _) | exact Nat.le_of_ble_eq_true rfl | (refine inR_i64.mpr ?_; first | omega | (simp only [List.length_map, List.length_map]; omega)) | omega)
      refine round_end (k+1) hlt (by omega) (by (refine xwk (π := []) (by decide) rfl ?_ ?_; (first | exact trivial | simp -implicitDefEqProofs only [go_sem]); repeat' (first | exact renE_n | ((with_reducible apply renE_c); exact rfl; focus (first | with_reducible exact rfl | (simp -implicitDefEqProofs only [go_sem]; done) | (simp -implicitDefEqProofs only [go_sem]; omega))))))
    · repeat' (first | ((with_reducible apply xsim); (first | ((with_reducible apply xlenM); exact rfl; exact rfl) | ((with_reducible apply xo); exact rfl) | with_reducible apply xend | ((with_reducible apply xidxL); exact rfl; exact rfl; exact rfl; exact rfl; omega; first | exact rfl | simp only [hsz]) | ((with_reducible apply xidxM); exact rfl; exact rfl; exact rfl; omega; omega; exact rfl) | ((with_reducible apply xldA); exact rfl; exact rfl; exact rfl; exact rfl; exact rfl) | simp -implicitDefEqProofs only [go_sem, List.length_map])) | ((with_reducible apply xaw); (first | ((with_reducible apply xstepS); refine AW.step tok rfl ?_) | ((with_reducible apply xstep); refine AW.region tok rfl ?_) | with_reducible (first | refine AW.seq ?_ | refine AW.block ?_ | refine AW.skip ?_ | refine AW.ret ?_ | refine AW.exit ?_) | ((with_reducible apply xcond); exact rfl) | ((with_reducible apply xdrawS (id := 6)); refine AW.drawS (id := 6) (.q 0 (.q 1 (.q 2 (.q 3 (.q 4 (.q 5 (.q 6 (.q 7 (.q 8 (.q 9 (.fin))))))))))) tok (by kernel_rfl) rfl (by kernel_rfl) ?_) | ((with_reducible apply xdraw (id := 6)); refine AW.draw (id := 6) (.q 0 (.q 1 (.q 2 (.q 3 (.q 4 (.q 5 (.q 6 (.q 7 (.q 8 (.q 9 (.fin))))))))))) tok (by kernel_rfl) rfl (by kernel_rfl) ?_))) | ((with_reducible apply xarun); (first | ((with_reducible apply xrun_q); exact rfl; exact rfl; exact rfl) | ((with_reducible apply xrun_e); exact rfl) | with_reducible apply xrun_f)) | with_reducible (first | refine xthen ?_ | refine xthen_r ?_ | refine xthen_e ?_ | refine xblock ?_ | refine xblock_r ?_ | refine xblock_e ?_ | refine xblock_n rfl ?_ | refine xround_r ?_ | refine xround_e ?_) | (with_reducible intro hc; (try simp only [hcL, reduceCtorEq, List.length_map] at hc); (try (exfalso; omega))) | with_reducible (first | exact trivial | refine And.intro ?_ ?_ | exact rfl | exact Nat.le_refl _) | exact Eq.refl true | exact (rfl : (_ : List Nat) = _) | exact Nat.le_of_ble_eq_true rfl | (refine inR_i64.mpr ?_; first | omega | (simp only [List.length_map, List.length_map]; omega)) | omega)
      (refine xfinIs (by first | exact .inl rfl | exact .inr rfl) rfl (by repeat' (first | exact trivial | exact rfl | refine And.intro ?_ ?_)) rfl ?_ rfl; first | with_reducible exact rfl | (simp -implicitDefEqProofs only [go_sem] <;> (first | rfl | omega | exact decide_eq_decide.2 (by omega) | exact decide_eq_false (by omega) | exact decide_eq_true (by omega) | (symm; first | exact decide_eq_false (by omega) | exact decide_eq_true (by omega)) | (rw [Bool.eq_iff_iff]; simp only [boL, reduceCtorEq]; omega))))
theorem c_eqCell (p : Cell) : ACon Try.prog 43 [vCell p, vCell p] [] (Is (.d (.bool true))) := by
  refine ACon.introW tok (nt := 50) Try.func43 rfl rfl rfl (by kernel_rfl) rfl ?_
  repeat' (first | ((with_reducible apply xsim); (first | ((with_reducible apply xo); exact rfl) | with_reducible apply xend | ((with_reducible apply xbox); exact rfl; simp only [bkL, Nat.reduceAdd, Nat.reduceSub]) | simp -implicitDefEqProofs only [go_sem, ne_eq, not_true_eq_false, decide_false, bne_self_eq_false])) | ((with_reducible apply xaw); (first | ((with_reducible apply xstepS); refine AW.step tok rfl ?_) | ((with_reducible apply xstep); refine AW.region tok rfl ?_) | with_reducible (first | refine AW.seq ?_ | refine AW.block ?_ | refine AW.skip ?_ | refine AW.ret ?_ | refine AW.exit ?_) | ((with_reducible apply xcond); exact rfl))) | with_reducible (first | refine xthen ?_ | refine xthen_r ?_ | refine xthen_e ?_ | refine xblock ?_ | refine xblock_r ?_ | refine xblock_e ?_ | refine xblock_n rfl ?_ | refine xround_r ?_ | refine xround_e ?_) | (with_reducible intro hc; (try simp only [hcL, reduceCtorEq, ne_eq, not_true_eq_false, decide_false, bne_self_eq_false] at hc); (try (exfalso; omega))) | with_reducible (first | exact trivial | refine And.intro ?_ ?_ | exact rfl | exact Nat.le_refl _) | exact Eq.refl true | exact (rfl : (_ : List Nat) = _) | exact Nat.le_of_ble_eq_true rfl | (refine inR_i64.mpr ?_; first | omega | (simp only [List.length_map, ne_eq, not_true_eq_false, decide_false, bne_self_eq_false]; omega)) | omega)
  all_goals (refine xfinIs (by first | exact .inl rfl | exact .inr rfl) rfl (by repeat' (first | exact trivial | exact rfl | refine And.intro ?_ ?_)) rfl ?_ rfl; first | with_reducible exact rfl | (simp -implicitDefEqProofs only [go_sem] <;> (first | rfl | omega | exact decide_eq_decide.2 (by omega) | exact decide_eq_false (by omega) | exact decide_eq_true (by omega) | (symm; first | exact decide_eq_false (by omega) | exact decide_eq_true (by omega)) | (rw [Bool.eq_iff_iff]; simp only [boL, reduceCtorEq]; omega))))
def zLine : List D := [.int .i64 0, .int .i64 0]
theorem c_toLineS (xs : List Line) (hl : xs.length ≤ 2^20) : ACon Try.prog 33 [.d (.lst (xs.map encLine))] [] (ORows encLine 2 xs) := by
  refine ACon.introW tok (nt := 23) Try.func33 rfl rfl rfl (by kernel_rfl) rfl ?_
  repeat' (first | ((with_reducible apply xsim); (first | ((with_reducible apply xlenM); exact rfl; exact rfl) | ((with_reducible apply xo); exact rfl) | ((with_reducible apply xst); exact rfl) | with_reducible apply xend | ((with_reducible apply xidxL); exact rfl; exact rfl; exact rfl; exact rfl; omega; first | exact rfl | simp only [hsz]) | ((with_reducible apply xidxM); exact rfl; exact rfl; exact rfl; omega; omega; exact rfl) | ((with_reducible apply xldA); exact rfl; exact rfl; exact rfl; exact rfl; exact rfl) | ((with_reducible apply xstA); exact rfl; exact rfl; exact rfl; exact rfl; exact rfl; exact rfl; exact rfl; exact rfl; exact rfl; (try simp only [List.set_cons_zero, List.set_cons_succ, List.length_map])) | simp -implicitDefEqProofs only [go_sem, List.length_map])) | ((with_reducible apply xaw); (first | ((with_reducible apply xstepS); refine AW.step tok rfl ?_) | ((with_reducible apply xstep); refine AW.region tok rfl ?_) | with_reducible (first | refine AW.seq ?_ | refine AW.block ?_ | refine AW.skip ?_ | refine AW.ret ?_ | refine AW.exit ?_) | ((with_reducible apply xcond); exact rfl))) | with_reducible (first | refine xthen ?_ | refine xthen_r ?_ | refine xthen_e ?_ | refine xblock ?_ | refine xblock_r ?_ | refine xblock_e ?_ | refine xblock_n rfl ?_ | refine xround_r ?_ | refine xround_e ?_) | (with_reducible intro hc; (try simp only [hcL, reduceCtorEq, List.length_map] at hc); (try (exfalso; omega))) | with_reducible (first | exact trivial | refine And.intro ?_ ?_ | exact rfl | exact Nat.le_refl _) | exact Eq.refl true | exact (rfl : (_ : List Nat) = _) | exact Nat.le_of_ble_eq_true rfl | (refine inR_i64.mpr ?_; first | omega | (simp only [List.length_map, List.length_map]; omega)) | omega)
  refine AW.loop (S := fun k : Nat => ⟨[(0, .d (.lst (xs.map encLine))), (3, .msl 0 2 0 xs.length), (4, .d (.int .i64 k))], [.arr 2 (fillRows encLine zLine xs k)], 23, .p 0⟩)
    (Pre := fun k => k ≤ xs.length) (μ := fun k => xs.length - k) 0 (Nat.zero_le _) ?_ ?_
  · (refine xwk (π := [0]) (by decide) rfl ?_ ?_; (first | exact trivial | simp -implicitDefEqProofs only [go_sem, fillRows_zero, zLine]); repeat' (first | exact renE_n | ((with_reducible apply renE_c); exact rfl; focus (first | with_reducible exact rfl | (simp -implicitDefEqProofs only [go_sem, fillRows_zero, zLine]; done) | (simp -implicitDefEqProofs only [go_sem, fillRows_zero, zLine]; omega)))))
  · intro k hk
    by_cases hlt : k < xs.length
    · have hrow := at_map (f := encLine) hlt
      have hz := fillRows_at (enc := encLine) (z := zLine) hlt
      have hset := fillRows_set (enc := encLine) (z := zLine) hlt
      simp only [encLine] at hset
      repeat' (first | ((with_reducible apply xsim); (first | ((with_reducible apply xlenM); exact rfl; exact rfl) | ((with_reducible apply xo); exact rfl) | ((with_reducible apply xst); exact rfl) | with_reducible apply xend | ((with_reducible apply xidxL); exact rfl; exact rfl; exact rfl; (first | exact hrow | exact hz); omega; first | exact rfl | simp only [hsz]) | ((with_reducible apply xidxM); exact rfl; exact rfl; exact rfl; omega; omega; exact rfl) | ((with_reducible apply xldA); exact rfl; exact rfl; exact rfl; (first | exact hrow | exact hz); exact rfl) | ((with_reducible apply xstA); exact rfl; exact rfl; exact rfl; exact rfl; (first | exact hrow | exact hz); exact rfl; exact rfl; exact rfl; exact rfl; (try simp only [List.set_cons_zero, List.set_cons_succ, List.length_map])) | ((with_reducible apply xcallIs); exact rfl; exact rfl; exact c_toLine xs[k]; exact rfl) | simp -implicitDefEqProofs only [go_sem, List.length_map])) | ((with_reducible apply xaw); (first | ((with_reducible apply xstepS); refine AW.step tok rfl ?_) | ((with_reducible apply xstep); refine AW.region tok rfl ?_) | with_reducible (first | refine AW.seq ?_ | refine AW.block ?_ | refine AW.skip ?_ | refine AW.ret ?_ | refine AW.exit ?_) | ((with_reducible apply xcond); exact rfl))) | with_reducible (first | refine xthen ?_ | refine xthen_r ?_ | refine xthen_e ?_ | refine xblock ?_ | refine xblock_r ?_ | refine xblock_e ?_ | refine xblock_n rfl ?_ | refine xround_r ?_ | refine xround_e ?_) | (with_reducible intro hc; (try simp only [hcL, reduceCtorEq, List.length_map] at hc); (try (exfalso; omega))) | with_reducible (first | exact trivial | refine And.intro ?_ ?_ | exact rfl | exact Nat.le_refl _) | exact Eq.refl true | exact (rfl : (_ : List Nat) = _) | exact Nat.le_of_ble_eq_true rfl | (refine inR_i64.mpr ?_; first | omega | (simp only [List.length_map, List.length_map]; omega)) | omega)
      refine round_end (k+1) hlt (by omega) (by (refine xwk (π := [0]) (by decide) rfl ?_ ?_; (first | exact trivial | simp -implicitDefEqProofs only [go_sem, hset]); repeat' (first | exact renE_n | ((with_reducible apply renE_c); exact rfl; focus (first | with_reducible exact rfl | (simp -implicitDefEqProofs only [go_sem, hset]; done) | (simp -implicitDefEqProofs only [go_sem, hset]; omega))))))
    · have hk' : k = xs.length := by omega
      subst hk'
      repeat' (first | ((with_reducible apply xsim); (first | ((with_reducible apply xlenM); exact rfl; exact rfl) | ((with_reducible apply xo); exact rfl) | ((with_reducible apply xst); exact rfl) | with_reducible apply xend | ((with_reducible apply xidxL); exact rfl; exact rfl; exact rfl; exact rfl; omega; first | exact rfl | simp only [hsz]) | ((with_reducible apply xidxM); exact rfl; exact rfl; exact rfl; omega; omega; exact rfl) | ((with_reducible apply xldA); exact rfl; exact rfl; exact rfl; exact rfl; exact rfl) | ((with_reducible apply xstA); exact rfl; exact rfl; exact rfl; exact rfl; exact rfl; exact rfl; exact rfl; exact rfl; exact rfl; (try simp only [List.set_cons_zero, List.set_cons_succ, List.length_map])) | simp -implicitDefEqProofs only [go_sem, List.length_map])) | ((with_reducible apply xaw); (first | ((with_reducible apply xstepS); refine AW.step tok rfl ?_) | ((with_reducible apply xstep); refine AW.region tok rfl ?_) | with_reducible (first | refine AW.seq ?_ | refine AW.block ?_ | refine AW.skip ?_ | refine AW.ret ?_ | refine AW.exit ?_) | ((with_reducible apply xcond); exact rfl))) | with_reducible (first | refine xthen ?_ | refine xthen_r ?_ | refine xthen_e ?_ | refine xblock ?_ | refine xblock_r ?_ | refine xblock_e ?_ | refine xblock_n rfl ?_ | refine xround_r ?_ | refine xround_e ?_) | (with_reducible intro hc; (try simp only [hcL, reduceCtorEq, List.length_map] at hc); (try (exfalso; omega))) | with_reducible (first | exact trivial | refine And.intro ?_ ?_ | exact rfl | exact Nat.le_refl _) | exact Eq.refl true | exact (rfl : (_ : List Nat) = _) | exact Nat.le_of_ble_eq_true rfl | (refine inR_i64.mpr ?_; first | omega | (simp only [List.length_map, List.length_map]; omega)) | omega)
      (refine xfinOwn [0] (by first | exact .inl rfl | exact .inr rfl) rfl (by repeat' (first | exact trivial | exact rfl | refine And.intro ?_ ?_)) (by decide) rfl ?_ ?_ <;> simp -implicitDefEqProofs only [go_sem, fillRows_all])
theorem c_toLineSd (xs : List Line) (hl : xs.length ≤ 2^20) : ACon Try.prog 33 [.d (.lst (xs.map encLine))] [] (Is (.d (.lst (xs.map encLine)))) := by
  refine ACon.introW tok (nt := 23) Try.func33 rfl rfl rfl (by kernel_rfl) rfl ?_
  repeat' (first | ((with_reducible apply xsim); (first | ((with_reducible apply xlenM); exact rfl; exact rfl) | ((with_reducible apply xo); exact rfl) | ((with_reducible apply xst); exact rfl) | with_reducible apply xend | ((with_reducible apply xidxL); exact rfl; exact rfl; exact rfl; exact rfl; omega; first | exact rfl | simp only [hsz]) | ((with_reducible apply xidxM); exact rfl; exact rfl; exact rfl; omega; omega; exact rfl) | ((with_reducible apply xldA); exact rfl; exact rfl; exact rfl; exact rfl; exact rfl) | ((with_reducible apply xstA); exact rfl; exact rfl; exact rfl; exact rfl; exact rfl; exact rfl; exact rfl; exact rfl; exact rfl; (try simp only [List.set_cons_zero, List.set_cons_succ, List.length_map])) | simp -implicitDefEqProofs only [go_sem, List.length_map])) | ((with_reducible apply xaw); (first | ((with_reducible apply xstepS); refine AW.step tok rfl ?_) | ((with_reducible apply xstep); refine AW.region tok rfl ?_) | with_reducible (first | refine AW.seq ?_ | refine AW.block ?_ | refine AW.skip ?_ | refine AW.ret ?_ | refine AW.exit ?_) | ((with_reducible apply xcond); exact rfl))) | with_reducible (first | refine xthen ?_ | refine xthen_r ?_ | refine xthen_e ?_ | refine xblock ?_ | refine xblock_r ?_ | refine xblock_e ?_ | refine xblock_n rfl ?_ | refine xround_r ?_ | refine xround_e ?_) | (with_reducible intro hc; (try simp only [hcL, reduceCtorEq, List.length_map] at hc); (try (exfalso; omega))) | with_reducible (first | exact trivial | refine And.intro ?_ ?_ | exact rfl | exact Nat.le_refl _) | exact Eq.refl true | exact (rfl : (_ : List Nat) = _) | exact Nat.le_of_ble_eq_true rfl | (refine inR_i64.mpr ?_; first | omega | (simp only [List.length_map, List.length_map]; omega)) | omega)
  refine AW.loop (S := fun k : Nat => ⟨[(0, .d (.lst (xs.map encLine))), (3, .msl 0 2 0 xs.length), (4, .d (.int .i64 k))], [.arr 2 (fillRows encLine zLine xs k)], 23, .p 0⟩)
    (Pre := fun k => k ≤ xs.length) (μ := fun k => xs.length - k) 0 (Nat.zero_le _) ?_ ?_
  · (refine xwk (π := [0]) (by decide) rfl ?_ ?_; (first | exact trivial | simp -implicitDefEqProofs only [go_sem, fillRows_zero, zLine]); repeat' (first | exact renE_n | ((with_reducible apply renE_c); exact rfl; focus (first | with_reducible exact rfl | (simp -implicitDefEqProofs only [go_sem, fillRows_zero, zLine]; done) | (simp -implicitDefEqProofs only [go_sem, fillRows_zero, zLine]; omega)))))
  · intro k hk
    by_cases hlt : k < xs.length
    · have hrow := at_map (f := encLine) hlt
      have hz := fillRows_at (enc := encLine) (z := zLine) hlt
      have hset := fillRows_set (enc := encLine) (z := zLine) hlt
      simp only [encLine] at hset
      repeat' (first | ((with_reducible apply xsim); (first | ((with_reducible apply xlenM); exact rfl; exact rfl) | ((with_reducible apply xo); exact rfl) | ((with_reducible apply xst); exact rfl) | with_reducible apply xend | ((with_reducible apply xidxL); exact rfl; exact rfl; exact rfl; (first | exact hrow | exact hz); omega; first | exact rfl | simp only [hsz]) | ((with_reducible apply xidxM); exact rfl; exact rfl; exact rfl; omega; omega; exact rfl) | ((with_reducible apply xldA); exact rfl; exact rfl; exact rfl; (first | exact hrow | exact hz); exact rfl) | ((with_reducible apply xstA); exact rfl; exact rfl; exact rfl; exact rfl; (first | exact hrow | exact hz); exact rfl; exact rfl; exact rfl; exact rfl; (try simp only [List.set_cons_zero, List.set_cons_succ, List.length_map])) | ((with_reducible apply xcallIs); exact rfl; exact rfl; exact c_toLine xs[k]; exact rfl) | simp -implicitDefEqProofs only [go_sem, List.length_map])) | ((with_reducible apply xaw); (first | ((with_reducible apply xstepS); refine AW.step tok rfl ?_) | ((with_reducible apply xstep); refine AW.region tok rfl ?_) | with_reducible (first | refine AW.seq ?_ | refine AW.block ?_ | refine AW.skip ?_ | refine AW.ret ?_ | refine AW.exit ?_) | ((with_reducible apply xcond); exact rfl))) | with_reducible (first | refine xthen ?_ | refine xthen_r ?_ | refine xthen_e ?_ | refine xblock ?_ | refine xblock_r ?_ | refine xblock_e ?_ | refine xblock_n rfl ?_ | refine xround_r ?_ | refine xround_e ?_) | (with_reducible intro hc; (try simp only [hcL, reduceCtorEq, List.length_map] at hc); (try (exfalso; omega))) | with_reducible (first | exact trivial | refine And.intro ?_ ?_ | exact rfl | exact Nat.le_refl _) | exact Eq.refl true | exact (rfl : (_ : List Nat) = _) | exact Nat.le_of_ble_eq_true rfl | (refine inR_i64.mpr ?_; first | omega | (simp only [List.length_map, List.length_map]; omega)) | omega)
      refine round_end (k+1) hlt (by omega) (by (refine xwk (π := [0]) (by decide) rfl ?_ ?_; (first | exact trivial | simp -implicitDefEqProofs only [go_sem, hset]); repeat' (first | exact renE_n | ((with_reducible apply renE_c); exact rfl; focus (first | with_reducible exact rfl | (simp -implicitDefEqProofs only [go_sem, hset]; done) | (simp -implicitDefEqProofs only [go_sem, hset]; omega))))))
    · have hk' : k = xs.length := by omega
      subst hk'
      have hfl := fillRows_len (enc := encLine) (z := zLine) (Nat.le_refl xs.length)
      repeat' (first | ((with_reducible apply xsim); (first | ((with_reducible apply xlenM); exact rfl; exact rfl) | ((with_reducible apply xo); exact rfl) | ((with_reducible apply xst); exact rfl) | with_reducible apply xend | ((with_reducible apply xidxL); exact rfl; exact rfl; exact rfl; exact rfl; omega; first | exact rfl | simp only [hsz]) | ((with_reducible apply xidxM); exact rfl; exact rfl; exact rfl; omega; omega; exact rfl) | ((with_reducible apply xldA); exact rfl; exact rfl; exact rfl; exact rfl; exact rfl) | ((with_reducible apply xstA); exact rfl; exact rfl; exact rfl; exact rfl; exact rfl; exact rfl; exact rfl; exact rfl; exact rfl; (try simp only [List.set_cons_zero, List.set_cons_succ, List.length_map])) | simp -implicitDefEqProofs only [go_sem, List.length_map])) | ((with_reducible apply xaw); (first | ((with_reducible apply xstepS); refine AW.step tok rfl ?_) | ((with_reducible apply xstep); refine AW.region tok rfl ?_) | with_reducible (first | refine AW.seq ?_ | refine AW.block ?_ | refine AW.skip ?_ | refine AW.ret ?_ | refine AW.exit ?_) | ((with_reducible apply xcond); exact rfl))) | with_reducible (first | refine xthen ?_ | refine xthen_r ?_ | refine xthen_e ?_ | refine xblock ?_ | refine xblock_r ?_ | refine xblock_e ?_ | refine xblock_n rfl ?_ | refine xround_r ?_ | refine xround_e ?_) | (with_reducible intro hc; (try simp only [hcL, reduceCtorEq, List.length_map] at hc); (try (exfalso; omega))) | with_reducible (first | exact trivial | refine And.intro ?_ ?_ | exact rfl | exact Nat.le_refl _) | exact Eq.refl true | exact (rfl : (_ : List Nat) = _) | exact Nat.le_of_ble_eq_true rfl | (refine inR_i64.mpr ?_; first | omega | (simp only [List.length_map, List.length_map]; omega)) | omega)
      refine xfinW (Weak.freezeA 2 0 2 rfl rfl (by rw [hfl])) ?_
      (refine xfinIs (by first | exact .inl rfl | exact .inr rfl) rfl (by repeat' (first | exact trivial | exact rfl | refine And.intro ?_ ?_)) rfl ?_ rfl; first | with_reducible exact rfl | (simp -implicitDefEqProofs only [go_sem, fillRows_all] <;> (first | rfl | omega | exact decide_eq_decide.2 (by omega) | exact decide_eq_false (by omega) | exact decide_eq_true (by omega) | (symm; first | exact decide_eq_false (by omega) | exact decide_eq_true (by omega)) | (rw [Bool.eq_iff_iff]; simp only [boL, reduceCtorEq]; omega))))
end Go.Proofs.Ytagbfbamhfjbaaa

namespace Go.Proofs.Ytagbfbamhfjbaaa
open Go.Fw
attribute [local irreducible] Go.Fw.aops Go.Fw.arun

/-! A tree that the input brings, as the program has it. -/
theorem c_toPack (p : Pack) : ACon Try.prog 34 [vPack p] [] (Is (vPack p)) := by
  refine ACon.introW tok (nt := 32) Try.func34 rfl rfl rfl (by kernel_rfl) rfl ?_
  repeat' (first | ((with_reducible apply xsim); (first | ((with_reducible apply xo); exact rfl) | ((with_reducible apply xst); exact rfl) | with_reducible apply xend | ((with_reducible apply xalloc); exact rfl; simp only [bkL, Nat.reduceAdd, Nat.reduceSub]) | ((with_reducible apply xbox); exact rfl; simp only [bkL, Nat.reduceAdd, Nat.reduceSub]) | simp -implicitDefEqProofs only [go_sem])) | ((with_reducible apply xaw); (first | ((with_reducible apply xstepS); refine AW.step tok rfl ?_) | ((with_reducible apply xstep); refine AW.region tok rfl ?_) | with_reducible (first | refine AW.seq ?_ | refine AW.block ?_ | refine AW.skip ?_ | refine AW.ret ?_ | refine AW.exit ?_) | ((with_reducible apply xcond); exact rfl))) | with_reducible (first | refine xthen ?_ | refine xthen_r ?_ | refine xthen_e ?_ | refine xblock ?_ | refine xblock_r ?_ | refine xblock_e ?_ | refine xblock_n rfl ?_ | refine xround_r ?_ | refine xround_e ?_) | (with_reducible intro hc; (try simp only [hcL, reduceCtorEq] at hc); (try (exfalso; omega))) | with_reducible (first | exact trivial | refine And.intro ?_ ?_ | exact rfl | exact Nat.le_refl _) | exact Eq.refl true | exact (rfl : (_ : List Nat) = _) | exact Nat.le_of_ble_eq_true rfl | (refine inR_i64.mpr ?_; first | omega | (simp only [List.length_map]; omega)) | omega)
  all_goals (refine xfinIs (by first | exact .inl rfl | exact .inr rfl) rfl (by repeat' (first | exact trivial | exact rfl | refine And.intro ?_ ?_)) rfl ?_ rfl; first | with_reducible exact rfl | (simp -implicitDefEqProofs only [go_sem] <;> (first | rfl | omega | exact decide_eq_decide.2 (by omega) | exact decide_eq_false (by omega) | exact decide_eq_true (by omega) | (symm; first | exact decide_eq_false (by omega) | exact decide_eq_true (by omega)) | (rw [Bool.eq_iff_iff]; simp only [boL, reduceCtorEq]; omega))))
theorem c_eqPack (p : Pack) : ACon Try.prog 42 [vPack p, vPack p] [] (Is (.d (.bool true))) := by
  refine ACon.introW tok (nt := 50) Try.func42 rfl rfl rfl (by kernel_rfl) rfl ?_
  repeat' (first | ((with_reducible apply xsim); (first | ((with_reducible apply xo); exact rfl) | with_reducible apply xend | ((with_reducible apply xbox); exact rfl; simp only [bkL, Nat.reduceAdd, Nat.reduceSub]) | simp -implicitDefEqProofs only [go_sem, ne_eq, not_true_eq_false, decide_false, bne_self_eq_false])) | ((with_reducible apply xaw); (first | ((with_reducible apply xstepS); refine AW.step tok rfl ?_) | ((with_reducible apply xstep); refine AW.region tok rfl ?_) | with_reducible (first | refine AW.seq ?_ | refine AW.block ?_ | refine AW.skip ?_ | refine AW.ret ?_ | refine AW.exit ?_) | ((with_reducible apply xcond); exact rfl))) | with_reducible (first | refine xthen ?_ | refine xthen_r ?_ | refine xthen_e ?_ | refine xblock ?_ | refine xblock_r ?_ | refine xblock_e ?_ | refine xblock_n rfl ?_ | refine xround_r ?_ | refine xround_e ?_) | (with_reducible intro hc; (try simp only [hcL, reduceCtorEq, ne_eq, not_true_eq_false, decide_false, bne_self_eq_false] at hc); (try (exfalso; omega))) | with_reducible (first | exact trivial | refine And.intro ?_ ?_ | exact rfl | exact Nat.le_refl _) | exact Eq.refl true | exact (rfl : (_ : List Nat) = _) | exact Nat.le_of_ble_eq_true rfl | (refine inR_i64.mpr ?_; first | omega | (simp only [List.length_map, ne_eq, not_true_eq_false, decide_false, bne_self_eq_false]; omega)) | omega)
  all_goals (refine xfinIs (by first | exact .inl rfl | exact .inr rfl) rfl (by repeat' (first | exact trivial | exact rfl | refine And.intro ?_ ?_)) rfl ?_ rfl; first | with_reducible exact rfl | (simp -implicitDefEqProofs only [go_sem] <;> (first | rfl | omega | exact decide_eq_decide.2 (by omega) | exact decide_eq_false (by omega) | exact decide_eq_true (by omega) | (symm; first | exact decide_eq_false (by omega) | exact decide_eq_true (by omega)) | (rw [Bool.eq_iff_iff]; simp only [boL, reduceCtorEq]; omega))))
theorem c_toPlace (p : Place) : ACon Try.prog 36 [vPlace p] [] (Is (vPlace p)) := by
  refine ACon.introW tok (nt := 32) Try.func36 rfl rfl rfl (by kernel_rfl) rfl ?_
  repeat' (first | ((with_reducible apply xsim); (first | ((with_reducible apply xo); exact rfl) | ((with_reducible apply xst); exact rfl) | with_reducible apply xend | ((with_reducible apply xalloc); exact rfl; simp only [bkL, Nat.reduceAdd, Nat.reduceSub]) | ((with_reducible apply xbox); exact rfl; simp only [bkL, Nat.reduceAdd, Nat.reduceSub]) | simp -implicitDefEqProofs only [go_sem])) | ((with_reducible apply xaw); (first | ((with_reducible apply xstepS); refine AW.step tok rfl ?_) | ((with_reducible apply xstep); refine AW.region tok rfl ?_) | with_reducible (first | refine AW.seq ?_ | refine AW.block ?_ | refine AW.skip ?_ | refine AW.ret ?_ | refine AW.exit ?_) | ((with_reducible apply xcond); exact rfl))) | with_reducible (first | refine xthen ?_ | refine xthen_r ?_ | refine xthen_e ?_ | refine xblock ?_ | refine xblock_r ?_ | refine xblock_e ?_ | refine xblock_n rfl ?_ | refine xround_r ?_ | refine xround_e ?_) | (with_reducible intro hc; (try simp only [hcL, reduceCtorEq] at hc); (try (exfalso; omega))) | with_reducible (first | exact trivial | refine And.intro ?_ ?_ | exact rfl | exact Nat.le_refl _) | exact Eq.refl true | exact (rfl : (_ : List Nat) = _) | exact Nat.le_of_ble_eq_true rfl | (refine inR_i64.mpr ?_; first | omega | (simp only [List.length_map]; omega)) | omega)
  all_goals (refine xfinIs (by first | exact .inl rfl | exact .inr rfl) rfl (by repeat' (first | exact trivial | exact rfl | refine And.intro ?_ ?_)) rfl ?_ rfl; first | with_reducible exact rfl | (simp -implicitDefEqProofs only [go_sem] <;> (first | rfl | omega | exact decide_eq_decide.2 (by omega) | exact decide_eq_false (by omega) | exact decide_eq_true (by omega) | (symm; first | exact decide_eq_false (by omega) | exact decide_eq_true (by omega)) | (rw [Bool.eq_iff_iff]; simp only [boL, reduceCtorEq]; omega))))
theorem c_eqPlace (p : Place) : ACon Try.prog 44 [vPlace p, vPlace p] [] (Is (.d (.bool true))) := by
  refine ACon.introW tok (nt := 50) Try.func44 rfl rfl rfl (by kernel_rfl) rfl ?_
  repeat' (first | ((with_reducible apply xsim); (first | ((with_reducible apply xo); exact rfl) | with_reducible apply xend | ((with_reducible apply xbox); exact rfl; simp only [bkL, Nat.reduceAdd, Nat.reduceSub]) | simp -implicitDefEqProofs only [go_sem, ne_eq, not_true_eq_false, decide_false, bne_self_eq_false])) | ((with_reducible apply xaw); (first | ((with_reducible apply xstepS); refine AW.step tok rfl ?_) | ((with_reducible apply xstep); refine AW.region tok rfl ?_) | with_reducible (first | refine AW.seq ?_ | refine AW.block ?_ | refine AW.skip ?_ | refine AW.ret ?_ | refine AW.exit ?_) | ((with_reducible apply xcond); exact rfl))) | with_reducible (first | refine xthen ?_ | refine xthen_r ?_ | refine xthen_e ?_ | refine xblock ?_ | refine xblock_r ?_ | refine xblock_e ?_ | refine xblock_n rfl ?_ | refine xround_r ?_ | refine xround_e ?_) | (with_reducible intro hc; (try simp only [hcL, reduceCtorEq, ne_eq, not_true_eq_false, decide_false, bne_self_eq_false] at hc); (try (exfalso; omega))) | with_reducible (first | exact trivial | refine And.intro ?_ ?_ | exact rfl | exact Nat.le_refl _) | exact Eq.refl true | exact (rfl : (_ : List Nat) = _) | exact Nat.le_of_ble_eq_true rfl | (refine inR_i64.mpr ?_; first | omega | (simp only [List.length_map, ne_eq, not_true_eq_false, decide_false, bne_self_eq_false]; omega)) | omega)
  all_goals (refine xfinIs (by first | exact .inl rfl | exact .inr rfl) rfl (by repeat' (first | exact trivial | exact rfl | refine And.intro ?_ ?_)) rfl ?_ rfl; first | with_reducible exact rfl | (simp -implicitDefEqProofs only [go_sem] <;> (first | rfl | omega | exact decide_eq_decide.2 (by omega) | exact decide_eq_false (by omega) | exact decide_eq_true (by omega) | (symm; first | exact decide_eq_false (by omega) | exact decide_eq_true (by omega)) | (rw [Bool.eq_iff_iff]; simp only [boL, reduceCtorEq]; omega))))
def szL (k : Nat) (n : Int) : Int := if n - k < 0 then -1 else n - k
def szN (x : Node) (n : Int) : Int := if szL x.cols.length n < 0 then -1 else szL x.rows.length (szL x.cols.length n)
def szF : List Node → Int → Int
  | [], n => n
  | x :: xs, n => if szN x n < 0 then -1 else szF xs (szN x n)
def szT (t : List Node) (n : Int) : Int := if n - t.length < 0 then -1 else szF t (n - t.length)
theorem szL_le {k : Nat} {n : Int} (h : ¬ szL k n < 0) : szL k n = n - k ∧ 0 ≤ n - k := by
  unfold szL at h ⊢
  split <;> rename_i hc
  · rw [if_pos hc] at h; omega
  · omega
theorem szN_le {x : Node} {n : Int} (h : ¬ szN x n < 0) : szN x n ≤ n ∧ (x.cols.length : Int) ≤ n ∧ (x.rows.length : Int) ≤ n ∧ 0 ≤ n := by
  unfold szN at h ⊢
  split <;> rename_i hc
  · rw [if_pos hc] at h; omega
  · rw [if_neg hc] at h
    have h1 := szL_le hc
    have h2 := szL_le h
    omega
theorem szF_le : ∀ {xs : List Node} {n : Int}, ¬ szF xs n < 0 → ∀ x ∈ xs, (x.cols.length : Int) ≤ n ∧ (x.rows.length : Int) ≤ n
  | [], n, _, x, hx => by cases hx
  | y :: ys, n, h, x, hx => by
    simp only [szF] at h
    split at h <;> rename_i hc
    · omega
    · have h1 := szN_le hc
      rcases List.mem_cons.1 hx with rfl | hx
      · exact ⟨h1.2.1, h1.2.2.1⟩
      · have := szF_le h x hx
        omega
theorem szT_le {t : List Node} (h : ¬ szT t (2^20) < 0) : t.length ≤ 2^20 ∧ ∀ x ∈ t, x.cols.length ≤ 2^20 ∧ x.rows.length ≤ 2^20 := by
  unfold szT at h
  split at h <;> rename_i hc
  · omega
  · refine ⟨by omega, fun x hx => ?_⟩
    have := szF_le h x hx
    omega
theorem szL_lt {k : Nat} {n : Int} (h : szL k n < 0) : szL k n = -1 := by
  unfold szL at h ⊢
  split <;> rename_i hc
  · rfl
  · rw [if_neg hc] at h; omega
theorem szN_lt {x : Node} {n : Int} (h : szN x n < 0) : szN x n = -1 := by
  unfold szN at h ⊢
  split <;> rename_i hc
  · rfl
  · rw [if_neg hc] at h; exact szL_lt h
theorem szF_lt : ∀ {xs : List Node} {n : Int}, szF xs n < 0 → 0 ≤ n → szF xs n = -1
  | [], n, h, h0 => by simp only [szF] at h; omega
  | y :: ys, n, h, h0 => by
    simp only [szF] at h ⊢
    split <;> rename_i hc
    · rfl
    · rw [if_neg hc] at h
      exact szF_lt h (by omega)

theorem c_szNode (x : Node) (n : Int) (hn : 0 ≤ n ∧ n ≤ 2^20) (h1 : x.cols.length < 2^63) (h2 : x.rows.length < 2^63) : ACon Try.prog 21 [vNode x, .d (.int .i64 n)] [] (Is (.d (.int .i64 (szN x n)))) := by
  have e1 := c_szLineS x.cols n hn h1
  rw [show (if n - (x.cols.length : Int) < 0 then -1 else n - (x.cols.length : Int)) = szL x.cols.length n from rfl] at e1
  by_cases q1 : szL x.cols.length n < 0
  · rw [show szN x n = -1 by unfold szN; rw [if_pos q1]]
    generalize szL x.cols.length n = a at *
    refine ACon.introW tok (nt := 18) Try.func21 rfl rfl rfl (by kernel_rfl) rfl ?_
    repeat' (first | ((with_reducible apply xsim); (first | ((with_reducible apply xo); exact rfl) | with_reducible apply xend | ((with_reducible apply xbox); exact rfl; simp only [bkL, Nat.reduceAdd, Nat.reduceSub]) | ((with_reducible apply xcallIs); exact rfl; exact rfl; exact e1; exact rfl) | simp -implicitDefEqProofs only [go_sem])) | ((with_reducible apply xaw); (first | ((with_reducible apply xstepS); refine AW.step tok rfl ?_) | ((with_reducible apply xstep); refine AW.region tok rfl ?_) | with_reducible (first | refine AW.seq ?_ | refine AW.block ?_ | refine AW.skip ?_ | refine AW.ret ?_ | refine AW.exit ?_) | ((with_reducible apply xcond); exact rfl))) | with_reducible (first | refine xthen ?_ | refine xthen_r ?_ | refine xthen_e ?_ | refine xblock ?_ | refine xblock_r ?_ | refine xblock_e ?_ | refine xblock_n rfl ?_ | refine xround_r ?_ | refine xround_e ?_) | (with_reducible intro hc; (try simp only [hcL, reduceCtorEq] at hc); (try (exfalso; omega))) | with_reducible (first | exact trivial | refine And.intro ?_ ?_ | exact rfl | exact Nat.le_refl _) | exact Eq.refl true | exact (rfl : (_ : List Nat) = _) | exact Nat.le_of_ble_eq_true rfl | (refine inR_i64.mpr ?_; first | omega | (simp only [List.length_map]; omega)) | omega)
    all_goals (refine xfinIs (by first | exact .inl rfl | exact .inr rfl) rfl (by repeat' (first | exact trivial | exact rfl | refine And.intro ?_ ?_)) rfl ?_ rfl; first | with_reducible exact rfl | (simp -implicitDefEqProofs only [go_sem] <;> (first | rfl | omega | exact decide_eq_decide.2 (by omega) | exact decide_eq_false (by omega) | exact decide_eq_true (by omega) | (symm; first | exact decide_eq_false (by omega) | exact decide_eq_true (by omega)) | (rw [Bool.eq_iff_iff]; simp only [boL, reduceCtorEq]; omega))))
  · have q1' := szL_le q1
    have e2 := c_szLineS x.rows (szL x.cols.length n) (by omega) h2
    rw [show (if szL x.cols.length n - (x.rows.length : Int) < 0 then -1 else szL x.cols.length n - (x.rows.length : Int)) = szL x.rows.length (szL x.cols.length n) from rfl] at e2
    rw [show szN x n = szL x.rows.length (szL x.cols.length n) by unfold szN; rw [if_neg q1]]
    by_cases q2 : szL x.rows.length (szL x.cols.length n) < 0
    · rw [szL_lt q2] at e2 ⊢
      generalize szL x.cols.length n = a at *
      refine ACon.introW tok (nt := 18) Try.func21 rfl rfl rfl (by kernel_rfl) rfl ?_
      repeat' (first | ((with_reducible apply xsim); (first | ((with_reducible apply xo); exact rfl) | with_reducible apply xend | ((with_reducible apply xbox); exact rfl; simp only [bkL, Nat.reduceAdd, Nat.reduceSub]) | ((with_reducible apply xcallIs); exact rfl; exact rfl; (first | exact e1 | exact e2); exact rfl) | simp -implicitDefEqProofs only [go_sem])) | ((with_reducible apply xaw); (first | ((with_reducible apply xstepS); refine AW.step tok rfl ?_) | ((with_reducible apply xstep); refine AW.region tok rfl ?_) | with_reducible (first | refine AW.seq ?_ | refine AW.block ?_ | refine AW.skip ?_ | refine AW.ret ?_ | refine AW.exit ?_) | ((with_reducible apply xcond); exact rfl))) | with_reducible (first | refine xthen ?_ | refine xthen_r ?_ | refine xthen_e ?_ | refine xblock ?_ | refine xblock_r ?_ | refine xblock_e ?_ | refine xblock_n rfl ?_ | refine xround_r ?_ | refine xround_e ?_) | (with_reducible intro hc; (try simp only [hcL, reduceCtorEq] at hc); (try (exfalso; omega))) | with_reducible (first | exact trivial | refine And.intro ?_ ?_ | exact rfl | exact Nat.le_refl _) | exact Eq.refl true | exact (rfl : (_ : List Nat) = _) | exact Nat.le_of_ble_eq_true rfl | (refine inR_i64.mpr ?_; first | omega | (simp only [List.length_map]; omega)) | omega)
      all_goals (refine xfinIs (by first | exact .inl rfl | exact .inr rfl) rfl (by repeat' (first | exact trivial | exact rfl | refine And.intro ?_ ?_)) rfl ?_ rfl; first | with_reducible exact rfl | (simp -implicitDefEqProofs only [go_sem] <;> (first | rfl | omega | exact decide_eq_decide.2 (by omega) | exact decide_eq_false (by omega) | exact decide_eq_true (by omega) | (symm; first | exact decide_eq_false (by omega) | exact decide_eq_true (by omega)) | (rw [Bool.eq_iff_iff]; simp only [boL, reduceCtorEq]; omega))))
    · generalize szL x.rows.length (szL x.cols.length n) = b at *
      generalize szL x.cols.length n = a at *
      refine ACon.introW tok (nt := 18) Try.func21 rfl rfl rfl (by kernel_rfl) rfl ?_
      repeat' (first | ((with_reducible apply xsim); (first | ((with_reducible apply xo); exact rfl) | with_reducible apply xend | ((with_reducible apply xbox); exact rfl; simp only [bkL, Nat.reduceAdd, Nat.reduceSub]) | ((with_reducible apply xcallIs); exact rfl; exact rfl; (first | exact e1 | exact e2); exact rfl) | simp -implicitDefEqProofs only [go_sem])) | ((with_reducible apply xaw); (first | ((with_reducible apply xstepS); refine AW.step tok rfl ?_) | ((with_reducible apply xstep); refine AW.region tok rfl ?_) | with_reducible (first | refine AW.seq ?_ | refine AW.block ?_ | refine AW.skip ?_ | refine AW.ret ?_ | refine AW.exit ?_) | ((with_reducible apply xcond); exact rfl))) | with_reducible (first | refine xthen ?_ | refine xthen_r ?_ | refine xthen_e ?_ | refine xblock ?_ | refine xblock_r ?_ | refine xblock_e ?_ | refine xblock_n rfl ?_ | refine xround_r ?_ | refine xround_e ?_) | (with_reducible intro hc; (try simp only [hcL, reduceCtorEq] at hc); (try (exfalso; omega))) | with_reducible (first | exact trivial | refine And.intro ?_ ?_ | exact rfl | exact Nat.le_refl _) | exact Eq.refl true | exact (rfl : (_ : List Nat) = _) | exact Nat.le_of_ble_eq_true rfl | (refine inR_i64.mpr ?_; first | omega | (simp only [List.length_map]; omega)) | omega)
      all_goals (refine xfinIs (by first | exact .inl rfl | exact .inr rfl) rfl (by repeat' (first | exact trivial | exact rfl | refine And.intro ?_ ?_)) rfl ?_ rfl; first | with_reducible exact rfl | (simp -implicitDefEqProofs only [go_sem] <;> (first | rfl | omega | exact decide_eq_decide.2 (by omega) | exact decide_eq_false (by omega) | exact decide_eq_true (by omega) | (symm; first | exact decide_eq_false (by omega) | exact decide_eq_true (by omega)) | (rw [Bool.eq_iff_iff]; simp only [boL, reduceCtorEq]; omega))))
theorem c_szNodeS (t : List Node) (n : Int) (hn : 0 ≤ n ∧ n ≤ 2^20) (hl : t.length < 2^63) (hcs : ∀ x ∈ t, x.cols.length < 2^63 ∧ x.rows.length < 2^63) : ACon Try.prog 11 [.d (.lst (t.map encNode)), .d (.int .i64 n)] [] (Is (.d (.int .i64 (szT t n)))) := by
  by_cases q : n - t.length < 0
  · rw [show szT t n = -1 by unfold szT; rw [if_pos q]]
    refine ACon.introW tok (nt := 27) Try.func11 rfl rfl rfl (by kernel_rfl) rfl ?_
    repeat' (first | ((with_reducible apply xsim); (first | ((with_reducible apply xlenM); exact rfl; exact rfl) | ((with_reducible apply xo); exact rfl) | with_reducible apply xend | ((with_reducible apply xidxL); exact rfl; exact rfl; exact rfl; exact rfl; omega; first | exact rfl | simp only [hsz]) | ((with_reducible apply xidxM); exact rfl; exact rfl; exact rfl; omega; omega; exact rfl) | ((with_reducible apply xldA); exact rfl; exact rfl; exact rfl; exact rfl; exact rfl) | simp -implicitDefEqProofs only [go_sem, List.length_map])) | ((with_reducible apply xaw); (first | ((with_reducible apply xstepS); refine AW.step tok rfl ?_) | ((with_reducible apply xstep); refine AW.region tok rfl ?_) | with_reducible (first | refine AW.seq ?_ | refine AW.block ?_ | refine AW.skip ?_ | refine AW.ret ?_ | refine AW.exit ?_) | ((with_reducible apply xcond); exact rfl))) | with_reducible (first | refine xthen ?_ | refine xthen_r ?_ | refine xthen_e ?_ | refine xblock ?_ | refine xblock_r ?_ | refine xblock_e ?_ | refine xblock_n rfl ?_ | refine xround_r ?_ | refine xround_e ?_) | (with_reducible intro hc; (try simp only [hcL, reduceCtorEq, List.length_map] at hc); (try (exfalso; omega))) | with_reducible (first | exact trivial | refine And.intro ?_ ?_ | exact rfl | exact Nat.le_refl _) | exact Eq.refl true | exact (rfl : (_ : List Nat) = _) | exact Nat.le_of_ble_eq_true rfl | (refine inR_i64.mpr ?_; first | omega | (simp only [List.length_map, List.length_map]; omega)) | omega)
    all_goals (refine xfinIs (by first | exact .inl rfl | exact .inr rfl) rfl (by repeat' (first | exact trivial | exact rfl | refine And.intro ?_ ?_)) rfl ?_ rfl; first | with_reducible exact rfl | (simp -implicitDefEqProofs only [go_sem] <;> (first | rfl | omega | exact decide_eq_decide.2 (by omega) | exact decide_eq_false (by omega) | exact decide_eq_true (by omega) | (symm; first | exact decide_eq_false (by omega) | exact decide_eq_true (by omega)) | (rw [Bool.eq_iff_iff]; simp only [boL, reduceCtorEq]; omega))))
  · rw [show szT t n = szF t (n - t.length) by unfold szT; rw [if_neg q]]
    generalize hr : szF t (n - t.length) = r
    refine ACon.introW tok (nt := 27) Try.func11 rfl rfl rfl (by kernel_rfl) rfl ?_
    repeat' (first | ((with_reducible apply xsim); (first | ((with_reducible apply xlenM); exact rfl; exact rfl) | ((with_reducible apply xo); exact rfl) | with_reducible apply xend | ((with_reducible apply xidxL); exact rfl; exact rfl; exact rfl; exact rfl; omega; first | exact rfl | simp only [hsz]) | ((with_reducible apply xidxM); exact rfl; exact rfl; exact rfl; omega; omega; exact rfl) | ((with_reducible apply xldA); exact rfl; exact rfl; exact rfl; exact rfl; exact rfl) | simp -implicitDefEqProofs only [go_sem, List.length_map])) | ((with_reducible apply xaw); (first | ((with_reducible apply xstepS); refine AW.step tok rfl ?_) | ((with_reducible apply xstep); refine AW.region tok rfl ?_) | with_reducible (first | refine AW.seq ?_ | refine AW.block ?_ | refine AW.skip ?_ | refine AW.ret ?_ | refine AW.exit ?_) | ((with_reducible apply xcond); exact rfl))) | with_reducible (first | refine xthen ?_ | refine xthen_r ?_ | refine xthen_e ?_ | refine xblock ?_ | refine xblock_r ?_ | refine xblock_e ?_ | refine xblock_n rfl ?_ | refine xround_r ?_ | refine xround_e ?_) | (with_reducible intro hc; (try simp only [hcL, reduceCtorEq, List.length_map] at hc); (try (exfalso; omega))) | with_reducible (first | exact trivial | refine And.intro ?_ ?_ | exact rfl | exact Nat.le_refl _) | exact Eq.refl true | exact (rfl : (_ : List Nat) = _) | exact Nat.le_of_ble_eq_true rfl | (refine inR_i64.mpr ?_; first | omega | (simp only [List.length_map, List.length_map]; omega)) | omega)
    refine AW.loop (S := fun p : Nat × Int => ⟨[(0, .d (.lst (t.map encNode))), (1, .d (.int .i64 p.2)), (5, .d (.int .i64 p.1))], [], 27, .p 0⟩)
      (Pre := fun p => p.1 ≤ t.length ∧ 0 ≤ p.2 ∧ p.2 ≤ 2^20 ∧ szF (t.drop p.1) p.2 = r) (μ := fun p => t.length - p.1) (0, n - t.length) ⟨Nat.zero_le _, by dsimp only; omega, by dsimp only; omega, hr⟩ ?_ ?_
    · (refine xwk (π := []) (by decide) rfl ?_ ?_; (first | exact trivial | simp -implicitDefEqProofs only [go_sem]); repeat' (first | exact renE_n | ((with_reducible apply renE_c); exact rfl; focus (first | with_reducible exact rfl | (simp -implicitDefEqProofs only [go_sem]; done) | (simp -implicitDefEqProofs only [go_sem]; omega)))))
    rintro ⟨k, m⟩ ⟨hk, h0, h1, hm⟩
    dsimp only at hk h0 h1 hm ⊢
    by_cases hlt : k < t.length
    · have hrow := at_map (f := encNode) hlt
      have hx := hcs _ (List.getElem_mem hlt)
      have e1 := c_szNode t[k] m ⟨h0, h1⟩ hx.1 hx.2
      rw [List.drop_eq_getElem_cons hlt] at hm
      simp only [szF] at hm
      by_cases q1 : szN t[k] m < 0
      · rw [if_pos q1] at hm
        rw [szN_lt q1] at e1
        subst hm
        repeat' (first | ((with_reducible apply xsim); (first | ((with_reducible apply xlenM); exact rfl; exact rfl) | ((with_reducible apply xo); exact rfl) | with_reducible apply xend | ((with_reducible apply xidxL); exact rfl; exact rfl; exact rfl; (first | exact hrow); omega; first | exact rfl | simp only [hsz]) | ((with_reducible apply xidxM); exact rfl; exact rfl; exact rfl; omega; omega; exact rfl) | ((with_reducible apply xldA); exact rfl; exact rfl; exact rfl; (first | exact hrow); exact rfl) | ((with_reducible apply xcallIs); exact rfl; exact rfl; exact e1; exact rfl) | simp -implicitDefEqProofs only [go_sem, List.length_map])) | ((with_reducible apply xaw); (first | ((with_reducible apply xstepS); refine AW.step tok rfl ?_) | ((with_reducible apply xstep); refine AW.region tok rfl ?_) | with_reducible (first | refine AW.seq ?_ | refine AW.block ?_ | refine AW.skip ?_ | refine AW.ret ?_ | refine AW.exit ?_) | ((with_reducible apply xcond); exact rfl))) | with_reducible (first | refine xthen ?_ | refine xthen_r ?_ | refine xthen_e ?_ | refine xblock ?_ | refine xblock_r ?_ | refine xblock_e ?_ | refine xblock_n rfl ?_ | refine xround_r ?_ | refine xround_e ?_) | (with_reducible intro hc; (try simp only [hcL, reduceCtorEq, List.length_map] at hc); (try (exfalso; omega))) | with_reducible (first | exact trivial | refine And.intro ?_ ?_ | exact rfl | exact Nat.le_refl _) | exact Eq.refl true | exact (rfl : (_ : List Nat) = _) | exact Nat.le_of_ble_eq_true rfl | (refine inR_i64.mpr ?_; first | omega | (simp only [List.length_map, List.length_map]; omega)) | omega)
        all_goals (refine xfinIs (by first | exact .inl rfl | exact .inr rfl) rfl (by repeat' (first | exact trivial | exact rfl | refine And.intro ?_ ?_)) rfl ?_ rfl; first | with_reducible exact rfl | (simp -implicitDefEqProofs only [go_sem] <;> (first | rfl | omega | exact decide_eq_decide.2 (by omega) | exact decide_eq_false (by omega) | exact decide_eq_true (by omega) | (symm; first | exact decide_eq_false (by omega) | exact decide_eq_true (by omega)) | (rw [Bool.eq_iff_iff]; simp only [boL, reduceCtorEq]; omega))))
      · rw [if_neg q1] at hm
        have hle := szN_le q1
        generalize szN t[k] m = m' at *
        repeat' (first | ((with_reducible apply xsim); (first | ((with_reducible apply xlenM); exact rfl; exact rfl) | ((with_reducible apply xo); exact rfl) | with_reducible apply xend | ((with_reducible apply xidxL); exact rfl; exact rfl; exact rfl; (first | exact hrow); omega; first | exact rfl | simp only [hsz]) | ((with_reducible apply xidxM); exact rfl; exact rfl; exact rfl; omega; omega; exact rfl) | ((with_reducible apply xldA); exact rfl; exact rfl; exact rfl; (first | exact hrow); exact rfl) | ((with_reducible apply xcallIs); exact rfl; exact rfl; exact e1; exact rfl) | simp -implicitDefEqProofs only [go_sem, List.length_map])) | ((with_reducible apply xaw); (first | ((with_reducible apply xstepS); refine AW.step tok rfl ?_) | ((with_reducible apply xstep); refine AW.region tok rfl ?_) | with_reducible (first | refine AW.seq ?_ | refine AW.block ?_ | refine AW.skip ?_ | refine AW.ret ?_ | refine AW.exit ?_) | ((with_reducible apply xcond); exact rfl))) | with_reducible (first | refine xthen ?_ | refine xthen_r ?_ | refine xthen_e ?_ | refine xblock ?_ | refine xblock_r ?_ | refine xblock_e ?_ | refine xblock_n rfl ?_ | refine xround_r ?_ | refine xround_e ?_) | (with_reducible intro hc; (try simp only [hcL, reduceCtorEq, List.length_map] at hc); (try (exfalso; omega))) | with_reducible (first | exact trivial | refine And.intro ?_ ?_ | exact rfl | exact Nat.le_refl _) | exact Eq.refl true | exact (rfl : (_ : List Nat) = _) | exact Nat.le_of_ble_eq_true rfl | (refine inR_i64.mpr ?_; first | omega | (simp only [List.length_map, List.length_map]; omega)) | omega)
        all_goals refine round_end ((k+1, m') : Nat × Int) ⟨by dsimp only; omega, by dsimp only; omega, by dsimp only; omega, hm⟩ (by dsimp only; omega) (by (refine xwk (π := []) (by decide) rfl ?_ ?_; (first | exact trivial | simp -implicitDefEqProofs only [go_sem]); repeat' (first | exact renE_n | ((with_reducible apply renE_c); exact rfl; focus (first | with_reducible exact rfl | (simp -implicitDefEqProofs only [go_sem]; done) | (simp -implicitDefEqProofs only [go_sem]; omega))))))
    · have hk' : k = t.length := by omega
      subst hk'
      rw [List.drop_length] at hm
      simp only [szF] at hm
      subst hm
      repeat' (first | ((with_reducible apply xsim); (first | ((with_reducible apply xlenM); exact rfl; exact rfl) | ((with_reducible apply xo); exact rfl) | with_reducible apply xend | ((with_reducible apply xidxL); exact rfl; exact rfl; exact rfl; exact rfl; omega; first | exact rfl | simp only [hsz]) | ((with_reducible apply xidxM); exact rfl; exact rfl; exact rfl; omega; omega; exact rfl) | ((with_reducible apply xldA); exact rfl; exact rfl; exact rfl; exact rfl; exact rfl) | simp -implicitDefEqProofs only [go_sem, List.length_map])) | ((with_reducible apply xaw); (first | ((with_reducible apply xstepS); refine AW.step tok rfl ?_) | ((with_reducible apply xstep); refine AW.region tok rfl ?_) | with_reducible (first | refine AW.seq ?_ | refine AW.block ?_ | refine AW.skip ?_ | refine AW.ret ?_ | refine AW.exit ?_) | ((with_reducible apply xcond); exact rfl))) | with_reducible (first | refine xthen ?_ | refine xthen_r ?_ | refine xthen_e ?_ | refine xblock ?_ | refine xblock_r ?_ | refine xblock_e ?_ | refine xblock_n rfl ?_ | refine xround_r ?_ | refine xround_e ?_) | (with_reducible intro hc; (try simp only [hcL, reduceCtorEq, List.length_map] at hc); (try (exfalso; omega))) | with_reducible (first | exact trivial | refine And.intro ?_ ?_ | exact rfl | exact Nat.le_refl _) | exact Eq.refl true | exact (rfl : (_ : List Nat) = _) | exact Nat.le_of_ble_eq_true rfl | (refine inR_i64.mpr ?_; first | omega | (simp only [List.length_map, List.length_map]; omega)) | omega)
      all_goals (refine xfinIs (by first | exact .inl rfl | exact .inr rfl) rfl (by repeat' (first | exact trivial | exact rfl | refine And.intro ?_ ?_)) rfl ?_ rfl; first | with_reducible exact rfl | (simp -implicitDefEqProofs only [go_sem] <;> (first | rfl | omega | exact decide_eq_decide.2 (by omega) | exact decide_eq_false (by omega) | exact decide_eq_true (by omega) | (symm; first | exact decide_eq_false (by omega) | exact decide_eq_true (by omega)) | (rw [Bool.eq_iff_iff]; simp only [boL, reduceCtorEq]; omega))))
theorem c_szTree (t : List Node) (hl : t.length < 2^63) (hc : ∀ x ∈ t, x.cols.length < 2^63 ∧ x.rows.length < 2^63) : ACon Try.prog 4 [vTree t, .d (.int .i64 1048576)] [] (Is (.d (.int .i64 (szT t (2^20))))) := by
  have e1 := c_szNodeS t (2^20) (by omega) hl hc
  by_cases q : szT t (2^20) < 0
  · have e : szT t (2^20) = -1 := by
      unfold szT at q ⊢
      split <;> rename_i hcc
      · rfl
      · rw [if_neg hcc] at q
        exact szF_lt q (by omega)
    rw [e] at e1 ⊢
    refine ACon.introW tok (nt := 12) Try.func4 rfl rfl rfl (by kernel_rfl) rfl ?_
    repeat' (first | ((with_reducible apply xsim); (first | ((with_reducible apply xo); exact rfl) | with_reducible apply xend | ((with_reducible apply xbox); exact rfl; simp only [bkL, Nat.reduceAdd, Nat.reduceSub]) | ((with_reducible apply xcallIs); exact rfl; exact rfl; exact e1; exact rfl) | simp -implicitDefEqProofs only [go_sem])) | ((with_reducible apply xaw); (first | ((with_reducible apply xstepS); refine AW.step tok rfl ?_) | ((with_reducible apply xstep); refine AW.region tok rfl ?_) | with_reducible (first | refine AW.seq ?_ | refine AW.block ?_ | refine AW.skip ?_ | refine AW.ret ?_ | refine AW.exit ?_) | ((with_reducible apply xcond); exact rfl))) | with_reducible (first | refine xthen ?_ | refine xthen_r ?_ | refine xthen_e ?_ | refine xblock ?_ | refine xblock_r ?_ | refine xblock_e ?_ | refine xblock_n rfl ?_ | refine xround_r ?_ | refine xround_e ?_) | (with_reducible intro hc; (try simp only [hcL, reduceCtorEq] at hc); (try (exfalso; omega))) | with_reducible (first | exact trivial | refine And.intro ?_ ?_ | exact rfl | exact Nat.le_refl _) | exact Eq.refl true | exact (rfl : (_ : List Nat) = _) | exact Nat.le_of_ble_eq_true rfl | (refine inR_i64.mpr ?_; first | omega | (simp only [List.length_map]; omega)) | omega)
    all_goals (refine xfinIs (by first | exact .inl rfl | exact .inr rfl) rfl (by repeat' (first | exact trivial | exact rfl | refine And.intro ?_ ?_)) rfl ?_ rfl; first | with_reducible exact rfl | (simp -implicitDefEqProofs only [go_sem] <;> (first | rfl | omega | exact decide_eq_decide.2 (by omega) | exact decide_eq_false (by omega) | exact decide_eq_true (by omega) | (symm; first | exact decide_eq_false (by omega) | exact decide_eq_true (by omega)) | (rw [Bool.eq_iff_iff]; simp only [boL, reduceCtorEq]; omega))))
  · generalize szT t (2^20) = r at *
    refine ACon.introW tok (nt := 12) Try.func4 rfl rfl rfl (by kernel_rfl) rfl ?_
    repeat' (first | ((with_reducible apply xsim); (first | ((with_reducible apply xo); exact rfl) | with_reducible apply xend | ((with_reducible apply xbox); exact rfl; simp only [bkL, Nat.reduceAdd, Nat.reduceSub]) | ((with_reducible apply xcallIs); exact rfl; exact rfl; exact e1; exact rfl) | simp -implicitDefEqProofs only [go_sem])) | ((with_reducible apply xaw); (first | ((with_reducible apply xstepS); refine AW.step tok rfl ?_) | ((with_reducible apply xstep); refine AW.region tok rfl ?_) | with_reducible (first | refine AW.seq ?_ | refine AW.block ?_ | refine AW.skip ?_ | refine AW.ret ?_ | refine AW.exit ?_) | ((with_reducible apply xcond); exact rfl))) | with_reducible (first | refine xthen ?_ | refine xthen_r ?_ | refine xthen_e ?_ | refine xblock ?_ | refine xblock_r ?_ | refine xblock_e ?_ | refine xblock_n rfl ?_ | refine xround_r ?_ | refine xround_e ?_) | (with_reducible intro hc; (try simp only [hcL, reduceCtorEq] at hc); (try (exfalso; omega))) | with_reducible (first | exact trivial | refine And.intro ?_ ?_ | exact rfl | exact Nat.le_refl _) | exact Eq.refl true | exact (rfl : (_ : List Nat) = _) | exact Nat.le_of_ble_eq_true rfl | (refine inR_i64.mpr ?_; first | omega | (simp only [List.length_map]; omega)) | omega)
    all_goals (refine xfinIs (by first | exact .inl rfl | exact .inr rfl) rfl (by repeat' (first | exact trivial | exact rfl | refine And.intro ?_ ?_)) rfl ?_ rfl; first | with_reducible exact rfl | (simp -implicitDefEqProofs only [go_sem] <;> (first | rfl | omega | exact decide_eq_decide.2 (by omega) | exact decide_eq_false (by omega) | exact decide_eq_true (by omega) | (symm; first | exact decide_eq_false (by omega) | exact decide_eq_true (by omega)) | (rw [Bool.eq_iff_iff]; simp only [boL, reduceCtorEq]; omega))))

set_option maxRecDepth 8000 in
set_option maxHeartbeats 4000000 in
theorem c_toNode (x : Node) (h1 : x.cols.length ≤ 2^20) (h2 : x.rows.length ≤ 2^20) : ACon Try.prog 24 [vNode x] [] (Is (vNode x)) := by
  refine ACon.introW tok (nt := 40) Try.func24 rfl rfl rfl (by kernel_rfl) rfl ?_
  repeat' (first | ((with_reducible apply xsim); (first | ((with_reducible apply xo); exact rfl) | ((with_reducible apply xst); exact rfl) | with_reducible apply xend | ((with_reducible apply xalloc); exact rfl; simp only [bkL, Nat.reduceAdd, Nat.reduceSub]) | ((with_reducible apply xbox); exact rfl; simp only [bkL, Nat.reduceAdd, Nat.reduceSub]) | ((with_reducible apply xcallIs); exact rfl; exact rfl; (first | exact c_toLineSd _ h1 | exact c_toLineSd _ h2 | exact c_toPack x.pack | exact c_toCell x.cell | exact c_toPlace x.place); exact rfl) | simp -implicitDefEqProofs only [go_sem])) | ((with_reducible apply xaw); (first | ((with_reducible apply xstepS); refine AW.step tok rfl ?_) | ((with_reducible apply xstep); refine AW.region tok rfl ?_) | with_reducible (first | refine AW.seq ?_ | refine AW.block ?_ | refine AW.skip ?_ | refine AW.ret ?_ | refine AW.exit ?_) | ((with_reducible apply xcond); exact rfl))) | with_reducible (first | refine xthen ?_ | refine xthen_r ?_ | refine xthen_e ?_ | refine xblock ?_ | refine xblock_r ?_ | refine xblock_e ?_ | refine xblock_n rfl ?_ | refine xround_r ?_ | refine xround_e ?_) | (with_reducible intro hc; (try simp only [hcL, reduceCtorEq] at hc); (try (exfalso; omega))) | with_reducible (first | exact trivial | refine And.intro ?_ ?_ | exact rfl | exact Nat.le_refl _) | exact Eq.refl true | exact (rfl : (_ : List Nat) = _) | exact Nat.le_of_ble_eq_true rfl | (refine inR_i64.mpr ?_; first | omega | (simp only [List.length_map]; omega)) | omega)
  all_goals (refine xfinIs (by first | exact .inl rfl | exact .inr rfl) rfl (by repeat' (first | exact trivial | exact rfl | refine And.intro ?_ ?_)) rfl ?_ rfl; first | with_reducible exact rfl | (simp -implicitDefEqProofs only [go_sem] <;> (first | rfl | omega | exact decide_eq_decide.2 (by omega) | exact decide_eq_false (by omega) | exact decide_eq_true (by omega) | (symm; first | exact decide_eq_false (by omega) | exact decide_eq_true (by omega)) | (rw [Bool.eq_iff_iff]; simp only [boL, reduceCtorEq]; omega))))
def zNode : List D := .int .i64 0 :: .int .i64 0 :: .int .i64 0 :: .bool false :: .int .i64 0 :: .lst [] :: .lst [] :: [
  .int .i64 0, .int .i64 0, .int .i64 0, .bool false, .bool false, .bool false, .int .i64 0, .int .i64 0, .int .i64 0,
  .int .i64 0, .int .i64 0, .int .i64 0, .int .i64 0, .int .i64 0, .int .i64 0, .int .i64 0, .int .i64 0, .int .i64 0,
  .int .i64 0, .int .i64 0, .int .i64 0, .int .i64 0, .int .i64 0, .int .i64 0, .int .i64 0, .int .i64 0, .int .i64 0]
set_option maxRecDepth 8000 in
set_option maxHeartbeats 4000000 in
theorem c_toNodeS (t : List Node) (hl : t.length ≤ 2^20) (hc : ∀ x ∈ t, x.cols.length ≤ 2^20 ∧ x.rows.length ≤ 2^20) : ACon Try.prog 14 [.d (.lst (t.map encNode))] [] (Is (.d (.lst (t.map encNode)))) := by
  refine ACon.introW tok (nt := 23) Try.func14 rfl rfl rfl (by kernel_rfl) rfl ?_
  repeat' (first | ((with_reducible apply xsim); (first | ((with_reducible apply xlenM); exact rfl; exact rfl) | ((with_reducible apply xo); exact rfl) | ((with_reducible apply xst); exact rfl) | with_reducible apply xend | ((with_reducible apply xidxL); exact rfl; exact rfl; exact rfl; exact rfl; omega; first | exact rfl | simp only [hsz]) | ((with_reducible apply xidxM); exact rfl; exact rfl; exact rfl; omega; omega; exact rfl) | ((with_reducible apply xldA); exact rfl; exact rfl; exact rfl; exact rfl; exact rfl) | ((with_reducible apply xstA); exact rfl; exact rfl; exact rfl; exact rfl; exact rfl; exact rfl; exact rfl; exact rfl; exact rfl; (try simp only [List.set_cons_zero, List.set_cons_succ, List.length_map])) | simp -implicitDefEqProofs only [go_sem, List.length_map])) | ((with_reducible apply xaw); (first | ((with_reducible apply xstepS); refine AW.step tok rfl ?_) | ((with_reducible apply xstep); refine AW.region tok rfl ?_) | with_reducible (first | refine AW.seq ?_ | refine AW.block ?_ | refine AW.skip ?_ | refine AW.ret ?_ | refine AW.exit ?_) | ((with_reducible apply xcond); exact rfl))) | with_reducible (first | refine xthen ?_ | refine xthen_r ?_ | refine xthen_e ?_ | refine xblock ?_ | refine xblock_r ?_ | refine xblock_e ?_ | refine xblock_n rfl ?_ | refine xround_r ?_ | refine xround_e ?_) | (with_reducible intro hc; (try simp only [hcL, reduceCtorEq, List.length_map] at hc); (try (exfalso; omega))) | with_reducible (first | exact trivial | refine And.intro ?_ ?_ | exact rfl | exact Nat.le_refl _) | exact Eq.refl true | exact (rfl : (_ : List Nat) = _) | exact Nat.le_of_ble_eq_true rfl | (refine inR_i64.mpr ?_; first | omega | (simp only [List.length_map, List.length_map]; omega)) | omega)
  refine AW.loop (S := fun k : Nat => ⟨[(0, .d (.lst (t.map encNode))), (3, .msl 0 34 0 t.length), (4, .d (.int .i64 k))], [.arr 34 (fillRows encNode zNode t k)], 23, .p 0⟩)
    (Pre := fun k => k ≤ t.length) (μ := fun k => t.length - k) 0 (Nat.zero_le _) ?_ ?_
  · (refine xwk (π := [0]) (by decide) rfl ?_ ?_; (first | exact trivial | simp -implicitDefEqProofs only [go_sem, fillRows_zero, zNode]); repeat' (first | exact renE_n | ((with_reducible apply renE_c); exact rfl; focus (first | with_reducible exact rfl | (simp -implicitDefEqProofs only [go_sem, fillRows_zero, zNode]; done) | (simp -implicitDefEqProofs only [go_sem, fillRows_zero, zNode]; omega)))))
  · intro k hk
    by_cases hlt : k < t.length
    · have hrow := at_map (f := encNode) hlt
      have hz := fillRows_at (enc := encNode) (z := zNode) hlt
      have hset := fillRows_set (enc := encNode) (z := zNode) hlt
      simp only [encNode] at hset
      have hx := hc _ (List.getElem_mem hlt)
      repeat' (first | ((with_reducible apply xsim); (first | ((with_reducible apply xlenM); exact rfl; exact rfl) | ((with_reducible apply xo); exact rfl) | ((with_reducible apply xst); exact rfl) | with_reducible apply xend | ((with_reducible apply xidxL); exact rfl; exact rfl; exact rfl; (first | exact hrow | exact hz); omega; first | exact rfl | simp only [hsz]) | ((with_reducible apply xidxM); exact rfl; exact rfl; exact rfl; omega; omega; exact rfl) | ((with_reducible apply xldA); exact rfl; exact rfl; exact rfl; (first | exact hrow | exact hz); exact rfl) | ((with_reducible apply xstA); exact rfl; exact rfl; exact rfl; exact rfl; (first | exact hrow | exact hz); exact rfl; exact rfl; exact rfl; exact rfl; (try simp only [List.set_cons_zero, List.set_cons_succ, List.length_map])) | ((with_reducible apply xcallIs); exact rfl; exact rfl; exact c_toNode t[k] hx.1 hx.2; exact rfl) | simp -implicitDefEqProofs only [go_sem, List.length_map])) | ((with_reducible apply xaw); (first | ((with_reducible apply xstepS); refine AW.step tok rfl ?_) | ((with_reducible apply xstep); refine AW.region tok rfl ?_) | with_reducible (first | refine AW.seq ?_ | refine AW.block ?_ | refine AW.skip ?_ | refine AW.ret ?_ | refine AW.exit ?_) | ((with_reducible apply xcond); exact rfl))) | with_reducible (first | refine xthen ?_ | refine xthen_r ?_ | refine xthen_e ?_ | refine xblock ?_ | refine xblock_r ?_ | refine xblock_e ?_ | refine xblock_n rfl ?_ | refine xround_r ?_ | refine xround_e ?_) | (with_reducible intro hc; (try simp only [hcL, reduceCtorEq, List.length_map] at hc); (try (exfalso; omega))) | with_reducible (first | exact trivial | refine And.intro ?_ ?_ | exact rfl | exact Nat.le_refl _) | exact Eq.refl true | exact (rfl : (_ : List Nat) = _) | exact Nat.le_of_ble_eq_true rfl | (refine inR_i64.mpr ?_; first | omega | (simp only [List.length_map, List.length_map]; omega)) | omega)
      refine round_end (k+1) hlt (by omega) (by (refine xwk (π := [0]) (by decide) rfl ?_ ?_; (first | exact trivial | simp -implicitDefEqProofs only [go_sem, hset]); repeat' (first | exact renE_n | ((with_reducible apply renE_c); exact rfl; focus (first | with_reducible exact rfl | (simp -implicitDefEqProofs only [go_sem, hset]; done) | (simp -implicitDefEqProofs only [go_sem, hset]; omega))))))
    · have hk' : k = t.length := by omega
      subst hk'
      have hfl := fillRows_len (enc := encNode) (z := zNode) (Nat.le_refl t.length)
      repeat' (first | ((with_reducible apply xsim); (first | ((with_reducible apply xlenM); exact rfl; exact rfl) | ((with_reducible apply xo); exact rfl) | ((with_reducible apply xst); exact rfl) | with_reducible apply xend | ((with_reducible apply xidxL); exact rfl; exact rfl; exact rfl; exact rfl; omega; first | exact rfl | simp only [hsz]) | ((with_reducible apply xidxM); exact rfl; exact rfl; exact rfl; omega; omega; exact rfl) | ((with_reducible apply xldA); exact rfl; exact rfl; exact rfl; exact rfl; exact rfl) | ((with_reducible apply xstA); exact rfl; exact rfl; exact rfl; exact rfl; exact rfl; exact rfl; exact rfl; exact rfl; exact rfl; (try simp only [List.set_cons_zero, List.set_cons_succ, List.length_map])) | simp -implicitDefEqProofs only [go_sem, List.length_map])) | ((with_reducible apply xaw); (first | ((with_reducible apply xstepS); refine AW.step tok rfl ?_) | ((with_reducible apply xstep); refine AW.region tok rfl ?_) | with_reducible (first | refine AW.seq ?_ | refine AW.block ?_ | refine AW.skip ?_ | refine AW.ret ?_ | refine AW.exit ?_) | ((with_reducible apply xcond); exact rfl))) | with_reducible (first | refine xthen ?_ | refine xthen_r ?_ | refine xthen_e ?_ | refine xblock ?_ | refine xblock_r ?_ | refine xblock_e ?_ | refine xblock_n rfl ?_ | refine xround_r ?_ | refine xround_e ?_) | (with_reducible intro hc; (try simp only [hcL, reduceCtorEq, List.length_map] at hc); (try (exfalso; omega))) | with_reducible (first | exact trivial | refine And.intro ?_ ?_ | exact rfl | exact Nat.le_refl _) | exact Eq.refl true | exact (rfl : (_ : List Nat) = _) | exact Nat.le_of_ble_eq_true rfl | (refine inR_i64.mpr ?_; first | omega | (simp only [List.length_map, List.length_map]; omega)) | omega)
      refine xfinW (Weak.freezeA 2 0 34 rfl rfl (by rw [hfl])) ?_
      (refine xfinIs (by first | exact .inl rfl | exact .inr rfl) rfl (by repeat' (first | exact trivial | exact rfl | refine And.intro ?_ ?_)) rfl ?_ rfl; first | with_reducible exact rfl | (simp -implicitDefEqProofs only [go_sem, fillRows_all] <;> (first | rfl | omega | exact decide_eq_decide.2 (by omega) | exact decide_eq_false (by omega) | exact decide_eq_true (by omega) | (symm; first | exact decide_eq_false (by omega) | exact decide_eq_true (by omega)) | (rw [Bool.eq_iff_iff]; simp only [boL, reduceCtorEq]; omega))))
theorem c_toTree (t : List Node) (hl : t.length ≤ 2^20) (hc : ∀ x ∈ t, x.cols.length ≤ 2^20 ∧ x.rows.length ≤ 2^20) : ACon Try.prog 6 [vTree t] [] (Is (vTree t)) := by
  refine ACon.introW tok (nt := 9) Try.func6 rfl rfl rfl (by kernel_rfl) rfl ?_
  repeat' (first | ((with_reducible apply xsim); (first | ((with_reducible apply xo); exact rfl) | ((with_reducible apply xst); exact rfl) | with_reducible apply xend | ((with_reducible apply xalloc); exact rfl; simp only [bkL, Nat.reduceAdd, Nat.reduceSub]) | ((with_reducible apply xbox); exact rfl; simp only [bkL, Nat.reduceAdd, Nat.reduceSub]) | ((with_reducible apply xcallIs); exact rfl; exact rfl; exact c_toNodeS t hl hc; exact rfl) | simp -implicitDefEqProofs only [go_sem])) | ((with_reducible apply xaw); (first | ((with_reducible apply xstepS); refine AW.step tok rfl ?_) | ((with_reducible apply xstep); refine AW.region tok rfl ?_) | with_reducible (first | refine AW.seq ?_ | refine AW.block ?_ | refine AW.skip ?_ | refine AW.ret ?_ | refine AW.exit ?_) | ((with_reducible apply xcond); exact rfl))) | with_reducible (first | refine xthen ?_ | refine xthen_r ?_ | refine xthen_e ?_ | refine xblock ?_ | refine xblock_r ?_ | refine xblock_e ?_ | refine xblock_n rfl ?_ | refine xround_r ?_ | refine xround_e ?_) | (with_reducible intro hc; (try simp only [hcL, reduceCtorEq] at hc); (try (exfalso; omega))) | with_reducible (first | exact trivial | refine And.intro ?_ ?_ | exact rfl | exact Nat.le_refl _) | exact Eq.refl true | exact (rfl : (_ : List Nat) = _) | exact Nat.le_of_ble_eq_true rfl | (refine inR_i64.mpr ?_; first | omega | (simp only [List.length_map]; omega)) | omega)
  all_goals (refine xfinIs (by first | exact .inl rfl | exact .inr rfl) rfl (by repeat' (first | exact trivial | exact rfl | refine And.intro ?_ ?_)) rfl ?_ rfl; first | with_reducible exact rfl | (simp -implicitDefEqProofs only [go_sem] <;> (first | rfl | omega | exact decide_eq_decide.2 (by omega) | exact decide_eq_false (by omega) | exact decide_eq_true (by omega) | (symm; first | exact decide_eq_false (by omega) | exact decide_eq_true (by omega)) | (rw [Bool.eq_iff_iff]; simp only [boL, reduceCtorEq]; omega))))
set_option maxRecDepth 8000 in
set_option maxHeartbeats 4000000 in
theorem c_eqNode (x : Node) (h1 : x.cols.length < 2^63) (h2 : x.rows.length < 2^63) : ACon Try.prog 28 [vNode x, vNode x] [] (Is (.d (.bool true))) := by
  refine ACon.introW tok (nt := 60) Try.func28 rfl rfl rfl (by kernel_rfl) rfl ?_
  repeat' (first | ((with_reducible apply xsim); (first | ((with_reducible apply xo); exact rfl) | with_reducible apply xend | ((with_reducible apply xbox); exact rfl; simp only [bkL, Nat.reduceAdd, Nat.reduceSub]) | ((with_reducible apply xcallIs); exact rfl; exact rfl; (first | exact c_eqLineS _ h1 | exact c_eqLineS _ h2 | exact c_eqPack x.pack | exact c_eqCell x.cell | exact c_eqPlace x.place); exact rfl) | simp -implicitDefEqProofs only [go_sem, ne_eq, not_true_eq_false, decide_false, bne_self_eq_false])) | ((with_reducible apply xaw); (first | ((with_reducible apply xstepS); refine AW.step tok rfl ?_) | ((with_reducible apply xstep); refine AW.region tok rfl ?_) | with_reducible (first | refine AW.seq ?_ | refine AW.block ?_ | refine AW.skip ?_ | refine AW.ret ?_ | refine AW.exit ?_) | ((with_reducible apply xcond); exact rfl))) | with_reducible (first | refine xthen ?_ | refine xthen_r ?_ | refine xthen_e ?_ | refine xblock ?_ | refine xblock_r ?_ | refine xblock_e ?_ | refine xblock_n rfl ?_ | refine xround_r ?_ | refine xround_e ?_) | (with_reducible intro hc; (try simp only [hcL, reduceCtorEq, ne_eq, not_true_eq_false, decide_false, bne_self_eq_false] at hc); (try (exfalso; omega))) | with_reducible (first | exact trivial | refine And.intro ?_ ?_ | exact rfl | exact Nat.le_refl _) | exact Eq.refl true | exact (rfl : (_ : List Nat) = _) | exact Nat.le_of_ble_eq_true rfl | (refine inR_i64.mpr ?_; first | omega | (simp only [List.length_map, ne_eq, not_true_eq_false, decide_false, bne_self_eq_false]; omega)) | omega)
  all_goals (refine xfinIs (by first | exact .inl rfl | exact .inr rfl) rfl (by repeat' (first | exact trivial | exact rfl | refine And.intro ?_ ?_)) rfl ?_ rfl; first | with_reducible exact rfl | (simp -implicitDefEqProofs only [go_sem] <;> (first | rfl | omega | exact decide_eq_decide.2 (by omega) | exact decide_eq_false (by omega) | exact decide_eq_true (by omega) | (symm; first | exact decide_eq_false (by omega) | exact decide_eq_true (by omega)) | (rw [Bool.eq_iff_iff]; simp only [boL, reduceCtorEq]; omega))))
theorem c_eqNodeS (t : List Node) (hl : t.length < 2^63) (hcs : ∀ x ∈ t, x.cols.length < 2^63 ∧ x.rows.length < 2^63) : ACon Try.prog 18 [.d (.lst (t.map encNode)), .d (.lst (t.map encNode))] [] (Is (.d (.bool true))) := by
  refine ACon.introW tok (nt := 27) Try.func18 rfl rfl rfl (by kernel_rfl) rfl ?_
  repeat' (first | ((with_reducible apply xsim); (first | ((with_reducible apply xlenM); exact rfl; exact rfl) | ((with_reducible apply xo); exact rfl) | with_reducible apply xend | ((with_reducible apply xidxL); exact rfl; exact rfl; exact rfl; exact rfl; omega; first | exact rfl | simp only [hsz]) | ((with_reducible apply xidxM); exact rfl; exact rfl; exact rfl; omega; omega; exact rfl) | ((with_reducible apply xldA); exact rfl; exact rfl; exact rfl; exact rfl; exact rfl) | simp -implicitDefEqProofs only [go_sem, List.length_map])) | ((with_reducible apply xaw); (first | ((with_reducible apply xstepS); refine AW.step tok rfl ?_) | ((with_reducible apply xstep); refine AW.region tok rfl ?_) | with_reducible (first | refine AW.seq ?_ | refine AW.block ?_ | refine AW.skip ?_ | refine AW.ret ?_ | refine AW.exit ?_) | ((with_reducible apply xcond); exact rfl) | ((with_reducible apply xdrawS (id := 6)); refine AW.drawS (id := 6) (.q 0 (.q 1 (.q 2 (.q 3 (.q 4 (.q 5 (.q 6 (.q 7 (.q 8 (.q 9 (.fin))))))))))) tok (by kernel_rfl) rfl (by kernel_rfl) ?_) | ((with_reducible apply xdraw (id := 6)); refine AW.draw (id := 6) (.q 0 (.q 1 (.q 2 (.q 3 (.q 4 (.q 5 (.q 6 (.q 7 (.q 8 (.q 9 (.fin))))))))))) tok (by kernel_rfl) rfl (by kernel_rfl) ?_))) | ((with_reducible apply xarun); (first | ((with_reducible apply xrun_q); exact rfl; exact rfl; exact rfl) | ((with_reducible apply xrun_e); exact rfl) | with_reducible apply xrun_f)) | with_reducible (first | refine xthen ?_ | refine xthen_r ?_ | refine xthen_e ?_ | refine xblock ?_ | refine xblock_r ?_ | refine xblock_e ?_ | refine xblock_n rfl ?_ | refine xround_r ?_ | refine xround_e ?_) | (with_reducible intro hc; (try simp only [hcL, reduceCtorEq, List.length_map] at hc); (try (exfalso; omega))) | with_reducible (first | exact trivial | refine And.intro ?_ ?_ | exact rfl | exact Nat.le_refl _) | exact Eq.refl true | exact (rfl : (_ : List Nat) = _) | exact Nat.le_of_ble_eq_true rfl | (refine inR_i64.mpr ?_; first | omega | (simp only [List.length_map, List.length_map]; omega)) | omega)
  refine AW.loop (S := fun k : Nat => ⟨[(0, .d (.lst (t.map encNode))), (1, .d (.lst (t.map encNode))), (5, .d (.int .i64 k))], [], 27, .p 0⟩)
    (Pre := fun k => k ≤ t.length) (μ := fun k => t.length - k) 0 (Nat.zero_le _) ?_ ?_
  · (refine xwk (π := []) (by decide) rfl ?_ ?_; (first | exact trivial | simp -implicitDefEqProofs only [go_sem]); repeat' (first | exact renE_n | ((with_reducible apply renE_c); exact rfl; focus (first | with_reducible exact rfl | (simp -implicitDefEqProofs only [go_sem]; done) | (simp -implicitDefEqProofs only [go_sem]; omega)))))
  · intro k hk
    by_cases hlt : k < t.length
    · have hrow := at_map (f := encNode) hlt
      have hx := hcs _ (List.getElem_mem hlt)
      repeat' (first | ((with_reducible apply xsim); (first | ((with_reducible apply xlenM); exact rfl; exact rfl) | ((with_reducible apply xo); exact rfl) | with_reducible apply xend | ((with_reducible apply xidxL); exact rfl; exact rfl; exact rfl; (first | exact hrow); omega; first | exact rfl | simp only [hsz]) | ((with_reducible apply xidxM); exact rfl; exact rfl; exact rfl; omega; omega; exact rfl) | ((with_reducible apply xldA); exact rfl; exact rfl; exact rfl; (first | exact hrow); exact rfl) | ((with_reducible apply xcallIs); exact rfl; exact rfl; exact c_eqNode t[k] hx.1 hx.2; exact rfl) | simp -implicitDefEqProofs only [go_sem, List.length_map])) | ((with_reducible apply xaw); (first | ((with_reducible apply xstepS); refine AW.step tok rfl ?_) | ((with_reducible apply xstep); refine AW.region tok rfl ?_) | with_reducible (first | refine AW.seq ?_ | refine AW.block ?_ | refine AW.skip ?_ | refine AW.ret ?_ | refine AW.exit ?_) | ((with_reducible apply xcond); exact rfl) | ((with_reducible apply xdrawS (id := 6)); refine AW.drawS (id := 6) (.q 0 (.q 1 (.q 2 (.q 3 (.q 4 (.q 5 (.q 6 (.q 7 (.q 8 (.q 9 (.fin))))))))))) tok (by kernel_rfl) rfl (by kernel_rfl) ?_) | ((with_reducible apply xdraw (id := 6)); refine AW.draw (id := 6) (.q 0 (.q 1 (.q 2 (.q 3 (.q 4 (.q 5 (.q 6 (.q 7 (.q 8 (.q 9 (.fin))))))))))) tok (by kernel_rfl) rfl (by kernel_rfl) ?_))) | ((with_reducible apply xarun); (first | ((with_reducible apply xrun_q); exact rfl; exact rfl; exact rfl) | ((with_reducible apply xrun_c); exact rfl; exact rfl; exact rfl; exact rfl; exact rfl; exact rfl; exact c_eqNode t[k] hx.1 hx.2; exact rfl) | ((with_reducible apply xrun_e); exact rfl) | with_reducible apply xrun_f)) | with_reducible (first | refine xthen ?_ | refine xthen_r ?_ | refine xthen_e ?_ | refine xblock ?_ | refine xblock_r ?_ | refine xblock_e ?_ | refine xblock_n rfl ?_ | refine xround_r ?_ | refine xround_e ?_) | (with_reducible intro hc; (try simp only [hcL, reduceCtorEq, List.length_map] at hc); (try (exfalso; omega))) | with_reducible (first | exact trivial | refine And.intro ?_ ?_ | exact rfl | exact Nat.le_refl _) | exact Eq.refl true | exact (rfl : (_ : List Nat) = _) | exact Nat.le_of_ble_eq_true rfl | (refine inR_i64.mpr ?_; first | omega | (simp only [List.length_map, List.length_map]; omega)) | omega)
      refine round_end (k+1) hlt (by omega) (by (refine xwk (π := []) (by decide) rfl ?_ ?_; (first | exact trivial | simp -implicitDefEqProofs only [go_sem]); repeat' (first | exact renE_n | ((with_reducible apply renE_c); exact rfl; focus (first | with_reducible exact rfl | (simp -implicitDefEqProofs only [go_sem]; done) | (simp -implicitDefEqProofs only [go_sem]; omega))))))
    · repeat' (first | ((with_reducible apply xsim); (first | ((with_reducible apply xlenM); exact rfl; exact rfl) | ((with_reducible apply xo); exact rfl) | with_reducible apply xend | ((with_reducible apply xidxL); exact rfl; exact rfl; exact rfl; exact rfl; omega; first | exact rfl | simp only [hsz]) | ((with_reducible apply xidxM); exact rfl; exact rfl; exact rfl; omega; omega; exact rfl) | ((with_reducible apply xldA); exact rfl; exact rfl; exact rfl; exact rfl; exact rfl) | simp -implicitDefEqProofs only [go_sem, List.length_map])) | ((with_reducible apply xaw); (first | ((with_reducible apply xstepS); refine AW.step tok rfl ?_) | ((with_reducible apply xstep); refine AW.region tok rfl ?_) | with_reducible (first | refine AW.seq ?_ | refine AW.block ?_ | refine AW.skip ?_ | refine AW.ret ?_ | refine AW.exit ?_) | ((with_reducible apply xcond); exact rfl) | ((with_reducible apply xdrawS (id := 6)); refine AW.drawS (id := 6) (.q 0 (.q 1 (.q 2 (.q 3 (.q 4 (.q 5 (.q 6 (.q 7 (.q 8 (.q 9 (.fin))))))))))) tok (by kernel_rfl) rfl (by kernel_rfl) ?_) | ((with_reducible apply xdraw (id := 6)); refine AW.draw (id := 6) (.q 0 (.q 1 (.q 2 (.q 3 (.q 4 (.q 5 (.q 6 (.q 7 (.q 8 (.q 9 (.fin))))))))))) tok (by kernel_rfl) rfl (by kernel_rfl) ?_))) | ((with_reducible apply xarun); (first | ((with_reducible apply xrun_q); exact rfl; exact rfl; exact rfl) | ((with_reducible apply xrun_e); exact rfl) | with_reducible apply xrun_f)) | with_reducible (first | refine xthen ?_ | refine xthen_r ?_ | refine xthen_e ?_ | refine xblock ?_ | refine xblock_r ?_ | refine xblock_e ?_ | refine xblock_n rfl ?_ | refine xround_r ?_ | refine xround_e ?_) | (with_reducible intro hc; (try simp only [hcL, reduceCtorEq, List.length_map] at hc); (try (exfalso; omega))) | with_reducible (first | exact trivial | refine And.intro ?_ ?_ | exact rfl | exact Nat.le_refl _) | exact Eq.refl true | exact (rfl : (_ : List Nat) = _) | exact Nat.le_of_ble_eq_true rfl | (refine inR_i64.mpr ?_; first | omega | (simp only [List.length_map, List.length_map]; omega)) | omega)
      (refine xfinIs (by first | exact .inl rfl | exact .inr rfl) rfl (by repeat' (first | exact trivial | exact rfl | refine And.intro ?_ ?_)) rfl ?_ rfl; first | with_reducible exact rfl | (simp -implicitDefEqProofs only [go_sem] <;> (first | rfl | omega | exact decide_eq_decide.2 (by omega) | exact decide_eq_false (by omega) | exact decide_eq_true (by omega) | (symm; first | exact decide_eq_false (by omega) | exact decide_eq_true (by omega)) | (rw [Bool.eq_iff_iff]; simp only [boL, reduceCtorEq]; omega))))
theorem c_eqTree (t : List Node) (hl : t.length < 2^63) (hc : ∀ x ∈ t, x.cols.length < 2^63 ∧ x.rows.length < 2^63) : ACon Try.prog 8 [vTree t, vTree t] [] (Is (.d (.bool true))) := by
  refine ACon.introW tok (nt := 11) Try.func8 rfl rfl rfl (by kernel_rfl) rfl ?_
  repeat' (first | ((with_reducible apply xsim); (first | ((with_reducible apply xo); exact rfl) | with_reducible apply xend | ((with_reducible apply xbox); exact rfl; simp only [bkL, Nat.reduceAdd, Nat.reduceSub]) | ((with_reducible apply xcallIs); exact rfl; exact rfl; exact c_eqNodeS t hl hc; exact rfl) | simp -implicitDefEqProofs only [go_sem])) | ((with_reducible apply xaw); (first | ((with_reducible apply xstepS); refine AW.step tok rfl ?_) | ((with_reducible apply xstep); refine AW.region tok rfl ?_) | with_reducible (first | refine AW.seq ?_ | refine AW.block ?_ | refine AW.skip ?_ | refine AW.ret ?_ | refine AW.exit ?_) | ((with_reducible apply xcond); exact rfl))) | with_reducible (first | refine xthen ?_ | refine xthen_r ?_ | refine xthen_e ?_ | refine xblock ?_ | refine xblock_r ?_ | refine xblock_e ?_ | refine xblock_n rfl ?_ | refine xround_r ?_ | refine xround_e ?_) | (with_reducible intro hc; (try simp only [hcL, reduceCtorEq] at hc); (try (exfalso; omega))) | with_reducible (first | exact trivial | refine And.intro ?_ ?_ | exact rfl | exact Nat.le_refl _) | exact Eq.refl true | exact (rfl : (_ : List Nat) = _) | exact Nat.le_of_ble_eq_true rfl | (refine inR_i64.mpr ?_; first | omega | (simp only [List.length_map]; omega)) | omega)
  all_goals (refine xfinIs (by first | exact .inl rfl | exact .inr rfl) rfl (by repeat' (first | exact trivial | exact rfl | refine And.intro ?_ ?_)) rfl ?_ rfl; first | with_reducible exact rfl | (simp -implicitDefEqProofs only [go_sem] <;> (first | rfl | omega | exact decide_eq_decide.2 (by omega) | exact decide_eq_false (by omega) | exact decide_eq_true (by omega) | (symm; first | exact decide_eq_false (by omega) | exact decide_eq_true (by omega)) | (rw [Bool.eq_iff_iff]; simp only [boL, reduceCtorEq]; omega))))
end Go.Proofs.Ytagbfbamhfjbaaa

namespace Go.Proofs.Ytagbfbamhfjbaaa
open Go.Fw Go.ChangeShapes Go.WideShapes Go.Deep Go.RowKit Go.ChangeAt
section
variable {H : Type} {enc : TypeId × Value → H} {w : World} {base : Nat} {spare : Nat → Bool} {held : Bool}

theorem decLine (n : Nat) (cs : List Value) (y : DataW H × List MemPlace) (h : DataW.trod enc Try.prog w base spare held n 85 cs = some y) : DecR w encLine (fun _ => True) cs := by
  obtain ⟨ys, n', _, _, _, hlen, hf⟩ := DataW.trod_struct Try.underlying85 h
  have hlen' : ys.length = 2 := hlen
  obtain ⟨z0, e0⟩ : ∃ z, ys[0]? = some z := ⟨ys[0]'(by omega), List.getElem?_eq_getElem _⟩
  obtain ⟨k0, g0⟩ := fieldI ((hf 0 _ rfl).trans e0)
  obtain ⟨z1, e1⟩ : ∃ z, ys[1]? = some z := ⟨ys[1]'(by omega), List.getElem?_eq_getElem _⟩
  obtain ⟨k1, g1⟩ := fieldI ((hf 1 _ rfl).trans e1)
  refine ⟨⟨k0, k1⟩, trivial, fun j d hd => ?_⟩
  simp only [encLine] at hd
  match j with
  | 0 => cases hd; exact ⟨_, g0, .int⟩
  | 1 => cases hd; exact ⟨_, g1, .int⟩
  | n + 2 => simp at hd

theorem decPack (n : Nat) (cs : List Value) (y : DataW H × List MemPlace) (h : DataW.trod enc Try.prog w base spare held n 47 cs = some y) : DecR w encPack (fun _ => True) cs := by
  obtain ⟨ys, n', _, _, _, hlen, hf⟩ := DataW.trod_struct Try.underlying47 h
  have hlen' : ys.length = 9 := hlen
  obtain ⟨z0, e0⟩ : ∃ z, ys[0]? = some z := ⟨ys[0]'(by omega), List.getElem?_eq_getElem _⟩
  obtain ⟨k0, g0⟩ := fieldI ((hf 0 _ rfl).trans e0)
  obtain ⟨z1, e1⟩ : ∃ z, ys[1]? = some z := ⟨ys[1]'(by omega), List.getElem?_eq_getElem _⟩
  obtain ⟨k1, g1⟩ := fieldI ((hf 1 _ rfl).trans e1)
  obtain ⟨z2, e2⟩ : ∃ z, ys[2]? = some z := ⟨ys[2]'(by omega), List.getElem?_eq_getElem _⟩
  obtain ⟨k2, g2⟩ := fieldI ((hf 2 _ rfl).trans e2)
  obtain ⟨z3, e3⟩ : ∃ z, ys[3]? = some z := ⟨ys[3]'(by omega), List.getElem?_eq_getElem _⟩
  obtain ⟨k3, g3⟩ := fieldB ((hf 3 _ rfl).trans e3)
  obtain ⟨z4, e4⟩ : ∃ z, ys[4]? = some z := ⟨ys[4]'(by omega), List.getElem?_eq_getElem _⟩
  obtain ⟨k4, g4⟩ := fieldB ((hf 4 _ rfl).trans e4)
  obtain ⟨z5, e5⟩ : ∃ z, ys[5]? = some z := ⟨ys[5]'(by omega), List.getElem?_eq_getElem _⟩
  obtain ⟨k5, g5⟩ := fieldB ((hf 5 _ rfl).trans e5)
  obtain ⟨z6, e6⟩ : ∃ z, ys[6]? = some z := ⟨ys[6]'(by omega), List.getElem?_eq_getElem _⟩
  obtain ⟨k6, g6⟩ := fieldI ((hf 6 _ rfl).trans e6)
  obtain ⟨z7, e7⟩ : ∃ z, ys[7]? = some z := ⟨ys[7]'(by omega), List.getElem?_eq_getElem _⟩
  obtain ⟨k7, g7⟩ := fieldI ((hf 7 _ rfl).trans e7)
  obtain ⟨z8, e8⟩ : ∃ z, ys[8]? = some z := ⟨ys[8]'(by omega), List.getElem?_eq_getElem _⟩
  obtain ⟨k8, g8⟩ := fieldI ((hf 8 _ rfl).trans e8)
  refine ⟨⟨k0, k1, k2, k3, k4, k5, k6, k7, k8⟩, trivial, fun j d hd => ?_⟩
  simp only [encPack] at hd
  match j with
  | 0 => cases hd; exact ⟨_, g0, .int⟩
  | 1 => cases hd; exact ⟨_, g1, .int⟩
  | 2 => cases hd; exact ⟨_, g2, .int⟩
  | 3 => cases hd; exact ⟨_, g3, .bool⟩
  | 4 => cases hd; exact ⟨_, g4, .bool⟩
  | 5 => cases hd; exact ⟨_, g5, .bool⟩
  | 6 => cases hd; exact ⟨_, g6, .int⟩
  | 7 => cases hd; exact ⟨_, g7, .int⟩
  | 8 => cases hd; exact ⟨_, g8, .int⟩
  | n + 9 => simp at hd

theorem decCell (n : Nat) (cs : List Value) (y : DataW H × List MemPlace) (h : DataW.trod enc Try.prog w base spare held n 49 cs = some y) : DecR w encCell (fun _ => True) cs := by
  obtain ⟨ys, n', _, _, _, hlen, hf⟩ := DataW.trod_struct Try.underlying49 h
  have hlen' : ys.length = 9 := hlen
  obtain ⟨z0, e0⟩ : ∃ z, ys[0]? = some z := ⟨ys[0]'(by omega), List.getElem?_eq_getElem _⟩
  obtain ⟨k0, g0⟩ := fieldI ((hf 0 _ rfl).trans e0)
  obtain ⟨z1, e1⟩ : ∃ z, ys[1]? = some z := ⟨ys[1]'(by omega), List.getElem?_eq_getElem _⟩
  obtain ⟨k1, g1⟩ := fieldI ((hf 1 _ rfl).trans e1)
  obtain ⟨z2, e2⟩ : ∃ z, ys[2]? = some z := ⟨ys[2]'(by omega), List.getElem?_eq_getElem _⟩
  obtain ⟨k2, g2⟩ := fieldI ((hf 2 _ rfl).trans e2)
  obtain ⟨z3, e3⟩ : ∃ z, ys[3]? = some z := ⟨ys[3]'(by omega), List.getElem?_eq_getElem _⟩
  obtain ⟨k3, g3⟩ := fieldI ((hf 3 _ rfl).trans e3)
  obtain ⟨z4, e4⟩ : ∃ z, ys[4]? = some z := ⟨ys[4]'(by omega), List.getElem?_eq_getElem _⟩
  obtain ⟨k4, g4⟩ := fieldI ((hf 4 _ rfl).trans e4)
  obtain ⟨z5, e5⟩ : ∃ z, ys[5]? = some z := ⟨ys[5]'(by omega), List.getElem?_eq_getElem _⟩
  obtain ⟨k5, g5⟩ := fieldI ((hf 5 _ rfl).trans e5)
  obtain ⟨z6, e6⟩ : ∃ z, ys[6]? = some z := ⟨ys[6]'(by omega), List.getElem?_eq_getElem _⟩
  obtain ⟨k6, g6⟩ := fieldI ((hf 6 _ rfl).trans e6)
  obtain ⟨z7, e7⟩ : ∃ z, ys[7]? = some z := ⟨ys[7]'(by omega), List.getElem?_eq_getElem _⟩
  obtain ⟨k7, g7⟩ := fieldI ((hf 7 _ rfl).trans e7)
  obtain ⟨z8, e8⟩ : ∃ z, ys[8]? = some z := ⟨ys[8]'(by omega), List.getElem?_eq_getElem _⟩
  obtain ⟨k8, g8⟩ := fieldI ((hf 8 _ rfl).trans e8)
  refine ⟨⟨k0, k1, k2, k3, k4, k5, k6, k7, k8⟩, trivial, fun j d hd => ?_⟩
  simp only [encCell] at hd
  match j with
  | 0 => cases hd; exact ⟨_, g0, .int⟩
  | 1 => cases hd; exact ⟨_, g1, .int⟩
  | 2 => cases hd; exact ⟨_, g2, .int⟩
  | 3 => cases hd; exact ⟨_, g3, .int⟩
  | 4 => cases hd; exact ⟨_, g4, .int⟩
  | 5 => cases hd; exact ⟨_, g5, .int⟩
  | 6 => cases hd; exact ⟨_, g6, .int⟩
  | 7 => cases hd; exact ⟨_, g7, .int⟩
  | 8 => cases hd; exact ⟨_, g8, .int⟩
  | n + 9 => simp at hd

theorem decPlace (n : Nat) (cs : List Value) (y : DataW H × List MemPlace) (h : DataW.trod enc Try.prog w base spare held n 51 cs = some y) : DecR w encPlace (fun _ => True) cs := by
  obtain ⟨ys, n', _, _, _, hlen, hf⟩ := DataW.trod_struct Try.underlying51 h
  have hlen' : ys.length = 9 := hlen
  obtain ⟨z0, e0⟩ : ∃ z, ys[0]? = some z := ⟨ys[0]'(by omega), List.getElem?_eq_getElem _⟩
  obtain ⟨k0, g0⟩ := fieldI ((hf 0 _ rfl).trans e0)
  obtain ⟨z1, e1⟩ : ∃ z, ys[1]? = some z := ⟨ys[1]'(by omega), List.getElem?_eq_getElem _⟩
  obtain ⟨k1, g1⟩ := fieldI ((hf 1 _ rfl).trans e1)
  obtain ⟨z2, e2⟩ : ∃ z, ys[2]? = some z := ⟨ys[2]'(by omega), List.getElem?_eq_getElem _⟩
  obtain ⟨k2, g2⟩ := fieldI ((hf 2 _ rfl).trans e2)
  obtain ⟨z3, e3⟩ : ∃ z, ys[3]? = some z := ⟨ys[3]'(by omega), List.getElem?_eq_getElem _⟩
  obtain ⟨k3, g3⟩ := fieldI ((hf 3 _ rfl).trans e3)
  obtain ⟨z4, e4⟩ : ∃ z, ys[4]? = some z := ⟨ys[4]'(by omega), List.getElem?_eq_getElem _⟩
  obtain ⟨k4, g4⟩ := fieldI ((hf 4 _ rfl).trans e4)
  obtain ⟨z5, e5⟩ : ∃ z, ys[5]? = some z := ⟨ys[5]'(by omega), List.getElem?_eq_getElem _⟩
  obtain ⟨k5, g5⟩ := fieldI ((hf 5 _ rfl).trans e5)
  obtain ⟨z6, e6⟩ : ∃ z, ys[6]? = some z := ⟨ys[6]'(by omega), List.getElem?_eq_getElem _⟩
  obtain ⟨k6, g6⟩ := fieldI ((hf 6 _ rfl).trans e6)
  obtain ⟨z7, e7⟩ : ∃ z, ys[7]? = some z := ⟨ys[7]'(by omega), List.getElem?_eq_getElem _⟩
  obtain ⟨k7, g7⟩ := fieldI ((hf 7 _ rfl).trans e7)
  obtain ⟨z8, e8⟩ : ∃ z, ys[8]? = some z := ⟨ys[8]'(by omega), List.getElem?_eq_getElem _⟩
  obtain ⟨k8, g8⟩ := fieldI ((hf 8 _ rfl).trans e8)
  refine ⟨⟨k0, k1, k2, k3, k4, k5, k6, k7, k8⟩, trivial, fun j d hd => ?_⟩
  simp only [encPlace] at hd
  match j with
  | 0 => cases hd; exact ⟨_, g0, .int⟩
  | 1 => cases hd; exact ⟨_, g1, .int⟩
  | 2 => cases hd; exact ⟨_, g2, .int⟩
  | 3 => cases hd; exact ⟨_, g3, .int⟩
  | 4 => cases hd; exact ⟨_, g4, .int⟩
  | 5 => cases hd; exact ⟨_, g5, .int⟩
  | 6 => cases hd; exact ⟨_, g6, .int⟩
  | 7 => cases hd; exact ⟨_, g7, .int⟩
  | 8 => cases hd; exact ⟨_, g8, .int⟩
  | n + 9 => simp at hd

theorem sub_at {cs : List Value} {o m j : Nat} {u : Value} (h : ((cs.drop o).take m)[j]? = some u) : cs[o + j]? = some u := by
  rw [List.getElem?_take] at h
  split at h
  · rwa [List.getElem?_drop] at h
  · cases h
abbrev Tree := List Node
def okNode (n : Node) : Prop := n.cols.length ≤ maxLen ∧ n.rows.length ≤ maxLen
def okTree (t : List Node) : Prop := t.length ≤ maxLen ∧ ∀ n ∈ t, okNode n

set_option maxRecDepth 8000 in
theorem decNode (n : Nat) (cs : List Value) (y : DataW H × List MemPlace) (h : DataW.trod enc Try.prog w base spare held n 53 cs = some y) : DecR w encNode okNode cs := by
  obtain ⟨ys, n', _, _, _, hlen, hf⟩ := DataW.trod_struct Try.underlying53 h
  have hlen' : ys.length = 10 := hlen
  obtain ⟨z0, e0⟩ : ∃ z, ys[0]? = some z := ⟨ys[0]'(by omega), List.getElem?_eq_getElem _⟩
  obtain ⟨k0, g0⟩ := fieldI ((hf 0 _ rfl).trans e0)
  obtain ⟨z1, e1⟩ : ∃ z, ys[1]? = some z := ⟨ys[1]'(by omega), List.getElem?_eq_getElem _⟩
  obtain ⟨k1, g1⟩ := fieldI ((hf 1 _ rfl).trans e1)
  obtain ⟨z2, e2⟩ : ∃ z, ys[2]? = some z := ⟨ys[2]'(by omega), List.getElem?_eq_getElem _⟩
  obtain ⟨k2, g2⟩ := fieldI ((hf 2 _ rfl).trans e2)
  obtain ⟨z3, e3⟩ : ∃ z, ys[3]? = some z := ⟨ys[3]'(by omega), List.getElem?_eq_getElem _⟩
  obtain ⟨k3, g3⟩ := fieldB ((hf 3 _ rfl).trans e3)
  obtain ⟨z4, e4⟩ : ∃ z, ys[4]? = some z := ⟨ys[4]'(by omega), List.getElem?_eq_getElem _⟩
  obtain ⟨k4, g4⟩ := fieldI ((hf 4 _ rfl).trans e4)
  obtain ⟨z5, e5⟩ : ∃ z, ys[5]? = some z := ⟨ys[5]'(by omega), List.getElem?_eq_getElem _⟩
  obtain ⟨u5, k5, g5, r5, l5⟩ := fieldL (nf := 2) (t := 45) Try.underlying45 (by kernel_rfl) (by kernel_rfl) (by omega) (fun _ => rfl) decLine ((hf 5 _ rfl).trans e5)
  obtain ⟨z6, e6⟩ : ∃ z, ys[6]? = some z := ⟨ys[6]'(by omega), List.getElem?_eq_getElem _⟩
  obtain ⟨u6, k6, g6, r6, l6⟩ := fieldL (nf := 2) (t := 45) Try.underlying45 (by kernel_rfl) (by kernel_rfl) (by omega) (fun _ => rfl) decLine ((hf 6 _ rfl).trans e6)
  obtain ⟨z7, e7⟩ : ∃ z, ys[7]? = some z := ⟨ys[7]'(by omega), List.getElem?_eq_getElem _⟩
  obtain ⟨p7, _, q7⟩ := decPack _ _ _ ((hf 7 _ rfl).trans e7)
  obtain ⟨z8, e8⟩ : ∃ z, ys[8]? = some z := ⟨ys[8]'(by omega), List.getElem?_eq_getElem _⟩
  obtain ⟨p8, _, q8⟩ := decCell _ _ _ ((hf 8 _ rfl).trans e8)
  obtain ⟨z9, e9⟩ : ∃ z, ys[9]? = some z := ⟨ys[9]'(by omega), List.getElem?_eq_getElem _⟩
  obtain ⟨p9, _, q9⟩ := decPlace _ _ _ ((hf 9 _ rfl).trans e9)
  refine ⟨⟨k0, k1, k2, k3, k4, k5, k6, p7, p8, p9⟩, ⟨l5, l6⟩, fun j d hd => ?_⟩
  simp only [encNode] at hd
  match j with
  | 0 => cases hd; exact ⟨_, g0, .int⟩
  | 1 => cases hd; exact ⟨_, g1, .int⟩
  | 2 => cases hd; exact ⟨_, g2, .int⟩
  | 3 => cases hd; exact ⟨_, g3, .bool⟩
  | 4 => cases hd; exact ⟨_, g4, .int⟩
  | 5 => cases hd; exact ⟨_, g5, r5⟩
  | 6 => cases hd; exact ⟨_, g6, r6⟩
  | 7 => cases hd; obtain ⟨u, a, b⟩ := q7 0 _ rfl; exact ⟨u, sub_at (o := 7) (j := 0) a, b⟩
  | 8 => cases hd; obtain ⟨u, a, b⟩ := q7 1 _ rfl; exact ⟨u, sub_at (o := 7) (j := 1) a, b⟩
  | 9 => cases hd; obtain ⟨u, a, b⟩ := q7 2 _ rfl; exact ⟨u, sub_at (o := 7) (j := 2) a, b⟩
  | 10 => cases hd; obtain ⟨u, a, b⟩ := q7 3 _ rfl; exact ⟨u, sub_at (o := 7) (j := 3) a, b⟩
  | 11 => cases hd; obtain ⟨u, a, b⟩ := q7 4 _ rfl; exact ⟨u, sub_at (o := 7) (j := 4) a, b⟩
  | 12 => cases hd; obtain ⟨u, a, b⟩ := q7 5 _ rfl; exact ⟨u, sub_at (o := 7) (j := 5) a, b⟩
  | 13 => cases hd; obtain ⟨u, a, b⟩ := q7 6 _ rfl; exact ⟨u, sub_at (o := 7) (j := 6) a, b⟩
  | 14 => cases hd; obtain ⟨u, a, b⟩ := q7 7 _ rfl; exact ⟨u, sub_at (o := 7) (j := 7) a, b⟩
  | 15 => cases hd; obtain ⟨u, a, b⟩ := q7 8 _ rfl; exact ⟨u, sub_at (o := 7) (j := 8) a, b⟩
  | 16 => cases hd; obtain ⟨u, a, b⟩ := q8 0 _ rfl; exact ⟨u, sub_at (o := 16) (j := 0) a, b⟩
  | 17 => cases hd; obtain ⟨u, a, b⟩ := q8 1 _ rfl; exact ⟨u, sub_at (o := 16) (j := 1) a, b⟩
  | 18 => cases hd; obtain ⟨u, a, b⟩ := q8 2 _ rfl; exact ⟨u, sub_at (o := 16) (j := 2) a, b⟩
  | 19 => cases hd; obtain ⟨u, a, b⟩ := q8 3 _ rfl; exact ⟨u, sub_at (o := 16) (j := 3) a, b⟩
  | 20 => cases hd; obtain ⟨u, a, b⟩ := q8 4 _ rfl; exact ⟨u, sub_at (o := 16) (j := 4) a, b⟩
  | 21 => cases hd; obtain ⟨u, a, b⟩ := q8 5 _ rfl; exact ⟨u, sub_at (o := 16) (j := 5) a, b⟩
  | 22 => cases hd; obtain ⟨u, a, b⟩ := q8 6 _ rfl; exact ⟨u, sub_at (o := 16) (j := 6) a, b⟩
  | 23 => cases hd; obtain ⟨u, a, b⟩ := q8 7 _ rfl; exact ⟨u, sub_at (o := 16) (j := 7) a, b⟩
  | 24 => cases hd; obtain ⟨u, a, b⟩ := q8 8 _ rfl; exact ⟨u, sub_at (o := 16) (j := 8) a, b⟩
  | 25 => cases hd; obtain ⟨u, a, b⟩ := q9 0 _ rfl; exact ⟨u, sub_at (o := 25) (j := 0) a, b⟩
  | 26 => cases hd; obtain ⟨u, a, b⟩ := q9 1 _ rfl; exact ⟨u, sub_at (o := 25) (j := 1) a, b⟩
  | 27 => cases hd; obtain ⟨u, a, b⟩ := q9 2 _ rfl; exact ⟨u, sub_at (o := 25) (j := 2) a, b⟩
  | 28 => cases hd; obtain ⟨u, a, b⟩ := q9 3 _ rfl; exact ⟨u, sub_at (o := 25) (j := 3) a, b⟩
  | 29 => cases hd; obtain ⟨u, a, b⟩ := q9 4 _ rfl; exact ⟨u, sub_at (o := 25) (j := 4) a, b⟩
  | 30 => cases hd; obtain ⟨u, a, b⟩ := q9 5 _ rfl; exact ⟨u, sub_at (o := 25) (j := 5) a, b⟩
  | 31 => cases hd; obtain ⟨u, a, b⟩ := q9 6 _ rfl; exact ⟨u, sub_at (o := 25) (j := 6) a, b⟩
  | 32 => cases hd; obtain ⟨u, a, b⟩ := q9 7 _ rfl; exact ⟨u, sub_at (o := 25) (j := 7) a, b⟩
  | 33 => cases hd; obtain ⟨u, a, b⟩ := q9 8 _ rfl; exact ⟨u, sub_at (o := 25) (j := 8) a, b⟩
  | n + 34 => simp at hd

/-- A node with slices of a machine's length. -/
def ONode : Type := { n : Node // okNode n }
set_option maxRecDepth 8000 in
theorem decTree (n : Nat) (cs : List Value) (y : DataW H × List MemPlace) (h : DataW.trod enc Try.prog w base spare held n 24 cs = some y) : DecR w encTree okTree cs := by
  obtain ⟨ys, n', _, _, _, hlen, hf⟩ := DataW.trod_struct Try.underlying24 h
  have hlen' : ys.length = 1 := hlen
  obtain ⟨z0, e0⟩ : ∃ z, ys[0]? = some z := ⟨ys[0]'(by omega), List.getElem?_eq_getElem _⟩
  obtain ⟨u0, k0, g0, r0, l0⟩ := fieldL (α := ONode) (encR := fun p => encNode p.1) (nf := 34) (t := 22) Try.underlying22 (by kernel_rfl) (by kernel_rfl) (by omega) (fun _ => rfl) (fun n cs y hy => by
    obtain ⟨p, ho, hp⟩ := decNode n cs y hy
    exact ⟨⟨p, ho⟩, trivial, hp⟩) ((hf 0 _ rfl).trans e0)
  have em : k0.map (fun p : ONode => encNode p.1) = (k0.map fun p : ONode => p.1).map encNode := by rw [List.map_map]; rfl
  rw [em] at r0
  refine ⟨k0.map fun p : ONode => p.1, ⟨by rw [List.length_map]; exact l0, fun x hx => ?_⟩, fun j d hd => ?_⟩
  · obtain ⟨p, _, rfl⟩ := List.mem_map.1 hx
    exact p.2
  simp only [encTree] at hd
  match j with
  | 0 => cases hd; exact ⟨_, g0, r0⟩
  | n + 1 => simp at hd
end
end Go.Proofs.Ytagbfbamhfjbaaa

namespace Go.Proofs.Ytagbfbamhfjbaaa
open Go.Fw

/-- Rows of which the first ones are done. -/
def mix {α : Type} (ys zs : List α) (k : Nat) : List α := ys.take k ++ zs.drop k
theorem mix_len {α : Type} {ys zs : List α} {k : Nat} (h : ys.length = zs.length) (hk : k ≤ ys.length) : (mix ys zs k).length = zs.length := by
  simp [mix]; omega
theorem mix_at {α : Type} {ys zs : List α} {k : Nat} (h : ys.length = zs.length) (hk : k < zs.length) : (mix ys zs k)[k]? = some zs[k] := by
  unfold mix
  rw [List.getElem?_append_right (by simp; omega)]
  simp only [List.length_take]
  rw [show k - min k ys.length = 0 by omega, List.getElem?_drop, Nat.add_zero, List.getElem?_eq_getElem hk]
theorem mix_set {α : Type} {ys zs : List α} {k : Nat} (h : ys.length = zs.length) (hk : k < ys.length) : (mix ys zs k).set k ys[k] = mix ys zs (k + 1) := by
  unfold mix
  rw [List.set_append_right _ _ (by simp; omega)]
  simp only [List.length_take]
  rw [show k - min k ys.length = 0 by omega, List.drop_eq_getElem_cons (show k < zs.length by omega), List.set_cons_zero, List.take_succ_eq_append_getElem hk, List.append_assoc]
  rfl
theorem mixmap_at {α β : Type} {f : α → β} {ys zs : List α} {k : Nat} (h : ys.length = zs.length) (hk : k < zs.length) : ((mix ys zs k).map f)[k]? = some (f zs[k]) := by
  rw [List.getElem?_map, mix_at h hk, Option.map_some]
theorem mixmap_set {α β : Type} {f : α → β} {ys zs : List α} {k : Nat} (h : ys.length = zs.length) (hk : k < ys.length) : ((mix ys zs k).map f).set k (f ys[k]) = (mix ys zs (k + 1)).map f := by
  rw [← List.map_set, mix_set h hk]
theorem mix_all {α : Type} {ys zs : List α} (h : ys.length = zs.length) : mix ys zs ys.length = ys := by unfold mix; rw [List.take_length, h, List.drop_length, List.append_nil]
theorem mix_zero {α : Type} {ys zs : List α} : mix ys zs 0 = zs := by simp [mix]

end Go.Proofs.Ytagbfbamhfjbaaa

namespace Go.Proofs.Ytagbfbamhfjbaaa
open Go.Fw

structure Rect where
  x : Int
  y : Int
  w : Int
  h : Int
@[go_sem] def encRect (r : Rect) : List D := [.int .i64 r.x, .int .i64 r.y, .int .i64 r.w, .int .i64 r.h]
@[go_sem] def vRect (r : Rect) : V := .agg ((encRect r).map .d)

/-- A rectangle in the room. -/
structure RectIn (r : Rect) : Prop where
  x : -1048576 ≤ r.x
  y : -1048576 ≤ r.y
  w : 0 ≤ r.w
  h : 0 ≤ r.h
  xw : r.x + r.w ≤ 1048576
  yh : r.y + r.h ≤ 1048576
end Go.Proofs.Ytagbfbamhfjbaaa

namespace Go.Proofs.Ytagbfbamhfjbaaa
open Go.Fw

@[go_sem] def encN (n : Int) : List D := [.int .i64 n]
def sumI : List Int → Int
  | [] => 0
  | x :: xs => x + sumI xs
theorem sumI_app (a b : List Int) : sumI (a ++ b) = sumI a + sumI b := by
  induction a with
  | nil => simp [sumI]
  | cons x a ih => simp only [List.cons_append, sumI, ih]; omega
theorem sumI_take {xs : List Int} {k : Nat} (h : k < xs.length) : sumI (xs.take (k + 1)) = sumI (xs.take k) + xs[k] := by
  rw [List.take_succ_eq_append_getElem h, sumI_app]; simp [sumI]
/-- Small numbers, not too many. -/
def NumsOk (xs : List Int) : Prop := xs.length ≤ 2^20 ∧ ∀ x ∈ xs, 0 ≤ x ∧ x ≤ 2^30
theorem NumsOk.at {xs : List Int} (h : NumsOk xs) {k : Nat} (hk : k < xs.length) : 0 ≤ xs[k] ∧ xs[k] ≤ 2^30 := h.2 _ (List.getElem_mem hk)
theorem NumsOk.sum {xs : List Int} (h : NumsOk xs) : ∀ k, k ≤ xs.length → 0 ≤ sumI (xs.take k) ∧ sumI (xs.take k) ≤ 2^30 * k := by
  intro k
  induction k with
  | zero => intro _; simp [sumI]
  | succ k ih =>
    intro hk
    have := h.at (show k < xs.length by omega)
    rw [sumI_take (by omega)]
    have := ih (by omega)
    omega

end Go.Proofs.Ytagbfbamhfjbaaa

namespace Go.Proofs.Ytagbfbamhfjbaaa
open Go.Fw

def floors (n : Int) (ws : List Int) : List Int := ws.map fun w => (n * w).tdiv (sumI ws)
/-- The first ones whose weight is not 0 have one more: after k weights. -/
def bumpTo (ws bs : List Int) (m : Int) : Nat → List Int × Int
  | 0 => (bs, m)
  | k + 1 =>
    let s := bumpTo ws bs m k
    if (ws[k]?).getD 0 ≠ 0 ∧ 0 < s.2 then (s.1.set k ((s.1[k]?).getD 0 + 1), s.2 - 1) else s
def spread (n : Int) (ws : List Int) : List Int :=
  if sumI ws = 0 then (ws.map fun _ => (0 : Int)).set (ws.length - 1) n
  else (bumpTo ws (floors n ws) (n - sumI (floors n ws)) ws.length).1

end Go.Proofs.Ytagbfbamhfjbaaa

namespace Go.Proofs.Ytagbfbamhfjbaaa
open Go.Fw

structure WOk (ws : List Int) : Prop where
  lo : 1 ≤ ws.length
  hi : ws.length ≤ 5
  w : ∀ x ∈ ws, 0 ≤ x ∧ x ≤ 5
theorem WOk.nums {ws : List Int} (h : WOk ws) : NumsOk ws := ⟨by have := h.hi; omega, fun x hx => by have := h.w x hx; omega⟩
theorem WOk.sum {ws : List Int} (h : WOk ws) : 0 ≤ sumI ws := by
  have := (h.nums.sum ws.length (Nat.le_refl _)).1
  rwa [List.take_length] at this
end Go.Proofs.Ytagbfbamhfjbaaa

namespace Go.Proofs.Ytagbfbamhfjbaaa
open Go.Fw

def slc {α : Type} (xs : List α) (a m : Nat) : List α := (xs.drop a).take m
theorem slc_len {α : Type} {xs : List α} {a m : Nat} (h : a + m ≤ xs.length) : (slc xs a m).length = m := by simp [slc]; omega
theorem slc_at {α : Type} {xs : List α} {a m i : Nat} (h : i < (slc xs a m).length) : (slc xs a m)[i] = xs[a + i]'(by simp [slc] at h; omega) := by
  simp [slc]
theorem slc_mem {α : Type} {xs : List α} {a m : Nat} {x : α} (h : x ∈ slc xs a m) : x ∈ xs := List.mem_of_mem_drop (List.mem_of_mem_take h)
/-- The first k parts are put to those from a on. -/
def putN (ps : List Int) (a k : Nat) (out : List Int) : List Int := out.mapIdx fun i x => if a ≤ i ∧ i < a + k then x + (ps[i - a]?).getD 0 else x
def weights (ls : List Line) : List Int := ls.map Line.weight
def mins (ls : List Line) : List Int := ls.map Line.min
def missing (out : List Int) (s : Span) : Int := s.need - sumI (slc out s.at.toNat s.many.toNat)
def reqStep (ls : List Line) (many : Int) (out : List Int) (s : Span) : List Int :=
  if s.many = many ∧ 0 < missing out s then putN (spread (missing out s) (slc (weights ls) s.at.toNat s.many.toNat)) s.at.toNat s.many.toNat out else out
def reqRound (ls : List Line) (ss : List Span) (many : Int) (out : List Int) (k : Nat) : List Int := (ss.take k).foldl (reqStep ls many) out
def reqs (ls : List Line) (ss : List Span) : Nat → List Int
  | 0 => mins ls
  | m + 1 => reqRound ls ss (m + 1) (reqs ls ss m) ss.length
def requests (ls : List Line) (ss : List Span) : List Int := reqs ls ss ls.length

/-- Sizes of some lines. -/
structure ROk (n : Nat) (out : List Int) : Prop where
  len : out.length = n
  bd : ∀ x ∈ out, 0 ≤ x ∧ x ≤ 4096
theorem ROk.nums {n : Nat} {out : List Int} (h : ROk n out) (hn : n ≤ 5) : NumsOk out := ⟨by rw [h.len]; omega, fun x hx => by have := h.bd x hx; omega⟩
theorem ROk.slc {n : Nat} {out : List Int} (h : ROk n out) (hn : n ≤ 5) {a m : Nat} : NumsOk (slc out a m) := ⟨by
  have := h.len; simp [Go.Proofs.Ytagbfbamhfjbaaa.slc]; omega, fun x hx => by have := h.bd x (slc_mem hx); omega⟩
structure LOk (ls : List Line) : Prop where
  lo : 1 ≤ ls.length
  hi : ls.length ≤ 5
  ok : ∀ l ∈ ls, 0 ≤ l.weight ∧ l.weight ≤ 5 ∧ 0 ≤ l.min ∧ l.min ≤ 30
theorem LOk.w {ls : List Line} (h : LOk ls) : ∀ x ∈ weights ls, 0 ≤ x ∧ x ≤ 5 := fun x hx => by
  obtain ⟨l, hl, rfl⟩ := List.mem_map.1 hx
  have := h.ok l hl; omega
theorem LOk.slc {ls : List Line} (h : LOk ls) {a m : Nat} (h1 : 1 ≤ m) (h2 : a + m ≤ ls.length) : WOk (Go.Proofs.Ytagbfbamhfjbaaa.slc (weights ls) a m) := by
  have hl : (Go.Proofs.Ytagbfbamhfjbaaa.slc (weights ls) a m).length = m := slc_len (by simp [weights]; omega)
  have := h.hi
  exact ⟨by omega, by omega, fun x hx => h.w x (slc_mem hx)⟩
theorem LOk.all {ls : List Line} (h : LOk ls) : WOk (weights ls) := ⟨by simp [weights]; exact h.lo, by simp [weights]; exact h.hi, h.w⟩
theorem LOk.mins {ls : List Line} (h : LOk ls) : ROk ls.length (mins ls) := ⟨by simp [Go.Proofs.Ytagbfbamhfjbaaa.mins], fun x hx => by
  obtain ⟨l, hl, rfl⟩ := List.mem_map.1 hx
  have := h.ok l hl; omega⟩

end Go.Proofs.Ytagbfbamhfjbaaa

namespace Go.Proofs.Ytagbfbamhfjbaaa
open Go.Fw

theorem sumI_le : ∀ {xs ys : List Int}, (h : xs.length = ys.length) → (∀ i (h1 : i < xs.length), xs[i] ≤ ys[i]) → sumI xs ≤ sumI ys
  | [], [], _, _ => Int.le_refl _
  | x :: xs, y :: ys, h, hle => by
    have := sumI_le (xs := xs) (ys := ys) (by simpa using h) (fun i hi => hle (i + 1) (by simpa using hi))
    have h0 := hle 0 (by simp)
    simp only [List.getElem_cons_zero] at h0
    simp only [sumI]; omega

end Go.Proofs.Ytagbfbamhfjbaaa

namespace Go.Proofs.Ytagbfbamhfjbaaa
open Go.Fw

/-- No less anywhere. -/
def Up (xs ys : List Int) : Prop := xs.length = ys.length ∧ ∀ i (h1 : i < xs.length) (h2 : i < ys.length), xs[i] ≤ ys[i]
theorem Up.refl (xs : List Int) : Up xs xs := ⟨rfl, fun _ _ _ => Int.le_refl _⟩
theorem Up.trans {xs ys zs : List Int} (h1 : Up xs ys) (h2 : Up ys zs) : Up xs zs := ⟨h1.1.trans h2.1, fun i a b => Int.le_trans (h1.2 i a (by have := h1.1; omega)) (h2.2 i (by have := h1.1; omega) b)⟩
theorem Up.slc {xs ys : List Int} (h : Up xs ys) {a m : Nat} : sumI (slc xs a m) ≤ sumI (Go.Proofs.Ytagbfbamhfjbaaa.slc ys a m) := by
  refine sumI_le (by simp [Go.Proofs.Ytagbfbamhfjbaaa.slc, h.1]) fun i h1 => ?_
  rw [slc_at h1, slc_at]
  exact h.2 _ _ _

variable {ls : List Line} {ss : List Span}
end Go.Proofs.Ytagbfbamhfjbaaa

namespace Go.Proofs.Ytagbfbamhfjbaaa
open Go.Fw

def colSpan (c : Cell) : Span := ⟨c.col, c.manyCols, c.w + 2 * c.padX⟩
def rowSpan (c : Cell) : Span := ⟨c.row, c.manyRows, c.h + 2 * c.padY⟩
def colSpans (cs : List Cell) : List Span := cs.map colSpan
def rowSpans (cs : List Cell) : List Span := cs.map rowSpan

def gridReq (g : Grid) : Int × Int := (sumI (requests g.cols (colSpans g.cells)), sumI (requests g.rows (rowSpans g.cells)))
end Go.Proofs.Ytagbfbamhfjbaaa

namespace Go.Proofs.Ytagbfbamhfjbaaa
open Go.Fw

/-- Needs of items together. -/
def preqs : List Pack → Int × Int
  | [] => (0, 0)
  | p :: ps => if down p then (max (needW p) (preqs ps).1, needH p + (preqs ps).2) else (needW p + (preqs ps).1, max (needH p) (preqs ps).2)

end Go.Proofs.Ytagbfbamhfjbaaa

namespace Go.Proofs.Ytagbfbamhfjbaaa
open Go.Fw

/-- A valid tree, taken apart. -/
structure TreeK (t : List Node) : Prop where
  lo : 1 ≤ t.length
  hi : t.length ≤ 10
  ok : ∀ i (h : i < t.length), nodeOk t[i] = true
  root : ∀ h : 0 < t.length, t[0].parent = -1
  up : ∀ i (h : i < t.length), 0 < i → 0 ≤ t[i].parent ∧ t[i].parent ≤ (i : Int) - 1
  lie : ∀ i (h : i < t.length) (j : Nat) (hj : j < t.length), 0 < i → t[i].parent = (j : Int) → t[j].kind = 1 → lies t[i].cell t[j].cols.length t[j].rows.length = true
theorem treeK {t : List Node} (h : treeOk t = true) : TreeK t := by
  obtain ⟨⟨h1, h2⟩, h3⟩ := treeOk_iff.1 h
  have hup : ∀ i (h : i < t.length), 0 < i → 0 ≤ t[i].parent ∧ t[i].parent ≤ (i : Int) - 1 := by
    intro i hi h0
    by_cases hr : 0 ≤ t[i].parent ∧ t[i].parent ≤ (i : Int) - 1
    · exact hr
    · have := (h3 i hi).2
      rw [upOk_out h0 hr] at this
      cases this
  refine ⟨h1, h2, fun i hi => (h3 i hi).1, fun h0 => ?_, hup, ?_⟩
  · have := (h3 0 h0).2
    rw [upOk_0] at this
    exact of_decide_eq_true this
  · intro i hi j hj h0 hp hk
    have := (h3 i hi).2
    have hr := hup i hi h0
    rw [upOk_in h0 hi hr] at this
    have e : t[i].parent.toNat = j := by omega
    simp only [e] at this
    rw [if_pos hk] at this
    exact this

instance : Inhabited Node := ⟨⟨0, 0, 0, false, 0, [], [], ⟨0, 0, 0, false, false, false, 0, 0, 0⟩, ⟨0, 0, 0, 0, 0, 0, 0, 0, 0⟩, ⟨0, 0, 0, 0, 0, 0, 0, 0, 0⟩⟩⟩
def nodeAt (t : List Node) (k : Nat) : Node := (t[k]?).getD default
theorem nodeAt_eq {t : List Node} {k : Nat} (h : k < t.length) : nodeAt t k = t[k] := by simp [nodeAt, h]

def isKid (t : List Node) (i k : Nat) : Bool := decide ((nodeAt t k).parent = (i : Int))
def kidsTo (t : List Node) (i k : Nat) : List Nat := (List.range k).filter (isKid t i)
def kids (t : List Node) (i : Nat) : List Nat := kidsTo t i t.length
def packOf (n : Node) (s : Int × Int) : Pack := ⟨s.1, s.2, n.pack.side, n.pack.fillX, n.pack.fillY, n.pack.expand, n.pack.anchor, n.pack.padX, n.pack.padY⟩
def cellOf (n : Node) (s : Int × Int) : Cell := ⟨n.cell.col, n.cell.row, n.cell.manyCols, n.cell.manyRows, s.1, s.2, n.cell.stick, n.cell.padX, n.cell.padY⟩
/-- What a node asks for, if it is told what its kids ask for. -/
def wishOf (t : List Node) (i : Nat) (f : Nat → Int × Int) : Int × Int :=
  if (nodeAt t i).keep = true ∨ kids t i = [] ∨ (nodeAt t i).kind = 2 then ((nodeAt t i).w, (nodeAt t i).h)
  else if (nodeAt t i).kind = 0 then preqs ((kids t i).map fun k => packOf (nodeAt t k) (f k))
  else gridReq ⟨(nodeAt t i).cols, (nodeAt t i).rows, (kids t i).map fun k => cellOf (nodeAt t k) (f k)⟩
def wishF (t : List Node) : Nat → Nat → Int × Int
  | 0, _ => (0, 0)
  | f + 1, i => wishOf t i (wishF t f)
def wish (t : List Node) (i : Nat) : Int × Int := wishF t t.length i
def cellsOf (t : List Node) (ks : List Nat) : List Cell := ks.map fun k => cellOf (nodeAt t k) (wish t k)
end Go.Proofs.Ytagbfbamhfjbaaa

namespace Go.Proofs.Ytagbfbamhfjbaaa
open Go.Fw

/-- Sizes of lines that are used. -/
structure XOk (n : Nat) (xs : List Int) : Prop where
  len : xs.length = n
  hi : n ≤ 5
  bd : ∀ x ∈ xs, 0 ≤ x ∧ x ≤ 32768
  sum : sumI xs ≤ 32768
theorem XOk.nums {n : Nat} {xs : List Int} (h : XOk n xs) : NumsOk xs := ⟨by have := h.len; have := h.hi; omega, fun x hx => by have := h.bd x hx; omega⟩
theorem XOk.take {n : Nat} {xs : List Int} (h : XOk n xs) {k : Nat} : NumsOk (xs.take k) := ⟨by have := h.len; have := h.hi; simp; omega, fun x hx => by have := h.bd x (List.mem_of_mem_take hx); omega⟩
theorem XOk.slc {n : Nat} {xs : List Int} (h : XOk n xs) {a m : Nat} : NumsOk (slc xs a m) := ⟨by have := h.len; have := h.hi; simp [Go.Proofs.Ytagbfbamhfjbaaa.slc]; omega, fun x hx => by have := h.bd x (slc_mem hx); omega⟩
end Go.Proofs.Ytagbfbamhfjbaaa

namespace Go.Proofs.Ytagbfbamhfjbaaa
open Go.Fw

instance : Inhabited Rect := ⟨⟨0, 0, 0, 0⟩⟩
/-- The rectangle lies in another one. -/
def InR (r q : Rect) : Prop := r.x ≤ q.x ∧ r.y ≤ q.y ∧ 0 ≤ q.w ∧ 0 ≤ q.h ∧ q.x + q.w ≤ r.x + r.w ∧ q.y + q.h ≤ r.y + r.h
theorem InR.trans {a b c : Rect} (h1 : InR a b) (h2 : InR b c) : InR a c := by unfold InR at *; omega
/-- The bounds of a node's rectangle. -/
structure RB (k : Nat) (r : Rect) : Prop where
  w : 0 ≤ r.w ∧ r.w ≤ 1700 + 300 * k
  h : 0 ≤ r.h ∧ r.h ≤ 1700 + 300 * k
  x : -(16384 * (k : Int)) ≤ r.x ∧ r.x ≤ 16384 * k
  y : -(16384 * (k : Int)) ≤ r.y ∧ r.y ≤ 16384 * k
theorem RB.in {k : Nat} {r : Rect} (h : RB k r) (hk : k ≤ 10) : RectIn r := by
  obtain ⟨h1, h2, h3, h4⟩ := h
  constructor <;> omega
end Go.Proofs.Ytagbfbamhfjbaaa

namespace Go.Proofs.Ytagbfbamhfjbaaa
open Go.Fw

section
variable {t : List Node} {w h : Int} {A B : Nat → Bool} {out : List Rect}
end
/-- A node is another one, or below it. -/
def belF (t : List Node) : Nat → Nat → Nat → Bool
  | 0, _, _ => false
  | f + 1, i, j => decide (j = i) || (kids t i).any fun k => belF t f k j
def bel (t : List Node) (i j : Nat) : Bool := belF t t.length i j
end Go.Proofs.Ytagbfbamhfjbaaa

namespace Go.Fw

/-- A nil slice in a cell of an own box is taken for one of an own array without rows. -/
theorem Weak.ownBoxCell {s : St} (b sz : Nat) {cells : List V} (i : Nat) (hb : s.objs[b]? = some (.box cells)) (hi : cells[i]? = some .nils) : Weak s ⟨s.env, (s.objs ++ [O.arr sz []]).set b (.box (cells.set i (.msl s.objs.length sz 0 0))), s.n, s.fx⟩ := by
  refine ⟨fun x a w hC => ?_⟩
  obtain ⟨ok, ρ, hI, hF, hE, hn, hd, hx⟩ := hC
  obtain ⟨h1, h2, h3⟩ := step_new (w' := w) hI hF (Nat.le_refl _) (fun _ _ => rfl) rfl rfl rfl none (fun b hb => by cases hb)
    (o := O.arr sz []) ⟨fun r hr => (by cases hr), .inl ⟨rfl, (by rw [← hI.len]; simp)⟩⟩
  have hlt : b < s.objs.length := (List.getElem?_eq_some_iff.1 hb).1
  have hb' : (s.objs ++ [O.arr sz []])[b]? = some (.box cells) := by rw [List.getElem?_append_left hlt]; exact hb
  obtain ⟨blk, cs, t, r1, r2, r3, r4⟩ := h1.own _ _ hb'
  have hor : ORep w ok (ρ ++ [none]) b (.box (cells.set i (.msl s.objs.length sz 0 0))) := by
    refine ⟨blk, cs, t, r1, r2, by rw [List.length_set]; exact r3, fun j c hj => ?_⟩
    rw [List.getElem?_set] at hj
    split at hj
    · rename_i e
      subst e
      split at hj
      · obtain rfl : V.msl s.objs.length sz 0 0 = c := by simpa using hj
        have := r4 _ _ hi
        generalize Array.getD _ _ _ = u at this ⊢
        cases this
        exact .msl0 (by rw [List.length_append, hI.len]; simp)
      · simp at hj
    · exact r4 _ _ hj
  obtain ⟨g1, g2, g3⟩ := step_write (w' := w) h1 h2 hb' rfl r1 rfl (fun _ _ => rfl) rfl rfl rfl rfl hor rfl
  exact ⟨ok, ρ ++ [none], g1, g2, fun j => g3 _ _ (h3 _ _ (hE j)), hn, hd, hx⟩
end Go.Fw

namespace Go.Proofs.Ytagbfbamhfjbaaa
open Go.Fw
attribute [local irreducible] Go.Fw.aops Go.Fw.arun

set_option maxHeartbeats 4000000 in
set_option maxRecDepth 8000 in
theorem c_validNode (t : List Node) (hL : TreeL t) (k : Nat) (hlt : k < t.length) : ACon Try.prog 45 [vTree t, .d (.int .i64 k)] [] (Is (.d (.bool (nodeOk t[k] && upOk t k t[k])))) := by
  obtain ⟨hL1, hL⟩ := hL
  have hrow := at_map (f := encNode) hlt
  refine ACon.introW tok (nt := 126) Try.func45 rfl rfl rfl (by kernel_rfl) rfl ?_
  by_cases hkd : t[k].kind = 1
  all_goals
    by_cases h0 : k = 0
    · subst h0
      have hu : upOk t 0 t[0] = decide (t[0].parent = -1) := rfl
      generalize hup : upOk t 0 t[0] = up at hu
      repeat' (first | ((with_reducible apply xsim); (first | ((with_reducible apply xlenM); exact rfl; exact rfl) | ((with_reducible apply xo); exact rfl) | ((with_reducible apply xst); exact rfl) | with_reducible apply xend | ((with_reducible apply xguardTS); exact rfl; exact rfl) | ((with_reducible apply xguardS); exact rfl; exact rfl) | ((with_reducible apply xalloc); exact rfl; simp only [bkL, Nat.reduceAdd, Nat.reduceSub]) | ((with_reducible apply xbox); exact rfl; simp only [bkL, Nat.reduceAdd, Nat.reduceSub]) | ((with_reducible apply xidxL); exact rfl; exact rfl; exact rfl; (first | exact hrow); omega; first | exact rfl | simp only [hsz]) | ((with_reducible apply xidxM); exact rfl; exact rfl; exact rfl; omega; omega; exact rfl) | ((with_reducible apply xldA); exact rfl; exact rfl; exact rfl; (first | exact hrow); exact rfl) | ((with_reducible apply xstA); exact rfl; exact rfl; exact rfl; exact rfl; (first | exact hrow); exact rfl; exact rfl; exact rfl; exact rfl; (try simp only [List.set_cons_zero, List.set_cons_succ, List.length_map])) | ((with_reducible apply xcallIs); exact rfl; exact rfl; (first | exact c_inRange _ _ _ | exact c_validPack _ | exact c_validPlace _ | exact c_validLines _ (hL _ hlt).1 | exact c_validLines _ (hL _ hlt).2 | exact c_validCellN _ _ _ (hL _ _).1 (hL _ _).2); exact rfl) | simp -implicitDefEqProofs only [go_sem, List.length_map])) | ((with_reducible apply xaw); (first | ((with_reducible apply xstepS); refine AW.step tok rfl ?_) | ((with_reducible apply xstep); refine AW.region tok rfl ?_) | with_reducible (first | refine AW.seq ?_ | refine AW.block ?_ | refine AW.skip ?_ | refine AW.ret ?_ | refine AW.exit ?_) | ((with_reducible apply xcond); exact rfl))) | with_reducible (first | refine xthen ?_ | refine xthen_r ?_ | refine xthen_e ?_ | refine xblock ?_ | refine xblock_r ?_ | refine xblock_e ?_ | refine xblock_n rfl ?_ | refine xround_r ?_ | refine xround_e ?_) | (with_reducible intro hc; (try simp only [hcL, reduceCtorEq, List.length_map] at hc); (try (exfalso; omega))) | with_reducible (first | exact trivial | refine And.intro ?_ ?_ | exact rfl | exact Nat.le_refl _) | exact Eq.refl true | exact (rfl : (_ : List Nat) = _) | exact Nat.le_of_ble_eq_true rfl | (refine inR_i64.mpr ?_; first | omega | (simp only [List.length_map, List.length_map]; omega)) | omega)
      all_goals clear hrow hL
      all_goals (refine xfinIs (by first | exact .inl rfl | exact .inr rfl) rfl (by repeat' (first | exact trivial | exact rfl | refine And.intro ?_ ?_)) rfl ?_ rfl; simp only [V.d.injEq, D.bool.injEq, D.int.injEq]; first | rfl | (simp_all [nodeOk, hup, Int.natCast_pos, List.length_pos_iff]; done) | (simp_all [nodeOk, hup, Int.natCast_pos, List.length_pos_iff]; omega))
    by_cases hr : 0 ≤ t[k].parent ∧ t[k].parent ≤ (k : Int) - 1
    · have hu := upOk_in (by omega) hlt hr
      have hrow2 := node_at (xs := t) (i := t[k].parent) (by omega)
      generalize hup : upOk t k t[k] = up at hu
      repeat' (first | ((with_reducible apply xsim); (first | ((with_reducible apply xlenM); exact rfl; exact rfl) | ((with_reducible apply xo); exact rfl) | ((with_reducible apply xst); exact rfl) | with_reducible apply xend | ((with_reducible apply xguardTS); exact rfl; exact rfl) | ((with_reducible apply xguardS); exact rfl; exact rfl) | ((with_reducible apply xalloc); exact rfl; simp only [bkL, Nat.reduceAdd, Nat.reduceSub]) | ((with_reducible apply xbox); exact rfl; simp only [bkL, Nat.reduceAdd, Nat.reduceSub]) | ((with_reducible apply xidxL); exact rfl; exact rfl; exact rfl; (first | exact hrow | exact hrow2); omega; first | exact rfl | simp only [hsz]) | ((with_reducible apply xidxM); exact rfl; exact rfl; exact rfl; omega; omega; exact rfl) | ((with_reducible apply xldA); exact rfl; exact rfl; exact rfl; (first | exact hrow | exact hrow2); exact rfl) | ((with_reducible apply xstA); exact rfl; exact rfl; exact rfl; exact rfl; (first | exact hrow | exact hrow2); exact rfl; exact rfl; exact rfl; exact rfl; (try simp only [List.set_cons_zero, List.set_cons_succ, List.length_map])) | ((with_reducible apply xcallIs); exact rfl; exact rfl; (first | exact c_inRange _ _ _ | exact c_validPack _ | exact c_validPlace _ | exact c_validLines _ (hL _ hlt).1 | exact c_validLines _ (hL _ hlt).2 | exact c_validCellN _ _ _ (hL _ _).1 (hL _ _).2); exact rfl) | simp -implicitDefEqProofs only [go_sem, List.length_map])) | ((with_reducible apply xaw); (first | ((with_reducible apply xstepS); refine AW.step tok rfl ?_) | ((with_reducible apply xstep); refine AW.region tok rfl ?_) | with_reducible (first | refine AW.seq ?_ | refine AW.block ?_ | refine AW.skip ?_ | refine AW.ret ?_ | refine AW.exit ?_) | ((with_reducible apply xcond); exact rfl))) | with_reducible (first | refine xthen ?_ | refine xthen_r ?_ | refine xthen_e ?_ | refine xblock ?_ | refine xblock_r ?_ | refine xblock_e ?_ | refine xblock_n rfl ?_ | refine xround_r ?_ | refine xround_e ?_) | (with_reducible intro hc; (try simp only [hcL, reduceCtorEq, List.length_map] at hc); (try (exfalso; omega))) | with_reducible (first | exact trivial | refine And.intro ?_ ?_ | exact rfl | exact Nat.le_refl _) | exact Eq.refl true | exact (rfl : (_ : List Nat) = _) | exact Nat.le_of_ble_eq_true rfl | (refine inR_i64.mpr ?_; first | omega | (simp only [List.length_map, List.length_map]; omega)) | omega)
      all_goals clear hrow hrow2 hL
      all_goals (refine xfinIs (by first | exact .inl rfl | exact .inr rfl) rfl (by repeat' (first | exact trivial | exact rfl | refine And.intro ?_ ?_)) rfl ?_ rfl; simp only [V.d.injEq, D.bool.injEq, D.int.injEq]; first | rfl | (simp_all [nodeOk, hup, cellOk, Int.natCast_pos, List.length_pos_iff]; done) | (simp_all [nodeOk, hup, cellOk, Int.natCast_pos, List.length_pos_iff]; omega))
    · have hu := upOk_out (t := t) (by omega) hr
      generalize hup : upOk t k t[k] = up at hu
      repeat' (first | ((with_reducible apply xsim); (first | ((with_reducible apply xlenM); exact rfl; exact rfl) | ((with_reducible apply xo); exact rfl) | ((with_reducible apply xst); exact rfl) | with_reducible apply xend | ((with_reducible apply xguardTS); exact rfl; exact rfl) | ((with_reducible apply xguardS); exact rfl; exact rfl) | ((with_reducible apply xalloc); exact rfl; simp only [bkL, Nat.reduceAdd, Nat.reduceSub]) | ((with_reducible apply xbox); exact rfl; simp only [bkL, Nat.reduceAdd, Nat.reduceSub]) | ((with_reducible apply xidxL); exact rfl; exact rfl; exact rfl; (first | exact hrow); omega; first | exact rfl | simp only [hsz]) | ((with_reducible apply xidxM); exact rfl; exact rfl; exact rfl; omega; omega; exact rfl) | ((with_reducible apply xldA); exact rfl; exact rfl; exact rfl; (first | exact hrow); exact rfl) | ((with_reducible apply xstA); exact rfl; exact rfl; exact rfl; exact rfl; (first | exact hrow); exact rfl; exact rfl; exact rfl; exact rfl; (try simp only [List.set_cons_zero, List.set_cons_succ, List.length_map])) | ((with_reducible apply xcallIs); exact rfl; exact rfl; (first | exact c_inRange _ _ _ | exact c_validPack _ | exact c_validPlace _ | exact c_validLines _ (hL _ hlt).1 | exact c_validLines _ (hL _ hlt).2 | exact c_validCellN _ _ _ (hL _ _).1 (hL _ _).2); exact rfl) | simp -implicitDefEqProofs only [go_sem, List.length_map])) | ((with_reducible apply xaw); (first | ((with_reducible apply xstepS); refine AW.step tok rfl ?_) | ((with_reducible apply xstep); refine AW.region tok rfl ?_) | with_reducible (first | refine AW.seq ?_ | refine AW.block ?_ | refine AW.skip ?_ | refine AW.ret ?_ | refine AW.exit ?_) | ((with_reducible apply xcond); exact rfl))) | with_reducible (first | refine xthen ?_ | refine xthen_r ?_ | refine xthen_e ?_ | refine xblock ?_ | refine xblock_r ?_ | refine xblock_e ?_ | refine xblock_n rfl ?_ | refine xround_r ?_ | refine xround_e ?_) | (with_reducible intro hc; (try simp only [hcL, reduceCtorEq, List.length_map] at hc); (try (exfalso; omega))) | with_reducible (first | exact trivial | refine And.intro ?_ ?_ | exact rfl | exact Nat.le_refl _) | exact Eq.refl true | exact (rfl : (_ : List Nat) = _) | exact Nat.le_of_ble_eq_true rfl | (refine inR_i64.mpr ?_; first | omega | (simp only [List.length_map, List.length_map]; omega)) | omega)
      all_goals clear hrow hL
      all_goals (refine xfinIs (by first | exact .inl rfl | exact .inr rfl) rfl (by repeat' (first | exact trivial | exact rfl | refine And.intro ?_ ?_)) rfl ?_ rfl; simp only [V.d.injEq, D.bool.injEq, D.int.injEq]; first | rfl | (simp_all [nodeOk, hup, Int.natCast_pos, List.length_pos_iff]; done) | (simp_all [nodeOk, hup, Int.natCast_pos, List.length_pos_iff]; omega))
end Go.Proofs.Ytagbfbamhfjbaaa

namespace Go.Proofs.Ytagbfbamhfjbaaa
open Go.Fw

/-! A node asks for another size. -/
def setWH (n : Node) (w h : Int) : Node := ⟨n.parent, w, h, n.keep, n.kind, n.cols, n.rows, n.pack, n.cell, n.place⟩
def asked (t : List Node) (i : Nat) (w h : Int) : List Node := t.set i (setWH (nodeAt t i) w h)
section
variable {t : List Node} {i : Nat} {w h : Int}
end

end Go.Proofs.Ytagbfbamhfjbaaa

namespace Go.Proofs.Ytagbfbamhfjbaaa
open Go.Fw
attribute [local irreducible] Go.Fw.aops Go.Fw.arun

theorem c_validTree (t : List Node) (hL : TreeL t) : ACon Try.prog 32 [vTree t] [] (Is (.d (.bool (treeOk t)))) := by
  have hL' := hL
  obtain ⟨hL1, _⟩ := hL'
  refine ACon.introW tok (nt := 19) Try.func32 rfl rfl rfl (by kernel_rfl) rfl ?_
  repeat' (first | ((with_reducible apply xsim); (first | ((with_reducible apply xlenM); exact rfl; exact rfl) | ((with_reducible apply xo); exact rfl) | with_reducible apply xend | ((with_reducible apply xbox); exact rfl; simp only [bkL, Nat.reduceAdd, Nat.reduceSub]) | simp -implicitDefEqProofs only [go_sem, List.length_map])) | ((with_reducible apply xaw); (first | ((with_reducible apply xstepS); refine AW.step tok rfl ?_) | ((with_reducible apply xstep); refine AW.region tok rfl ?_) | with_reducible (first | refine AW.seq ?_ | refine AW.block ?_ | refine AW.skip ?_ | refine AW.ret ?_ | refine AW.exit ?_) | ((with_reducible apply xcond); exact rfl))) | with_reducible (first | refine xthen ?_ | refine xthen_r ?_ | refine xthen_e ?_ | refine xblock ?_ | refine xblock_r ?_ | refine xblock_e ?_ | refine xblock_n rfl ?_ | refine xround_r ?_ | refine xround_e ?_) | (with_reducible intro hc; (try simp only [hcL, reduceCtorEq, List.length_map] at hc); (try (exfalso; omega))) | with_reducible (first | exact trivial | refine And.intro ?_ ?_ | exact rfl | exact Nat.le_refl _) | exact Eq.refl true | exact (rfl : (_ : List Nat) = _) | exact Nat.le_of_ble_eq_true rfl | (refine inR_i64.mpr ?_; first | omega | (simp only [List.length_map, List.length_map]; omega)) | omega)
  refine AW.loop (S := fun k : Nat => ⟨[(1, .oref 0 0), (3, .d (.int .i64 k))], [.box [.d (.lst (t.map encNode))]], 19, .p 0⟩)
    (Pre := fun k => k ≤ t.length ∧ ∀ j (h : j < t.length), j < k → (nodeOk t[j] && upOk t j t[j]) = true) (μ := fun k => t.length - k) 0 ⟨Nat.zero_le _, fun j _ h => absurd h (Nat.not_lt_zero _)⟩ ?_ ?_
  · (refine xwk (π := [0]) (by decide) rfl ?_ ?_; (first | exact trivial | simp -implicitDefEqProofs only [go_sem]); repeat' (first | exact renE_n | ((with_reducible apply renE_c); exact rfl; focus (first | with_reducible exact rfl | (simp -implicitDefEqProofs only [go_sem]; done) | (simp -implicitDefEqProofs only [go_sem]; omega)))))
  rintro k ⟨hk, hp⟩
  by_cases hlt : k < t.length
  · have cn := c_validNode t hL k hlt
    by_cases hv : (nodeOk t[k] && upOk t k t[k]) = true
    · rw [hv] at cn
      repeat' (first | ((with_reducible apply xsim); (first | ((with_reducible apply xlenM); exact rfl; exact rfl) | ((with_reducible apply xo); exact rfl) | with_reducible apply xend | ((with_reducible apply xbox); exact rfl; simp only [bkL, Nat.reduceAdd, Nat.reduceSub]) | ((with_reducible apply xcallIs); exact rfl; exact rfl; exact cn; exact rfl) | simp -implicitDefEqProofs only [go_sem, List.length_map])) | ((with_reducible apply xaw); (first | ((with_reducible apply xstepS); refine AW.step tok rfl ?_) | ((with_reducible apply xstep); refine AW.region tok rfl ?_) | with_reducible (first | refine AW.seq ?_ | refine AW.block ?_ | refine AW.skip ?_ | refine AW.ret ?_ | refine AW.exit ?_) | ((with_reducible apply xcond); exact rfl))) | with_reducible (first | refine xthen ?_ | refine xthen_r ?_ | refine xthen_e ?_ | refine xblock ?_ | refine xblock_r ?_ | refine xblock_e ?_ | refine xblock_n rfl ?_ | refine xround_r ?_ | refine xround_e ?_) | (with_reducible intro hc; (try simp only [hcL, reduceCtorEq, List.length_map] at hc); (try (exfalso; omega))) | with_reducible (first | exact trivial | refine And.intro ?_ ?_ | exact rfl | exact Nat.le_refl _) | exact Eq.refl true | exact (rfl : (_ : List Nat) = _) | exact Nat.le_of_ble_eq_true rfl | (refine inR_i64.mpr ?_; first | omega | (simp only [List.length_map, List.length_map]; omega)) | omega)
      refine round_end (k + 1) ⟨by omega, fun j h hj => ?_⟩ (by omega) (by (refine xwk (π := [0]) (by decide) rfl ?_ ?_; (first | exact trivial | simp -implicitDefEqProofs only [go_sem]); repeat' (first | exact renE_n | ((with_reducible apply renE_c); exact rfl; focus (first | with_reducible exact rfl | (simp -implicitDefEqProofs only [go_sem]; done) | (simp -implicitDefEqProofs only [go_sem]; omega))))))
      by_cases e : j = k
      · subst e; exact hv
      · exact hp j h (by omega)
    · have hv' : (nodeOk t[k] && upOk t k t[k]) = false := by simpa using hv
      rw [hv'] at cn
      repeat' (first | ((with_reducible apply xsim); (first | ((with_reducible apply xlenM); exact rfl; exact rfl) | ((with_reducible apply xo); exact rfl) | with_reducible apply xend | ((with_reducible apply xbox); exact rfl; simp only [bkL, Nat.reduceAdd, Nat.reduceSub]) | ((with_reducible apply xcallIs); exact rfl; exact rfl; exact cn; exact rfl) | simp -implicitDefEqProofs only [go_sem, List.length_map])) | ((with_reducible apply xaw); (first | ((with_reducible apply xstepS); refine AW.step tok rfl ?_) | ((with_reducible apply xstep); refine AW.region tok rfl ?_) | with_reducible (first | refine AW.seq ?_ | refine AW.block ?_ | refine AW.skip ?_ | refine AW.ret ?_ | refine AW.exit ?_) | ((with_reducible apply xcond); exact rfl))) | with_reducible (first | refine xthen ?_ | refine xthen_r ?_ | refine xthen_e ?_ | refine xblock ?_ | refine xblock_r ?_ | refine xblock_e ?_ | refine xblock_n rfl ?_ | refine xround_r ?_ | refine xround_e ?_) | (with_reducible intro hc; (try simp only [hcL, reduceCtorEq, List.length_map] at hc); (try (exfalso; omega))) | with_reducible (first | exact trivial | refine And.intro ?_ ?_ | exact rfl | exact Nat.le_refl _) | exact Eq.refl true | exact (rfl : (_ : List Nat) = _) | exact Nat.le_of_ble_eq_true rfl | (refine inR_i64.mpr ?_; first | omega | (simp only [List.length_map, List.length_map]; omega)) | omega)
      (refine xfinIs (by first | exact .inl rfl | exact .inr rfl) rfl (by repeat' (first | exact trivial | exact rfl | refine And.intro ?_ ?_)) rfl ?_ rfl; first | with_reducible exact rfl | (simp -implicitDefEqProofs only [go_sem, treeOk_ff hlt hv'] <;> (first | rfl | omega | exact decide_eq_decide.2 (by omega) | exact decide_eq_false (by omega) | exact decide_eq_true (by omega) | (symm; first | exact decide_eq_false (by omega) | exact decide_eq_true (by omega)) | (rw [Bool.eq_iff_iff]; simp only [boL, reduceCtorEq]; omega))))
  · by_cases hlen : 1 ≤ t.length ∧ t.length ≤ 10
    · repeat' (first | ((with_reducible apply xsim); (first | ((with_reducible apply xlenM); exact rfl; exact rfl) | ((with_reducible apply xo); exact rfl) | with_reducible apply xend | ((with_reducible apply xbox); exact rfl; simp only [bkL, Nat.reduceAdd, Nat.reduceSub]) | ((with_reducible apply xcallIs); exact rfl; exact rfl; exact c_inRange _ _ _; exact rfl) | simp -implicitDefEqProofs only [go_sem, List.length_map])) | ((with_reducible apply xaw); (first | ((with_reducible apply xstepS); refine AW.step tok rfl ?_) | ((with_reducible apply xstep); refine AW.region tok rfl ?_) | with_reducible (first | refine AW.seq ?_ | refine AW.block ?_ | refine AW.skip ?_ | refine AW.ret ?_ | refine AW.exit ?_) | ((with_reducible apply xcond); exact rfl))) | with_reducible (first | refine xthen ?_ | refine xthen_r ?_ | refine xthen_e ?_ | refine xblock ?_ | refine xblock_r ?_ | refine xblock_e ?_ | refine xblock_n rfl ?_ | refine xround_r ?_ | refine xround_e ?_) | (with_reducible intro hc; (try simp only [hcL, reduceCtorEq, List.length_map] at hc); (try (exfalso; omega))) | with_reducible (first | exact trivial | refine And.intro ?_ ?_ | exact rfl | exact Nat.le_refl _) | exact Eq.refl true | exact (rfl : (_ : List Nat) = _) | exact Nat.le_of_ble_eq_true rfl | (refine inR_i64.mpr ?_; first | omega | (simp only [List.length_map, List.length_map]; omega)) | omega)
      (refine xfinIs (by first | exact .inl rfl | exact .inr rfl) rfl (by repeat' (first | exact trivial | exact rfl | refine And.intro ?_ ?_)) rfl ?_ rfl; first | with_reducible exact rfl | (simp -implicitDefEqProofs only [go_sem, treeOk_tt hlen fun i h => hp i h (by omega)] <;> (first | rfl | omega | exact decide_eq_decide.2 (by omega) | exact decide_eq_false (by omega) | exact decide_eq_true (by omega) | (symm; first | exact decide_eq_false (by omega) | exact decide_eq_true (by omega)) | (rw [Bool.eq_iff_iff]; simp only [boL, reduceCtorEq]; omega))))
    · repeat' (first | ((with_reducible apply xsim); (first | ((with_reducible apply xlenM); exact rfl; exact rfl) | ((with_reducible apply xo); exact rfl) | with_reducible apply xend | ((with_reducible apply xbox); exact rfl; simp only [bkL, Nat.reduceAdd, Nat.reduceSub]) | ((with_reducible apply xcallIs); exact rfl; exact rfl; exact c_inRange _ _ _; exact rfl) | simp -implicitDefEqProofs only [go_sem, List.length_map])) | ((with_reducible apply xaw); (first | ((with_reducible apply xstepS); refine AW.step tok rfl ?_) | ((with_reducible apply xstep); refine AW.region tok rfl ?_) | with_reducible (first | refine AW.seq ?_ | refine AW.block ?_ | refine AW.skip ?_ | refine AW.ret ?_ | refine AW.exit ?_) | ((with_reducible apply xcond); exact rfl))) | with_reducible (first | refine xthen ?_ | refine xthen_r ?_ | refine xthen_e ?_ | refine xblock ?_ | refine xblock_r ?_ | refine xblock_e ?_ | refine xblock_n rfl ?_ | refine xround_r ?_ | refine xround_e ?_) | (with_reducible intro hc; (try simp only [hcL, reduceCtorEq, List.length_map] at hc); (try (exfalso; omega))) | with_reducible (first | exact trivial | refine And.intro ?_ ?_ | exact rfl | exact Nat.le_refl _) | exact Eq.refl true | exact (rfl : (_ : List Nat) = _) | exact Nat.le_of_ble_eq_true rfl | (refine inR_i64.mpr ?_; first | omega | (simp only [List.length_map, List.length_map]; omega)) | omega)
      (refine xfinIs (by first | exact .inl rfl | exact .inr rfl) rfl (by repeat' (first | exact trivial | exact rfl | refine And.intro ?_ ?_)) rfl ?_ rfl; first | with_reducible exact rfl | (simp -implicitDefEqProofs only [go_sem, treeOk_len hlen] <;> (first | rfl | omega | exact decide_eq_decide.2 (by omega) | exact decide_eq_false (by omega) | exact decide_eq_true (by omega) | (symm; first | exact decide_eq_false (by omega) | exact decide_eq_true (by omega)) | (rw [Bool.eq_iff_iff]; simp only [boL, reduceCtorEq]; omega))))

/-- The tree is valid and has the node. -/
def goodN (t : List Node) (i : Int) : Bool := treeOk t && decide (0 ≤ i ∧ i ≤ (t.length : Int) - 1)
theorem c_goodNode (t : List Node) (hL : TreeL t) (i : Int) : ACon Try.prog 22 [vTree t, .d (.int .i64 i)] [] (Is (.d (.bool (goodN t i)))) := by
  have hL1 := hL.1
  have c1 := c_validTree t hL
  cases ht : treeOk t
  all_goals
    rw [ht] at c1
    refine ACon.introW tok (nt := 15) Try.func22 rfl rfl rfl (by kernel_rfl) rfl ?_
    repeat' (first | ((with_reducible apply xsim); (first | ((with_reducible apply xlenM); exact rfl; exact rfl) | ((with_reducible apply xo); exact rfl) | with_reducible apply xend | ((with_reducible apply xguardTS); exact rfl; exact rfl) | ((with_reducible apply xguardS); exact rfl; exact rfl) | ((with_reducible apply xbox); exact rfl; simp only [bkL, Nat.reduceAdd, Nat.reduceSub]) | ((with_reducible apply xcallIs); exact rfl; exact rfl; (first | exact c1 | exact c_inRange _ _ _); exact rfl) | simp -implicitDefEqProofs only [go_sem, List.length_map])) | ((with_reducible apply xaw); (first | ((with_reducible apply xstepS); refine AW.step tok rfl ?_) | ((with_reducible apply xstep); refine AW.region tok rfl ?_) | with_reducible (first | refine AW.seq ?_ | refine AW.block ?_ | refine AW.skip ?_ | refine AW.ret ?_ | refine AW.exit ?_) | ((with_reducible apply xcond); exact rfl))) | with_reducible (first | refine xthen ?_ | refine xthen_r ?_ | refine xthen_e ?_ | refine xblock ?_ | refine xblock_r ?_ | refine xblock_e ?_ | refine xblock_n rfl ?_ | refine xround_r ?_ | refine xround_e ?_) | (with_reducible intro hc; (try simp only [hcL, reduceCtorEq, List.length_map] at hc); (try (exfalso; omega))) | with_reducible (first | exact trivial | refine And.intro ?_ ?_ | exact rfl | exact Nat.le_refl _) | exact Eq.refl true | exact (rfl : (_ : List Nat) = _) | exact Nat.le_of_ble_eq_true rfl | (refine inR_i64.mpr ?_; first | omega | (simp only [List.length_map, List.length_map]; omega)) | omega)
    all_goals (refine xfinIs (by first | exact .inl rfl | exact .inr rfl) rfl (by repeat' (first | exact trivial | exact rfl | refine And.intro ?_ ?_)) rfl ?_ rfl; first | with_reducible exact rfl | (simp -implicitDefEqProofs only [go_sem, goodN, ht, Bool.true_and, Bool.false_and] <;> (first | rfl | omega | exact decide_eq_decide.2 (by omega) | exact decide_eq_false (by omega) | exact decide_eq_true (by omega) | (symm; first | exact decide_eq_false (by omega) | exact decide_eq_true (by omega)) | (rw [Bool.eq_iff_iff]; simp only [boL, reduceCtorEq]; omega))))
theorem goodN_iff {t : List Node} {i : Int} : goodN t i = true ↔ treeOk t = true ∧ 0 ≤ i ∧ i.toNat < t.length := by
  simp only [goodN, Bool.and_eq_true, decide_eq_true_eq]
  refine and_congr_right fun _ => ?_
  omega
end Go.Proofs.Ytagbfbamhfjbaaa

namespace Go.Proofs.Ytagbfbamhfjbaaa
open Go.Fw

theorem okTree_szT {t : List Node} (ht : okTree t) : t.length < 2^63 ∧ ∀ x ∈ t, x.cols.length < 2^63 ∧ x.rows.length < 2^63 := by
  have hb : maxLen < 2^63 := by decide
  refine ⟨by have := ht.1; omega, fun x hx => ?_⟩
  obtain ⟨a, b⟩ := ht.2 x hx
  omega
theorem small_L {t : List Node} (h : t.length ≤ 2^20 ∧ ∀ x ∈ t, x.cols.length ≤ 2^20 ∧ x.rows.length ≤ 2^20) : TreeL t := ⟨by omega, fun i hi => by have := h.2 _ (List.getElem_mem hi); omega⟩
end Go.Proofs.Ytagbfbamhfjbaaa

