import Derived.Test.YtemihgpcodcjgaaG12
set_option linter.unusedSimpArgs false
set_option linter.unusedVariables false
namespace Go.Proofs.Ytemihgpcodcjgaa
open Go.Fw

/-- No less anywhere. -/
def Up (xs ys : List Int) : Prop := xs.length = ys.length ∧ ∀ i (h1 : i < xs.length) (h2 : i < ys.length), xs[i] ≤ ys[i]
theorem Up.refl (xs : List Int) : Up xs xs := ⟨rfl, fun _ _ _ => Int.le_refl _⟩
theorem Up.trans {xs ys zs : List Int} (h1 : Up xs ys) (h2 : Up ys zs) : Up xs zs := ⟨h1.1.trans h2.1, fun i a b => Int.le_trans (h1.2 i a (by have := h1.1; omega)) (h2.2 i (by have := h1.1; omega) b)⟩
theorem Up.slc {xs ys : List Int} (h : Up xs ys) {a m : Nat} : sumI (slc xs a m) ≤ sumI (Go.Proofs.Ytemihgpcodcjgaa.slc ys a m) := by
  refine sumI_le (by simp [Go.Proofs.Ytemihgpcodcjgaa.slc, h.1]) fun i h1 => ?_
  rw [slc_at h1, slc_at]
  exact h.2 _ _ _

variable {ls : List Line} {ss : List Span}
def SpOk (s : Span) (n : Int) : Prop := 0 ≤ s.at ∧ s.at ≤ n - 1 ∧ 1 ≤ s.many ∧ s.many ≤ n - s.at ∧ 0 ≤ s.need ∧ s.need ≤ 50

theorem step_up (h : LOk ls) {m : Int} {out : List Int} {s : Span} (ho : out.length = ls.length) (hs : SpOk s ls.length) : Up out (reqStep ls m out s) := by
  obtain ⟨h1, h2, h3, h4, h5, h6⟩ := hs
  unfold reqStep
  split
  · rename_i hc
    have hw := h.slc (a := s.at.toNat) (m := s.many.toNat) (by omega) (by omega)
    exact ⟨putN_len.symm, fun i a b => putN_ge (spread_nonneg hw (by omega)) a⟩
  · exact Up.refl _
theorem step_enough (h : LOk ls) {out : List Int} {s : Span} (ho : out.length = ls.length) (hs : SpOk s ls.length) : s.need ≤ sumI (slc (reqStep ls s.many out s) s.at.toNat s.many.toNat) := by
  obtain ⟨h1, h2, h3, h4, h5, h6⟩ := hs
  unfold reqStep
  have hmi : missing out s = s.need - sumI (slc out s.at.toNat s.many.toNat) := rfl
  split
  · rename_i hc
    have hw := h.slc (a := s.at.toNat) (m := s.many.toNat) (by omega) (by omega)
    have hpl : (spread (missing out s) (slc (weights ls) s.at.toNat s.many.toNat)).length = s.many.toNat := by rw [spread_len]; exact slc_len (by simp [weights]; omega)
    rw [putN_slc (by omega) hpl, sumI_zip (by rw [slc_len (by omega), hpl]), spread_sum hw (by omega)]; omega
  · rename_i hc
    have : ¬ 0 < missing out s := fun h => hc ⟨rfl, h⟩
    omega
theorem fold_up (h : LOk ls) {m : Int} : ∀ (l : List Span) (out : List Int), out.length = ls.length → (∀ s ∈ l, SpOk s ls.length) → Up out (l.foldl (reqStep ls m) out) := by
  intro l
  induction l with
  | nil => intro out _ _; exact Up.refl _
  | cons s l ih =>
    intro out ho hs
    have h1 := step_up h (m := m) ho (hs s (by simp))
    exact h1.trans (ih _ (by rw [← h1.1, ho]) fun x hx => hs x (by simp [hx]))
theorem fold_enough (h : LOk ls) {s : Span} : ∀ (l : List Span) (out : List Int), out.length = ls.length → (∀ s ∈ l, SpOk s ls.length) → s ∈ l → s.need ≤ sumI (slc (l.foldl (reqStep ls s.many) out) s.at.toNat s.many.toNat) := by
  intro l
  induction l with
  | nil => intro out _ _ hm; cases hm
  | cons t l ih =>
    intro out ho hs hm
    have h1 := step_up h (m := s.many) ho (hs t (by simp))
    have hl : (reqStep ls s.many out t).length = ls.length := by rw [← h1.1, ho]
    rcases List.mem_cons.1 hm with rfl | hm
    · have h2 := step_enough h ho (hs s (by simp))
      exact Int.le_trans h2 (fold_up h l _ hl fun x hx => hs x (by simp [hx])).slc
    · exact ih _ hl (fun x hx => hs x (by simp [hx])) hm
theorem reqs_succ {m : Nat} : reqs ls ss (m + 1) = ss.foldl (reqStep ls (m + 1 : Nat)) (reqs ls ss m) := by
  show reqRound ls ss _ _ ss.length = _
  unfold reqRound; rw [List.take_length]; rfl
theorem reqs_up (h : LOk ls) (hs : SOk ss ls.length) {m : Nat} : ∀ j, m ≤ j → Up (reqs ls ss m) (reqs ls ss j) := by
  intro j hj
  induction j with
  | zero => obtain rfl : m = 0 := by omega
            exact Up.refl _
  | succ j ih =>
    by_cases e : m = j + 1
    · rw [e]; exact Up.refl _
    · have h1 := ih (by omega)
      rw [reqs_succ]
      exact h1.trans (fold_up h ss _ (reqs_rok h hs j).len hs.ok)
theorem requests_enough (h : LOk ls) (hs : SOk ss ls.length) {s : Span} (hm : s ∈ ss) : s.need ≤ sumI (slc (requests ls ss) s.at.toNat s.many.toNat) := by
  have ho := hs.ok s hm
  obtain ⟨m, hmm⟩ : ∃ m : Nat, s.many = (m + 1 : Nat) := ⟨(s.many - 1).toNat, by omega⟩
  have h1 := fold_enough h (s := s) ss (reqs ls ss m) (reqs_rok h hs m).len hs.ok hm
  have h2 := reqs_up h hs (m := m + 1) ls.length (by omega)
  rw [reqs_succ] at h2
  rw [hmm] at h1 ⊢
  exact Int.le_trans h1 h2.slc

theorem requests_nil : requests ls [] = mins ls := by
  unfold requests
  generalize ls.length = n
  induction n with
  | zero => rfl
  | succ n ih => rw [reqs_succ, ih]; rfl
theorem requests_more (h : LOk ls) (hs : SOk ss ls.length) {s : Span} (ha : s.at = 0) (hm : s.many = ls.length) (hn : s.need ≤ sumI (requests ls ss)) : requests ls (ss ++ [s]) = requests ls ss := by
  have e : ∀ m, m < ls.length → reqs ls (ss ++ [s]) m = reqs ls ss m := by
    intro m
    induction m with
    | zero => intro _; rfl
    | succ m ih =>
      intro hlt
      rw [reqs_succ, reqs_succ, ih (by omega), List.foldl_append]
      simp only [List.foldl_cons, List.foldl_nil]
      rw [reqStep, if_neg (fun hc => by omega)]
  have hlo := h.lo
  obtain ⟨n, hn2⟩ : ∃ n, ls.length = n + 1 := ⟨ls.length - 1, by omega⟩
  have hl := (requests_rok h hs).len
  unfold requests at hn hl ⊢
  rw [hn2] at hn hl ⊢
  rw [reqs_succ, reqs_succ, e n (by omega), List.foldl_append] at *
  simp only [List.foldl_cons, List.foldl_nil] at *
  rw [reqStep, if_neg]
  intro hc
  have : missing (ss.foldl (reqStep ls (n + 1 : Nat)) (reqs ls ss n)) s = s.need - sumI (ss.foldl (reqStep ls (n + 1 : Nat)) (reqs ls ss n)) := by
    unfold missing
    rw [ha, hm, hn2, slc]
    simp only [Int.toNat_zero, List.drop_zero]
    rw [List.take_of_length_le (by rw [hl]; omega)]
  omega

/-- What lines with a weight must have, and what the others have. -/
def least (ls : List Line) (out : List Int) : Int := sumI (List.zipWith (fun (l : Line) x => if 0 < l.weight then l.min else x) ls out)

theorem less_w0 (h : LOk ls) {out : List Int} (ho : SInv ls out) {n : Int} (hn : 0 ≤ n) (hz : sumI (nowW ls out) ≠ 0) {i : Nat} (hi : i < ls.length) (hw : ls[i].weight = 0) : (less ls out n)[i]'(by rw [less_len ho.len]; exact hi) = out[i]'(by rw [ho.len]; exact hi) := by
  have hio : i < out.length := by rw [ho.len]; exact hi
  have hni : i < (nowW ls out).length := by rw [nowW_len ho.len]; exact hi
  have hsi : i < (spread n (nowW ls out)).length := by rw [spread_len]; exact hni
  have e : (nowW ls out)[i] = 0 := by rw [nowW_at hi hio]; split <;> omega
  have h0 := spread_zero (n := n) hz (i := i) (by rw [List.getElem?_eq_getElem hni, e])
  rw [List.getElem?_eq_getElem hsi] at h0
  injection h0 with h0
  have hge := ho.ge i hi hio
  rw [less_at ho.len hi, tks_at ho.len hi, h0]
  omega
theorem shrink_w0 (h : LOk ls) {out : List Int} (ho : SInv ls out) {n : Int} (hn : 0 ≤ n) {i : Nat} (hi : i < ls.length) (hw : ls[i].weight = 0) : ∀ r, (shrinkTo ls out n r).1[i]? = out[i]? := by
  intro r
  induction r with
  | zero => rfl
  | succ r ih =>
    obtain ⟨i1, i2, i3, i4⟩ := shrink_inv h ho hn r
    simp only [shrinkTo]
    split
    · rename_i hc
      have e := less_w0 h i1 i2 hc.2 hi hw
      rw [← ih, List.getElem?_eq_getElem (by rw [less_len i1.len]; exact hi), List.getElem?_eq_getElem (by rw [i1.len]; exact hi), e]
    · exact ih

/-- What is true of sizes in a room. -/
structure Sized (ls : List Line) (wish out : List Int) (room : Int) : Prop where
  len : out.length = ls.length
  ge : ∀ i (h1 : i < ls.length) (h2 : i < out.length), ls[i].min ≤ out[i]
  w0 : ∀ i (h1 : i < ls.length) (h2 : i < out.length) (h3 : i < wish.length), ls[i].weight = 0 → out[i] = wish[i]
  bd : ∀ x ∈ out, 0 ≤ x ∧ x ≤ 8100
  none : sumI (weights ls) = 0 → out = wish
  full : sumI (weights ls) ≠ 0 → least ls wish ≤ room → sumI out = room
  tight : sumI (weights ls) ≠ 0 → room < least ls wish → sumI out = least ls wish
  sum : sumI (weights ls) ≠ 0 → room ≤ sumI out ∧ (sumI wish ≤ room → sumI out = room)
  most : sumI out ≤ max room 250
  grow : sumI wish ≤ room → Up wish out

theorem w_pos (h : LOk ls) {l : Line} (hl : l ∈ ls) (h0 : sumI (weights ls) = 0) : l.weight = 0 := by
  have := sumI_mem (xs := weights ls) (fun x hx => (h.w x hx).1) (List.mem_map.2 ⟨l, hl, rfl⟩)
  have := h.ok l hl
  omega
theorem least_le {out : List Int} (ho : SInv ls out) : least ls out ≤ sumI out := by
  refine sumI_le (by simp [ho.len]) fun i h1 => ?_
  have h1' : i < ls.length := by simp at h1; omega
  have h2' : i < out.length := by rw [ho.len]; exact h1'
  have := ho.ge i h1' h2'
  simp only [List.getElem_zipWith]
  split <;> omega
theorem sum50 {n : Nat} {out : List Int} (h : ROk n out) (hn : n ≤ 5) : 0 ≤ sumI out ∧ sumI out ≤ 250 := by
  have : ∀ (xs : List Int), (∀ x ∈ xs, 0 ≤ x ∧ x ≤ 50) → 0 ≤ sumI xs ∧ sumI xs ≤ 50 * xs.length := by
    intro xs
    induction xs with
    | nil => intro _; simp [sumI]
    | cons x xs ih =>
      intro hb
      have := ih fun y hy => hb y (by simp [hy])
      have := hb x (by simp)
      simp only [sumI, List.length_cons]; omega
  have := this out h.bd
  have := h.len
  omega

theorem sizes_ok (h : LOk ls) {wish : List Int} (ho : SInv ls wish) {room : Int} (hr : 0 ≤ room ∧ room ≤ 8000) : Sized ls wish (sizes ls wish room) room := by
  have hb := sum50 ho.toROk h.hi
  have hll := least_le ho
  unfold sizes
  by_cases h1 : room - sumI wish < 0
  · rw [if_pos h1]
    have hn : 0 ≤ sumI wish - room := by omega
    obtain ⟨i1, i2, i3, i4⟩ := shrink_inv h ho hn (sumI wish - room).toNat
    have hw0 := fun i hi hw => shrink_w0 h ho hn (i := i) hi hw (sumI wish - room).toNat
    have hfin := shrink_fin h ho hn
    generalize shrinkTo ls wish (sumI wish - room) (sumI wish - room).toNat = st at *
    have hsb := sum50 i1.toROk h.hi
    have hw0' : ∀ i (h1 : i < ls.length) (h2 : i < st.1.length) (h3 : i < wish.length), ls[i].weight = 0 → st.1[i] = wish[i] := fun i a b c hw => by
      have e := hw0 i a hw
      rw [List.getElem?_eq_getElem b, List.getElem?_eq_getElem c] at e
      injection e
    have hle : least ls wish = least ls st.1 := by
      unfold least
      congr 1
      refine List.ext_getElem (by simp [i1.len, ho.len]) fun i a b => ?_
      simp only [List.getElem_zipWith]
      split
      · rfl
      · have a' : i < ls.length := by simp at a; omega
        have := h.ok _ (List.getElem_mem a')
        exact (hw0' i a' (by rw [i1.len]; exact a') (by rw [ho.len]; exact a') (by omega)).symm
    have hl2 := least_le i1
    have hstop : 0 < st.2 → sumI st.1 = least ls st.1 := by
      intro hp
      have hz : sumI (nowW ls st.1) = 0 := Decidable.byContradiction fun hc => hfin ⟨hp, hc⟩
      have hnw := nowW_ok h i1.len
      unfold least
      congr 1
      refine List.ext_getElem (by simp [i1.len]) fun i a b => ?_
      have a' : i < ls.length := by rw [i1.len] at a; exact a
      simp only [List.getElem_zipWith]
      have hmem := sumI_mem (fun x hx => (hnw.w x hx).1) (List.getElem_mem (show i < (nowW ls st.1).length by rw [nowW_len i1.len]; exact a'))
      have hx := hnw.w _ (List.getElem_mem (show i < (nowW ls st.1).length by rw [nowW_len i1.len]; exact a'))
      rw [nowW_at a' a] at hmem hx
      have := i1.ge i a' a
      have := h.ok _ (List.getElem_mem a')
      split
      · split at hmem <;> omega
      · rfl
    refine ⟨i1.len, i1.ge, hw0', fun x hx => by have := i1.bd x hx; omega, fun h0 => ?_, fun h0 hle' => ?_, fun h0 hlt => ?_, fun h0 => ⟨by omega, fun hc => by omega⟩, by omega, fun hc => by omega⟩
    · refine List.ext_getElem (by rw [i1.len, ho.len]) fun i a b => ?_
      exact hw0' i (by rw [i1.len] at a; exact a) a b (w_pos h (List.getElem_mem _) h0)
    · by_cases hp : 0 < st.2
      · have := hstop hp; omega
      · omega
    · by_cases hp : 0 < st.2
      · have := hstop hp; omega
      · omega
  · rw [if_neg h1]
    by_cases h0 : sumI (weights ls) = 0
    · rw [if_pos h0]
      exact ⟨ho.len, ho.ge, fun i a b c _ => rfl, fun x hx => by have := ho.bd x hx; omega, fun _ => rfl, fun hc => absurd h0 hc, fun hc => absurd h0 hc, fun hc => absurd h0 hc, by omega, fun _ => Up.refl _⟩
    · rw [if_neg h0]
      have hs := spread_sum h.all (n := room - sumI wish) (by omega)
      have hbd := spread_bd h.all (n := room - sumI wish) (by omega)
      have hsl : (spread (room - sumI wish) (weights ls)).length = wish.length := by rw [spread_len, ho.len]; simp [weights]
      have hz := fun i => spread_zero (n := room - sumI wish) h0 (i := i)
      have htot : sumI (putN (spread (room - sumI wish) (weights ls)) 0 wish.length wish) = room := by
        have e := putN_slc (ps := spread (room - sumI wish) (weights ls)) (out := wish) (a := 0) (m := wish.length) (by omega) hsl
        simp only [slc, List.drop_zero, List.take_length] at e
        rw [List.take_of_length_le (by rw [putN_len]; omega)] at e
        rw [e, sumI_zip (by rw [hsl]), hs]; omega
      generalize spread (room - sumI wish) (weights ls) = ps at *
      have hat : ∀ i (a : i < wish.length), (putN ps 0 wish.length wish)[i]'(by rw [putN_len]; exact a) = wish[i] + ps[i]'(by omega) := fun i a => by
        simp only [putN, List.getElem_mapIdx]
        rw [if_pos (by omega), Nat.sub_zero, List.getElem?_eq_getElem (by omega)]; rfl
      refine ⟨by rw [putN_len, ho.len], fun i a b => ?_, fun i a b c hw => ?_, fun x hx => ?_, fun hc => absurd hc h0, fun _ _ => htot, fun _ hlt => by omega, fun _ => ⟨by omega, fun _ => htot⟩, by omega, fun _ => ⟨by rw [putN_len], fun i a b => ?_⟩⟩
      · have a' : i < wish.length := by rw [ho.len]; exact a
        rw [hat i a']
        have := ho.ge i a a'
        have := hbd _ (List.getElem_mem (show i < ps.length by omega))
        omega
      · rw [hat i c]
        have e := hz i (by simp only [weights]; rw [List.getElem?_map, List.getElem?_eq_getElem a]; simp [hw])
        rw [List.getElem?_eq_getElem (by omega)] at e
        injection e with e
        omega
      · obtain ⟨i, hi, rfl⟩ := List.mem_iff_getElem.1 hx
        rw [putN_len] at hi
        rw [hat i hi]
        have := hbd _ (List.getElem_mem (show i < ps.length by omega))
        have := ho.bd _ (List.getElem_mem hi)
        omega
      · rw [hat i a]
        have := hbd _ (List.getElem_mem (show i < ps.length by omega))
        omega
/-- Sums of the first numbers. -/
theorem take_slc {xs : List Int} {a m : Nat} : sumI (xs.take (a + m)) = sumI (xs.take a) + sumI (slc xs a m) := by
  rw [← sumI_app, slc, List.take_add]
theorem take_le {xs : List Int} (h : ∀ x ∈ xs, 0 ≤ x) {a b : Nat} (hab : a ≤ b) : sumI (xs.take a) ≤ sumI (xs.take b) := by
  obtain ⟨m, rfl⟩ := Nat.exists_eq_add_of_le hab
  rw [take_slc]
  have := sumI_nonneg (xs := slc xs a m) fun x hx => h x (slc_mem hx)
  omega
theorem take_all {xs : List Int} (h : ∀ x ∈ xs, 0 ≤ x) {a : Nat} : sumI (xs.take a) ≤ sumI xs := by
  by_cases ha : a ≤ xs.length
  · have := take_le h ha
    rwa [List.take_length] at this
  · rw [List.take_of_length_le (by omega)]; exact Int.le_refl _
end Go.Proofs.Ytemihgpcodcjgaa
