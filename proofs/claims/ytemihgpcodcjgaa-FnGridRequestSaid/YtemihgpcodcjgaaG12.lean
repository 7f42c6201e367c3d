import Derived.Test.YtemihgpcodcjgaaG10
import Derived.Test.YtemihgpcodcjgaaR10
set_option linter.unusedSimpArgs false
set_option linter.unusedVariables false
namespace Go.Proofs.Ytemihgpcodcjgaa
open Go.Fw

/-- The weights of those lines that are greater than their least size. -/
def nowW (ls : List Line) (out : List Int) : List Int := List.zipWith (fun l x => if l.min < x then l.weight else 0) ls out
def tks (ls : List Line) (out : List Int) (n : Int) : List Int := List.zipWith (fun p (lx : Line × Int) => min p (lx.2 - lx.1.min)) (spread n (nowW ls out)) (List.zip ls out)
def less (ls : List Line) (out : List Int) (n : Int) : List Int := List.zipWith (· - ·) out (tks ls out n)
def shrinkTo (ls : List Line) (out : List Int) (n : Int) : Nat → List Int × Int
  | 0 => (out, n)
  | r + 1 =>
    let s := shrinkTo ls out n r
    if 0 < s.2 ∧ sumI (nowW ls s.1) ≠ 0 then (less ls s.1 s.2, s.2 - sumI (tks ls s.1 s.2)) else s
def sizes (ls : List Line) (out : List Int) (room : Int) : List Int :=
  if room - sumI out < 0 then (shrinkTo ls out (sumI out - room) (sumI out - room).toNat).1
  else if sumI (weights ls) = 0 then out else putN (spread (room - sumI out) (weights ls)) 0 out.length out

structure SInv (ls : List Line) (out : List Int) : Prop extends ROk ls.length out where
  ge : ∀ i (h1 : i < ls.length) (h2 : i < out.length), ls[i].min ≤ out[i]

theorem nowW_len {ls : List Line} {out : List Int} (h : out.length = ls.length) : (nowW ls out).length = ls.length := by simp [nowW, h]
theorem nowW_at {ls : List Line} {out : List Int} {i : Nat} (h1 : i < ls.length) (h2 : i < out.length) : (nowW ls out)[i]'(by simp [nowW]; omega) = if ls[i].min < out[i] then ls[i].weight else 0 := by simp [nowW]
theorem nowW_ok {ls : List Line} {out : List Int} (h : LOk ls) (ho : out.length = ls.length) : WOk (nowW ls out) := by
  refine ⟨by rw [nowW_len ho]; exact h.lo, by rw [nowW_len ho]; exact h.hi, fun x hx => ?_⟩
  obtain ⟨i, hi, rfl⟩ := List.mem_iff_getElem.1 hx
  rw [nowW_len ho] at hi
  rw [nowW_at hi (by omega)]
  have := h.ok _ (List.getElem_mem hi)
  split <;> omega
theorem tks_len {ls : List Line} {out : List Int} {n : Int} (h : out.length = ls.length) : (tks ls out n).length = ls.length := by simp [tks, spread_len, nowW_len h, h]
theorem tks_at {ls : List Line} {out : List Int} {n : Int} (h : out.length = ls.length) {i : Nat} (hi : i < ls.length) :
    (tks ls out n)[i]'(by rw [tks_len h]; exact hi) = min ((spread n (nowW ls out))[i]'(by rw [spread_len, nowW_len h]; exact hi)) (out[i]'(by omega) - ls[i].min) := by simp [tks]
theorem less_len {ls : List Line} {out : List Int} {n : Int} (h : out.length = ls.length) : (less ls out n).length = ls.length := by simp [less, tks_len h, h]
theorem less_at {ls : List Line} {out : List Int} {n : Int} (h : out.length = ls.length) {i : Nat} (hi : i < ls.length) :
    (less ls out n)[i]'(by rw [less_len h]; exact hi) = out[i]'(by omega) - (tks ls out n)[i]'(by rw [tks_len h]; exact hi) := by simp [less]
theorem sumI_sub : ∀ {xs ys : List Int}, xs.length = ys.length → sumI (List.zipWith (· - ·) xs ys) = sumI xs - sumI ys
  | [], [], _ => rfl
  | x :: xs, y :: ys, h => by
    have := sumI_sub (xs := xs) (ys := ys) (by simpa using h)
    simp only [List.zipWith_cons_cons, sumI, this]; omega
theorem sumI_le : ∀ {xs ys : List Int}, (h : xs.length = ys.length) → (∀ i (h1 : i < xs.length), xs[i] ≤ ys[i]) → sumI xs ≤ sumI ys
  | [], [], _, _ => Int.le_refl _
  | x :: xs, y :: ys, h, hle => by
    have := sumI_le (xs := xs) (ys := ys) (by simpa using h) (fun i hi => hle (i + 1) (by simpa using hi))
    have h0 := hle 0 (by simp)
    simp only [List.getElem_cons_zero] at h0
    simp only [sumI]; omega

theorem tks_bd {ls : List Line} {out : List Int} (h : LOk ls) (ho : SInv ls out) {n : Int} (hn : 0 ≤ n) {i : Nat} (hi : i < ls.length) :
    0 ≤ (tks ls out n)[i]'(by rw [tks_len ho.len]; exact hi) ∧ (tks ls out n)[i]'(by rw [tks_len ho.len]; exact hi) ≤ out[i]'(by rw [ho.len]; exact hi) - ls[i].min := by
  have hw := nowW_ok h ho.len
  have hsp := spread_bd hw hn _ (List.getElem_mem (show i < (spread n (nowW ls out)).length by rw [spread_len, nowW_len ho.len]; exact hi))
  have hge := ho.ge i hi (by rw [ho.len]; exact hi)
  rw [tks_at ho.len hi]; omega
theorem tks_nonneg {ls : List Line} {out : List Int} (h : LOk ls) (ho : SInv ls out) {n : Int} (hn : 0 ≤ n) : ∀ x ∈ tks ls out n, 0 ≤ x := fun x hx => by
  obtain ⟨i, hi, rfl⟩ := List.mem_iff_getElem.1 hx
  rw [tks_len ho.len] at hi
  exact (tks_bd h ho hn hi).1
theorem tks_sum {ls : List Line} {out : List Int} (h : LOk ls) (ho : SInv ls out) {n : Int} (hn : 0 ≤ n) : sumI (tks ls out n) ≤ n := by
  have hw := nowW_ok h ho.len
  have hs := spread_sum hw hn
  have := sumI_le (xs := tks ls out n) (ys := spread n (nowW ls out)) (by rw [tks_len ho.len, spread_len, nowW_len ho.len]) (fun i hi => by
    rw [tks_len ho.len] at hi
    rw [tks_at ho.len hi]; omega)
  omega
theorem sumI_pos : ∀ {xs : List Int}, 0 < sumI xs → ∃ i, ∃ h : i < xs.length, 0 < xs[i]
  | [], h => by simp [sumI] at h
  | x :: xs, h => by
    by_cases hx : 0 < x
    · exact ⟨0, by simp, hx⟩
    · obtain ⟨i, hi, hp⟩ := sumI_pos (xs := xs) (by simp only [sumI] at h; omega)
      exact ⟨i + 1, by simpa using hi, hp⟩
theorem tks_pos {ls : List Line} {out : List Int} (h : LOk ls) (ho : SInv ls out) {n : Int} (hn : 0 < n) (h0 : sumI (nowW ls out) ≠ 0) : 0 < sumI (tks ls out n) := by
  have hw := nowW_ok h ho.len
  have hs := spread_sum hw (n := n) (by omega)
  obtain ⟨i, hi, hp⟩ := sumI_pos (xs := spread n (nowW ls out)) (by omega)
  have hi' : i < ls.length := by rw [spread_len, nowW_len ho.len] at hi; exact hi
  have hio : i < out.length := by rw [ho.len]; exact hi'
  have hm : ls[i].min < out[i] := by
    refine Decidable.byContradiction fun hc => ?_
    have e := nowW_at hi' hio
    rw [if_neg hc] at e
    have := spread_zero (n := n) h0 (i := i) (by rw [List.getElem?_eq_getElem (by rw [nowW_len ho.len]; exact hi'), e])
    rw [List.getElem?_eq_getElem hi] at this
    injection this with this
    omega
  have hmem := sumI_mem (tks_nonneg h ho (n := n) (by omega)) (List.getElem_mem (show i < (tks ls out n).length by rw [tks_len ho.len]; exact hi'))
  rw [tks_at ho.len hi'] at hmem
  omega
theorem less_inv {ls : List Line} {out : List Int} (h : LOk ls) (ho : SInv ls out) {n : Int} (hn : 0 ≤ n) : SInv ls (less ls out n) := by
  refine ⟨⟨less_len ho.len, fun x hx => ?_⟩, fun i h1 h2 => ?_⟩
  · obtain ⟨i, hi, rfl⟩ := List.mem_iff_getElem.1 hx
    rw [less_len ho.len] at hi
    have hio : i < out.length := by rw [ho.len]; exact hi
    rw [less_at ho.len hi]
    have := tks_bd h ho hn hi
    have hb := ho.bd _ (List.getElem_mem hio)
    have := h.ok _ (List.getElem_mem hi)
    omega
  · rw [less_at ho.len h1]
    have := tks_bd h ho hn h1
    omega

theorem shrink_inv {ls : List Line} {out : List Int} (h : LOk ls) (ho : SInv ls out) {n : Int} (hn : 0 ≤ n) : ∀ r,
    SInv ls (shrinkTo ls out n r).1 ∧ 0 ≤ (shrinkTo ls out n r).2 ∧ (shrinkTo ls out n r).2 ≤ n ∧ sumI (shrinkTo ls out n r).1 - (shrinkTo ls out n r).2 = sumI out - n := by
  intro r
  induction r with
  | zero => exact ⟨ho, hn, Int.le_refl _, rfl⟩
  | succ r ih =>
    obtain ⟨i1, i2, i3, i4⟩ := ih
    simp only [shrinkTo]
    split
    · rename_i hc
      have t1 := tks_sum h i1 i2
      have t2 := tks_pos h i1 hc.1 hc.2
      refine ⟨less_inv h i1 i2, ?_, ?_, ?_⟩
      · dsimp only; omega
      · dsimp only; omega
      · dsimp only
        rw [less, sumI_sub (by rw [tks_len i1.len, i1.len])]; omega
    · exact ⟨i1, i2, i3, i4⟩
theorem shrink_done {ls : List Line} {out : List Int} {n : Int} {r : Nat} (hc : ¬ (0 < (shrinkTo ls out n r).2 ∧ sumI (nowW ls (shrinkTo ls out n r).1) ≠ 0)) : ∀ j, r ≤ j → shrinkTo ls out n j = shrinkTo ls out n r := by
  intro j hj
  induction j with
  | zero => obtain rfl : r = 0 := by omega
            rfl
  | succ j ih =>
    by_cases e : r = j + 1
    · rw [e]
    · have := ih (by omega)
      simp only [shrinkTo]
      rw [this, if_neg hc]
theorem shrink_run {ls : List Line} {out : List Int} (h : LOk ls) (ho : SInv ls out) {n : Int} (hn : 0 ≤ n) {r : Nat} (hr : (shrinkTo ls out n r).2 + r ≤ n) (hc : 0 < (shrinkTo ls out n r).2 ∧ sumI (nowW ls (shrinkTo ls out n r).1) ≠ 0) :
    (shrinkTo ls out n (r + 1)).2 + (r + 1 : Nat) ≤ n ∧ (shrinkTo ls out n (r + 1)).2 < (shrinkTo ls out n r).2 := by
  obtain ⟨i1, i2, i3, i4⟩ := shrink_inv h ho hn r
  have t2 := tks_pos h i1 hc.1 hc.2
  have e : (shrinkTo ls out n (r + 1)) = (less ls (shrinkTo ls out n r).1 (shrinkTo ls out n r).2, (shrinkTo ls out n r).2 - sumI (tks ls (shrinkTo ls out n r).1 (shrinkTo ls out n r).2)) := by
    rw [shrinkTo]; simp only [if_pos hc]
  rw [e]; dsimp only; omega
theorem shrink_end {ls : List Line} {out : List Int} (h : LOk ls) (ho : SInv ls out) {n : Int} (hn : 0 ≤ n) : ∀ r : Nat, ((shrinkTo ls out n r).2 + r ≤ n ∨ ¬ (0 < (shrinkTo ls out n r).2 ∧ sumI (nowW ls (shrinkTo ls out n r).1) ≠ 0)) := by
  intro r
  induction r with
  | zero => left; simp only [shrinkTo]; omega
  | succ r ih =>
    by_cases hc : 0 < (shrinkTo ls out n r).2 ∧ sumI (nowW ls (shrinkTo ls out n r).1) ≠ 0
    · rcases ih with ih | ih
      · left; exact (shrink_run h ho hn ih hc).1
      · exact absurd hc ih
    · right; rw [shrink_done hc (r + 1) (by omega)]; exact hc
theorem shrink_fin {ls : List Line} {out : List Int} (h : LOk ls) (ho : SInv ls out) {n : Int} (hn : 0 ≤ n) : ¬ (0 < (shrinkTo ls out n n.toNat).2 ∧ sumI (nowW ls (shrinkTo ls out n n.toNat).1) ≠ 0) := by
  rcases shrink_end h ho hn n.toNat with h1 | h1
  · intro hc; omega
  · exact h1

theorem requests_ge {ls : List Line} (h : LOk ls) {ss : List Span} (hs : SOk ss ls.length) : SInv ls (requests ls ss) := by
  refine ⟨requests_rok h hs, ?_⟩
  have step : ∀ (m : Int) (out : List Int) (s : Span), SInv ls out → s ∈ ss → SInv ls (reqStep ls m out s) := by
    intro m out s ho hm
    refine ⟨step_rok h ho.toROk (hs.ok s hm), fun i h1 h2 => ?_⟩
    have hio : i < out.length := by rw [ho.len]; exact h1
    have hge := ho.ge i h1 hio
    have hss := hs.ok s hm
    have e : reqStep ls m out s = putN (spread (missing out s) (slc (weights ls) s.at.toNat s.many.toNat)) s.at.toNat s.many.toNat out ∧ 0 < missing out s ∨ reqStep ls m out s = out := by
      unfold reqStep
      split
      · rename_i hc; exact .inl ⟨rfl, hc.2⟩
      · exact .inr rfl
    rcases e with ⟨e, hp⟩ | e
    · have hw := h.slc (a := s.at.toNat) (m := s.many.toNat) (by omega) (by omega)
      have := putN_ge (ps := spread (missing out s) (slc (weights ls) s.at.toNat s.many.toNat)) (a := s.at.toNat) (k := s.many.toNat) (out := out) (i := i) (spread_nonneg hw (by omega)) hio
      simp only [e]
      omega
    · simp only [e]
      exact hge
  have rnd : ∀ (m : Int) (l : List Span), (∀ s ∈ l, s ∈ ss) → ∀ out, SInv ls out → SInv ls (l.foldl (reqStep ls m) out) := by
    intro m l
    induction l with
    | nil => intro _ out ho; exact ho
    | cons s l ih => intro hl out ho; exact ih (fun x hx => hl x (by simp [hx])) _ (step m out s ho (hl s (by simp)))
  have all : ∀ m, SInv ls (reqs ls ss m) := by
    intro m
    induction m with
    | zero => exact ⟨h.mins, fun i h1 h2 => by simp [reqs, mins]⟩
    | succ m ih => exact rnd _ _ (fun s hs => List.mem_of_mem_take hs) _ ih
  exact (all _).ge
end Go.Proofs.Ytemihgpcodcjgaa
