import Derived.Test.YtemihgpcodcjgaaG9
set_option linter.unusedSimpArgs false
set_option linter.unusedVariables false
namespace Go.Proofs.Ytemihgpcodcjgaa
open Go.Fw

def slc {α : Type} (xs : List α) (a m : Nat) : List α := (xs.drop a).take m
theorem slc_len {α : Type} {xs : List α} {a m : Nat} (h : a + m ≤ xs.length) : (slc xs a m).length = m := by simp [slc]; omega
theorem slc_at {α : Type} {xs : List α} {a m i : Nat} (h : i < (slc xs a m).length) : (slc xs a m)[i] = xs[a + i]'(by simp [slc] at h; omega) := by
  simp [slc]
theorem slc_mem {α : Type} {xs : List α} {a m : Nat} {x : α} (h : x ∈ slc xs a m) : x ∈ xs := List.mem_of_mem_drop (List.mem_of_mem_take h)
theorem slc_map {α β : Type} {f : α → β} {xs : List α} {a m : Nat} : slc (xs.map f) a m = (slc xs a m).map f := by simp [slc, List.map_take, List.map_drop]

/-- The first k parts are put to those from a on. -/
def putN (ps : List Int) (a k : Nat) (out : List Int) : List Int := out.mapIdx fun i x => if a ≤ i ∧ i < a + k then x + (ps[i - a]?).getD 0 else x
theorem putN_len {ps out : List Int} {a k : Nat} : (putN ps a k out).length = out.length := by simp [putN]
theorem putN_zero {ps out : List Int} {a : Nat} : putN ps a 0 out = out := by
  refine List.ext_getElem (by simp [putN]) fun i h1 h2 => ?_
  simp only [putN, List.getElem_mapIdx]
  rw [if_neg (by omega)]
theorem putN_at {ps out : List Int} {a k : Nat} (h : a + k < out.length) : (putN ps a k out)[a + k]? = some out[a + k] := by
  rw [List.getElem?_eq_getElem (by rw [putN_len]; exact h)]
  simp only [putN, List.getElem_mapIdx]
  rw [if_neg (by omega)]
theorem putN_set {ps out : List Int} {a k : Nat} (h : a + k < out.length) (hp : k < ps.length) : (putN ps a k out).set (a + k) (out[a + k] + ps[k]) = putN ps a (k + 1) out := by
  refine List.ext_getElem (by simp [putN]) fun i h1 h2 => ?_
  rw [List.getElem_set]
  simp only [putN, List.getElem_mapIdx]
  split
  · rename_i e; subst e
    rw [if_pos (by omega), show a + k - a = k by omega, List.getElem?_eq_getElem hp]; rfl
  · by_cases hc : a ≤ i ∧ i < a + k
    · rw [if_pos hc, if_pos (by omega)]
    · rw [if_neg hc, if_neg (by omega)]

theorem sumI_zip : ∀ {xs ys : List Int}, xs.length = ys.length → sumI (List.zipWith (· + ·) xs ys) = sumI xs + sumI ys
  | [], [], _ => rfl
  | x :: xs, y :: ys, h => by
    have := sumI_zip (xs := xs) (ys := ys) (by simpa using h)
    simp only [List.zipWith_cons_cons, sumI, this]; omega
theorem putN_slc {ps out : List Int} {a m : Nat} (h : a + m ≤ out.length) (hp : ps.length = m) : slc (putN ps a m out) a m = List.zipWith (· + ·) (slc out a m) ps := by
  refine List.ext_getElem (by rw [slc_len (by rw [putN_len]; exact h), List.length_zipWith, slc_len h]; omega) fun i h1 h2 => ?_
  have hi : i < m := by rw [slc_len (by rw [putN_len]; exact h)] at h1; exact h1
  rw [slc_at h1, List.getElem_zipWith, slc_at]
  simp only [putN, List.getElem_mapIdx]
  rw [if_pos (by omega), show a + i - a = i by omega, List.getElem?_eq_getElem (by omega)]; rfl
theorem putN_ge {ps out : List Int} {a k i : Nat} (hp : ∀ x ∈ ps, 0 ≤ x) (h : i < out.length) : out[i] ≤ (putN ps a k out)[i]'(by rw [putN_len]; exact h) := by
  simp only [putN, List.getElem_mapIdx]
  split
  · cases hg : ps[i - a]? with
    | none => simp
    | some y => have := hp y (List.mem_of_getElem? hg); simp only [Option.getD_some]; omega
  · omega

def weights (ls : List Line) : List Int := ls.map Line.weight
def mins (ls : List Line) : List Int := ls.map Line.min
def missing (out : List Int) (s : Span) : Int := s.need - sumI (slc out s.at.toNat s.many.toNat)
def reqStep (ls : List Line) (many : Int) (out : List Int) (s : Span) : List Int :=
  if s.many = many ∧ 0 < missing out s then putN (spread (missing out s) (slc (weights ls) s.at.toNat s.many.toNat)) s.at.toNat s.many.toNat out else out
def reqRound (ls : List Line) (ss : List Span) (many : Int) (out : List Int) (k : Nat) : List Int := (ss.take k).foldl (reqStep ls many) out
def reqs (ls : List Line) (ss : List Span) : Nat → List Int
  | 0 => mins ls
  | m + 1 => reqRound ls ss (m + 1) (reqs ls ss m) ss.length
def requests (ls : List Line) (ss : List Span) : List Int := reqs ls ss ls.length

theorem reqRound_zero {ls ss m out} : reqRound ls ss m out 0 = out := rfl
theorem reqRound_succ {ls : List Line} {ss : List Span} {m : Int} {out : List Int} {k : Nat} (h : k < ss.length) : reqRound ls ss m out (k + 1) = reqStep ls m (reqRound ls ss m out k) ss[k] := by
  unfold reqRound; rw [List.take_succ_eq_append_getElem h, List.foldl_append]; rfl

/-- Sizes of some lines. -/
structure ROk (n : Nat) (out : List Int) : Prop where
  len : out.length = n
  bd : ∀ x ∈ out, 0 ≤ x ∧ x ≤ 50
theorem ROk.nums {n : Nat} {out : List Int} (h : ROk n out) (hn : n ≤ 5) : NumsOk out := ⟨by rw [h.len]; omega, fun x hx => by have := h.bd x hx; omega⟩
theorem ROk.slc {n : Nat} {out : List Int} (h : ROk n out) (hn : n ≤ 5) {a m : Nat} : NumsOk (slc out a m) := ⟨by
  have := h.len; simp [Go.Proofs.Ytemihgpcodcjgaa.slc]; omega, fun x hx => by have := h.bd x (slc_mem hx); omega⟩
theorem validLine_iff {l : Line} (h : validLine l = true) : 0 ≤ l.weight ∧ l.weight ≤ 5 ∧ 0 ≤ l.min ∧ l.min ≤ 30 := of_decide_eq_true h
theorem validSpan_iff {s : Span} {n : Int} (h : validSpan s n = true) : 0 ≤ s.at ∧ s.at ≤ n - 1 ∧ 1 ≤ s.many ∧ s.many ≤ n - s.at ∧ 0 ≤ s.need ∧ s.need ≤ 50 := of_decide_eq_true h
structure LOk (ls : List Line) : Prop where
  lo : 1 ≤ ls.length
  hi : ls.length ≤ 5
  ok : ∀ l ∈ ls, 0 ≤ l.weight ∧ l.weight ≤ 5 ∧ 0 ≤ l.min ∧ l.min ≤ 30
theorem linesOk_iff {ls : List Line} (h : linesOk ls = true) : LOk ls := by
  simp only [linesOk, Bool.and_eq_true, decide_eq_true_eq, List.all_eq_true] at h
  exact ⟨h.1.1, h.1.2, fun l hl => validLine_iff (h.2 l hl)⟩
structure SOk (ss : List Span) (n : Int) : Prop where
  hi : ss.length ≤ 8
  ok : ∀ s ∈ ss, 0 ≤ s.at ∧ s.at ≤ n - 1 ∧ 1 ≤ s.many ∧ s.many ≤ n - s.at ∧ 0 ≤ s.need ∧ s.need ≤ 50
theorem spansOk_iff {ss : List Span} {n : Int} (h : spansOk ss n = true) : SOk ss n := by
  simp only [spansOk, Bool.and_eq_true, decide_eq_true_eq, List.all_eq_true] at h
  exact ⟨h.1, fun s hs => validSpan_iff (h.2 s hs)⟩
theorem LOk.w {ls : List Line} (h : LOk ls) : ∀ x ∈ weights ls, 0 ≤ x ∧ x ≤ 5 := fun x hx => by
  obtain ⟨l, hl, rfl⟩ := List.mem_map.1 hx
  have := h.ok l hl; omega
theorem LOk.slc {ls : List Line} (h : LOk ls) {a m : Nat} (h1 : 1 ≤ m) (h2 : a + m ≤ ls.length) : WOk (Go.Proofs.Ytemihgpcodcjgaa.slc (weights ls) a m) := by
  have hl : (Go.Proofs.Ytemihgpcodcjgaa.slc (weights ls) a m).length = m := slc_len (by simp [weights]; omega)
  have := h.hi
  exact ⟨by omega, by omega, fun x hx => h.w x (slc_mem hx)⟩
theorem LOk.all {ls : List Line} (h : LOk ls) : WOk (weights ls) := ⟨by simp [weights]; exact h.lo, by simp [weights]; exact h.hi, h.w⟩
theorem LOk.mins {ls : List Line} (h : LOk ls) : ROk ls.length (mins ls) := ⟨by simp [Go.Proofs.Ytemihgpcodcjgaa.mins], fun x hx => by
  obtain ⟨l, hl, rfl⟩ := List.mem_map.1 hx
  have := h.ok l hl; omega⟩

theorem step_rok {ls : List Line} (h : LOk ls) {m : Int} {out : List Int} (ho : ROk ls.length out) {s : Span} (hs : 0 ≤ s.at ∧ s.at ≤ (ls.length : Int) - 1 ∧ 1 ≤ s.many ∧ s.many ≤ ls.length - s.at ∧ 0 ≤ s.need ∧ s.need ≤ 50) :
    ROk ls.length (reqStep ls m out s) := by
  unfold reqStep
  split
  · rename_i hc
    have hw := h.slc (a := s.at.toNat) (m := s.many.toNat) (by omega) (by omega)
    have hsp := spread_bd hw (n := missing out s) (by omega)
    have hsl := ho.slc h.hi (a := s.at.toNat) (m := s.many.toNat)
    have hle : ∀ x ∈ slc out s.at.toNat s.many.toNat, 0 ≤ x := fun x hx => (ho.bd x (slc_mem hx)).1
    have hpl : (spread (missing out s) (slc (weights ls) s.at.toNat s.many.toNat)).length = s.many.toNat := by rw [spread_len]; exact slc_len (by simp [weights]; omega)
    have hmi : missing out s = s.need - sumI (slc out s.at.toNat s.many.toNat) := rfl
    generalize spread (missing out s) (slc (weights ls) s.at.toNat s.many.toNat) = ps at *
    refine ⟨by rw [putN_len]; exact ho.len, fun x hx => ?_⟩
    obtain ⟨i, hi, rfl⟩ := List.mem_iff_getElem.1 hx
    rw [putN_len] at hi
    have hb := ho.bd _ (List.getElem_mem hi)
    simp only [putN, List.getElem_mapIdx]
    split
    · have hj : i - s.at.toNat < ps.length := by omega
      rw [List.getElem?_eq_getElem hj]
      have hp := hsp _ (List.getElem_mem hj)
      have hjl : i - s.at.toNat < (slc out s.at.toNat s.many.toNat).length := by rw [slc_len (by rw [ho.len]; omega)]; omega
      have := sumI_mem hle (List.getElem_mem hjl)
      rw [slc_at hjl] at this
      simp only [show s.at.toNat + (i - s.at.toNat) = i by omega] at this
      simp only [Option.getD_some]
      omega
    · exact hb
  · exact ho
theorem round_rok {ls : List Line} (h : LOk ls) {ss : List Span} (hs : SOk ss ls.length) {m : Int} {out : List Int} (ho : ROk ls.length out) : ∀ k, k ≤ ss.length → ROk ls.length (reqRound ls ss m out k) := by
  intro k
  induction k with
  | zero => intro _; exact ho
  | succ k ih =>
    intro hk
    rw [reqRound_succ (by omega)]
    exact step_rok h (ih (by omega)) (hs.ok _ (List.getElem_mem _))
theorem reqs_rok {ls : List Line} (h : LOk ls) {ss : List Span} (hs : SOk ss ls.length) : ∀ k, ROk ls.length (reqs ls ss k) := by
  intro k
  induction k with
  | zero => exact h.mins
  | succ k ih => exact round_rok h hs ih _ (Nat.le_refl _)
theorem requests_rok {ls : List Line} (h : LOk ls) {ss : List Span} (hs : SOk ss ls.length) : ROk ls.length (requests ls ss) := reqs_rok h hs _
end Go.Proofs.Ytemihgpcodcjgaa
