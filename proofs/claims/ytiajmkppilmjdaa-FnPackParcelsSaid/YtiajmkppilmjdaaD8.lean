import Derived.Test.YtiajmkppilmjdaaD7
set_option linter.unusedSimpArgs false
set_option linter.unusedVariables false
namespace Go.Proofs.Ytiajmkppilmjdaa
open Go.Fw

theorem cut_down {p : Pack} {r : Rect} {n : Int} (h : down p = true) : (cut r p.side n).1.w = r.w ∧ (cut r p.side n).1.h = min n r.h ∧ (cut r p.side n).2.w = r.w ∧ (cut r p.side n).2.h = r.h - min n r.h := by
  have hdef : down p = decide (p.side = 0 ∨ p.side = 1) := rfl
  rw [hdef, decide_eq_true_eq] at h
  unfold cut
  rcases h with h | h
  · rw [if_pos h]; exact ⟨rfl, rfl, rfl, rfl⟩
  · rw [if_neg (by omega), if_pos h]; exact ⟨rfl, rfl, rfl, rfl⟩
theorem cut_across {p : Pack} {r : Rect} {n : Int} (h : down p = false) : (cut r p.side n).1.h = r.h ∧ (cut r p.side n).1.w = min n r.w ∧ (cut r p.side n).2.h = r.h ∧ (cut r p.side n).2.w = r.w - min n r.w := by
  have hdef : down p = decide (p.side = 0 ∨ p.side = 1) := rfl
  rw [hdef, decide_eq_false_iff_not, not_or] at h
  unfold cut
  rw [if_neg h.1, if_neg h.2]
  split <;> exact ⟨rfl, rfl, rfl, rfl⟩

/-- The piece that the item k gets. -/
def piece (xs : List Pack) (r : Rect) (k : Nat) (p : Pack) : Rect := (cut (parTo xs r k).2 p.side (parNeed xs k p (parTo xs r k).2)).1

theorem parTo_get {xs : List Pack} {r : Rect} (hl : xs.length ≤ 7) (hv : xs.all validPack = true) (hr : RectIn r) {k : Nat} (hk : k < xs.length) : ∀ m, k < m → m ≤ xs.length → (parTo xs r m).1[k]? = some (piece xs r k xs[k]) := by
  intro m
  induction m with
  | zero => intro h; omega
  | succ m ih =>
    intro h1 h2
    rw [parTo_succ (by omega)]
    have hlm := (parTo_inv hl hv hr m (by omega)).1
    by_cases h : k < m
    · rw [List.getElem?_append_left (by omega)]; exact ih h (by omega)
    · have : k = m := by omega
      subst this
      rw [List.getElem?_append_right (by omega), hlm]
      simp [piece]

theorem parcels_get {xs : List Pack} {r : Rect} (hl : xs.length ≤ 7) (hv : xs.all validPack = true) (hr : RectIn r) {k : Nat} (hk : k < xs.length) (h : k < (parcels xs r).1.length) : (parcels xs r).1[k] = piece xs r k xs[k] := by
  have := parTo_get hl hv hr hk xs.length hk (Nat.le_refl _)
  rw [show (parTo xs r xs.length).1 = (parcels xs r).1 from rfl, List.getElem?_eq_getElem h] at this
  exact Option.some.inj this

theorem parRest_succ {xs : List Pack} {r : Rect} {k : Nat} (h : k < xs.length) : (parTo xs r (k + 1)).2 = (cut (parTo xs r k).2 xs[k].side (parNeed xs k xs[k] (parTo xs r k).2)).2 := by rw [parTo_succ h]

/-- In enough room each item has what it needs. -/
theorem enough_step {xs : List Pack} {r : Rect} (hl : xs.length ≤ 7) (hv : xs.all validPack = true) (hr : RectIn r) {k : Nat} (hk : k < xs.length) (h1 : (reqs (xs.drop k)).1 ≤ (parTo xs r k).2.w) (h2 : (reqs (xs.drop k)).2 ≤ (parTo xs r k).2.h) :
    needW xs[k] ≤ (piece xs r k xs[k]).w ∧ needH xs[k] ≤ (piece xs r k xs[k]).h ∧ (reqs (xs.drop (k + 1))).1 ≤ (parTo xs r (k + 1)).2.w ∧ (reqs (xs.drop (k + 1))).2 ≤ (parTo xs r (k + 1)).2.h := by
  have hv1 := all_at hv hk
  have hn := needWH hv1
  have hq := reqs_drop hk
  have hb := reqs_bd (all_drop (k := k + 1) hv)
  have hin := (parTo_inv hl hv hr k (by omega)).2.1
  obtain ⟨i1, i2, i3, i4, i5, i6⟩ := hin
  rw [parRest_succ hk]
  unfold piece
  have hpn : parNeed xs k xs[k] (parTo xs r k).2 = need xs[k] (down xs[k]) + if xs[k].expand then share (xs.drop k) (roomOf xs[k] (parTo xs r k).2) (down xs[k]) else 0 := rfl
  have hs := share_req (xs := xs.drop k) (room := roomOf xs[k] (parTo xs r k).2) (d := down xs[k]) (all_drop hv)
  have hs0 : xs[k].expand = true → 0 ≤ share (xs.drop k) (roomOf xs[k] (parTo xs r k).2) (down xs[k]) := fun he =>
    (share_bd (by unfold roomOf; split <;> omega) (by rw [List.length_drop]; omega) (all_drop hv) ⟨_, head_drop hk, he, rfl⟩).1
  unfold reqD roomOf at hs
  unfold roomOf at hpn hs0
  cases hd : down xs[k]
  · have hc := cut_across (p := xs[k]) (r := (parTo xs r k).2) (n := parNeed xs k xs[k] (parTo xs r k).2) hd
    rw [hd] at hq hpn hs hs0
    simp only [Bool.false_eq_true, if_false, need] at hq hpn hs hs0
    rw [hq] at h1 h2 hs
    dsimp only at h1 h2 hs
    by_cases he : xs[k].expand = true
    · rw [if_pos he] at hpn; have := hs0 he; omega
    · rw [if_neg he] at hpn; omega
  · have hc := cut_down (p := xs[k]) (r := (parTo xs r k).2) (n := parNeed xs k xs[k] (parTo xs r k).2) hd
    rw [hd] at hq hpn hs hs0
    simp only [if_true, need] at hq hpn hs hs0
    rw [hq] at h1 h2 hs
    dsimp only at h1 h2 hs
    by_cases he : xs[k].expand = true
    · rw [if_pos he] at hpn; have := hs0 he; omega
    · rw [if_neg he] at hpn; omega

theorem enough_all {xs : List Pack} {r : Rect} (hl : xs.length ≤ 7) (hv : xs.all validPack = true) (hr : RectIn r) (h1 : (reqs xs).1 ≤ r.w) (h2 : (reqs xs).2 ≤ r.h) : ∀ k, k ≤ xs.length → (reqs (xs.drop k)).1 ≤ (parTo xs r k).2.w ∧ (reqs (xs.drop k)).2 ≤ (parTo xs r k).2.h := by
  intro k
  induction k with
  | zero => intro _; exact ⟨h1, h2⟩
  | succ k ih =>
    intro hk
    obtain ⟨g1, g2⟩ := ih (by omega)
    exact (enough_step hl hv hr (by omega) g1 g2).2.2

theorem settled_w (p : Pack) (q : Rect) : (settled p q).w = min (if p.fillX then max 0 (q.w - 2 * p.padX) else p.w) (max 0 (q.w - 2 * p.padX)) ∧ (settled p q).h = min (if p.fillY then max 0 (q.h - 2 * p.padY) else p.h) (max 0 (q.h - 2 * p.padY)) := by
  unfold settled anchored inset
  exact ⟨rfl, rfl⟩

theorem settled_good {p : Pack} {q : Rect} (hp : validPack p = true) (h1 : needW p ≤ q.w) (h2 : needH p ≤ q.h) : good p (settled p q) = true := by
  have hv := validPack_iff.1 hp
  obtain ⟨e1, e2⟩ := settled_w p q
  unfold needW at h1
  unfold needH at h2
  unfold good
  rw [decide_eq_true_eq, e1, e2]
  split <;> split <;> omega

theorem good_needs {p : Pack} {q : Rect} (hp : validPack p = true) (hw : p.w ≠ 0) (hh : p.h ≠ 0) (h : good p (settled p q) = true) : needW p ≤ q.w ∧ needH p ≤ q.h := by
  have hv := validPack_iff.1 hp
  obtain ⟨e1, e2⟩ := settled_w p q
  unfold good at h
  rw [decide_eq_true_eq, e1, e2] at h
  unfold needW needH
  omega

theorem fits_enough {xs : List Pack} {r : Rect} (hl : xs.length ≤ 7) (hv : xs.all validPack = true) (hr : RectIn r) (h1 : (reqs xs).1 ≤ r.w) (h2 : (reqs xs).2 ≤ r.h) : fits xs (packed xs r) = true := by
  have g := (parcels_inv hl hv hr).1
  have hpl := packed_len g
  refine fits_true hpl fun k k1 k2 => ?_
  rw [packed_at k1 (by omega) k2, parcels_get hl hv hr k1 (by omega)]
  obtain ⟨e1, e2⟩ := enough_all hl hv hr h1 h2 k (by omega)
  have := enough_step hl hv hr k1 e1 e2
  exact settled_good (all_at hv k1) this.1 this.2.1

theorem enough_fits {xs : List Pack} {r : Rect} (hl : xs.length ≤ 7) (hv : xs.all validPack = true) (hr : RectIn r) (hpos : ∀ k (h : k < xs.length), xs[k].w ≠ 0 ∧ xs[k].h ≠ 0) (hf : fits xs (packed xs r) = true) : (reqs xs).1 ≤ r.w ∧ (reqs xs).2 ≤ r.h := by
  have g := (parcels_inv hl hv hr).1
  have hpl := packed_len g
  have hneed : ∀ k (h : k < xs.length), needW xs[k] ≤ (piece xs r k xs[k]).w ∧ needH xs[k] ≤ (piece xs r k xs[k]).h := by
    intro k hk
    have hgd : good xs[k] (packed xs r)[k] = true := by
      cases hg : good xs[k] ((packed xs r)[k]'(by omega)) with
      | true => rfl
      | false => rw [fits_false hk (by omega) hg] at hf; cases hf
    rw [packed_at hk (by omega) (by omega), parcels_get hl hv hr hk (by omega)] at hgd
    exact good_needs (all_at hv hk) (hpos k hk).1 (hpos k hk).2 hgd
  have key : ∀ n k, k + n = xs.length → (reqs (xs.drop k)).1 ≤ (parTo xs r k).2.w ∧ (reqs (xs.drop k)).2 ≤ (parTo xs r k).2.h := by
    intro n
    induction n with
    | zero =>
      intro k hk
      have hin := (parTo_inv hl hv hr k (by omega)).2.1
      obtain ⟨i1, i2, i3, i4, i5, i6⟩ := hin
      rw [List.drop_eq_nil_of_le (by omega)]
      exact ⟨i3, i4⟩
    | succ n ih =>
      intro k hk
      have hlt : k < xs.length := by omega
      obtain ⟨g1, g2⟩ := ih (k + 1) (by omega)
      obtain ⟨n1, n2⟩ := hneed k hlt
      have hb := reqs_bd (all_drop (k := k + 1) hv)
      have hin := (parTo_inv hl hv hr k (by omega)).2.1
      obtain ⟨i1, i2, i3, i4, i5, i6⟩ := hin
      rw [parRest_succ hlt] at g1 g2
      unfold piece at n1 n2
      rw [reqs_drop hlt]
      cases hd : down xs[k]
      · have hc := cut_across (p := xs[k]) (r := (parTo xs r k).2) (n := parNeed xs k xs[k] (parTo xs r k).2) hd
        simp only [Bool.false_eq_true, if_false]
        omega
      · have hc := cut_down (p := xs[k]) (r := (parTo xs r k).2) (n := parNeed xs k xs[k] (parTo xs r k).2) hd
        simp only [if_true]
        omega
  exact key xs.length 0 (by omega)
end Go.Proofs.Ytiajmkppilmjdaa
