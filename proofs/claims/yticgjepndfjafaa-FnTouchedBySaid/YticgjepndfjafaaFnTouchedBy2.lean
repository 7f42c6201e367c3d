/- Contracts of the functions and the plain law behind them, as far as FnTouchedBy needs them; joined out of the texts T9 G11 G13 G14 G21 G23 G25 T10 T11 T12 T8 T13 T30 T14 R17 R3 K8 T21 T20 L0 R18. -/
import Derived.Deep.Slices
import Derived.Deep.Fields
import Derived.ChangeSame
import Derived.Below
import Derived.ProofKit
import Derived.Test.YticgjepndfjafaaFnTouchedBy1
set_option linter.unusedSimpArgs false
set_option linter.unusedVariables false
namespace Go.Proofs.Yticgjepndfjafaa
open Go.Fw

/-- A valid tree, taken apart. -/
structure TreeK (t : List Node) : Prop where
  lo : 1 ≤ t.length
  hi : t.length ≤ 10
  ok : ∀ i (h : i < t.length), nodeOk t[i] = true
  root : ∀ h : 0 < t.length, t[0].parent = -1
  up : ∀ i (h : i < t.length), 0 < i → 0 ≤ t[i].parent ∧ t[i].parent ≤ (i : Int) - 1
  lie : ∀ i (h : i < t.length) (j : Nat) (hj : j < t.length), 0 < i → t[i].parent = (j : Int) → t[j].kind = 1 → lies t[i].cell t[j].cols.length t[j].rows.length = true
theorem treeK {t : List Node} (h : treeOk t = true) : TreeK t := by
  obtain ⟨⟨h1, h2⟩, h3⟩ := treeOk_iff.1 h
  have hup : ∀ i (h : i < t.length), 0 < i → 0 ≤ t[i].parent ∧ t[i].parent ≤ (i : Int) - 1 := by
    intro i hi h0
    by_cases hr : 0 ≤ t[i].parent ∧ t[i].parent ≤ (i : Int) - 1
    · exact hr
    · have := (h3 i hi).2
      rw [upOk_out h0 hr] at this
      cases this
  refine ⟨h1, h2, fun i hi => (h3 i hi).1, fun h0 => ?_, hup, ?_⟩
  · have := (h3 0 h0).2
    rw [upOk_0] at this
    exact of_decide_eq_true this
  · intro i hi j hj h0 hp hk
    have := (h3 i hi).2
    have hr := hup i hi h0
    rw [upOk_in h0 hi hr] at this
    have e : t[i].parent.toNat = j := by omega
    simp only [e] at this
    rw [if_pos hk] at this
    exact this

instance : Inhabited Node := ⟨⟨0, 0, 0, false, 0, [], [], ⟨0, 0, 0, false, false, false, 0, 0, 0⟩, ⟨0, 0, 0, 0, 0, 0, 0, 0, 0⟩, ⟨0, 0, 0, 0, 0, 0, 0, 0, 0⟩⟩⟩
def nodeAt (t : List Node) (k : Nat) : Node := (t[k]?).getD default
theorem nodeAt_eq {t : List Node} {k : Nat} (h : k < t.length) : nodeAt t k = t[k] := by simp [nodeAt, h]

def isKid (t : List Node) (i k : Nat) : Bool := decide ((nodeAt t k).parent = (i : Int))
def kidsTo (t : List Node) (i k : Nat) : List Nat := (List.range k).filter (isKid t i)
def kids (t : List Node) (i : Nat) : List Nat := kidsTo t i t.length
theorem kidsTo_succ {t : List Node} {i k : Nat} : kidsTo t i (k + 1) = kidsTo t i k ++ if isKid t i k = true then [k] else [] := by
  simp only [kidsTo, List.range_succ, List.filter_append, List.filter_cons, List.filter_nil]
theorem kids_len (t : List Node) (i : Nat) : ∀ k, (kidsTo t i k).length ≤ k := fun k => by
  have := List.length_filter_le (isKid t i) (List.range k)
  simpa [kidsTo] using this
theorem mem_kids {t : List Node} {i k : Nat} : k ∈ kids t i ↔ k < t.length ∧ (nodeAt t k).parent = (i : Int) := by
  simp [kids, kidsTo, isKid]
theorem TreeK.kid {t : List Node} (h : TreeK t) {i k : Nat} (hk : k ∈ kids t i) : ∃ h1 : k < t.length, i < k ∧ t[k].parent = (i : Int) := by
  obtain ⟨h1, h2⟩ := mem_kids.1 hk
  rw [nodeAt_eq h1] at h2
  refine ⟨h1, ?_, h2⟩
  by_cases h0 : k = 0
  · subst h0
    have := h.root h1
    omega
  · have := h.up k h1 (by omega)
    omega

def packOf (n : Node) (s : Int × Int) : Pack := ⟨s.1, s.2, n.pack.side, n.pack.fillX, n.pack.fillY, n.pack.expand, n.pack.anchor, n.pack.padX, n.pack.padY⟩
def cellOf (n : Node) (s : Int × Int) : Cell := ⟨n.cell.col, n.cell.row, n.cell.manyCols, n.cell.manyRows, s.1, s.2, n.cell.stick, n.cell.padX, n.cell.padY⟩
/-- What a node asks for, if it is told what its kids ask for. -/
def wishOf (t : List Node) (i : Nat) (f : Nat → Int × Int) : Int × Int :=
  if (nodeAt t i).keep = true ∨ kids t i = [] ∨ (nodeAt t i).kind = 2 then ((nodeAt t i).w, (nodeAt t i).h)
  else if (nodeAt t i).kind = 0 then preqs ((kids t i).map fun k => packOf (nodeAt t k) (f k))
  else gridReq ⟨(nodeAt t i).cols, (nodeAt t i).rows, (kids t i).map fun k => cellOf (nodeAt t k) (f k)⟩
def wishF (t : List Node) : Nat → Nat → Int × Int
  | 0, _ => (0, 0)
  | f + 1, i => wishOf t i (wishF t f)
def wish (t : List Node) (i : Nat) : Int × Int := wishF t t.length i
theorem wishOf_congr {t : List Node} {i : Nat} {f g : Nat → Int × Int} (h : ∀ k ∈ kids t i, f k = g k) : wishOf t i f = wishOf t i g := by
  unfold wishOf
  rw [List.map_congr_left (f := fun k => packOf (nodeAt t k) (f k)) (g := fun k => packOf (nodeAt t k) (g k)) fun k hk => by rw [h k hk],
    List.map_congr_left (f := fun k => cellOf (nodeAt t k) (f k)) (g := fun k => cellOf (nodeAt t k) (g k)) fun k hk => by rw [h k hk]]
theorem wishF_fuel {t : List Node} (h : TreeK t) : ∀ (f g i : Nat), i < t.length → t.length - i ≤ f → t.length - i ≤ g → wishF t f i = wishF t g i := by
  intro f
  induction f with
  | zero => intro g i hi h1; omega
  | succ f ih =>
    intro g i hi h1 h2
    cases g with
    | zero => omega
    | succ g =>
      simp only [wishF]
      refine wishOf_congr fun k hk => ?_
      obtain ⟨a, b, _⟩ := h.kid hk
      exact ih g k a (by omega) (by omega)
theorem wish_eq {t : List Node} (h : TreeK t) {i : Nat} (hi : i < t.length) : wish t i = wishOf t i (wish t) := by
  unfold wish
  obtain ⟨n, hn⟩ : ∃ n, t.length = n + 1 := ⟨t.length - 1, by omega⟩
  rw [hn]
  simp only [wishF]
  refine wishOf_congr fun k hk => ?_
  obtain ⟨a, b, _⟩ := h.kid hk
  exact wishF_fuel h n (n + 1) k a (by omega) (by omega)
def itemsOf (t : List Node) (ks : List Nat) : List Pack := ks.map fun k => packOf (nodeAt t k) (wish t k)
def cellsOf (t : List Node) (ks : List Nat) : List Cell := ks.map fun k => cellOf (nodeAt t k) (wish t k)
def gridOf (t : List Node) (i : Nat) (ks : List Nat) : Grid := ⟨(nodeAt t i).cols, (nodeAt t i).rows, cellsOf t ks⟩

/-- How many nodes a node has below it, and itself. -/
def cntF (t : List Node) : Nat → Nat → Int
  | 0, _ => 0
  | f + 1, i => 1 + sumI ((kids t i).map (cntF t f))
def cnt (t : List Node) (i : Nat) : Int := cntF t t.length i
theorem cntF_fuel {t : List Node} (h : TreeK t) : ∀ (f g i : Nat), i < t.length → t.length - i ≤ f → t.length - i ≤ g → cntF t f i = cntF t g i := by
  intro f
  induction f with
  | zero => intro g i hi h1; omega
  | succ f ih =>
    intro g i hi h1 h2
    cases g with
    | zero => omega
    | succ g =>
      simp only [cntF]
      rw [List.map_congr_left fun k hk => ?_]
      obtain ⟨a, b, _⟩ := h.kid hk
      exact ih g k a (by omega) (by omega)
theorem cnt_eq {t : List Node} (h : TreeK t) {i : Nat} (hi : i < t.length) : cnt t i = 1 + sumI ((kids t i).map (cnt t)) := by
  unfold cnt
  obtain ⟨n, hn⟩ : ∃ n, t.length = n + 1 := ⟨t.length - 1, by omega⟩
  rw [hn]
  simp only [cntF]
  rw [List.map_congr_left fun k hk => ?_]
  obtain ⟨a, b, _⟩ := h.kid hk
  exact cntF_fuel h n (n + 1) k a (by omega) (by omega)
theorem cnt_pos {t : List Node} (h : TreeK t) : ∀ m i : Nat, t.length - i ≤ m → i < t.length → 1 ≤ cnt t i := by
  intro m
  induction m with
  | zero => intro i h1 h2; omega
  | succ m ih =>
    intro i h1 h2
    rw [cnt_eq h h2]
    have : 0 ≤ sumI ((kids t i).map (cnt t)) := sumI_nonneg fun x hx => by
      obtain ⟨k, hk, rfl⟩ := List.mem_map.1 hx
      obtain ⟨a, b, _⟩ := h.kid hk
      have := ih k (by omega) a
      omega
    omega
theorem sumI_filter {α : Type} {p : α → Bool} {f : α → Int} : ∀ xs : List α, sumI ((xs.filter p).map f) = sumI (xs.map fun x => if p x = true then f x else 0)
  | [] => rfl
  | x :: xs => by
    have := sumI_filter (p := p) (f := f) xs
    rw [List.filter_cons]
    split
    · rename_i hp
      simp only [List.map_cons, sumI, this, hp, if_true]
    · rename_i hp
      simp only [List.map_cons, sumI, this, hp]
      simp
theorem sumI_one {f : Nat → Int} {m : Nat} : ∀ n : Nat, sumI ((List.range n).map fun j => if j = m then f j else 0) = if m < n then f m else 0
  | 0 => by simp [sumI]
  | n + 1 => by
    have := sumI_one (f := f) (m := m) n
    rw [List.range_succ, List.map_append, sumI_app, this]
    simp only [List.map_cons, List.map_nil, sumI]
    by_cases h1 : n = m
    · subst h1
      rw [if_neg (by omega), if_pos rfl, if_pos (by omega)]; omega
    · rw [if_neg h1]
      by_cases h2 : m < n
      · rw [if_pos h2, if_pos (by omega)]; omega
      · rw [if_neg h2, if_neg (by omega)]; omega
theorem cnt_all {t : List Node} (h : TreeK t) : ∀ d m : Nat, m + d = t.length → sumI ((List.range t.length).map fun j => if m ≤ j ∧ (nodeAt t j).parent < (m : Int) then cnt t j else 0) = (t.length : Int) - m := by
  intro d
  induction d with
  | zero =>
    intro m hm
    have : sumI ((List.range t.length).map fun j => if m ≤ j ∧ (nodeAt t j).parent < (m : Int) then cnt t j else 0) = sumI ((List.range t.length).map fun _ => (0 : Int)) := by
      rw [List.map_congr_left fun j hj => ?_]
      rw [if_neg]
      have := List.mem_range.1 hj
      omega
    rw [this, sumI_zeros]; omega
  | succ d ih =>
    intro m hm
    have hml : m < t.length := by omega
    have e1 := ih (m + 1) (by omega)
    have e2 := sumI_one (f := cnt t) (m := m) t.length
    rw [if_pos hml] at e2
    have e3 := cnt_eq h hml
    rw [kids, kidsTo, sumI_filter] at e3
    have e4 := sumI_maps (xs := List.range t.length) (f := fun j => if m + 1 ≤ j ∧ (nodeAt t j).parent < ((m + 1 : Nat) : Int) then cnt t j else 0) (g := fun j => if j = m then cnt t j else 0)
      (h := fun j => (if m ≤ j ∧ (nodeAt t j).parent < (m : Int) then cnt t j else 0) + (if isKid t m j = true then cnt t j else 0)) (by
      intro j hj
      have hj := List.mem_range.1 hj
      simp only [isKid, decide_eq_true_eq, nodeAt_eq hj]
      have hp : t[j].parent < (j : Int) := by
        by_cases h0 : j = 0
        · subst h0; have := h.root hj; omega
        · have := h.up j hj (by omega); omega
      by_cases c1 : j = m
      · subst c1
        rw [if_neg (by omega), if_pos rfl, if_pos (by omega), if_neg (by omega)]; omega
      · rw [if_neg c1]
        by_cases c2 : m + 1 ≤ j ∧ t[j].parent < ((m + 1 : Nat) : Int)
        · rw [if_pos c2]
          by_cases c3 : t[j].parent = (m : Int)
          · rw [if_neg (by omega), if_pos c3]; omega
          · rw [if_pos (by omega), if_neg c3]
        · rw [if_neg c2, if_neg (by omega), if_neg (by omega)])
    have e5 := sumI_maps (xs := List.range t.length) (f := fun j => if m ≤ j ∧ (nodeAt t j).parent < (m : Int) then cnt t j else 0) (g := fun j => if isKid t m j = true then cnt t j else 0) (h := fun j => (if m ≤ j ∧ (nodeAt t j).parent < (m : Int) then cnt t j else 0) + (if isKid t m j = true then cnt t j else 0)) (fun _ _ => rfl)
    omega
theorem cnt_le {t : List Node} (h : TreeK t) {i : Nat} (hi : i < t.length) : cnt t i ≤ (t.length : Int) - i := by
  have e1 := cnt_all h (t.length - (i + 1)) (i + 1) (by omega)
  have e3 := cnt_eq h hi
  rw [kids, kidsTo, sumI_filter] at e3
  have := sumI_mono (xs := List.range t.length) (f := fun j => if isKid t i j = true then cnt t j else 0) (g := fun j => if i + 1 ≤ j ∧ (nodeAt t j).parent < ((i + 1 : Nat) : Int) then cnt t j else 0) (by
    intro j hj
    have hj := List.mem_range.1 hj
    have h1 := cnt_pos h _ j (Nat.le_refl _) hj
    simp only [isKid, decide_eq_true_eq, nodeAt_eq hj]
    by_cases c : t[j].parent = (i : Int)
    · rw [if_pos c, if_pos]
      · omega
      · have : (j ∈ kids t i) := mem_kids.2 ⟨hj, by rw [nodeAt_eq hj]; exact c⟩
        obtain ⟨_, b, _⟩ := h.kid this
        omega
    · rw [if_neg c]
      split <;> omega)
  omega

theorem nodeOk_iff {n : Node} (h : nodeOk n = true) : (0 ≤ n.w ∧ n.w ≤ 30 ∧ 0 ≤ n.h ∧ n.h ≤ 30 ∧ 0 ≤ n.kind ∧ n.kind ≤ 2) ∧ validPack n.pack = true ∧ (n.pack.w = 0 ∧ n.pack.h = 0) ∧ validPlace n.place = true ∧ (n.cell.w = 0 ∧ n.cell.h = 0) ∧
    (n.kind = 1 → linesOk n.cols = true ∧ linesOk n.rows = true) ∧ (n.kind ≠ 1 → n.cols = [] ∧ n.rows = []) := by
  simp only [nodeOk, Bool.and_eq_true, decide_eq_true_eq] at h
  obtain ⟨⟨⟨⟨⟨a, b⟩, c⟩, d⟩, e⟩, f⟩ := h
  refine ⟨a, b, c, d, e, fun hk => ?_, fun hk => ?_⟩
  · rw [if_pos hk] at f
    simpa using f
  · rw [if_neg hk] at f
    simpa [List.length_eq_zero_iff] using f

/-- What nodes ask for is no more than so much. -/
def WishB (t : List Node) (k : Nat) : Prop := 0 ≤ (wish t k).1 ∧ (wish t k).1 + 20 ≤ 170 * cnt t k ∧ 0 ≤ (wish t k).2 ∧ (wish t k).2 + 20 ≤ 170 * cnt t k
theorem packOf_ok {t : List Node} (h : TreeK t) {k : Nat} (hk : k < t.length) {s : Int × Int} (hs : 0 ≤ s.1 ∧ s.1 ≤ 1680 ∧ 0 ≤ s.2 ∧ s.2 ≤ 1680) : packB (packOf (nodeAt t k) s) = true := by
  rw [nodeAt_eq hk]
  have := validPack_iff.1 (nodeOk_iff (h.ok k hk)).2.1
  refine packB_iff.2 ?_
  simp only [packOf]
  omega
theorem cellOf_ok {t : List Node} (h : TreeK t) {i k : Nat} (hi : i < t.length) (hk : k ∈ kids t i) (hkd : (nodeAt t i).kind = 1) {s : Int × Int} (hs : 0 ≤ s.1 ∧ s.1 ≤ 1680 ∧ 0 ≤ s.2 ∧ s.2 ≤ 1680) (c : Cell) (hc : c = cellOf (nodeAt t k) s) :
    (0 ≤ c.w ∧ c.w ≤ 1680 ∧ 0 ≤ c.h ∧ c.h ≤ 1680) ∧ (0 ≤ c.col ∧ c.col ≤ ((nodeAt t i).cols.length : Int) - 1 ∧ 1 ≤ c.manyCols ∧ c.manyCols ≤ (nodeAt t i).cols.length - c.col ∧ 0 ≤ c.row ∧ c.row ≤ ((nodeAt t i).rows.length : Int) - 1 ∧ 1 ≤ c.manyRows ∧ c.manyRows ≤ (nodeAt t i).rows.length - c.row ∧ 0 ≤ c.stick ∧ c.stick ≤ 15 ∧ 0 ≤ c.padX ∧ c.padX ≤ 10 ∧ 0 ≤ c.padY ∧ c.padY ≤ 10) := by
  obtain ⟨h1, h2, h3⟩ := h.kid hk
  rw [nodeAt_eq hi] at hkd ⊢
  have hl := h.lie k h1 i hi (by omega) h3 hkd
  rw [nodeAt_eq h1] at hc
  subst hc
  simp only [lies, decide_eq_true_eq] at hl
  refine ⟨hs, ?_⟩
  simp only [cellOf]
  omega
theorem gridOf_ok {t : List Node} (h : TreeK t) {i : Nat} (hi : i < t.length) (hkd : (nodeAt t i).kind = 1) {f : Nat → Int × Int} (hb : ∀ k ∈ kids t i, 0 ≤ (f k).1 ∧ (f k).1 ≤ 1680 ∧ 0 ≤ (f k).2 ∧ (f k).2 ≤ 1680) : GOk ⟨(nodeAt t i).cols, (nodeAt t i).rows, (kids t i).map fun k => cellOf (nodeAt t k) (f k)⟩ := by
  have hn := (nodeOk_iff (h.ok i hi)).2.2.2.2.2.1 (by rw [← nodeAt_eq hi]; exact hkd)
  refine ⟨by rw [nodeAt_eq hi]; exact linesOk_iff hn.1, by rw [nodeAt_eq hi]; exact linesOk_iff hn.2, ?_, ?_⟩
  · dsimp only
    rw [List.length_map]
    have := kids_len t i t.length
    have := h.hi
    unfold kids; omega
  · intro c hc
    obtain ⟨k, hk, rfl⟩ := List.mem_map.1 hc
    have := cellOf_ok h hi hk hkd (hb k hk) _ rfl
    refine ⟨?_, this.2⟩
    omega
theorem wish_bd {t : List Node} (h : TreeK t) : ∀ m i : Nat, t.length - i ≤ m → i < t.length → WishB t i := by
  intro m
  induction m with
  | zero => intro i h1 h2; omega
  | succ m ih =>
    intro i h1 h2
    have hk : ∀ k ∈ kids t i, k < t.length ∧ WishB t k ∧ 1 ≤ cnt t k ∧ cnt t k ≤ 10 := fun k hk => by
      obtain ⟨a, b, _⟩ := h.kid hk
      have := cnt_le h a
      have := h.hi
      exact ⟨a, ih k (by omega) a, cnt_pos h _ k (Nat.le_refl _) a, by omega⟩
    have hb : ∀ k ∈ kids t i, 0 ≤ (wish t k).1 ∧ (wish t k).1 ≤ 1680 ∧ 0 ≤ (wish t k).2 ∧ (wish t k).2 ≤ 1680 := fun k hk' => by
      obtain ⟨a, ⟨b1, b2, b3, b4⟩, c, d⟩ := hk k hk'
      omega
    have hc := cnt_eq h h2
    have hn := (nodeOk_iff (h.ok i h2)).1
    rw [← nodeAt_eq h2] at hn
    have hs0 : 0 ≤ sumI ((kids t i).map (cnt t)) := sumI_nonneg fun x hx => by
      obtain ⟨k, hk', rfl⟩ := List.mem_map.1 hx
      have := (hk k hk').2.2.1; omega
    have hmul : sumI ((kids t i).map fun k => 170 * cnt t k) = 170 * sumI ((kids t i).map (cnt t)) := by
      generalize kids t i = ks
      induction ks with
      | nil => rfl
      | cons x xs ih => simp only [List.map_cons, sumI, ih]; omega
    unfold WishB
    rw [wish_eq h h2]
    unfold wishOf
    split
    · dsimp only; omega
    · split
      · have hall : ((kids t i).map fun k => packOf (nodeAt t k) (wish t k)).all packB = true := by
          rw [List.all_map, List.all_eq_true]
          intro k hk'
          exact packOf_ok h (hk k hk').1 (hb k hk')
        have h3 := preqs_sum hall
        have h4 := preqs_bd hall
        rw [List.map_map, List.map_map] at h3
        have hvp : ∀ k ∈ kids t i, validPack (nodeAt t k).pack = true := fun k hk' => by
          rw [nodeAt_eq (hk k hk').1]; exact (nodeOk_iff (h.ok k (hk k hk').1)).2.1
        have m1 : sumI ((kids t i).map (needW ∘ fun k => packOf (nodeAt t k) (wish t k))) ≤ sumI ((kids t i).map fun k => 170 * cnt t k) := sumI_mono fun k hk' => by
          have := validPack_iff.1 (hvp k hk')
          have := (hk k hk').2.1
          unfold WishB at this
          simp only [Function.comp, needW, packOf]; omega
        have m2 : sumI ((kids t i).map (needH ∘ fun k => packOf (nodeAt t k) (wish t k))) ≤ sumI ((kids t i).map fun k => 170 * cnt t k) := sumI_mono fun k hk' => by
          have := validPack_iff.1 (hvp k hk')
          have := (hk k hk').2.1
          unfold WishB at this
          simp only [Function.comp, needH, packOf]; omega
        omega
      · rename_i hn1 hn2
        have hkd : (nodeAt t i).kind = 1 := by
          have : (nodeAt t i).kind ≠ 2 := fun e => hn1 (.inr (.inr e))
          omega
        have hg := gridOf_ok h h2 hkd hb
        have r1 := requests_most hg.cols hg.cspans
        have r2 := requests_most hg.rows hg.rspans
        have l1 := requests_least hg.cols hg.cspans
        have l2 := requests_least hg.rows hg.rspans
        simp only [colSpans, rowSpans, List.map_map] at r1 r2
        have hcl := fun k hk' => cellOf_ok h h2 (k := k) hk' hkd (hb k hk') _ rfl
        have m1 : sumI ((kids t i).map (Span.need ∘ colSpan ∘ fun k => cellOf (nodeAt t k) (wish t k))) ≤ sumI ((kids t i).map fun k => 170 * cnt t k) := sumI_mono fun k hk' => by
          have := hcl k hk'
          have := (hk k hk').2.1
          unfold WishB at this
          simp only [Function.comp, colSpan, cellOf] at *; omega
        have m2 : sumI ((kids t i).map (Span.need ∘ rowSpan ∘ fun k => cellOf (nodeAt t k) (wish t k))) ≤ sumI ((kids t i).map fun k => 170 * cnt t k) := sumI_mono fun k hk' => by
          have := hcl k hk'
          have := (hk k hk').2.1
          unfold WishB at this
          simp only [Function.comp, rowSpan, cellOf] at *; omega
        unfold gridReq
        dsimp only [colSpans, rowSpans] at r1 r2 l1 l2 ⊢
        simp only [List.map_map] at l1 l2 ⊢
        omega
theorem wish_le {t : List Node} (h : TreeK t) {i : Nat} (hi : i < t.length) : 0 ≤ (wish t i).1 ∧ (wish t i).1 ≤ 1680 ∧ 0 ≤ (wish t i).2 ∧ (wish t i).2 ≤ 1680 := by
  have h1 := wish_bd h _ i (Nat.le_refl _) hi
  have h2 := cnt_le h hi
  have := h.hi
  unfold WishB at h1
  omega
end Go.Proofs.Yticgjepndfjafaa

namespace Go.Proofs.Yticgjepndfjafaa
open Go.Fw
attribute [local irreducible] Go.Fw.aops Go.Fw.arun

theorem c_spreadS (n : Int) (ws : List Int) (hn : 0 ≤ n ∧ n ≤ 2^27) (hw : WOk ws) : ACon Try.prog 141 [.d (.int .i64 n), .d (.lst (ws.map encN))] [] (ONums (spread n ws)) := by
  have hlo := hw.lo; have hhi := hw.hi
  have hsum := hw.nums.sum ws.length (Nat.le_refl _)
  rw [List.take_length] at hsum
  have cs := c_total ws hw.nums
  have hfb := floors_bd hw hn
  have hfl := floors_len (n := n) (ws := ws)
  by_cases h0 : sumI ws = 0
  · refine ACon.introW tok (nt := 71) Try.func141 rfl rfl rfl (by kernel_rfl) rfl ?_
    have hz : (List.replicate ws.length [D.int .i64 0])[((ws.length : Int) - 1).toNat]? = some [D.int .i64 0] := by rw [List.getElem?_replicate, if_pos (by omega)]
    have he : (spread n ws).map encN = (List.replicate ws.length [D.int .i64 0]).set ((ws.length : Int) - 1).toNat [D.int .i64 n] := by
      rw [spread, if_pos h0, show ((ws.length : Int) - 1).toNat = ws.length - 1 by omega, List.map_set]
      congr 1
      rw [List.map_map]
      exact List.map_const' ..
    have hsl : (spread n ws).length = ws.length := by rw [spread, if_pos h0]; simp
    repeat' (first | ((with_reducible apply xsim); (first | ((with_reducible apply xlenM); exact rfl; exact rfl) | ((with_reducible apply xo); exact rfl) | with_reducible apply xend | ((with_reducible apply xidxM); exact rfl; exact rfl; exact rfl; omega; omega; exact rfl) | ((with_reducible apply xstA); exact rfl; exact rfl; exact rfl; exact rfl; (first | exact hz); exact rfl; exact rfl; exact rfl; exact rfl; (try simp only [List.set_cons_zero, List.set_cons_succ, List.length_map, List.length_replicate])) | ((with_reducible apply xcallIs); exact rfl; exact rfl; exact cs; exact rfl) | simp -implicitDefEqProofs only [go_sem, Int.reduceEq, Int.reduceLT, Int.reduceLE, Nat.reduceAdd, Nat.reduceSub, Nat.reduceMul, Nat.reduceEqDiff, Nat.reduceLeDiff, Nat.reducePow, ↓reduceIte, reduceCtorEq, List.length_map, List.length_replicate])) | ((with_reducible apply xaw); (first | ((with_reducible apply xstepS); refine AW.step tok rfl ?_) | ((with_reducible apply xstep); refine AW.region tok rfl ?_) | with_reducible (first | refine AW.seq ?_ | refine AW.ret ?_) | ((with_reducible apply xcond); exact rfl))) | with_reducible (first | refine xthen ?_ | refine xthen_r ?_) | (with_reducible intro hc; (try simp only [decide_eq_true_eq, decide_eq_false_iff_not, Bool.not_true, Bool.not_false, Bool.not_eq_true', Bool.not_eq_false', ne_eq, not_true, reduceCtorEq, List.length_map, List.length_replicate] at hc); (try (exfalso; omega))) | with_reducible (first | exact trivial | refine And.intro ?_ ?_ | exact rfl) | exact Eq.refl true | (refine inR_i64.mpr ?_; first | omega | (simp only [List.length_map, List.length_map, List.length_replicate]; omega)) | omega)
    (refine xfinOwn [0] (by first | exact .inl rfl | exact .inr rfl) rfl (by repeat' (first | exact trivial | exact rfl | refine And.intro ?_ ?_)) (by decide) rfl ?_ ?_ <;> simp -implicitDefEqProofs only [go_sem, Int.reduceEq, Int.reduceLT, Int.reduceLE, Nat.reduceAdd, Nat.reduceSub, Nat.reduceMul, Nat.reduceEqDiff, Nat.reduceLeDiff, Nat.reducePow, ↓reduceIte, reduceCtorEq, he, hsl])
  · have he : spread n ws = (bumpTo ws (floors n ws) (n - sumI (floors n ws)) ws.length).1 := by rw [spread, if_neg h0]
    have hlb := left_bd hw hn.1 h0
    refine ACon.introW tok (nt := 71) Try.func141 rfl rfl rfl (by kernel_rfl) rfl ?_
    repeat' (first | ((with_reducible apply xsim); (first | ((with_reducible apply xlenM); exact rfl; exact rfl) | ((with_reducible apply xo); exact rfl) | with_reducible apply xend | ((with_reducible apply xcallIs); exact rfl; exact rfl; exact cs; exact rfl) | simp -implicitDefEqProofs only [go_sem, Int.reduceEq, Int.reduceLT, Int.reduceLE, Nat.reduceAdd, Nat.reduceSub, Nat.reduceMul, Nat.reduceEqDiff, Nat.reduceLeDiff, Nat.reducePow, ↓reduceIte, reduceCtorEq, List.length_map, List.length_replicate])) | ((with_reducible apply xaw); (first | ((with_reducible apply xstepS); refine AW.step tok rfl ?_) | with_reducible (first | refine AW.seq ?_ | refine AW.block ?_ | refine AW.skip ?_) | ((with_reducible apply xcond); exact rfl))) | with_reducible refine xthen ?_ | (with_reducible intro hc; (try simp only [decide_eq_true_eq, decide_eq_false_iff_not, Bool.not_true, Bool.not_false, Bool.not_eq_true', Bool.not_eq_false', ne_eq, not_true, reduceCtorEq, List.length_map, List.length_replicate] at hc); (try (exfalso; omega))) | with_reducible (first | exact trivial | refine And.intro ?_ ?_ | exact rfl) | omega)
    refine AW.loop (S := fun k : Nat => ⟨[(0, .d (.int .i64 n)), (1, .d (.lst (ws.map encN))), (5, .msl 0 1 0 ws.length), (6, .d (.int .i64 (sumI ws))), (7, .d (.int .i64 (n - sumI ((floors n ws).take k)))), (8, .d (.int .i64 k))], [.arr 1 (fillRows encN zN (floors n ws) k)], 71, 0⟩)
      (Pre := fun k => k ≤ ws.length) (μ := fun k => ws.length - k) 0 (Nat.zero_le _) ?_ ?_
    · (refine xwk (π := [0]) (by decide) rfl ?_ ?_; (first | simp -implicitDefEqProofs only [go_sem, Int.reduceEq, Int.reduceLT, Int.reduceLE, Nat.reduceAdd, Nat.reduceSub, Nat.reduceMul, Nat.reduceEqDiff, Nat.reduceLeDiff, Nat.reducePow, ↓reduceIte, reduceCtorEq, fillRows_zero, zN, hfl, List.take_zero, sumI, Int.sub_zero]); repeat' (first | exact renE_n | ((with_reducible apply renE_c); exact rfl; focus (first | (simp -implicitDefEqProofs only [go_sem, Int.reduceEq, Int.reduceLT, Int.reduceLE, Nat.reduceAdd, Nat.reduceSub, Nat.reduceMul, Nat.reduceEqDiff, Nat.reduceLeDiff, Nat.reducePow, ↓reduceIte, reduceCtorEq, fillRows_zero, zN, hfl, List.take_zero, sumI, Int.sub_zero]; done)))))
    · intro k hk
      have hfs := hfb.sum k (by omega)
      by_cases hlt : k < ws.length
      · have hrow := at_map (f := encN) hlt
        have hx := hw.w _ (List.getElem_mem hlt)
        have m1 : 0 ≤ n * ws[k] := Int.mul_nonneg hn.1 hx.1
        have m2 : n * ws[k] ≤ 2^27 * 5 := Int.mul_le_mul hn.2 hx.2 hx.1 (by omega)
        have d1 : 0 ≤ (n * ws[k]).tdiv (sumI ws) := Int.tdiv_nonneg m1 hw.sum
        have d2 : (n * ws[k]).tdiv (sumI ws) ≤ n * ws[k] := Int.tdiv_le_self _ m1
        have hz := fillRows_at (enc := encN) (z := zN) (show k < (floors n ws).length by omega)
        have hset := fillRows_set (enc := encN) (z := zN) (show k < (floors n ws).length by omega)
        have hlen : k < (fillRows encN zN (floors n ws) k).length := by rw [fillRows_len (by omega)]; omega
        have hst := sumI_take (xs := floors n ws) (k := k) (by omega)
        rw [floors_at hlt] at hset hst
        simp only [encN] at hset
        repeat' (first | ((with_reducible apply xsim); (first | ((with_reducible apply xo); exact rfl) | with_reducible apply xend | ((with_reducible apply xidxL); exact rfl; exact rfl; exact rfl; (first | exact hrow | exact hz | exact (List.getElem?_set_self (by simpa [idxAdd] using hlen))); omega; first | exact rfl | simp only [hsz]) | ((with_reducible apply xidxM); exact rfl; exact rfl; exact rfl; omega; omega; exact rfl) | ((with_reducible apply xldA); exact rfl; exact rfl; exact rfl; (first | exact hrow | exact hz | exact (List.getElem?_set_self (by simpa [idxAdd] using hlen))); exact rfl) | ((with_reducible apply xstA); exact rfl; exact rfl; exact rfl; exact rfl; (first | exact hrow | exact hz | exact (List.getElem?_set_self (by simpa [idxAdd] using hlen))); exact rfl; exact rfl; exact rfl; exact rfl; (try simp only [List.set_cons_zero, List.set_cons_succ, List.length_map])))) | ((with_reducible apply xaw); (first | ((with_reducible apply xstepS); refine AW.step tok rfl ?_) | ((with_reducible apply xstep); refine AW.region tok rfl ?_) | with_reducible (first | refine AW.seq ?_ | refine AW.block ?_ | refine AW.skip ?_) | ((with_reducible apply xcond); exact rfl))) | with_reducible (first | refine xthen ?_ | refine xblock ?_) | (with_reducible intro hc; (try simp only [decide_eq_true_eq, decide_eq_false_iff_not, Bool.not_true, Bool.not_false, Bool.not_eq_true', Bool.not_eq_false', ne_eq, not_true, reduceCtorEq, List.length_map] at hc); (try (exfalso; omega))) | with_reducible (first | exact trivial | refine And.intro ?_ ?_ | exact rfl) | exact Eq.refl true | (refine inR_i64.mpr ?_; first | omega | (simp only [List.length_map, List.length_map]; omega)) | omega)
        refine round_end (k+1) hlt (by omega) (by (refine xwk (π := [0]) (by decide) rfl ?_ ?_; (first | simp -implicitDefEqProofs only [go_sem, Int.reduceEq, Int.reduceLT, Int.reduceLE, Nat.reduceAdd, Nat.reduceSub, Nat.reduceMul, Nat.reduceEqDiff, Nat.reduceLeDiff, Nat.reducePow, ↓reduceIte, reduceCtorEq, hset, hst, Int.sub_sub]); repeat' (first | exact renE_n | ((with_reducible apply renE_c); exact rfl; focus (first | (simp -implicitDefEqProofs only [go_sem, Int.reduceEq, Int.reduceLT, Int.reduceLE, Nat.reduceAdd, Nat.reduceSub, Nat.reduceMul, Nat.reduceEqDiff, Nat.reduceLeDiff, Nat.reducePow, ↓reduceIte, reduceCtorEq, hset, hst, Int.sub_sub]; done))))))
      · have hk' : k = ws.length := by omega
        subst hk'
        have hall := fillRows_all (enc := encN) (z := zN) (xs := floors n ws)
        rw [hfl] at hall
        have hta : (floors n ws).take ws.length = floors n ws := by rw [← hfl, List.take_length]
        rw [hall, hta]
        rw [hta] at hfs
        have hbl := fun k hk => bump_left (ws := ws) (bs := floors n ws) (m := n - sumI (floors n ws)) hfl hlb.1 k hk
        have hdn := fun k => bumpTo_done (ws := ws) (bs := floors n ws) (m := n - sumI (floors n ws)) (k := k)
        repeat' (first | ((with_reducible apply xsim); (first | ((with_reducible apply xo); exact rfl) | with_reducible apply xend)) | ((with_reducible apply xaw); (first | ((with_reducible apply xstepS); refine AW.step tok rfl ?_) | with_reducible (first | refine AW.seq ?_ | refine AW.block ?_ | refine AW.exit ?_) | ((with_reducible apply xcond); exact rfl))) | with_reducible (first | refine xthen ?_ | refine xthen_e ?_ | refine xblock_e ?_ | refine xround_e ?_) | (with_reducible intro hc; (try simp only [decide_eq_true_eq, decide_eq_false_iff_not, Bool.not_true, Bool.not_false, Bool.not_eq_true', Bool.not_eq_false', ne_eq, not_true, reduceCtorEq, List.length_map, hfl] at hc); (try (exfalso; omega))) | with_reducible (first | exact trivial | refine And.intro ?_ ?_ | exact rfl) | exact Eq.refl true)
        generalize hB : bumpTo ws (floors n ws) (n - sumI (floors n ws)) = B at *
        have hBl : ∀ k, (B k).1.length = ws.length := fun k => by rw [← hB, bumpTo_len, hfl]
        have hBm : ∀ k : Nat, (B k).2 ≤ n - sumI (floors n ws) ∧ n - sumI (floors n ws) - k ≤ (B k).2 := fun k => by rw [← hB]; exact bumpTo_m k
        have hB0 : B 0 = (floors n ws, n - sumI (floors n ws)) := by rw [← hB]; rfl
        have hBs : ∀ k (h : k < ws.length), B (k + 1) = if ws[k] ≠ 0 ∧ 0 < (B k).2 then ((B k).1.set k ((floors n ws)[k]'(by omega) + 1), (B k).2 - 1) else B k := fun k h => by
          rw [← hB]; exact bumpTo_succ h _
        have hbL := hbl ws.length (Nat.le_refl _)
        rw [List.take_length] at hbL
        refine AW.loop (S := fun k : Nat => ⟨[(1, .d (.lst (ws.map encN))), (5, .msl 0 1 0 ws.length), (7, .d (.int .i64 (B k).2)), (9, .d (.int .i64 k))], [.arr 1 ((B k).1.map encN)], 71, 0⟩)
          (Pre := fun k => k ≤ ws.length) (μ := fun k => ws.length - k) 0 (Nat.zero_le _) ?_ ?_
        · (refine xwk (π := [0]) (by decide) rfl ?_ ?_; (first | simp -implicitDefEqProofs only [go_sem, Int.reduceEq, Int.reduceLT, Int.reduceLE, Nat.reduceAdd, Nat.reduceSub, Nat.reduceMul, Nat.reduceEqDiff, Nat.reduceLeDiff, Nat.reducePow, ↓reduceIte, reduceCtorEq, hB0]); repeat' (first | exact renE_n | ((with_reducible apply renE_c); exact rfl; focus (first | (simp -implicitDefEqProofs only [go_sem, Int.reduceEq, Int.reduceLT, Int.reduceLE, Nat.reduceAdd, Nat.reduceSub, Nat.reduceMul, Nat.reduceEqDiff, Nat.reduceLeDiff, Nat.reducePow, ↓reduceIte, reduceCtorEq, hB0]; done)))))
        · intro k hk
          have hm := hBm k
          by_cases hlt : 0 < (B k).2
          · have hlt' : k < ws.length := by
              refine Decidable.byContradiction fun hc => ?_
              obtain rfl : k = ws.length := by omega
              omega
            have hrow := at_map (f := encN) hlt'
            have hx := hw.w _ (List.getElem_mem hlt')
            have hf := hfb.at (show k < (floors n ws).length by omega)
            have hz : ((B k).1.map encN)[k]? = some [.int .i64 ((floors n ws)[k]'(by omega))] := by
              rw [List.getElem?_map, ← hB, bumpTo_at k k (Nat.le_refl _), List.getElem?_eq_getElem (show k < (floors n ws).length by omega)]; rfl
            repeat' (first | ((with_reducible apply xsim); (first | ((with_reducible apply xo); exact rfl) | with_reducible apply xend | ((with_reducible apply xidxL); exact rfl; exact rfl; exact rfl; (first | exact hrow | exact hz); omega; first | exact rfl | simp only [hsz]) | ((with_reducible apply xidxM); exact rfl; exact rfl; exact rfl; omega; omega; exact rfl) | ((with_reducible apply xldA); exact rfl; exact rfl; exact rfl; (first | exact hrow | exact hz); exact rfl) | ((with_reducible apply xstA); exact rfl; exact rfl; exact rfl; exact rfl; (first | exact hrow | exact hz); exact rfl; exact rfl; exact rfl; exact rfl; (try simp only [List.set_cons_zero, List.set_cons_succ, List.length_map])))) | ((with_reducible apply xaw); (first | ((with_reducible apply xstepS); refine AW.step tok rfl ?_) | ((with_reducible apply xstep); refine AW.region tok rfl ?_) | with_reducible (first | refine AW.seq ?_ | refine AW.block ?_ | refine AW.skip ?_) | ((with_reducible apply xcond); exact rfl))) | with_reducible (first | refine xthen ?_ | refine xblock ?_) | (with_reducible intro hc; (try simp only [decide_eq_true_eq, decide_eq_false_iff_not, Bool.not_true, Bool.not_false, Bool.not_eq_true', Bool.not_eq_false', ne_eq, not_true, reduceCtorEq, List.length_map] at hc); (try (exfalso; omega))) | with_reducible (first | exact trivial | refine And.intro ?_ ?_ | exact rfl) | (refine inR_i64.mpr ?_; first | omega | (simp only [List.length_map, List.length_map]; omega)))
            all_goals have hb := hBs k hlt'
            · rw [if_pos (by omega)] at hb
              refine round_end (k+1) (by omega) (by omega) (by (refine xwk (π := [0]) (by decide) rfl ?_ ?_; (first | simp -implicitDefEqProofs only [go_sem, Int.reduceEq, Int.reduceLT, Int.reduceLE, Nat.reduceAdd, Nat.reduceSub, Nat.reduceMul, Nat.reduceEqDiff, Nat.reduceLeDiff, Nat.reducePow, ↓reduceIte, reduceCtorEq, hb, List.map_set, encN]); repeat' (first | exact renE_n | ((with_reducible apply renE_c); exact rfl; focus (first | (simp -implicitDefEqProofs only [go_sem, Int.reduceEq, Int.reduceLT, Int.reduceLE, Nat.reduceAdd, Nat.reduceSub, Nat.reduceMul, Nat.reduceEqDiff, Nat.reduceLeDiff, Nat.reducePow, ↓reduceIte, reduceCtorEq, hb, List.map_set, encN]; done))))))
            all_goals (rw [if_neg (by omega)] at hb; refine round_end (k+1) (by omega) (by omega) (by (refine xwk (π := [0]) (by decide) rfl ?_ ?_; (first | simp -implicitDefEqProofs only [go_sem, Int.reduceEq, Int.reduceLT, Int.reduceLE, Nat.reduceAdd, Nat.reduceSub, Nat.reduceMul, Nat.reduceEqDiff, Nat.reduceLeDiff, Nat.reducePow, ↓reduceIte, reduceCtorEq, hb]); repeat' (first | exact renE_n | ((with_reducible apply renE_c); exact rfl; focus (first | (simp -implicitDefEqProofs only [go_sem, Int.reduceEq, Int.reduceLT, Int.reduceLE, Nat.reduceAdd, Nat.reduceSub, Nat.reduceMul, Nat.reduceEqDiff, Nat.reduceLeDiff, Nat.reducePow, ↓reduceIte, reduceCtorEq, hb]; done)))))))
          · have hfin := hdn k (by omega) ws.length hk
            rw [hfin] at he
            repeat' (first | ((with_reducible apply xsim); (first | ((with_reducible apply xo); exact rfl) | with_reducible apply xend)) | ((with_reducible apply xaw); (first | ((with_reducible apply xstepS); refine AW.step tok rfl ?_) | with_reducible (first | refine AW.seq ?_ | refine AW.ret ?_ | refine AW.exit ?_) | ((with_reducible apply xcond); exact rfl))) | with_reducible (first | refine xthen ?_ | refine xthen_e ?_ | refine xblock_e ?_ | refine xround_e ?_) | (with_reducible intro hc; (try simp only [decide_eq_true_eq, decide_eq_false_iff_not, Bool.not_true, Bool.not_false, Bool.not_eq_true', Bool.not_eq_false', ne_eq, not_true, reduceCtorEq, List.length_map] at hc); (try (exfalso; omega))) | with_reducible (first | exact trivial | refine And.intro ?_ ?_ | exact rfl))
            (refine xfinOwn [0] (by first | exact .inl rfl | exact .inr rfl) rfl (by repeat' (first | exact trivial | exact rfl | refine And.intro ?_ ?_)) (by decide) rfl ?_ ?_ <;> simp -implicitDefEqProofs only [go_sem, Int.reduceEq, Int.reduceLT, Int.reduceLE, Nat.reduceAdd, Nat.reduceSub, Nat.reduceMul, Nat.reduceEqDiff, Nat.reduceLeDiff, Nat.reducePow, ↓reduceIte, reduceCtorEq, he, hBl])

theorem weights_len (ls : List Line) : (weights ls).length = ls.length := by simp [weights]
theorem mins_len (ls : List Line) : (mins ls).length = ls.length := by simp [mins]
theorem weights_take {ls : List Line} {k : Nat} (h : k < ls.length) : (weights ls).take (k + 1) = (weights ls).take k ++ [ls[k].weight] := by
  rw [List.take_succ_eq_append_getElem (by rw [weights_len]; exact h)]; simp [weights]
theorem mins_take {ls : List Line} {k : Nat} (h : k < ls.length) : (mins ls).take (k + 1) = (mins ls).take k ++ [ls[k].min] := by
  rw [List.take_succ_eq_append_getElem (by rw [mins_len]; exact h)]; simp [mins]

theorem c_weightsI (ls : List Line) (hl : ls.length ≤ 5) : ACon Try.prog 140 [.d (.lst (ls.map encLine))] [] (Is (.d (.lst ((weights ls).map encN)))) := by
  have hwl := weights_len ls
  refine ACon.introW tok (nt := 19) Try.func140 rfl rfl rfl (by kernel_rfl) rfl ?_
  repeat' (first | ((with_reducible apply xsim); (first | ((with_reducible apply xlenM); exact rfl; exact rfl) | ((with_reducible apply xo); exact rfl) | with_reducible apply xend)) | ((with_reducible apply xaw); (first | ((with_reducible apply xstepS); refine AW.step tok rfl ?_) | with_reducible (first | refine AW.seq ?_ | refine AW.block ?_))) | with_reducible exact trivial)
  refine AW.own 3 1 rfl ?_
  refine AW.loop (S := fun k : Nat => ⟨[(3, .msl 0 1 0 k), (6, .d (.lst (ls.map encLine))), (7, .d (.int .i64 ls.length)), (8, .d (.int .i64 k))], [.arr 1 (((weights ls).take k).map encN)], 19, 0⟩)
    (Pre := fun k => k ≤ ls.length) (μ := fun k => ls.length - k) 0 (Nat.zero_le _) ?_ ?_
  · (refine xwk (π := [0]) (by decide) rfl ?_ ?_; (first | simp -implicitDefEqProofs only [go_sem, Int.reduceEq, Int.reduceLT, Int.reduceLE, Nat.reduceAdd, Nat.reduceSub, Nat.reduceMul, Nat.reduceEqDiff, Nat.reduceLeDiff, Nat.reducePow, ↓reduceIte, reduceCtorEq, List.take_zero]); repeat' (first | exact renE_n | ((with_reducible apply renE_c); exact rfl; focus (first | (simp -implicitDefEqProofs only [go_sem, Int.reduceEq, Int.reduceLT, Int.reduceLE, Nat.reduceAdd, Nat.reduceSub, Nat.reduceMul, Nat.reduceEqDiff, Nat.reduceLeDiff, Nat.reducePow, ↓reduceIte, reduceCtorEq, List.take_zero]; done)))))
  · intro k hk
    have htl : ((weights ls).take k).length = k := by simp [hwl]; omega
    by_cases hlt : k < ls.length
    · have hrow := at_map (f := encLine) hlt
      have hsu := weights_take hlt
      repeat' (first | ((with_reducible apply xsim); (first | ((with_reducible apply xo); exact rfl) | ((with_reducible apply xst); exact rfl) | with_reducible apply xend | ((with_reducible apply xalloc); exact rfl; simp only [backV, backVs, backVs_mapd, backId, backO, List.map_cons, List.map_nil, List.getElem?_nil, List.length_cons, List.length_nil, Nat.reduceAdd, Nat.reduceSub, List.cons_append, List.nil_append, List.append_nil]) | ((with_reducible apply xbuild); exact rfl; exact rfl; exact rfl; exact rfl; exact rfl; simp only [backV, backVs, backVs_mapd, backId, backO, List.map_cons, List.map_nil, List.getElem?_nil, List.length_cons, List.length_nil, Nat.reduceAdd, Nat.reduceSub, List.cons_append, List.nil_append, List.append_nil]) | ((with_reducible apply xidxL); exact rfl; exact rfl; exact rfl; (first | exact hrow); omega; first | exact rfl | simp only [hsz]) | simp -implicitDefEqProofs only [go_sem, Int.reduceEq, Int.reduceLT, Int.reduceLE, Nat.reduceAdd, Nat.reduceSub, Nat.reduceMul, Nat.reduceEqDiff, Nat.reduceLeDiff, Nat.reducePow, ↓reduceIte, reduceCtorEq, List.length_map, htl])) | ((with_reducible apply xaw); (first | ((with_reducible apply xstepS); refine AW.step tok rfl ?_) | ((with_reducible apply xstep); refine AW.region tok rfl ?_) | with_reducible (first | refine AW.seq ?_ | refine AW.block ?_ | refine AW.skip ?_) | ((with_reducible apply xcond); exact rfl))) | with_reducible refine xthen ?_ | (with_reducible intro hc; (try simp only [decide_eq_true_eq, decide_eq_false_iff_not, Bool.not_true, Bool.not_false, Bool.not_eq_true', Bool.not_eq_false', ne_eq, not_true, reduceCtorEq, List.length_map, htl] at hc); (try (exfalso; omega))) | with_reducible (first | exact trivial | refine And.intro ?_ ?_ | exact rfl) | exact Eq.refl true | (refine inR_i64.mpr ?_; first | omega | (simp only [List.length_map, List.length_map, htl]; omega)) | omega)
      refine round_end (k+1) hlt (by omega) (by (refine xwk (π := [3]) (by decide) rfl ?_ ?_; (first | simp -implicitDefEqProofs only [go_sem, Int.reduceEq, Int.reduceLT, Int.reduceLE, Nat.reduceAdd, Nat.reduceSub, Nat.reduceMul, Nat.reduceEqDiff, Nat.reduceLeDiff, Nat.reducePow, ↓reduceIte, reduceCtorEq, hsu, List.map_append, encN]); repeat' (first | exact renE_n | ((with_reducible apply renE_c); exact rfl; focus (first | (simp -implicitDefEqProofs only [go_sem, Int.reduceEq, Int.reduceLT, Int.reduceLE, Nat.reduceAdd, Nat.reduceSub, Nat.reduceMul, Nat.reduceEqDiff, Nat.reduceLeDiff, Nat.reducePow, ↓reduceIte, reduceCtorEq, hsu, List.map_append, encN]; done))))))
    · have hk' : k = ls.length := by omega
      subst hk'
      have hta : (weights ls).take ls.length = weights ls := by rw [← hwl, List.take_length]
      repeat' (first | ((with_reducible apply xsim); (first | ((with_reducible apply xo); exact rfl) | with_reducible apply xend)) | ((with_reducible apply xaw); (first | ((with_reducible apply xstepS); refine AW.step tok rfl ?_) | with_reducible (first | refine AW.seq ?_ | refine AW.ret ?_ | refine AW.exit ?_) | ((with_reducible apply xcond); exact rfl))) | with_reducible (first | refine xthen ?_ | refine xthen_e ?_ | refine xblock_e ?_ | refine xround_e ?_) | (with_reducible intro hc; (try simp only [decide_eq_true_eq, decide_eq_false_iff_not, Bool.not_true, Bool.not_false, Bool.not_eq_true', Bool.not_eq_false', ne_eq, not_true, reduceCtorEq, List.length_map] at hc); (try (exfalso; omega))) | with_reducible (first | exact trivial | refine And.intro ?_ ?_ | exact rfl))
      rw [hta]
      refine xfinW (Weak.freezeA 2 0 1 rfl rfl (by simp [hwl])) ?_
      (refine xfinIs (by first | exact .inl rfl | exact .inr rfl) rfl (by repeat' (first | exact trivial | exact rfl | refine And.intro ?_ ?_)) rfl ?_ rfl; first | with_reducible exact rfl)
theorem c_weightsS (ls : List Line) (hl : ls.length ≤ 5) : ACon Try.prog 142 [.d (.lst (ls.map encLine))] [] (Is (.d (.lst ((weights ls).map encN)))) := by
  have hwl := weights_len ls
  refine ACon.introW tok (nt := 21) Try.func142 rfl rfl rfl (by kernel_rfl) rfl ?_
  repeat' (first | ((with_reducible apply xsim); (first | ((with_reducible apply xo); exact rfl) | with_reducible apply xend | ((with_reducible apply xbuild); exact rfl; exact rfl; exact rfl; exact rfl; exact rfl; simp only [backV, backVs, backVs_mapd, backId, backO, List.map_cons, List.map_nil, List.getElem?_nil, List.length_cons, List.length_nil, Nat.reduceAdd, Nat.reduceSub, List.cons_append, List.nil_append, List.append_nil]))) | ((with_reducible apply xaw); (first | ((with_reducible apply xstepS); refine AW.step tok rfl ?_) | with_reducible (first | refine AW.seq ?_ | refine AW.block ?_))) | with_reducible exact trivial)
  skip
  refine AW.loop (S := fun k : Nat => ⟨[(3, .msl 0 1 0 k), (0, .d (.lst (ls.map encLine))), (4, .d (.int .i64 k))], [.arr 1 (((weights ls).take k).map encN)], 21, 0⟩)
    (Pre := fun k => k ≤ ls.length) (μ := fun k => ls.length - k) 0 (Nat.zero_le _) ?_ ?_
  · (refine xwk (π := [0]) (by decide) rfl ?_ ?_; (first | simp -implicitDefEqProofs only [go_sem, Int.reduceEq, Int.reduceLT, Int.reduceLE, Nat.reduceAdd, Nat.reduceSub, Nat.reduceMul, Nat.reduceEqDiff, Nat.reduceLeDiff, Nat.reducePow, ↓reduceIte, reduceCtorEq, List.take_zero]); repeat' (first | exact renE_n | ((with_reducible apply renE_c); exact rfl; focus (first | (simp -implicitDefEqProofs only [go_sem, Int.reduceEq, Int.reduceLT, Int.reduceLE, Nat.reduceAdd, Nat.reduceSub, Nat.reduceMul, Nat.reduceEqDiff, Nat.reduceLeDiff, Nat.reducePow, ↓reduceIte, reduceCtorEq, List.take_zero]; done)))))
  · intro k hk
    have htl : ((weights ls).take k).length = k := by simp [hwl]; omega
    by_cases hlt : k < ls.length
    · have hrow := at_map (f := encLine) hlt
      have hsu := weights_take hlt
      repeat' (first | ((with_reducible apply xsim); (first | ((with_reducible apply xlenM); exact rfl; exact rfl) | ((with_reducible apply xo); exact rfl) | with_reducible apply xend | ((with_reducible apply xbuild); exact rfl; exact rfl; exact rfl; exact rfl; exact rfl; simp only [backV, backVs, backVs_mapd, backId, backO, List.map_cons, List.map_nil, List.getElem?_nil, List.length_cons, List.length_nil, Nat.reduceAdd, Nat.reduceSub, List.cons_append, List.nil_append, List.append_nil]) | ((with_reducible apply xidxL); exact rfl; exact rfl; exact rfl; (first | exact hrow); omega; first | exact rfl | simp only [hsz]) | simp -implicitDefEqProofs only [go_sem, Int.reduceEq, Int.reduceLT, Int.reduceLE, Nat.reduceAdd, Nat.reduceSub, Nat.reduceMul, Nat.reduceEqDiff, Nat.reduceLeDiff, Nat.reducePow, ↓reduceIte, reduceCtorEq, List.length_map, htl])) | ((with_reducible apply xaw); (first | ((with_reducible apply xstepS); refine AW.step tok rfl ?_) | ((with_reducible apply xstep); refine AW.region tok rfl ?_) | with_reducible (first | refine AW.seq ?_ | refine AW.block ?_ | refine AW.skip ?_) | ((with_reducible apply xcond); exact rfl))) | with_reducible refine xthen ?_ | (with_reducible intro hc; (try simp only [decide_eq_true_eq, decide_eq_false_iff_not, Bool.not_true, Bool.not_false, Bool.not_eq_true', Bool.not_eq_false', ne_eq, not_true, reduceCtorEq, List.length_map, htl] at hc); (try (exfalso; omega))) | with_reducible (first | exact trivial | refine And.intro ?_ ?_ | exact rfl) | (refine inR_i64.mpr ?_; first | omega | (simp only [List.length_map, List.length_map, htl]; omega)) | omega)
      refine round_end (k+1) hlt (by omega) (by (refine xwk (π := [2]) (by decide) rfl ?_ ?_; (first | simp -implicitDefEqProofs only [go_sem, Int.reduceEq, Int.reduceLT, Int.reduceLE, Nat.reduceAdd, Nat.reduceSub, Nat.reduceMul, Nat.reduceEqDiff, Nat.reduceLeDiff, Nat.reducePow, ↓reduceIte, reduceCtorEq, hsu, List.map_append, encN]); repeat' (first | exact renE_n | ((with_reducible apply renE_c); exact rfl; focus (first | (simp -implicitDefEqProofs only [go_sem, Int.reduceEq, Int.reduceLT, Int.reduceLE, Nat.reduceAdd, Nat.reduceSub, Nat.reduceMul, Nat.reduceEqDiff, Nat.reduceLeDiff, Nat.reducePow, ↓reduceIte, reduceCtorEq, hsu, List.map_append, encN]; done))))))
    · have hk' : k = ls.length := by omega
      subst hk'
      have hta : (weights ls).take ls.length = weights ls := by rw [← hwl, List.take_length]
      repeat' (first | ((with_reducible apply xsim); (first | ((with_reducible apply xlenM); exact rfl; exact rfl) | ((with_reducible apply xo); exact rfl) | with_reducible apply xend)) | ((with_reducible apply xaw); (first | ((with_reducible apply xstepS); refine AW.step tok rfl ?_) | with_reducible (first | refine AW.seq ?_ | refine AW.ret ?_ | refine AW.exit ?_) | ((with_reducible apply xcond); exact rfl))) | with_reducible (first | refine xthen ?_ | refine xthen_e ?_ | refine xblock_e ?_ | refine xround_e ?_) | (with_reducible intro hc; (try simp only [decide_eq_true_eq, decide_eq_false_iff_not, Bool.not_true, Bool.not_false, Bool.not_eq_true', Bool.not_eq_false', ne_eq, not_true, reduceCtorEq, List.length_map] at hc); (try (exfalso; omega))) | with_reducible (first | exact trivial | refine And.intro ?_ ?_ | exact rfl))
      rw [hta]
      refine xfinW (Weak.freezeA 2 0 1 rfl rfl (by simp [hwl])) ?_
      (refine xfinIs (by first | exact .inl rfl | exact .inr rfl) rfl (by repeat' (first | exact trivial | exact rfl | refine And.intro ?_ ?_)) rfl ?_ rfl; first | with_reducible exact rfl)
end Go.Proofs.Yticgjepndfjafaa

namespace Go.Proofs.Yticgjepndfjafaa
open Go.Fw
attribute [local irreducible] Go.Fw.aops Go.Fw.arun

theorem c_lineRequestsI (ls : List Line) (ss : List Span) (h : LOk ls) (hs : SOk ss ls.length) : ACon Try.prog 119 [.d (.lst (ls.map encLine)), .d (.lst (ss.map encSpan))] [] (ONums (requests ls ss)) := by
  have hlo := h.lo; have hhi := h.hi; have hsh := hs.hi
  have hml := mins_len ls
  refine ACon.introW tok (nt := 86) Try.func119 rfl rfl rfl (by kernel_rfl) rfl ?_
  repeat' (first | ((with_reducible apply xsim); (first | ((with_reducible apply xlenM); exact rfl; exact rfl) | ((with_reducible apply xo); exact rfl) | with_reducible apply xend)) | ((with_reducible apply xaw); (first | ((with_reducible apply xstepS); refine AW.step tok rfl ?_) | with_reducible (first | refine AW.seq ?_ | refine AW.block ?_))) | with_reducible exact trivial)
  refine AW.own 5 1 rfl ?_
  refine AW.loop (S := fun k : Nat => ⟨[(0, .d (.lst (ls.map encLine))), (1, .d (.lst (ss.map encSpan))), (5, .msl 0 1 0 k), (15, .d (.lst (ls.map encLine))), (16, .d (.int .i64 ls.length)), (17, .d (.int .i64 k))], [.arr 1 (((mins ls).take k).map encN)], 86, 0⟩)
    (Pre := fun k => k ≤ ls.length) (μ := fun k => ls.length - k) 0 (Nat.zero_le _) ?_ ?_
  · (refine xwk (π := [0]) (by decide) rfl ?_ ?_; (first | simp -implicitDefEqProofs only [go_sem, Int.reduceEq, Int.reduceLT, Int.reduceLE, Nat.reduceAdd, Nat.reduceSub, Nat.reduceMul, Nat.reduceEqDiff, Nat.reduceLeDiff, Nat.reducePow, ↓reduceIte, reduceCtorEq, List.take_zero]); repeat' (first | exact renE_n | ((with_reducible apply renE_c); exact rfl; focus (first | (simp -implicitDefEqProofs only [go_sem, Int.reduceEq, Int.reduceLT, Int.reduceLE, Nat.reduceAdd, Nat.reduceSub, Nat.reduceMul, Nat.reduceEqDiff, Nat.reduceLeDiff, Nat.reducePow, ↓reduceIte, reduceCtorEq, List.take_zero]; done)))))
  intro k hk
  have htl : ((mins ls).take k).length = k := by simp [hml]; omega
  by_cases hlt : k < ls.length
  · have hrow := at_map (f := encLine) hlt
    have hsu := mins_take hlt
    repeat' (first | ((with_reducible apply xsim); (first | ((with_reducible apply xo); exact rfl) | ((with_reducible apply xst); exact rfl) | with_reducible apply xend | ((with_reducible apply xalloc); exact rfl; simp only [backV, backVs, backVs_mapd, backId, backO, List.map_cons, List.map_nil, List.getElem?_nil, List.length_cons, List.length_nil, Nat.reduceAdd, Nat.reduceSub, List.cons_append, List.nil_append, List.append_nil]) | ((with_reducible apply xbuild); exact rfl; exact rfl; exact rfl; exact rfl; exact rfl; simp only [backV, backVs, backVs_mapd, backId, backO, List.map_cons, List.map_nil, List.getElem?_nil, List.length_cons, List.length_nil, Nat.reduceAdd, Nat.reduceSub, List.cons_append, List.nil_append, List.append_nil]) | ((with_reducible apply xidxL); exact rfl; exact rfl; exact rfl; (first | exact hrow); omega; first | exact rfl | simp only [hsz]) | simp -implicitDefEqProofs only [go_sem, Int.reduceEq, Int.reduceLT, Int.reduceLE, Nat.reduceAdd, Nat.reduceSub, Nat.reduceMul, Nat.reduceEqDiff, Nat.reduceLeDiff, Nat.reducePow, ↓reduceIte, reduceCtorEq, List.length_map, htl])) | ((with_reducible apply xaw); (first | ((with_reducible apply xstepS); refine AW.step tok rfl ?_) | ((with_reducible apply xstep); refine AW.region tok rfl ?_) | with_reducible (first | refine AW.seq ?_ | refine AW.block ?_ | refine AW.skip ?_) | ((with_reducible apply xcond); exact rfl))) | with_reducible refine xthen ?_ | (with_reducible intro hc; (try simp only [decide_eq_true_eq, decide_eq_false_iff_not, Bool.not_true, Bool.not_false, Bool.not_eq_true', Bool.not_eq_false', ne_eq, not_true, reduceCtorEq, List.length_map, htl] at hc); (try (exfalso; omega))) | with_reducible (first | exact trivial | refine And.intro ?_ ?_ | exact rfl) | exact Eq.refl true | (refine inR_i64.mpr ?_; first | omega | (simp only [List.length_map, List.length_map, htl]; omega)) | omega)
    refine round_end (k+1) hlt (by omega) (by (refine xwk (π := [3]) (by decide) rfl ?_ ?_; (first | simp -implicitDefEqProofs only [go_sem, Int.reduceEq, Int.reduceLT, Int.reduceLE, Nat.reduceAdd, Nat.reduceSub, Nat.reduceMul, Nat.reduceEqDiff, Nat.reduceLeDiff, Nat.reducePow, ↓reduceIte, reduceCtorEq, hsu, List.map_append, encN]); repeat' (first | exact renE_n | ((with_reducible apply renE_c); exact rfl; focus (first | (simp -implicitDefEqProofs only [go_sem, Int.reduceEq, Int.reduceLT, Int.reduceLE, Nat.reduceAdd, Nat.reduceSub, Nat.reduceMul, Nat.reduceEqDiff, Nat.reduceLeDiff, Nat.reducePow, ↓reduceIte, reduceCtorEq, hsu, List.map_append, encN]; done))))))
  have hk' : k = ls.length := by omega
  subst hk'
  have hta : (mins ls).take ls.length = mins ls := by rw [← hml, List.take_length]
  rw [hta]
  repeat' (first | ((with_reducible apply xsim); (first | ((with_reducible apply xo); exact rfl) | with_reducible apply xend)) | ((with_reducible apply xaw); (first | ((with_reducible apply xstepS); refine AW.step tok rfl ?_) | with_reducible (first | refine AW.seq ?_ | refine AW.block ?_ | refine AW.exit ?_) | ((with_reducible apply xcond); exact rfl))) | with_reducible (first | refine xthen ?_ | refine xthen_e ?_ | refine xblock_e ?_ | refine xround_e ?_) | (with_reducible intro hc; (try simp only [decide_eq_true_eq, decide_eq_false_iff_not, Bool.not_true, Bool.not_false, Bool.not_eq_true', Bool.not_eq_false', ne_eq, not_true, reduceCtorEq, List.length_map] at hc); (try (exfalso; omega))) | with_reducible (first | exact trivial | refine And.intro ?_ ?_ | exact rfl))
  refine AW.loop (S := fun j : Nat => ⟨[(0, .d (.lst (ls.map encLine))), (1, .d (.lst (ss.map encSpan))), (5, .msl 0 1 0 ls.length), (8, .d (.int .i64 ((j : Int) + 1)))], [.arr 1 ((reqs ls ss j).map encN)], 86, 0⟩)
    (Pre := fun j => j ≤ ls.length) (μ := fun j => ls.length - j) 0 (Nat.zero_le _) ?_ ?_
  · (refine xwk (π := [0]) (by decide) rfl ?_ ?_; (first | simp -implicitDefEqProofs only [go_sem, Int.reduceEq, Int.reduceLT, Int.reduceLE, Nat.reduceAdd, Nat.reduceSub, Nat.reduceMul, Nat.reduceEqDiff, Nat.reduceLeDiff, Nat.reducePow, ↓reduceIte, reduceCtorEq, reqs]); repeat' (first | exact renE_n | ((with_reducible apply renE_c); exact rfl; focus (first | (simp -implicitDefEqProofs only [go_sem, Int.reduceEq, Int.reduceLT, Int.reduceLE, Nat.reduceAdd, Nat.reduceSub, Nat.reduceMul, Nat.reduceEqDiff, Nat.reduceLeDiff, Nat.reducePow, ↓reduceIte, reduceCtorEq, reqs]; done) | (simp -implicitDefEqProofs only [go_sem, Int.reduceEq, Int.reduceLT, Int.reduceLE, Nat.reduceAdd, Nat.reduceSub, Nat.reduceMul, Nat.reduceEqDiff, Nat.reduceLeDiff, Nat.reducePow, ↓reduceIte, reduceCtorEq, reqs]; omega)))))
  intro j hj
  have hjr := reqs_rok h hs j
  by_cases hjl : ¬ j < ls.length
  · have hj' : j = ls.length := by omega
    subst hj'
    have hrl := (requests_rok h hs).len
    repeat' (first | ((with_reducible apply xsim); (first | ((with_reducible apply xlenM); exact rfl; exact rfl) | ((with_reducible apply xo); exact rfl) | with_reducible apply xend)) | ((with_reducible apply xaw); (first | ((with_reducible apply xstepS); refine AW.step tok rfl ?_) | with_reducible (first | refine AW.seq ?_ | refine AW.ret ?_ | refine AW.exit ?_) | ((with_reducible apply xcond); exact rfl))) | with_reducible (first | refine xthen ?_ | refine xthen_e ?_ | refine xblock_e ?_ | refine xround_e ?_) | (with_reducible intro hc; (try simp only [decide_eq_true_eq, decide_eq_false_iff_not, Bool.not_true, Bool.not_false, Bool.not_eq_true', Bool.not_eq_false', ne_eq, not_true, reduceCtorEq, List.length_map] at hc); (try (exfalso; omega))) | with_reducible (first | exact trivial | refine And.intro ?_ ?_ | exact rfl))
    (refine xfinOwn [0] (by first | exact .inl rfl | exact .inr rfl) rfl (by repeat' (first | exact trivial | exact rfl | refine And.intro ?_ ?_)) (by decide) rfl ?_ ?_ <;> simp -implicitDefEqProofs only [go_sem, Int.reduceEq, Int.reduceLT, Int.reduceLE, Nat.reduceAdd, Nat.reduceSub, Nat.reduceMul, Nat.reduceEqDiff, Nat.reduceLeDiff, Nat.reducePow, ↓reduceIte, reduceCtorEq, requests, hjr.len])
  replace hjl : j < ls.length := by omega
  repeat' (first | ((with_reducible apply xsim); (first | ((with_reducible apply xlenM); exact rfl; exact rfl) | ((with_reducible apply xo); exact rfl) | with_reducible apply xend)) | ((with_reducible apply xaw); (first | ((with_reducible apply xstepS); refine AW.step tok rfl ?_) | with_reducible (first | refine AW.seq ?_ | refine AW.block ?_ | refine AW.skip ?_) | ((with_reducible apply xcond); exact rfl))) | with_reducible refine xthen ?_ | (with_reducible intro hc; (try simp only [decide_eq_true_eq, decide_eq_false_iff_not, Bool.not_true, Bool.not_false, Bool.not_eq_true', Bool.not_eq_false', ne_eq, not_true, reduceCtorEq, List.length_map] at hc); (try (exfalso; omega))) | with_reducible (first | exact trivial | refine And.intro ?_ ?_ | exact rfl))
  refine AW.loop (S := fun k : Nat => ⟨[(0, .d (.lst (ls.map encLine))), (1, .d (.lst (ss.map encSpan))), (5, .msl 0 1 0 ls.length), (8, .d (.int .i64 ((j : Int) + 1))), (33, .d (.lst (ss.map encSpan))), (34, .d (.int .i64 ss.length)), (35, .d (.int .i64 k))], [.arr 1 ((reqRound ls ss (j + 1) (reqs ls ss j) k).map encN)], 86, 0⟩)
    (Pre := fun k => k ≤ ss.length) (μ := fun k => ss.length - k) 0 (Nat.zero_le _) ?_ ?_
  · (refine xwk (π := [0]) (by decide) rfl ?_ ?_; (first | simp -implicitDefEqProofs only [go_sem, Int.reduceEq, Int.reduceLT, Int.reduceLE, Nat.reduceAdd, Nat.reduceSub, Nat.reduceMul, Nat.reduceEqDiff, Nat.reduceLeDiff, Nat.reducePow, ↓reduceIte, reduceCtorEq, reqRound_zero]); repeat' (first | exact renE_n | ((with_reducible apply renE_c); exact rfl; focus (first | (simp -implicitDefEqProofs only [go_sem, Int.reduceEq, Int.reduceLT, Int.reduceLE, Nat.reduceAdd, Nat.reduceSub, Nat.reduceMul, Nat.reduceEqDiff, Nat.reduceLeDiff, Nat.reducePow, ↓reduceIte, reduceCtorEq, reqRound_zero]; done)))))
  intro k hk
  by_cases hkl : ¬ k < ss.length
  · have hk' : k = ss.length := by omega
    subst hk'
    repeat' (first | ((with_reducible apply xsim); (first | ((with_reducible apply xo); exact rfl) | with_reducible apply xend)) | ((with_reducible apply xaw); (first | ((with_reducible apply xstepS); refine AW.step tok rfl ?_) | ((with_reducible apply xstep); refine AW.region tok rfl ?_) | with_reducible (first | refine AW.seq ?_ | refine AW.exit ?_) | ((with_reducible apply xcond); exact rfl))) | with_reducible (first | refine xthen ?_ | refine xthen_e ?_ | refine xblock ?_ | refine xblock_e ?_ | refine xround_e ?_) | (with_reducible intro hc; (try simp only [decide_eq_true_eq, decide_eq_false_iff_not, Bool.not_true, Bool.not_false, Bool.not_eq_true', Bool.not_eq_false', ne_eq, not_true, reduceCtorEq, List.length_map] at hc); (try (exfalso; omega))) | with_reducible (first | exact trivial | refine And.intro ?_ ?_ | exact rfl) | (refine inR_i64.mpr ?_; first | omega | (simp only [List.length_map, List.length_map]; omega)))
    refine round_end (j+1) (by omega) (by omega) (by (refine xwk (π := [0]) (by decide) rfl ?_ ?_; (first | simp -implicitDefEqProofs only [go_sem, Int.reduceEq, Int.reduceLT, Int.reduceLE, Nat.reduceAdd, Nat.reduceSub, Nat.reduceMul, Nat.reduceEqDiff, Nat.reduceLeDiff, Nat.reducePow, ↓reduceIte, reduceCtorEq, reqs]); repeat' (first | exact renE_n | ((with_reducible apply renE_c); exact rfl; focus (first | (simp -implicitDefEqProofs only [go_sem, Int.reduceEq, Int.reduceLT, Int.reduceLE, Nat.reduceAdd, Nat.reduceSub, Nat.reduceMul, Nat.reduceEqDiff, Nat.reduceLeDiff, Nat.reducePow, ↓reduceIte, reduceCtorEq, reqs]; done))))))
  replace hkl : k < ss.length := by omega
  have hro := round_rok h hs hjr (m := j + 1) k hk
  have hrow := at_map (f := encSpan) hkl
  have hok := hs.ok _ (List.getElem_mem hkl)
  have hsucc := reqRound_succ (ls := ls) (m := j + 1) (out := reqs ls ss j) hkl
  generalize reqRound ls ss (j + 1) (reqs ls ss j) k = out at *
  generalize ss[k] = s at *
  obtain ⟨a, m, d⟩ := s
  dsimp only at hok
  obtain ⟨a, rfl⟩ := Int.eq_ofNat_of_zero_le hok.1
  obtain ⟨m, rfl⟩ := Int.eq_ofNat_of_zero_le (show 0 ≤ m by omega)
  have hol := hro.len
  have hsl : List.take (((a : Int) + m).toNat - a) (List.drop a (out.map encN)) = (slc out a m).map encN := by rw [slc, List.map_take, List.map_drop, show ((a : Int) + m).toNat - a = m by omega]
  have hle : a + (((a : Int) + m).toNat - a) ≤ out.length := by omega
  have ew : List.take (((a : Int) + m).toNat - (a : Int).toNat) (List.drop (a : Int).toNat ls) = slc ls a m := by rw [slc, show ((a : Int) + m).toNat - (a : Int).toNat = m by omega]; simp
  have hnm := hro.slc h.hi (a := a) (m := m)
  have cs := c_sum (slc out a m) hnm
  have cw := c_weightsI (slc ls a m) (by rw [slc_len (by omega)]; omega)
  have hww : weights (slc ls a m) = slc (weights ls) a m := by simp [weights, slc_map]
  rw [hww, ← ew] at cw
  by_cases hmany : ¬ (m : Int) = j + 1
  · rw [reqStep, if_neg (fun hc => hmany hc.1)] at hsucc
    repeat' (first | ((with_reducible apply xsim); (first | ((with_reducible apply xo); exact rfl) | ((with_reducible apply xst); exact rfl) | with_reducible apply xend | ((with_reducible apply xalloc); exact rfl; simp only [backV, backVs, backVs_mapd, backId, backO, List.map_cons, List.map_nil, List.getElem?_nil, List.length_cons, List.length_nil, Nat.reduceAdd, Nat.reduceSub, List.cons_append, List.nil_append, List.append_nil]) | ((with_reducible apply xidxL); exact rfl; exact rfl; exact rfl; (first | exact hrow); omega; first | exact rfl | simp only [hsz]))) | ((with_reducible apply xaw); (first | ((with_reducible apply xstepS); refine AW.step tok rfl ?_) | ((with_reducible apply xstep); refine AW.region tok rfl ?_) | with_reducible (first | refine AW.seq ?_ | refine AW.block ?_ | refine AW.skip ?_ | refine AW.exit ?_) | ((with_reducible apply xcond); exact rfl))) | with_reducible (first | refine xthen ?_ | refine xthen_e ?_ | refine xblock_e ?_) | (with_reducible intro hc; (try simp only [decide_eq_true_eq, decide_eq_false_iff_not, Bool.not_true, Bool.not_false, Bool.not_eq_true', Bool.not_eq_false', ne_eq, not_true, reduceCtorEq, List.length_map] at hc); (try (exfalso; omega))) | with_reducible (first | exact trivial | refine And.intro ?_ ?_ | exact rfl) | exact Eq.refl true | (refine inR_i64.mpr ?_; first | omega | (simp only [List.length_map, List.length_map]; omega)))
    refine round_end (k+1) hkl (by omega) (by (refine xwk (π := [0]) (by decide) rfl ?_ ?_; (first | simp -implicitDefEqProofs only [go_sem, Int.reduceEq, Int.reduceLT, Int.reduceLE, Nat.reduceAdd, Nat.reduceSub, Nat.reduceMul, Nat.reduceEqDiff, Nat.reduceLeDiff, Nat.reducePow, ↓reduceIte, reduceCtorEq, hsucc]); repeat' (first | exact renE_n | ((with_reducible apply renE_c); exact rfl; focus (first | (simp -implicitDefEqProofs only [go_sem, Int.reduceEq, Int.reduceLT, Int.reduceLE, Nat.reduceAdd, Nat.reduceSub, Nat.reduceMul, Nat.reduceEqDiff, Nat.reduceLeDiff, Nat.reducePow, ↓reduceIte, reduceCtorEq, hsucc]; done))))))
  replace hmany : (m : Int) = j + 1 := by omega
  have hsb := hnm.sum _ (Nat.le_refl _)
  have hsln : (slc out a m).length = m := slc_len (by omega)
  rw [List.take_length, hsln] at hsb
  have hws := h.slc (a := a) (m := m) (by omega) (by omega)
  by_cases hmis : ¬ 0 < d - sumI (slc out a m)
  · rw [reqStep, if_neg (fun hc => hmis hc.2)] at hsucc
    repeat' (first | ((with_reducible apply xsim); (first | ((with_reducible apply xo); exact rfl) | ((with_reducible apply xst); exact rfl) | with_reducible apply xend | ((with_reducible apply xalloc); exact rfl; simp only [backV, backVs, backVs_mapd, backId, backO, List.map_cons, List.map_nil, List.getElem?_nil, List.length_cons, List.length_nil, Nat.reduceAdd, Nat.reduceSub, List.cons_append, List.nil_append, List.append_nil]) | ((with_reducible apply xidxL); exact rfl; exact rfl; exact rfl; (first | exact hrow); omega; first | exact rfl | simp only [hsz]) | ((with_reducible apply xslcMB); exact rfl; exact rfl; exact rfl; exact rfl; (first | omega | (simp only [List.length_cons, List.length_nil]; omega))) | ((with_reducible apply xcallLend [0]); exact rfl; exact cs; (focus (first | exact rfl | (simp -implicitDefEqProofs only [go_sem, ↓reduceIte, Nat.reduceEqDiff, List.length_map, hsl, hle]; done))); exact rfl; exact rfl))) | ((with_reducible apply xaw); (first | ((with_reducible apply xstepS); refine AW.step tok rfl ?_) | ((with_reducible apply xstep); refine AW.region tok rfl ?_) | with_reducible (first | refine AW.seq ?_ | refine AW.block ?_ | refine AW.skip ?_) | ((with_reducible apply xcond); exact rfl) | ((with_reducible apply xdraw (id := 15)); refine AW.draw (id := 15) (.q 0 (.q 2 (.q 3 (.q 4 (.q 5 (.q 6 (.two 1 (.e 7 (.q 8 (.q 9 (.fin)))) 7 (.e 1 (.q 8 (.q 9 (.fin))))))))))) tok (by kernel_rfl) rfl (by kernel_rfl) ?_))) | ((with_reducible apply xarun); (first | ((with_reducible apply xrun_q); exact rfl; exact rfl; exact rfl) | ((with_reducible apply xrun_e); exact rfl) | with_reducible apply xrun_f | ((with_reducible apply xrun_2); exact rfl; exact rfl))) | with_reducible (first | refine xthen ?_ | refine xblock ?_) | (with_reducible intro hc; (try simp only [decide_eq_true_eq, decide_eq_false_iff_not, Bool.not_true, Bool.not_false, Bool.not_eq_true', Bool.not_eq_false', ne_eq, not_true, reduceCtorEq, List.length_map, hsl, hle] at hc); (try (exfalso; omega))) | with_reducible (first | exact trivial | refine And.intro ?_ ?_ | exact rfl) | exact Eq.refl true | (refine inR_i64.mpr ?_; first | omega | (simp only [List.length_map, List.length_map, hsl, hle]; omega)))
    all_goals refine round_end (k+1) hkl (by omega) (by (refine xwk (π := [0]) (by decide) rfl ?_ ?_; (first | simp -implicitDefEqProofs only [go_sem, Int.reduceEq, Int.reduceLT, Int.reduceLE, Nat.reduceAdd, Nat.reduceSub, Nat.reduceMul, Nat.reduceEqDiff, Nat.reduceLeDiff, Nat.reducePow, ↓reduceIte, reduceCtorEq, hsucc]); repeat' (first | exact renE_n | ((with_reducible apply renE_c); exact rfl; focus (first | (simp -implicitDefEqProofs only [go_sem, Int.reduceEq, Int.reduceLT, Int.reduceLE, Nat.reduceAdd, Nat.reduceSub, Nat.reduceMul, Nat.reduceEqDiff, Nat.reduceLeDiff, Nat.reducePow, ↓reduceIte, reduceCtorEq, hsucc]; done))))))
  replace hmis : 0 < d - sumI (slc out a m) := by omega
  have csp := c_spreadI (d - sumI (slc out a m)) (slc (weights ls) a m) (by omega) hws
  have hpl : (spread (d - sumI (slc out a m)) (slc (weights ls) a m)).length = m := by rw [spread_len]; exact slc_len (by rw [weights_len]; omega)
  have hpb := spread_bd hws (n := d - sumI (slc out a m)) (by omega)
  have hstep : reqRound ls ss (j + 1) (reqs ls ss j) (k + 1) = putN (spread (d - sumI (slc out a m)) (slc (weights ls) a m)) a m out := by rw [hsucc, reqStep, if_pos ⟨hmany, hmis⟩]; rfl
  generalize hps : spread (d - sumI (slc out a m)) (slc (weights ls) a m) = ps at *
  repeat' (first | ((with_reducible apply xsim); (first | ((with_reducible apply xo); exact rfl) | ((with_reducible apply xst); exact rfl) | with_reducible apply xend | ((with_reducible apply xalloc); exact rfl; simp only [backV, backVs, backVs_mapd, backId, backO, List.map_cons, List.map_nil, List.getElem?_nil, List.length_cons, List.length_nil, Nat.reduceAdd, Nat.reduceSub, List.cons_append, List.nil_append, List.append_nil]) | ((with_reducible apply xidxL); exact rfl; exact rfl; exact rfl; (first | exact hrow); omega; first | exact rfl | simp only [hsz]) | ((with_reducible apply xslcB); exact rfl; exact rfl; exact rfl; exact rfl; exact (fun r hr => by obtain ⟨a, _, rfl⟩ := List.mem_map.1 hr; rfl); first | omega | (simp only [List.length_cons, List.length_nil]; omega)) | ((with_reducible apply xslcMB); exact rfl; exact rfl; exact rfl; exact rfl; (first | omega | (simp only [List.length_cons, List.length_nil]; omega))) | ((with_reducible apply xcallIs); exact rfl; exact rfl; exact cw; exact rfl) | ((with_reducible apply xcallLend [0]); exact rfl; exact cs; (focus (first | exact rfl | (simp -implicitDefEqProofs only [go_sem, ↓reduceIte, Nat.reduceEqDiff, List.length_map, hsl, hle]; done))); exact rfl; exact rfl) | ((with_reducible apply xcallOwn); exact rfl; exact rfl; exact csp; simp only [backV, backVs, backVs_mapd, backId, backO, List.map_cons, List.map_nil, List.getElem?_nil, List.length_cons, List.length_nil, Nat.reduceAdd, Nat.reduceSub, List.cons_append, List.nil_append, List.append_nil]))) | ((with_reducible apply xaw); (first | ((with_reducible apply xstepS); refine AW.step tok rfl ?_) | with_reducible (first | refine AW.seq ?_ | refine AW.block ?_ | refine AW.skip ?_) | ((with_reducible apply xcond); exact rfl) | ((with_reducible apply xdraw (id := 15)); refine AW.draw (id := 15) (.q 0 (.q 2 (.q 3 (.q 4 (.q 5 (.q 6 (.two 1 (.e 7 (.q 8 (.q 9 (.fin)))) 7 (.e 1 (.q 8 (.q 9 (.fin))))))))))) tok (by kernel_rfl) rfl (by kernel_rfl) ?_))) | ((with_reducible apply xarun); (first | ((with_reducible apply xrun_q); exact rfl; exact rfl; exact rfl) | ((with_reducible apply xrun_e); exact rfl) | with_reducible apply xrun_f | ((with_reducible apply xrun_2); exact rfl; exact rfl))) | with_reducible refine xthen ?_ | (with_reducible intro hc; (try simp only [decide_eq_true_eq, decide_eq_false_iff_not, Bool.not_true, Bool.not_false, Bool.not_eq_true', Bool.not_eq_false', ne_eq, not_true, reduceCtorEq, List.length_map, hsl, hle] at hc); (try (exfalso; omega))) | with_reducible (first | exact trivial | refine And.intro ?_ ?_ | exact rfl) | exact Eq.refl true | (refine inR_i64.mpr ?_; first | omega | (simp only [List.length_map, List.length_map, hsl, hle]; omega)))
  all_goals
    refine AW.loop (S := fun i : Nat => ⟨[(0, .d (.lst (ls.map encLine))), (1, .d (.lst (ss.map encSpan))), (5, .msl 0 1 0 ls.length), (8, .d (.int .i64 ((j : Int) + 1))), (10, .oref 1 0), (33, .d (.lst (ss.map encSpan))), (34, .d (.int .i64 ss.length)), (35, .d (.int .i64 k)), (66, .msl 2 1 0 m), (67, .d (.int .i64 m)), (68, .d (.int .i64 i))],
        [.arr 1 ((putN ps a i out).map encN), .box [.d (.int .i64 a), .d (.int .i64 m), .d (.int .i64 d)], .arr 1 (ps.map encN)], 86, 0⟩)
      (Pre := fun i => i ≤ m) (μ := fun i => m - i) 0 (Nat.zero_le _) ?_ ?_
    · (refine xwk (π := [0, 1, 2]) (by decide) rfl ?_ ?_; (first | simp -implicitDefEqProofs only [go_sem, Int.reduceEq, Int.reduceLT, Int.reduceLE, Nat.reduceAdd, Nat.reduceSub, Nat.reduceMul, Nat.reduceEqDiff, Nat.reduceLeDiff, Nat.reducePow, ↓reduceIte, reduceCtorEq, putN_zero, hpl]); repeat' (first | exact renE_n | ((with_reducible apply renE_c); exact rfl; focus (first | (simp -implicitDefEqProofs only [go_sem, Int.reduceEq, Int.reduceLT, Int.reduceLE, Nat.reduceAdd, Nat.reduceSub, Nat.reduceMul, Nat.reduceEqDiff, Nat.reduceLeDiff, Nat.reducePow, ↓reduceIte, reduceCtorEq, putN_zero, hpl]; done)))))
    · intro i hi
      by_cases hil : i < m
      · have hrp := at_map (f := encN) (xs := ps) (k := i) (by omega)
        have hp := hpb _ (List.getElem_mem (show i < ps.length by omega))
        have ho := hro.bd _ (List.getElem_mem (show a + i < out.length by omega))
        have hz : ((putN ps a i out).map encN)[idxAdd 0 ((a : Int) + (i : Int)).toNat]? = some [.int .i64 (out[a + i]'(by omega))] := by
          rw [show idxAdd 0 ((a : Int) + (i : Int)).toNat = a + i by rw [idxAdd_eq]; omega, List.getElem?_map, putN_at (by omega)]; rfl
        have hset : ((putN ps a i out).map encN).set ((a : Int) + (i : Int)).toNat [.int .i64 (out[a + i]'(by omega) + ps[i]'(by omega))] = (putN ps a (i + 1) out).map encN := by
          rw [show ((a : Int) + (i : Int)).toNat = a + i by omega, ← putN_set (by omega) (by omega), List.map_set]; rfl
        repeat' (first | ((with_reducible apply xsim); (first | ((with_reducible apply xo); exact rfl) | with_reducible apply xend | ((with_reducible apply xidxM); exact rfl; exact rfl; exact rfl; omega; omega; exact rfl) | ((with_reducible apply xldA); exact rfl; exact rfl; exact rfl; (first | exact hrp | exact hz); exact rfl) | ((with_reducible apply xstA); exact rfl; exact rfl; exact rfl; exact rfl; (first | exact hrp | exact hz); exact rfl; exact rfl; exact rfl; exact rfl; (try simp only [List.set_cons_zero, List.set_cons_succ])))) | ((with_reducible apply xaw); (first | ((with_reducible apply xstepS); refine AW.step tok rfl ?_) | ((with_reducible apply xstep); refine AW.region tok rfl ?_) | with_reducible (first | refine AW.seq ?_ | refine AW.block ?_ | refine AW.skip ?_) | ((with_reducible apply xcond); exact rfl))) | with_reducible (first | refine xthen ?_ | refine xblock ?_) | (with_reducible intro hc; (try simp only [decide_eq_true_eq, decide_eq_false_iff_not, Bool.not_true, Bool.not_false, Bool.not_eq_true', Bool.not_eq_false', ne_eq, not_true, reduceCtorEq] at hc); (try (exfalso; omega))) | with_reducible (first | exact trivial | refine And.intro ?_ ?_ | exact rfl) | (refine inR_i64.mpr ?_; first | omega | (simp only [List.length_map]; omega)))
        refine round_end (i+1) hil (by omega) (by (refine xwk (π := [0, 1, 2]) (by decide) rfl ?_ ?_; (first | simp -implicitDefEqProofs only [go_sem, Int.reduceEq, Int.reduceLT, Int.reduceLE, Nat.reduceAdd, Nat.reduceSub, Nat.reduceMul, Nat.reduceEqDiff, Nat.reduceLeDiff, Nat.reducePow, ↓reduceIte, reduceCtorEq, hset]); repeat' (first | exact renE_n | ((with_reducible apply renE_c); exact rfl; focus (first | (simp -implicitDefEqProofs only [go_sem, Int.reduceEq, Int.reduceLT, Int.reduceLE, Nat.reduceAdd, Nat.reduceSub, Nat.reduceMul, Nat.reduceEqDiff, Nat.reduceLeDiff, Nat.reducePow, ↓reduceIte, reduceCtorEq, hset]; done))))))
      · have hi' : i = m := by omega
        subst hi'
        repeat' (first | ((with_reducible apply xsim); (first | ((with_reducible apply xo); exact rfl) | with_reducible apply xend)) | ((with_reducible apply xaw); (first | ((with_reducible apply xstepS); refine AW.step tok rfl ?_) | ((with_reducible apply xstep); refine AW.region tok rfl ?_) | with_reducible (first | refine AW.seq ?_ | refine AW.exit ?_) | ((with_reducible apply xcond); exact rfl))) | with_reducible (first | refine xthen ?_ | refine xthen_e ?_ | refine xblock ?_ | refine xblock_e ?_ | refine xround_e ?_) | (with_reducible intro hc; (try simp only [decide_eq_true_eq, decide_eq_false_iff_not, Bool.not_true, Bool.not_false, Bool.not_eq_true', Bool.not_eq_false', ne_eq, not_true, reduceCtorEq] at hc); (try (exfalso; omega))) | with_reducible (first | exact trivial | refine And.intro ?_ ?_ | exact rfl) | (refine inR_i64.mpr ?_; first | omega | (simp only [List.length_map]; omega)))
        refine round_end (k+1) hkl (by omega) (by (refine xwk (π := [0]) (by decide) rfl ?_ ?_; (first | simp -implicitDefEqProofs only [go_sem, Int.reduceEq, Int.reduceLT, Int.reduceLE, Nat.reduceAdd, Nat.reduceSub, Nat.reduceMul, Nat.reduceEqDiff, Nat.reduceLeDiff, Nat.reducePow, ↓reduceIte, reduceCtorEq, hstep]); repeat' (first | exact renE_n | ((with_reducible apply renE_c); exact rfl; focus (first | (simp -implicitDefEqProofs only [go_sem, Int.reduceEq, Int.reduceLT, Int.reduceLE, Nat.reduceAdd, Nat.reduceSub, Nat.reduceMul, Nat.reduceEqDiff, Nat.reduceLeDiff, Nat.reducePow, ↓reduceIte, reduceCtorEq, hstep]; done))))))
end Go.Proofs.Yticgjepndfjafaa

namespace Go.Proofs.Yticgjepndfjafaa
open Go.Fw
attribute [local irreducible] Go.Fw.aops Go.Fw.arun

theorem c_wished (ls : List Line) (ss : List Span) (h : LOk ls) (hs : SOk ss ls.length) : ACon Try.prog 123 [.d (.lst (ls.map encLine)), .d (.lst (ss.map encSpan))] [] (ONums (requests ls ss)) := by
  have hlo := h.lo; have hhi := h.hi; have hsh := hs.hi
  have hml := mins_len ls
  refine ACon.introW tok (nt := 100) Try.func123 rfl rfl rfl (by kernel_rfl) rfl ?_
  repeat' (first | ((with_reducible apply xsim); (first | ((with_reducible apply xo); exact rfl) | with_reducible apply xend | ((with_reducible apply xbuild); exact rfl; exact rfl; exact rfl; exact rfl; exact rfl; simp only [backV, backVs, backVs_mapd, backId, backO, List.map_cons, List.map_nil, List.getElem?_nil, List.length_cons, List.length_nil, Nat.reduceAdd, Nat.reduceSub, List.cons_append, List.nil_append, List.append_nil]))) | ((with_reducible apply xaw); (first | ((with_reducible apply xstepS); refine AW.step tok rfl ?_) | with_reducible (first | refine AW.seq ?_ | refine AW.block ?_))) | with_reducible exact trivial)
  refine AW.loop (S := fun k : Nat => ⟨[(0, .d (.lst (ls.map encLine))), (1, .d (.lst (ss.map encSpan))), (5, .msl 0 1 0 k), (6, .d (.int .i64 k))], [.arr 1 (((mins ls).take k).map encN)], 100, 0⟩)
    (Pre := fun k => k ≤ ls.length) (μ := fun k => ls.length - k) 0 (Nat.zero_le _) ?_ ?_
  · (refine xwk (π := [0]) (by decide) rfl ?_ ?_; (first | simp -implicitDefEqProofs only [go_sem, Int.reduceEq, Int.reduceLT, Int.reduceLE, Nat.reduceAdd, Nat.reduceSub, Nat.reduceMul, Nat.reduceEqDiff, Nat.reduceLeDiff, Nat.reducePow, ↓reduceIte, reduceCtorEq, List.take_zero]); repeat' (first | exact renE_n | ((with_reducible apply renE_c); exact rfl; focus (first | (simp -implicitDefEqProofs only [go_sem, Int.reduceEq, Int.reduceLT, Int.reduceLE, Nat.reduceAdd, Nat.reduceSub, Nat.reduceMul, Nat.reduceEqDiff, Nat.reduceLeDiff, Nat.reducePow, ↓reduceIte, reduceCtorEq, List.take_zero]; done)))))
  intro k hk
  have htl : ((mins ls).take k).length = k := by simp [hml]; omega
  by_cases hlt : k < ls.length
  · have hrow := at_map (f := encLine) hlt
    have hsu := mins_take hlt
    repeat' (first | ((with_reducible apply xsim); (first | ((with_reducible apply xlenM); exact rfl; exact rfl) | ((with_reducible apply xo); exact rfl) | with_reducible apply xend | ((with_reducible apply xbuild); exact rfl; exact rfl; exact rfl; exact rfl; exact rfl; simp only [backV, backVs, backVs_mapd, backId, backO, List.map_cons, List.map_nil, List.getElem?_nil, List.length_cons, List.length_nil, Nat.reduceAdd, Nat.reduceSub, List.cons_append, List.nil_append, List.append_nil]) | ((with_reducible apply xidxL); exact rfl; exact rfl; exact rfl; (first | exact hrow); omega; first | exact rfl | simp only [hsz]) | simp -implicitDefEqProofs only [go_sem, Int.reduceEq, Int.reduceLT, Int.reduceLE, Nat.reduceAdd, Nat.reduceSub, Nat.reduceMul, Nat.reduceEqDiff, Nat.reduceLeDiff, Nat.reducePow, ↓reduceIte, reduceCtorEq, List.length_map, htl])) | ((with_reducible apply xaw); (first | ((with_reducible apply xstepS); refine AW.step tok rfl ?_) | ((with_reducible apply xstep); refine AW.region tok rfl ?_) | with_reducible (first | refine AW.seq ?_ | refine AW.block ?_ | refine AW.skip ?_) | ((with_reducible apply xcond); exact rfl))) | with_reducible refine xthen ?_ | (with_reducible intro hc; (try simp only [decide_eq_true_eq, decide_eq_false_iff_not, Bool.not_true, Bool.not_false, Bool.not_eq_true', Bool.not_eq_false', ne_eq, not_true, reduceCtorEq, List.length_map, htl] at hc); (try (exfalso; omega))) | with_reducible (first | exact trivial | refine And.intro ?_ ?_ | exact rfl) | (refine inR_i64.mpr ?_; first | omega | (simp only [List.length_map, List.length_map, htl]; omega)) | omega)
    refine round_end (k+1) hlt (by omega) (by (refine xwk (π := [2]) (by decide) rfl ?_ ?_; (first | simp -implicitDefEqProofs only [go_sem, Int.reduceEq, Int.reduceLT, Int.reduceLE, Nat.reduceAdd, Nat.reduceSub, Nat.reduceMul, Nat.reduceEqDiff, Nat.reduceLeDiff, Nat.reducePow, ↓reduceIte, reduceCtorEq, hsu, List.map_append, encN]); repeat' (first | exact renE_n | ((with_reducible apply renE_c); exact rfl; focus (first | (simp -implicitDefEqProofs only [go_sem, Int.reduceEq, Int.reduceLT, Int.reduceLE, Nat.reduceAdd, Nat.reduceSub, Nat.reduceMul, Nat.reduceEqDiff, Nat.reduceLeDiff, Nat.reducePow, ↓reduceIte, reduceCtorEq, hsu, List.map_append, encN]; done))))))
  have hk' : k = ls.length := by omega
  subst hk'
  have hta : (mins ls).take ls.length = mins ls := by rw [← hml, List.take_length]
  rw [hta]
  repeat' (first | ((with_reducible apply xsim); (first | ((with_reducible apply xlenM); exact rfl; exact rfl) | ((with_reducible apply xo); exact rfl) | with_reducible apply xend)) | ((with_reducible apply xaw); (first | ((with_reducible apply xstepS); refine AW.step tok rfl ?_) | with_reducible (first | refine AW.seq ?_ | refine AW.block ?_ | refine AW.exit ?_) | ((with_reducible apply xcond); exact rfl))) | with_reducible (first | refine xthen ?_ | refine xthen_e ?_ | refine xblock_e ?_ | refine xround_e ?_) | (with_reducible intro hc; (try simp only [decide_eq_true_eq, decide_eq_false_iff_not, Bool.not_true, Bool.not_false, Bool.not_eq_true', Bool.not_eq_false', ne_eq, not_true, reduceCtorEq, List.length_map] at hc); (try (exfalso; omega))) | with_reducible (first | exact trivial | refine And.intro ?_ ?_ | exact rfl))
  refine AW.loop (S := fun j : Nat => ⟨[(0, .d (.lst (ls.map encLine))), (1, .d (.lst (ss.map encSpan))), (5, .msl 0 1 0 ls.length), (7, .d (.int .i64 ((j : Int) + 1)))], [.arr 1 ((reqs ls ss j).map encN)], 100, 0⟩)
    (Pre := fun j => j ≤ ls.length) (μ := fun j => ls.length - j) 0 (Nat.zero_le _) ?_ ?_
  · (refine xwk (π := [0]) (by decide) rfl ?_ ?_; (first | simp -implicitDefEqProofs only [go_sem, Int.reduceEq, Int.reduceLT, Int.reduceLE, Nat.reduceAdd, Nat.reduceSub, Nat.reduceMul, Nat.reduceEqDiff, Nat.reduceLeDiff, Nat.reducePow, ↓reduceIte, reduceCtorEq, reqs]); repeat' (first | exact renE_n | ((with_reducible apply renE_c); exact rfl; focus (first | (simp -implicitDefEqProofs only [go_sem, Int.reduceEq, Int.reduceLT, Int.reduceLE, Nat.reduceAdd, Nat.reduceSub, Nat.reduceMul, Nat.reduceEqDiff, Nat.reduceLeDiff, Nat.reducePow, ↓reduceIte, reduceCtorEq, reqs]; done) | (simp -implicitDefEqProofs only [go_sem, Int.reduceEq, Int.reduceLT, Int.reduceLE, Nat.reduceAdd, Nat.reduceSub, Nat.reduceMul, Nat.reduceEqDiff, Nat.reduceLeDiff, Nat.reducePow, ↓reduceIte, reduceCtorEq, reqs]; omega)))))
  intro j hj
  have hjr := reqs_rok h hs j
  by_cases hjl : ¬ j < ls.length
  · have hj' : j = ls.length := by omega
    subst hj'
    have hrl := (requests_rok h hs).len
    repeat' (first | ((with_reducible apply xsim); (first | ((with_reducible apply xlenM); exact rfl; exact rfl) | ((with_reducible apply xo); exact rfl) | with_reducible apply xend)) | ((with_reducible apply xaw); (first | ((with_reducible apply xstepS); refine AW.step tok rfl ?_) | with_reducible (first | refine AW.seq ?_ | refine AW.ret ?_ | refine AW.exit ?_) | ((with_reducible apply xcond); exact rfl))) | with_reducible (first | refine xthen ?_ | refine xthen_e ?_ | refine xblock_e ?_ | refine xround_e ?_) | (with_reducible intro hc; (try simp only [decide_eq_true_eq, decide_eq_false_iff_not, Bool.not_true, Bool.not_false, Bool.not_eq_true', Bool.not_eq_false', ne_eq, not_true, reduceCtorEq, List.length_map] at hc); (try (exfalso; omega))) | with_reducible (first | exact trivial | refine And.intro ?_ ?_ | exact rfl))
    (refine xfinOwn [0] (by first | exact .inl rfl | exact .inr rfl) rfl (by repeat' (first | exact trivial | exact rfl | refine And.intro ?_ ?_)) (by decide) rfl ?_ ?_ <;> simp -implicitDefEqProofs only [go_sem, Int.reduceEq, Int.reduceLT, Int.reduceLE, Nat.reduceAdd, Nat.reduceSub, Nat.reduceMul, Nat.reduceEqDiff, Nat.reduceLeDiff, Nat.reducePow, ↓reduceIte, reduceCtorEq, requests, hjr.len])
  replace hjl : j < ls.length := by omega
  repeat' (first | ((with_reducible apply xsim); (first | ((with_reducible apply xlenM); exact rfl; exact rfl) | ((with_reducible apply xo); exact rfl) | with_reducible apply xend)) | ((with_reducible apply xaw); (first | ((with_reducible apply xstepS); refine AW.step tok rfl ?_) | with_reducible (first | refine AW.seq ?_ | refine AW.block ?_ | refine AW.skip ?_) | ((with_reducible apply xcond); exact rfl))) | with_reducible refine xthen ?_ | (with_reducible intro hc; (try simp only [decide_eq_true_eq, decide_eq_false_iff_not, Bool.not_true, Bool.not_false, Bool.not_eq_true', Bool.not_eq_false', ne_eq, not_true, reduceCtorEq, List.length_map] at hc); (try (exfalso; omega))) | with_reducible (first | exact trivial | refine And.intro ?_ ?_ | exact rfl))
  refine AW.loop (S := fun k : Nat => ⟨[(0, .d (.lst (ls.map encLine))), (1, .d (.lst (ss.map encSpan))), (5, .msl 0 1 0 ls.length), (7, .d (.int .i64 ((j : Int) + 1))), (8, .d (.int .i64 k))], [.arr 1 ((reqRound ls ss (j + 1) (reqs ls ss j) k).map encN)], 100, 0⟩)
    (Pre := fun k => k ≤ ss.length) (μ := fun k => ss.length - k) 0 (Nat.zero_le _) ?_ ?_
  · (refine xwk (π := [0]) (by decide) rfl ?_ ?_; (first | simp -implicitDefEqProofs only [go_sem, Int.reduceEq, Int.reduceLT, Int.reduceLE, Nat.reduceAdd, Nat.reduceSub, Nat.reduceMul, Nat.reduceEqDiff, Nat.reduceLeDiff, Nat.reducePow, ↓reduceIte, reduceCtorEq, reqRound_zero]); repeat' (first | exact renE_n | ((with_reducible apply renE_c); exact rfl; focus (first | (simp -implicitDefEqProofs only [go_sem, Int.reduceEq, Int.reduceLT, Int.reduceLE, Nat.reduceAdd, Nat.reduceSub, Nat.reduceMul, Nat.reduceEqDiff, Nat.reduceLeDiff, Nat.reducePow, ↓reduceIte, reduceCtorEq, reqRound_zero]; done)))))
  intro k hk
  by_cases hkl : ¬ k < ss.length
  · have hk' : k = ss.length := by omega
    subst hk'
    repeat' (first | ((with_reducible apply xsim); (first | ((with_reducible apply xlenM); exact rfl; exact rfl) | ((with_reducible apply xo); exact rfl) | with_reducible apply xend)) | ((with_reducible apply xaw); (first | ((with_reducible apply xstepS); refine AW.step tok rfl ?_) | ((with_reducible apply xstep); refine AW.region tok rfl ?_) | with_reducible (first | refine AW.seq ?_ | refine AW.exit ?_) | ((with_reducible apply xcond); exact rfl))) | with_reducible (first | refine xthen ?_ | refine xthen_e ?_ | refine xblock ?_ | refine xblock_e ?_ | refine xround_e ?_) | (with_reducible intro hc; (try simp only [decide_eq_true_eq, decide_eq_false_iff_not, Bool.not_true, Bool.not_false, Bool.not_eq_true', Bool.not_eq_false', ne_eq, not_true, reduceCtorEq, List.length_map] at hc); (try (exfalso; omega))) | with_reducible (first | exact trivial | refine And.intro ?_ ?_ | exact rfl) | (refine inR_i64.mpr ?_; first | omega | (simp only [List.length_map, List.length_map]; omega)))
    refine round_end (j+1) (by omega) (by omega) (by (refine xwk (π := [0]) (by decide) rfl ?_ ?_; (first | simp -implicitDefEqProofs only [go_sem, Int.reduceEq, Int.reduceLT, Int.reduceLE, Nat.reduceAdd, Nat.reduceSub, Nat.reduceMul, Nat.reduceEqDiff, Nat.reduceLeDiff, Nat.reducePow, ↓reduceIte, reduceCtorEq, reqs]); repeat' (first | exact renE_n | ((with_reducible apply renE_c); exact rfl; focus (first | (simp -implicitDefEqProofs only [go_sem, Int.reduceEq, Int.reduceLT, Int.reduceLE, Nat.reduceAdd, Nat.reduceSub, Nat.reduceMul, Nat.reduceEqDiff, Nat.reduceLeDiff, Nat.reducePow, ↓reduceIte, reduceCtorEq, reqs]; done))))))
  replace hkl : k < ss.length := by omega
  have hro := round_rok h hs hjr (m := j + 1) k hk
  have hrow := at_map (f := encSpan) hkl
  have hok := hs.ok _ (List.getElem_mem hkl)
  have hsucc := reqRound_succ (ls := ls) (m := j + 1) (out := reqs ls ss j) hkl
  generalize reqRound ls ss (j + 1) (reqs ls ss j) k = out at *
  generalize ss[k] = s at *
  obtain ⟨a, m, d⟩ := s
  dsimp only at hok
  obtain ⟨a, rfl⟩ := Int.eq_ofNat_of_zero_le hok.1
  obtain ⟨m, rfl⟩ := Int.eq_ofNat_of_zero_le (show 0 ≤ m by omega)
  have hol := hro.len
  have hsl : List.take (((a : Int) + m).toNat - a) (List.drop a (out.map encN)) = (slc out a m).map encN := by rw [slc, List.map_take, List.map_drop, show ((a : Int) + m).toNat - a = m by omega]
  have hle : a + (((a : Int) + m).toNat - a) ≤ out.length := by omega
  have ew : List.take (((a : Int) + m).toNat - (a : Int).toNat) (List.drop (a : Int).toNat ls) = slc ls a m := by rw [slc, show ((a : Int) + m).toNat - (a : Int).toNat = m by omega]; simp
  have hnm := hro.slc h.hi (a := a) (m := m)
  have cs := c_total (slc out a m) hnm
  have cw := c_weightsS (slc ls a m) (by rw [slc_len (by omega)]; omega)
  have hww : weights (slc ls a m) = slc (weights ls) a m := by simp [weights, slc_map]
  rw [hww, ← ew] at cw
  by_cases hmany : ¬ (m : Int) = j + 1
  · rw [reqStep, if_neg (fun hc => hmany hc.1)] at hsucc
    repeat' (first | ((with_reducible apply xsim); (first | ((with_reducible apply xlenM); exact rfl; exact rfl) | ((with_reducible apply xo); exact rfl) | ((with_reducible apply xst); exact rfl) | with_reducible apply xend | ((with_reducible apply xalloc); exact rfl; simp only [backV, backVs, backVs_mapd, backId, backO, List.map_cons, List.map_nil, List.getElem?_nil, List.length_cons, List.length_nil, Nat.reduceAdd, Nat.reduceSub, List.cons_append, List.nil_append, List.append_nil]) | ((with_reducible apply xidxL); exact rfl; exact rfl; exact rfl; (first | exact hrow); omega; first | exact rfl | simp only [hsz]))) | ((with_reducible apply xaw); (first | ((with_reducible apply xstepS); refine AW.step tok rfl ?_) | ((with_reducible apply xstep); refine AW.region tok rfl ?_) | with_reducible (first | refine AW.seq ?_ | refine AW.block ?_ | refine AW.skip ?_ | refine AW.exit ?_) | ((with_reducible apply xcond); exact rfl))) | with_reducible (first | refine xthen ?_ | refine xthen_e ?_ | refine xblock_e ?_) | (with_reducible intro hc; (try simp only [decide_eq_true_eq, decide_eq_false_iff_not, Bool.not_true, Bool.not_false, Bool.not_eq_true', Bool.not_eq_false', ne_eq, not_true, reduceCtorEq, List.length_map] at hc); (try (exfalso; omega))) | with_reducible (first | exact trivial | refine And.intro ?_ ?_ | exact rfl) | exact Eq.refl true | (refine inR_i64.mpr ?_; first | omega | (simp only [List.length_map, List.length_map]; omega)))
    refine round_end (k+1) hkl (by omega) (by (refine xwk (π := [0]) (by decide) rfl ?_ ?_; (first | simp -implicitDefEqProofs only [go_sem, Int.reduceEq, Int.reduceLT, Int.reduceLE, Nat.reduceAdd, Nat.reduceSub, Nat.reduceMul, Nat.reduceEqDiff, Nat.reduceLeDiff, Nat.reducePow, ↓reduceIte, reduceCtorEq, hsucc]); repeat' (first | exact renE_n | ((with_reducible apply renE_c); exact rfl; focus (first | (simp -implicitDefEqProofs only [go_sem, Int.reduceEq, Int.reduceLT, Int.reduceLE, Nat.reduceAdd, Nat.reduceSub, Nat.reduceMul, Nat.reduceEqDiff, Nat.reduceLeDiff, Nat.reducePow, ↓reduceIte, reduceCtorEq, hsucc]; done))))))
  replace hmany : (m : Int) = j + 1 := by omega
  have hsb := hnm.sum _ (Nat.le_refl _)
  have hsln : (slc out a m).length = m := slc_len (by omega)
  rw [List.take_length, hsln] at hsb
  have hws := h.slc (a := a) (m := m) (by omega) (by omega)
  by_cases hmis : ¬ 0 < d - sumI (slc out a m)
  · rw [reqStep, if_neg (fun hc => hmis hc.2)] at hsucc
    repeat' (first | ((with_reducible apply xsim); (first | ((with_reducible apply xlenM); exact rfl; exact rfl) | ((with_reducible apply xo); exact rfl) | ((with_reducible apply xst); exact rfl) | with_reducible apply xend | ((with_reducible apply xalloc); exact rfl; simp only [backV, backVs, backVs_mapd, backId, backO, List.map_cons, List.map_nil, List.getElem?_nil, List.length_cons, List.length_nil, Nat.reduceAdd, Nat.reduceSub, List.cons_append, List.nil_append, List.append_nil]) | ((with_reducible apply xidxL); exact rfl; exact rfl; exact rfl; (first | exact hrow); omega; first | exact rfl | simp only [hsz]) | ((with_reducible apply xslcMB); exact rfl; exact rfl; exact rfl; exact rfl; (first | omega | (simp only [List.length_cons, List.length_nil]; omega))) | ((with_reducible apply xcallLend [0]); exact rfl; exact cs; (focus (first | exact rfl | (simp -implicitDefEqProofs only [go_sem, ↓reduceIte, Nat.reduceEqDiff, List.length_map, hsl, hle]; done))); exact rfl; exact rfl))) | ((with_reducible apply xaw); (first | ((with_reducible apply xstepS); refine AW.step tok rfl ?_) | ((with_reducible apply xstep); refine AW.region tok rfl ?_) | with_reducible (first | refine AW.seq ?_ | refine AW.block ?_ | refine AW.skip ?_ | refine AW.exit ?_) | ((with_reducible apply xcond); exact rfl) | ((with_reducible apply xdraw (id := 14)); refine AW.draw (id := 14) (.q 0 (.q 2 (.q 3 (.q 4 (.q 5 (.q 6 (.q 7 (.q 8 (.q 9 (.q 10 (.two 1 (.e 11 (.q 12 (.q 13 (.fin)))) 11 (.e 1 (.q 12 (.q 13 (.fin))))))))))))))) tok (by kernel_rfl) rfl (by kernel_rfl) ?_))) | ((with_reducible apply xarun); (first | ((with_reducible apply xrun_q); exact rfl; exact rfl; exact rfl) | ((with_reducible apply xrun_e); exact rfl) | with_reducible apply xrun_f | ((with_reducible apply xrun_2); exact rfl; exact rfl))) | with_reducible (first | refine xthen ?_ | refine xthen_e ?_ | refine xblock_e ?_) | (with_reducible intro hc; (try simp only [decide_eq_true_eq, decide_eq_false_iff_not, Bool.not_true, Bool.not_false, Bool.not_eq_true', Bool.not_eq_false', ne_eq, not_true, reduceCtorEq, List.length_map, hsl, hle] at hc); (try (exfalso; omega))) | with_reducible (first | exact trivial | refine And.intro ?_ ?_ | exact rfl) | exact Eq.refl true | (refine inR_i64.mpr ?_; first | omega | (simp only [List.length_map, List.length_map, hsl, hle]; omega)))
    all_goals refine round_end (k+1) hkl (by omega) (by (refine xwk (π := [0]) (by decide) rfl ?_ ?_; (first | simp -implicitDefEqProofs only [go_sem, Int.reduceEq, Int.reduceLT, Int.reduceLE, Nat.reduceAdd, Nat.reduceSub, Nat.reduceMul, Nat.reduceEqDiff, Nat.reduceLeDiff, Nat.reducePow, ↓reduceIte, reduceCtorEq, hsucc]); repeat' (first | exact renE_n | ((with_reducible apply renE_c); exact rfl; focus (first | (simp -implicitDefEqProofs only [go_sem, Int.reduceEq, Int.reduceLT, Int.reduceLE, Nat.reduceAdd, Nat.reduceSub, Nat.reduceMul, Nat.reduceEqDiff, Nat.reduceLeDiff, Nat.reducePow, ↓reduceIte, reduceCtorEq, hsucc]; done))))))
  replace hmis : 0 < d - sumI (slc out a m) := by omega
  have csp := c_spreadS (d - sumI (slc out a m)) (slc (weights ls) a m) (by omega) hws
  have hpl : (spread (d - sumI (slc out a m)) (slc (weights ls) a m)).length = m := by rw [spread_len]; exact slc_len (by rw [weights_len]; omega)
  have hpb := spread_bd hws (n := d - sumI (slc out a m)) (by omega)
  have hstep : reqRound ls ss (j + 1) (reqs ls ss j) (k + 1) = putN (spread (d - sumI (slc out a m)) (slc (weights ls) a m)) a m out := by rw [hsucc, reqStep, if_pos ⟨hmany, hmis⟩]; rfl
  generalize hps : spread (d - sumI (slc out a m)) (slc (weights ls) a m) = ps at *
  repeat' (first | ((with_reducible apply xsim); (first | ((with_reducible apply xlenM); exact rfl; exact rfl) | ((with_reducible apply xo); exact rfl) | ((with_reducible apply xst); exact rfl) | with_reducible apply xend | ((with_reducible apply xalloc); exact rfl; simp only [backV, backVs, backVs_mapd, backId, backO, List.map_cons, List.map_nil, List.getElem?_nil, List.length_cons, List.length_nil, Nat.reduceAdd, Nat.reduceSub, List.cons_append, List.nil_append, List.append_nil]) | ((with_reducible apply xidxL); exact rfl; exact rfl; exact rfl; (first | exact hrow); omega; first | exact rfl | simp only [hsz]) | ((with_reducible apply xslcB); exact rfl; exact rfl; exact rfl; exact rfl; exact (fun r hr => by obtain ⟨a, _, rfl⟩ := List.mem_map.1 hr; rfl); first | omega | (simp only [List.length_cons, List.length_nil]; omega)) | ((with_reducible apply xslcMB); exact rfl; exact rfl; exact rfl; exact rfl; (first | omega | (simp only [List.length_cons, List.length_nil]; omega))) | ((with_reducible apply xcallIs); exact rfl; exact rfl; exact cw; exact rfl) | ((with_reducible apply xcallLend [0]); exact rfl; exact cs; (focus (first | exact rfl | (simp -implicitDefEqProofs only [go_sem, ↓reduceIte, Nat.reduceEqDiff, List.length_map, hsl, hle]; done))); exact rfl; exact rfl) | ((with_reducible apply xcallOwn); exact rfl; exact rfl; exact csp; simp only [backV, backVs, backVs_mapd, backId, backO, List.map_cons, List.map_nil, List.getElem?_nil, List.length_cons, List.length_nil, Nat.reduceAdd, Nat.reduceSub, List.cons_append, List.nil_append, List.append_nil]))) | ((with_reducible apply xaw); (first | ((with_reducible apply xstepS); refine AW.step tok rfl ?_) | with_reducible (first | refine AW.seq ?_ | refine AW.block ?_ | refine AW.skip ?_) | ((with_reducible apply xcond); exact rfl) | ((with_reducible apply xdraw (id := 14)); refine AW.draw (id := 14) (.q 0 (.q 2 (.q 3 (.q 4 (.q 5 (.q 6 (.q 7 (.q 8 (.q 9 (.q 10 (.two 1 (.e 11 (.q 12 (.q 13 (.fin)))) 11 (.e 1 (.q 12 (.q 13 (.fin))))))))))))))) tok (by kernel_rfl) rfl (by kernel_rfl) ?_))) | ((with_reducible apply xarun); (first | ((with_reducible apply xrun_q); exact rfl; exact rfl; exact rfl) | ((with_reducible apply xrun_e); exact rfl) | with_reducible apply xrun_f | ((with_reducible apply xrun_2); exact rfl; exact rfl))) | with_reducible refine xthen ?_ | (with_reducible intro hc; (try simp only [decide_eq_true_eq, decide_eq_false_iff_not, Bool.not_true, Bool.not_false, Bool.not_eq_true', Bool.not_eq_false', ne_eq, not_true, reduceCtorEq, List.length_map, hsl, hle] at hc); (try (exfalso; omega))) | with_reducible (first | exact trivial | refine And.intro ?_ ?_ | exact rfl) | exact Eq.refl true | (refine inR_i64.mpr ?_; first | omega | (simp only [List.length_map, List.length_map, hsl, hle]; omega)))
  all_goals
    refine AW.loop (S := fun i : Nat => ⟨[(0, .d (.lst (ls.map encLine))), (1, .d (.lst (ss.map encSpan))), (5, .msl 0 1 0 ls.length), (7, .d (.int .i64 ((j : Int) + 1))), (8, .d (.int .i64 k)), (9, .oref 1 0), (11, .msl 2 1 0 m), (12, .d (.int .i64 i))],
        [.arr 1 ((putN ps a i out).map encN), .box [.d (.int .i64 a), .d (.int .i64 m), .d (.int .i64 d)], .arr 1 (ps.map encN)], 100, 0⟩)
      (Pre := fun i => i ≤ m) (μ := fun i => m - i) 0 (Nat.zero_le _) ?_ ?_
    · (refine xwk (π := [0, 1, 2]) (by decide) rfl ?_ ?_; (first | simp -implicitDefEqProofs only [go_sem, Int.reduceEq, Int.reduceLT, Int.reduceLE, Nat.reduceAdd, Nat.reduceSub, Nat.reduceMul, Nat.reduceEqDiff, Nat.reduceLeDiff, Nat.reducePow, ↓reduceIte, reduceCtorEq, putN_zero, hpl]); repeat' (first | exact renE_n | ((with_reducible apply renE_c); exact rfl; focus (first | (simp -implicitDefEqProofs only [go_sem, Int.reduceEq, Int.reduceLT, Int.reduceLE, Nat.reduceAdd, Nat.reduceSub, Nat.reduceMul, Nat.reduceEqDiff, Nat.reduceLeDiff, Nat.reducePow, ↓reduceIte, reduceCtorEq, putN_zero, hpl]; done)))))
    · intro i hi
      by_cases hil : i < m
      · have hrp := at_map (f := encN) (xs := ps) (k := i) (by omega)
        have hp := hpb _ (List.getElem_mem (show i < ps.length by omega))
        have ho := hro.bd _ (List.getElem_mem (show a + i < out.length by omega))
        have hz : ((putN ps a i out).map encN)[idxAdd 0 ((a : Int) + (i : Int)).toNat]? = some [.int .i64 (out[a + i]'(by omega))] := by
          rw [show idxAdd 0 ((a : Int) + (i : Int)).toNat = a + i by rw [idxAdd_eq]; omega, List.getElem?_map, putN_at (by omega)]; rfl
        have hset : ((putN ps a i out).map encN).set ((a : Int) + (i : Int)).toNat [.int .i64 (out[a + i]'(by omega) + ps[i]'(by omega))] = (putN ps a (i + 1) out).map encN := by
          rw [show ((a : Int) + (i : Int)).toNat = a + i by omega, ← putN_set (by omega) (by omega), List.map_set]; rfl
        repeat' (first | ((with_reducible apply xsim); (first | ((with_reducible apply xo); exact rfl) | with_reducible apply xend | ((with_reducible apply xidxM); exact rfl; exact rfl; exact rfl; omega; omega; exact rfl) | ((with_reducible apply xldA); exact rfl; exact rfl; exact rfl; (first | exact hrp | exact hz); exact rfl) | ((with_reducible apply xstA); exact rfl; exact rfl; exact rfl; exact rfl; (first | exact hrp | exact hz); exact rfl; exact rfl; exact rfl; exact rfl; (try simp only [List.set_cons_zero, List.set_cons_succ])))) | ((with_reducible apply xaw); (first | ((with_reducible apply xstepS); refine AW.step tok rfl ?_) | ((with_reducible apply xstep); refine AW.region tok rfl ?_) | with_reducible (first | refine AW.seq ?_ | refine AW.block ?_ | refine AW.skip ?_) | ((with_reducible apply xcond); exact rfl) | ((with_reducible apply xdraw (id := 20)); refine AW.draw (id := 20) (.q 0 (.q 1 (.q 2 (.q 3 (.q 4 (.q 5 (.q 6 (.q 7 (.q 8 (.q 9 (.q 10 (.q 11 (.q 12 (.q 13 (.q 14 (.q 15 (.q 16 (.q 17 (.e 18 (.fin)))))))))))))))))))) tok (by kernel_rfl) rfl (by kernel_rfl) ?_))) | ((with_reducible apply xarun); (first | ((with_reducible apply xrun_q); exact rfl; exact rfl; exact rfl) | ((with_reducible apply xrun_e); exact rfl) | with_reducible apply xrun_f)) | with_reducible (first | refine xthen ?_ | refine xblock ?_) | (with_reducible intro hc; (try simp only [decide_eq_true_eq, decide_eq_false_iff_not, Bool.not_true, Bool.not_false, Bool.not_eq_true', Bool.not_eq_false', ne_eq, not_true, reduceCtorEq] at hc); (try (exfalso; omega))) | with_reducible (first | exact trivial | refine And.intro ?_ ?_ | exact rfl) | exact Eq.refl true | (refine inR_i64.mpr ?_; first | omega | (simp only [List.length_map]; omega)))
        refine round_end (i+1) hil (by omega) (by (refine xwk (π := [0, 1, 2]) (by decide) rfl ?_ ?_; (first | simp -implicitDefEqProofs only [go_sem, Int.reduceEq, Int.reduceLT, Int.reduceLE, Nat.reduceAdd, Nat.reduceSub, Nat.reduceMul, Nat.reduceEqDiff, Nat.reduceLeDiff, Nat.reducePow, ↓reduceIte, reduceCtorEq, hset]); repeat' (first | exact renE_n | ((with_reducible apply renE_c); exact rfl; focus (first | (simp -implicitDefEqProofs only [go_sem, Int.reduceEq, Int.reduceLT, Int.reduceLE, Nat.reduceAdd, Nat.reduceSub, Nat.reduceMul, Nat.reduceEqDiff, Nat.reduceLeDiff, Nat.reducePow, ↓reduceIte, reduceCtorEq, hset]; done))))))
      · have hi' : i = m := by omega
        subst hi'
        repeat' (first | ((with_reducible apply xsim); (first | ((with_reducible apply xo); exact rfl) | with_reducible apply xend)) | ((with_reducible apply xaw); (first | ((with_reducible apply xstepS); refine AW.step tok rfl ?_) | ((with_reducible apply xstep); refine AW.region tok rfl ?_) | with_reducible (first | refine AW.seq ?_ | refine AW.exit ?_) | ((with_reducible apply xcond); exact rfl))) | with_reducible (first | refine xthen ?_ | refine xthen_e ?_ | refine xblock ?_ | refine xblock_e ?_ | refine xround_e ?_) | (with_reducible intro hc; (try simp only [decide_eq_true_eq, decide_eq_false_iff_not, Bool.not_true, Bool.not_false, Bool.not_eq_true', Bool.not_eq_false', ne_eq, not_true, reduceCtorEq] at hc); (try (exfalso; omega))) | with_reducible (first | exact trivial | refine And.intro ?_ ?_ | exact rfl) | exact Eq.refl true | (refine inR_i64.mpr ?_; first | omega | (simp only [List.length_map]; omega)))
        refine round_end (k+1) hkl (by omega) (by (refine xwk (π := [0]) (by decide) rfl ?_ ?_; (first | simp -implicitDefEqProofs only [go_sem, Int.reduceEq, Int.reduceLT, Int.reduceLE, Nat.reduceAdd, Nat.reduceSub, Nat.reduceMul, Nat.reduceEqDiff, Nat.reduceLeDiff, Nat.reducePow, ↓reduceIte, reduceCtorEq, hstep]); repeat' (first | exact renE_n | ((with_reducible apply renE_c); exact rfl; focus (first | (simp -implicitDefEqProofs only [go_sem, Int.reduceEq, Int.reduceLT, Int.reduceLE, Nat.reduceAdd, Nat.reduceSub, Nat.reduceMul, Nat.reduceEqDiff, Nat.reduceLeDiff, Nat.reducePow, ↓reduceIte, reduceCtorEq, hstep]; done))))))
end Go.Proofs.Yticgjepndfjafaa

namespace Go.Proofs.Yticgjepndfjafaa
open Go.Fw
attribute [local irreducible] Go.Fw.aops Go.Fw.arun

theorem c_laws.equalInts (xs : List Int) (hl : xs.length < 2^63) : ACon Try.prog 19 [.d (.lst (xs.map encN)), .d (.lst (xs.map encN))] [] (Is (.d (.bool true))) := by
  refine ACon.introW tok (nt := 26) Try.func19 rfl rfl rfl (by kernel_rfl) rfl ?_
  repeat' (first | ((with_reducible apply xsim); (first | ((with_reducible apply xlenM); exact rfl; exact rfl) | ((with_reducible apply xo); exact rfl) | with_reducible apply xend)) | ((with_reducible apply xaw); (first | ((with_reducible apply xstepS); refine AW.step tok rfl ?_) | with_reducible (first | refine AW.seq ?_ | refine AW.block ?_ | refine AW.skip ?_) | ((with_reducible apply xcond); exact rfl))) | with_reducible refine xthen ?_ | (with_reducible intro hc; (try simp only [decide_eq_true_eq, decide_eq_false_iff_not, Bool.not_true, Bool.not_false, Bool.not_eq_true', Bool.not_eq_false', ne_eq, not_true, reduceCtorEq, List.length_map] at hc); (try (exfalso; omega))) | with_reducible (first | exact trivial | refine And.intro ?_ ?_ | exact rfl))
  refine AW.loop (S := fun k : Nat => ⟨[(0, .d (.lst (xs.map encN))), (1, .d (.lst (xs.map encN))), (5, .d (.int .i64 k))], [], 26, 0⟩)
    (Pre := fun k => k ≤ xs.length) (μ := fun k => xs.length - k) 0 (Nat.zero_le _) ?_ ?_
  · (refine xwk (π := []) (by decide) rfl ?_ ?_; (first | exact trivial); repeat' (first | exact renE_n | ((with_reducible apply renE_c); exact rfl; focus (first | (simp -implicitDefEqProofs only [go_sem, Int.reduceEq, Int.reduceLT, Int.reduceLE, Nat.reduceAdd, Nat.reduceSub, Nat.reduceMul, Nat.reduceEqDiff, Nat.reduceLeDiff, Nat.reducePow, ↓reduceIte, reduceCtorEq]; done)))))
  · intro k hk
    by_cases hlt : k < xs.length
    · have hrow := at_map (f := encN) hlt
      repeat' (first | ((with_reducible apply xsim); (first | ((with_reducible apply xlenM); exact rfl; exact rfl) | ((with_reducible apply xo); exact rfl) | with_reducible apply xend | ((with_reducible apply xidxL); exact rfl; exact rfl; exact rfl; (first | exact hrow); omega; first | exact rfl | simp only [hsz]))) | ((with_reducible apply xaw); (first | ((with_reducible apply xstepS); refine AW.step tok rfl ?_) | ((with_reducible apply xstep); refine AW.region tok rfl ?_) | with_reducible (first | refine AW.seq ?_ | refine AW.block ?_ | refine AW.skip ?_) | ((with_reducible apply xcond); exact rfl) | ((with_reducible apply xdraw (id := 6)); refine AW.draw (id := 6) (.q 0 (.q 1 (.q 2 (.q 3 (.q 4 (.q 5 (.q 6 (.q 7 (.q 8 (.fin)))))))))) tok (by kernel_rfl) rfl (by kernel_rfl) ?_))) | ((with_reducible apply xarun); (first | ((with_reducible apply xrun_q); exact rfl; exact rfl; exact rfl) | with_reducible apply xrun_f)) | with_reducible (first | refine xthen ?_ | refine xblock ?_) | (with_reducible intro hc; (try simp only [decide_eq_true_eq, decide_eq_false_iff_not, Bool.not_true, Bool.not_false, Bool.not_eq_true', Bool.not_eq_false', ne_eq, not_true, reduceCtorEq, List.length_map] at hc); (try (exfalso; omega))) | with_reducible (first | exact trivial | refine And.intro ?_ ?_ | exact rfl) | (refine inR_i64.mpr ?_; first | omega | (simp only [List.length_map, List.length_map]; omega)))
      all_goals refine round_end (k+1) hlt (by omega) (by (refine xwk (π := []) (by decide) rfl ?_ ?_; (first | exact trivial); repeat' (first | exact renE_n | ((with_reducible apply renE_c); exact rfl; focus (first | (simp -implicitDefEqProofs only [go_sem, Int.reduceEq, Int.reduceLT, Int.reduceLE, Nat.reduceAdd, Nat.reduceSub, Nat.reduceMul, Nat.reduceEqDiff, Nat.reduceLeDiff, Nat.reducePow, ↓reduceIte, reduceCtorEq]; done))))))
    · repeat' (first | ((with_reducible apply xsim); (first | ((with_reducible apply xlenM); exact rfl; exact rfl) | ((with_reducible apply xo); exact rfl) | with_reducible apply xend)) | ((with_reducible apply xaw); (first | ((with_reducible apply xstepS); refine AW.step tok rfl ?_) | with_reducible (first | refine AW.seq ?_ | refine AW.ret ?_ | refine AW.exit ?_) | ((with_reducible apply xcond); exact rfl))) | with_reducible (first | refine xthen ?_ | refine xthen_e ?_ | refine xblock_e ?_ | refine xround_e ?_) | (with_reducible intro hc; (try simp only [decide_eq_true_eq, decide_eq_false_iff_not, Bool.not_true, Bool.not_false, Bool.not_eq_true', Bool.not_eq_false', ne_eq, not_true, reduceCtorEq, List.length_map] at hc); (try (exfalso; omega))) | with_reducible (first | exact trivial | refine And.intro ?_ ?_ | exact rfl))
      (refine xfinIs (by first | exact .inl rfl | exact .inr rfl) rfl (by repeat' (first | exact trivial | exact rfl | refine And.intro ?_ ?_)) rfl ?_ rfl; first | with_reducible exact rfl)
end Go.Proofs.Yticgjepndfjafaa

namespace Go.Proofs.Yticgjepndfjafaa
open Go.Fw
attribute [local irreducible] Go.Fw.aops Go.Fw.arun

theorem colSpans_take {cs : List Cell} {k : Nat} (h : k < cs.length) : (colSpans cs).take (k + 1) = (colSpans cs).take k ++ [colSpan cs[k]] := by
  rw [List.take_succ_eq_append_getElem (by simp [colSpans]; exact h)]; simp [colSpans]
theorem rowSpans_take {cs : List Cell} {k : Nat} (h : k < cs.length) : (rowSpans cs).take (k + 1) = (rowSpans cs).take k ++ [rowSpan cs[k]] := by
  rw [List.take_succ_eq_append_getElem (by simp [rowSpans]; exact h)]; simp [rowSpans]

theorem c_spans (g : Grid) (h : GOk g) : ACon Try.prog 117 [vGrid g] [] (Is (.tup [.d (.lst ((colSpans g.cells).map encSpan)), .d (.lst ((rowSpans g.cells).map encSpan))])) := by
  have h8 := h.hi
  have hcl : (colSpans g.cells).length = g.cells.length := by simp [colSpans]
  have hrl : (rowSpans g.cells).length = g.cells.length := by simp [rowSpans]
  refine ACon.introW tok (nt := 46) Try.func117 rfl rfl rfl (by kernel_rfl) rfl ?_
  repeat' (first | ((with_reducible apply xsim); (first | ((with_reducible apply xlenM); exact rfl; exact rfl) | ((with_reducible apply xo); exact rfl) | with_reducible apply xend | ((with_reducible apply xbox); exact rfl; simp only [backV, backVs, backVs_mapd, backId, backO, List.map_cons, List.map_nil, List.getElem?_nil, List.length_cons, List.length_nil, Nat.reduceAdd, Nat.reduceSub, List.cons_append, List.nil_append, List.append_nil]))) | ((with_reducible apply xaw); (first | ((with_reducible apply xstepS); refine AW.step tok rfl ?_) | with_reducible (first | refine AW.seq ?_ | refine AW.block ?_))) | with_reducible exact trivial)
  refine AW.own 4 3 rfl ?_
  refine AW.own 5 3 rfl ?_
  refine AW.loop (S := fun k : Nat => ⟨[(4, .msl 0 3 0 k), (5, .msl 1 3 0 k), (9, .d (.lst (g.cells.map encCell))), (10, .d (.int .i64 g.cells.length)), (11, .d (.int .i64 k))], [.arr 3 (((colSpans g.cells).take k).map encSpan), .arr 3 (((rowSpans g.cells).take k).map encSpan)], 46, 0⟩)
    (Pre := fun k => k ≤ g.cells.length) (μ := fun k => g.cells.length - k) 0 (Nat.zero_le _) ?_ ?_
  · (refine xwk (π := [1, 2]) (by decide) rfl ?_ ?_; (first | simp -implicitDefEqProofs only [go_sem, Int.reduceEq, Int.reduceLT, Int.reduceLE, Nat.reduceAdd, Nat.reduceSub, Nat.reduceMul, Nat.reduceEqDiff, Nat.reduceLeDiff, Nat.reducePow, ↓reduceIte, reduceCtorEq, List.take_zero]); repeat' (first | exact renE_n | ((with_reducible apply renE_c); exact rfl; focus (first | (simp -implicitDefEqProofs only [go_sem, Int.reduceEq, Int.reduceLT, Int.reduceLE, Nat.reduceAdd, Nat.reduceSub, Nat.reduceMul, Nat.reduceEqDiff, Nat.reduceLeDiff, Nat.reducePow, ↓reduceIte, reduceCtorEq, List.take_zero]; done)))))
  intro k hk
  have hc1 : ((colSpans g.cells).take k).length = k := by simp [hcl]; omega
  have hc2 : ((rowSpans g.cells).take k).length = k := by simp [hrl]; omega
  by_cases hlt : k < g.cells.length
  · have hrow := at_map (f := encCell) hlt
    have hs1 := colSpans_take hlt
    have hs2 := rowSpans_take hlt
    have hb := h.ok _ (List.getElem_mem hlt)
    repeat' (first | ((with_reducible apply xsim); (first | ((with_reducible apply xo); exact rfl) | ((with_reducible apply xst); exact rfl) | with_reducible apply xend | ((with_reducible apply xalloc); exact rfl; simp only [backV, backVs, backVs_mapd, backId, backO, List.map_cons, List.map_nil, List.getElem?_nil, List.length_cons, List.length_nil, Nat.reduceAdd, Nat.reduceSub, List.cons_append, List.nil_append, List.append_nil]) | ((with_reducible apply xbuild); exact rfl; exact rfl; exact rfl; exact rfl; exact rfl; simp only [backV, backVs, backVs_mapd, backId, backO, List.map_cons, List.map_nil, List.getElem?_nil, List.length_cons, List.length_nil, Nat.reduceAdd, Nat.reduceSub, List.cons_append, List.nil_append, List.append_nil]) | ((with_reducible apply xidxL); exact rfl; exact rfl; exact rfl; (first | exact hrow); omega; first | exact rfl | simp only [hsz]) | simp -implicitDefEqProofs only [go_sem, Int.reduceEq, Int.reduceLT, Int.reduceLE, Nat.reduceAdd, Nat.reduceSub, Nat.reduceMul, Nat.reduceEqDiff, Nat.reduceLeDiff, Nat.reducePow, ↓reduceIte, reduceCtorEq, List.length_map, hc1, hc2])) | ((with_reducible apply xaw); (first | ((with_reducible apply xstepS); refine AW.step tok rfl ?_) | ((with_reducible apply xstep); refine AW.region tok rfl ?_) | with_reducible (first | refine AW.seq ?_ | refine AW.block ?_ | refine AW.skip ?_) | ((with_reducible apply xcond); exact rfl))) | with_reducible refine xthen ?_ | (with_reducible intro hc; (try simp only [decide_eq_true_eq, decide_eq_false_iff_not, Bool.not_true, Bool.not_false, Bool.not_eq_true', Bool.not_eq_false', ne_eq, not_true, reduceCtorEq, List.length_map, hc1, hc2] at hc); (try (exfalso; omega))) | with_reducible (first | exact trivial | refine And.intro ?_ ?_ | exact rfl) | exact Eq.refl true | (refine inR_i64.mpr ?_; first | omega | (simp only [List.length_map, List.length_map, hc1, hc2]; omega)) | omega)
    refine round_end (k+1) hlt (by omega) (by (refine xwk (π := [4, 6]) (by decide) rfl ?_ ?_; (first | simp -implicitDefEqProofs only [go_sem, Int.reduceEq, Int.reduceLT, Int.reduceLE, Nat.reduceAdd, Nat.reduceSub, Nat.reduceMul, Nat.reduceEqDiff, Nat.reduceLeDiff, Nat.reducePow, ↓reduceIte, reduceCtorEq, hs1, hs2, List.map_append, colSpan, rowSpan]); repeat' (first | exact renE_n | ((with_reducible apply renE_c); exact rfl; focus (first | (simp -implicitDefEqProofs only [go_sem, Int.reduceEq, Int.reduceLT, Int.reduceLE, Nat.reduceAdd, Nat.reduceSub, Nat.reduceMul, Nat.reduceEqDiff, Nat.reduceLeDiff, Nat.reducePow, ↓reduceIte, reduceCtorEq, hs1, hs2, List.map_append, colSpan, rowSpan]; done))))))
  have hk' : k = g.cells.length := by omega
  subst hk'
  have t1 : (colSpans g.cells).take g.cells.length = colSpans g.cells := by rw [← hcl, List.take_length]
  have t2 : (rowSpans g.cells).take g.cells.length = rowSpans g.cells := by rw [← hrl, List.take_length]
  rw [t1, t2]
  repeat' (first | ((with_reducible apply xsim); (first | ((with_reducible apply xo); exact rfl) | with_reducible apply xend)) | ((with_reducible apply xaw); (first | ((with_reducible apply xstepS); refine AW.step tok rfl ?_) | with_reducible (first | refine AW.seq ?_ | refine AW.ret ?_ | refine AW.exit ?_) | ((with_reducible apply xcond); exact rfl))) | with_reducible (first | refine xthen ?_ | refine xthen_e ?_ | refine xblock_e ?_ | refine xround_e ?_) | (with_reducible intro hc; (try simp only [decide_eq_true_eq, decide_eq_false_iff_not, Bool.not_true, Bool.not_false, Bool.not_eq_true', Bool.not_eq_false', ne_eq, not_true, reduceCtorEq, List.length_map] at hc); (try (exfalso; omega))) | with_reducible (first | exact trivial | refine And.intro ?_ ?_ | exact rfl))
  refine xfinW (Weak.freezeA 2 0 3 rfl rfl (by simp [hcl])) ?_
  refine xfinW (Weak.freezeA 3 1 3 rfl rfl (by simp [hrl])) ?_
  (refine xfinIs (by first | exact .inl rfl | exact .inr rfl) rfl (by repeat' (first | exact trivial | exact rfl | refine And.intro ?_ ?_)) rfl ?_ rfl; first | with_reducible exact rfl)

theorem c_colSpansS (g : Grid) (h : GOk g) : ACon Try.prog 124 [vGrid g] [] (Is (.d (.lst ((colSpans g.cells).map encSpan)))) := by
  have h8 := h.hi
  have hcl : (colSpans g.cells).length = g.cells.length := by simp [colSpans]
  refine ACon.introW tok (nt := 34) Try.func124 rfl rfl rfl (by kernel_rfl) rfl ?_
  repeat' (first | ((with_reducible apply xsim); (first | ((with_reducible apply xo); exact rfl) | with_reducible apply xend | ((with_reducible apply xbox); exact rfl; simp only [backV, backVs, backVs_mapd, backId, backO, List.map_cons, List.map_nil, List.getElem?_nil, List.length_cons, List.length_nil, Nat.reduceAdd, Nat.reduceSub, List.cons_append, List.nil_append, List.append_nil]) | ((with_reducible apply xbuild); exact rfl; exact rfl; exact rfl; exact rfl; exact rfl; simp only [backV, backVs, backVs_mapd, backId, backO, List.map_cons, List.map_nil, List.getElem?_nil, List.length_cons, List.length_nil, Nat.reduceAdd, Nat.reduceSub, List.cons_append, List.nil_append, List.append_nil]))) | ((with_reducible apply xaw); (first | ((with_reducible apply xstepS); refine AW.step tok rfl ?_) | with_reducible (first | refine AW.seq ?_ | refine AW.block ?_))) | with_reducible exact trivial)
  refine AW.loop (S := fun k : Nat => ⟨[(1, .oref 1 0), (3, .msl 0 3 0 k), (4, .d (.int .i64 k))], [.arr 3 (((colSpans g.cells).take k).map encSpan), .box [.d (.lst (g.cols.map encLine)), .d (.lst (g.rows.map encLine)), .d (.lst (g.cells.map encCell))]], 34, 0⟩)
    (Pre := fun k => k ≤ g.cells.length) (μ := fun k => g.cells.length - k) 0 (Nat.zero_le _) ?_ ?_
  · (refine xwk (π := [1, 0]) (by decide) rfl ?_ ?_; (first | simp -implicitDefEqProofs only [go_sem, Int.reduceEq, Int.reduceLT, Int.reduceLE, Nat.reduceAdd, Nat.reduceSub, Nat.reduceMul, Nat.reduceEqDiff, Nat.reduceLeDiff, Nat.reducePow, ↓reduceIte, reduceCtorEq, List.take_zero, encGrid]); repeat' (first | exact renE_n | ((with_reducible apply renE_c); exact rfl; focus (first | (simp -implicitDefEqProofs only [go_sem, Int.reduceEq, Int.reduceLT, Int.reduceLE, Nat.reduceAdd, Nat.reduceSub, Nat.reduceMul, Nat.reduceEqDiff, Nat.reduceLeDiff, Nat.reducePow, ↓reduceIte, reduceCtorEq, List.take_zero, encGrid]; done)))))
  intro k hk
  have hc1 : ((colSpans g.cells).take k).length = k := by simp [hcl]; omega
  by_cases hlt : k < g.cells.length
  · have hrow := at_map (f := encCell) hlt
    have hs1 := colSpans_take hlt
    have hb := h.ok _ (List.getElem_mem hlt)
    repeat' (first | ((with_reducible apply xsim); (first | ((with_reducible apply xlenM); exact rfl; exact rfl) | ((with_reducible apply xo); exact rfl) | ((with_reducible apply xst); exact rfl) | with_reducible apply xend | ((with_reducible apply xalloc); exact rfl; simp only [backV, backVs, backVs_mapd, backId, backO, List.map_cons, List.map_nil, List.getElem?_nil, List.length_cons, List.length_nil, Nat.reduceAdd, Nat.reduceSub, List.cons_append, List.nil_append, List.append_nil]) | ((with_reducible apply xbuild); exact rfl; exact rfl; exact rfl; exact rfl; exact rfl; simp only [backV, backVs, backVs_mapd, backId, backO, List.map_cons, List.map_nil, List.getElem?_nil, List.length_cons, List.length_nil, Nat.reduceAdd, Nat.reduceSub, List.cons_append, List.nil_append, List.append_nil]) | ((with_reducible apply xidxL); exact rfl; exact rfl; exact rfl; (first | exact hrow); omega; first | exact rfl | simp only [hsz]) | simp -implicitDefEqProofs only [go_sem, Int.reduceEq, Int.reduceLT, Int.reduceLE, Nat.reduceAdd, Nat.reduceSub, Nat.reduceMul, Nat.reduceEqDiff, Nat.reduceLeDiff, Nat.reducePow, ↓reduceIte, reduceCtorEq, List.length_map, hc1])) | ((with_reducible apply xaw); (first | ((with_reducible apply xstepS); refine AW.step tok rfl ?_) | ((with_reducible apply xstep); refine AW.region tok rfl ?_) | with_reducible (first | refine AW.seq ?_ | refine AW.block ?_ | refine AW.skip ?_) | ((with_reducible apply xcond); exact rfl))) | with_reducible refine xthen ?_ | (with_reducible intro hc; (try simp only [decide_eq_true_eq, decide_eq_false_iff_not, Bool.not_true, Bool.not_false, Bool.not_eq_true', Bool.not_eq_false', ne_eq, not_true, reduceCtorEq, List.length_map, hc1] at hc); (try (exfalso; omega))) | with_reducible (first | exact trivial | refine And.intro ?_ ?_ | exact rfl) | exact Eq.refl true | (refine inR_i64.mpr ?_; first | omega | (simp only [List.length_map, List.length_map, hc1]; omega)) | omega)
    refine round_end (k+1) hlt (by omega) (by (refine xwk (π := [4, 1]) (by decide) rfl ?_ ?_; (first | simp -implicitDefEqProofs only [go_sem, Int.reduceEq, Int.reduceLT, Int.reduceLE, Nat.reduceAdd, Nat.reduceSub, Nat.reduceMul, Nat.reduceEqDiff, Nat.reduceLeDiff, Nat.reducePow, ↓reduceIte, reduceCtorEq, hs1, List.map_append, colSpan]); repeat' (first | exact renE_n | ((with_reducible apply renE_c); exact rfl; focus (first | (simp -implicitDefEqProofs only [go_sem, Int.reduceEq, Int.reduceLT, Int.reduceLE, Nat.reduceAdd, Nat.reduceSub, Nat.reduceMul, Nat.reduceEqDiff, Nat.reduceLeDiff, Nat.reducePow, ↓reduceIte, reduceCtorEq, hs1, List.map_append, colSpan]; done))))))
  have hk' : k = g.cells.length := by omega
  subst hk'
  have t1 : (colSpans g.cells).take g.cells.length = colSpans g.cells := by rw [← hcl, List.take_length]
  rw [t1]
  repeat' (first | ((with_reducible apply xsim); (first | ((with_reducible apply xlenM); exact rfl; exact rfl) | ((with_reducible apply xo); exact rfl) | with_reducible apply xend)) | ((with_reducible apply xaw); (first | ((with_reducible apply xstepS); refine AW.step tok rfl ?_) | with_reducible (first | refine AW.seq ?_ | refine AW.ret ?_ | refine AW.exit ?_) | ((with_reducible apply xcond); exact rfl))) | with_reducible (first | refine xthen ?_ | refine xthen_e ?_ | refine xblock_e ?_ | refine xround_e ?_) | (with_reducible intro hc; (try simp only [decide_eq_true_eq, decide_eq_false_iff_not, Bool.not_true, Bool.not_false, Bool.not_eq_true', Bool.not_eq_false', ne_eq, not_true, reduceCtorEq, List.length_map] at hc); (try (exfalso; omega))) | with_reducible (first | exact trivial | refine And.intro ?_ ?_ | exact rfl))
  refine xfinW (Weak.freezeA 2 0 3 rfl rfl (by simp [hcl])) ?_
  (refine xfinIs (by first | exact .inl rfl | exact .inr rfl) rfl (by repeat' (first | exact trivial | exact rfl | refine And.intro ?_ ?_)) rfl ?_ rfl; first | with_reducible exact rfl)
theorem c_rowSpansS (g : Grid) (h : GOk g) : ACon Try.prog 125 [vGrid g] [] (Is (.d (.lst ((rowSpans g.cells).map encSpan)))) := by
  have h8 := h.hi
  have hcl : (rowSpans g.cells).length = g.cells.length := by simp [rowSpans]
  refine ACon.introW tok (nt := 34) Try.func125 rfl rfl rfl (by kernel_rfl) rfl ?_
  repeat' (first | ((with_reducible apply xsim); (first | ((with_reducible apply xo); exact rfl) | with_reducible apply xend | ((with_reducible apply xbox); exact rfl; simp only [backV, backVs, backVs_mapd, backId, backO, List.map_cons, List.map_nil, List.getElem?_nil, List.length_cons, List.length_nil, Nat.reduceAdd, Nat.reduceSub, List.cons_append, List.nil_append, List.append_nil]) | ((with_reducible apply xbuild); exact rfl; exact rfl; exact rfl; exact rfl; exact rfl; simp only [backV, backVs, backVs_mapd, backId, backO, List.map_cons, List.map_nil, List.getElem?_nil, List.length_cons, List.length_nil, Nat.reduceAdd, Nat.reduceSub, List.cons_append, List.nil_append, List.append_nil]))) | ((with_reducible apply xaw); (first | ((with_reducible apply xstepS); refine AW.step tok rfl ?_) | with_reducible (first | refine AW.seq ?_ | refine AW.block ?_))) | with_reducible exact trivial)
  refine AW.loop (S := fun k : Nat => ⟨[(1, .oref 1 0), (3, .msl 0 3 0 k), (4, .d (.int .i64 k))], [.arr 3 (((rowSpans g.cells).take k).map encSpan), .box [.d (.lst (g.cols.map encLine)), .d (.lst (g.rows.map encLine)), .d (.lst (g.cells.map encCell))]], 34, 0⟩)
    (Pre := fun k => k ≤ g.cells.length) (μ := fun k => g.cells.length - k) 0 (Nat.zero_le _) ?_ ?_
  · (refine xwk (π := [1, 0]) (by decide) rfl ?_ ?_; (first | simp -implicitDefEqProofs only [go_sem, Int.reduceEq, Int.reduceLT, Int.reduceLE, Nat.reduceAdd, Nat.reduceSub, Nat.reduceMul, Nat.reduceEqDiff, Nat.reduceLeDiff, Nat.reducePow, ↓reduceIte, reduceCtorEq, List.take_zero, encGrid]); repeat' (first | exact renE_n | ((with_reducible apply renE_c); exact rfl; focus (first | (simp -implicitDefEqProofs only [go_sem, Int.reduceEq, Int.reduceLT, Int.reduceLE, Nat.reduceAdd, Nat.reduceSub, Nat.reduceMul, Nat.reduceEqDiff, Nat.reduceLeDiff, Nat.reducePow, ↓reduceIte, reduceCtorEq, List.take_zero, encGrid]; done)))))
  intro k hk
  have hc1 : ((rowSpans g.cells).take k).length = k := by simp [hcl]; omega
  by_cases hlt : k < g.cells.length
  · have hrow := at_map (f := encCell) hlt
    have hs1 := rowSpans_take hlt
    have hb := h.ok _ (List.getElem_mem hlt)
    repeat' (first | ((with_reducible apply xsim); (first | ((with_reducible apply xlenM); exact rfl; exact rfl) | ((with_reducible apply xo); exact rfl) | ((with_reducible apply xst); exact rfl) | with_reducible apply xend | ((with_reducible apply xalloc); exact rfl; simp only [backV, backVs, backVs_mapd, backId, backO, List.map_cons, List.map_nil, List.getElem?_nil, List.length_cons, List.length_nil, Nat.reduceAdd, Nat.reduceSub, List.cons_append, List.nil_append, List.append_nil]) | ((with_reducible apply xbuild); exact rfl; exact rfl; exact rfl; exact rfl; exact rfl; simp only [backV, backVs, backVs_mapd, backId, backO, List.map_cons, List.map_nil, List.getElem?_nil, List.length_cons, List.length_nil, Nat.reduceAdd, Nat.reduceSub, List.cons_append, List.nil_append, List.append_nil]) | ((with_reducible apply xidxL); exact rfl; exact rfl; exact rfl; (first | exact hrow); omega; first | exact rfl | simp only [hsz]) | simp -implicitDefEqProofs only [go_sem, Int.reduceEq, Int.reduceLT, Int.reduceLE, Nat.reduceAdd, Nat.reduceSub, Nat.reduceMul, Nat.reduceEqDiff, Nat.reduceLeDiff, Nat.reducePow, ↓reduceIte, reduceCtorEq, List.length_map, hc1])) | ((with_reducible apply xaw); (first | ((with_reducible apply xstepS); refine AW.step tok rfl ?_) | ((with_reducible apply xstep); refine AW.region tok rfl ?_) | with_reducible (first | refine AW.seq ?_ | refine AW.block ?_ | refine AW.skip ?_) | ((with_reducible apply xcond); exact rfl))) | with_reducible refine xthen ?_ | (with_reducible intro hc; (try simp only [decide_eq_true_eq, decide_eq_false_iff_not, Bool.not_true, Bool.not_false, Bool.not_eq_true', Bool.not_eq_false', ne_eq, not_true, reduceCtorEq, List.length_map, hc1] at hc); (try (exfalso; omega))) | with_reducible (first | exact trivial | refine And.intro ?_ ?_ | exact rfl) | exact Eq.refl true | (refine inR_i64.mpr ?_; first | omega | (simp only [List.length_map, List.length_map, hc1]; omega)) | omega)
    refine round_end (k+1) hlt (by omega) (by (refine xwk (π := [4, 1]) (by decide) rfl ?_ ?_; (first | simp -implicitDefEqProofs only [go_sem, Int.reduceEq, Int.reduceLT, Int.reduceLE, Nat.reduceAdd, Nat.reduceSub, Nat.reduceMul, Nat.reduceEqDiff, Nat.reduceLeDiff, Nat.reducePow, ↓reduceIte, reduceCtorEq, hs1, List.map_append, rowSpan]); repeat' (first | exact renE_n | ((with_reducible apply renE_c); exact rfl; focus (first | (simp -implicitDefEqProofs only [go_sem, Int.reduceEq, Int.reduceLT, Int.reduceLE, Nat.reduceAdd, Nat.reduceSub, Nat.reduceMul, Nat.reduceEqDiff, Nat.reduceLeDiff, Nat.reducePow, ↓reduceIte, reduceCtorEq, hs1, List.map_append, rowSpan]; done))))))
  have hk' : k = g.cells.length := by omega
  subst hk'
  have t1 : (rowSpans g.cells).take g.cells.length = rowSpans g.cells := by rw [← hcl, List.take_length]
  rw [t1]
  repeat' (first | ((with_reducible apply xsim); (first | ((with_reducible apply xlenM); exact rfl; exact rfl) | ((with_reducible apply xo); exact rfl) | with_reducible apply xend)) | ((with_reducible apply xaw); (first | ((with_reducible apply xstepS); refine AW.step tok rfl ?_) | with_reducible (first | refine AW.seq ?_ | refine AW.ret ?_ | refine AW.exit ?_) | ((with_reducible apply xcond); exact rfl))) | with_reducible (first | refine xthen ?_ | refine xthen_e ?_ | refine xblock_e ?_ | refine xround_e ?_) | (with_reducible intro hc; (try simp only [decide_eq_true_eq, decide_eq_false_iff_not, Bool.not_true, Bool.not_false, Bool.not_eq_true', Bool.not_eq_false', ne_eq, not_true, reduceCtorEq, List.length_map] at hc); (try (exfalso; omega))) | with_reducible (first | exact trivial | refine And.intro ?_ ?_ | exact rfl))
  refine xfinW (Weak.freezeA 2 0 3 rfl rfl (by simp [hcl])) ?_
  (refine xfinIs (by first | exact .inl rfl | exact .inr rfl) rfl (by repeat' (first | exact trivial | exact rfl | refine And.intro ?_ ?_)) rfl ?_ rfl; first | with_reducible exact rfl)

theorem c_requestI (g : Grid) (h : GOk g) : ACon Try.prog 95 [vGrid g] [] (Is (.tup [.d (.int .i64 (gridReq g).1), .d (.int .i64 (gridReq g).2)])) := by
  have r1 := requests_rok h.cols h.cspans
  have r2 := requests_rok h.rows h.rspans
  refine ACon.introW tok (nt := 21) Try.func95 rfl rfl rfl (by kernel_rfl) rfl ?_
  repeat' (first | ((with_reducible apply xsim); (first | ((with_reducible apply xo); exact rfl) | with_reducible apply xend | ((with_reducible apply xbox); exact rfl; simp only [backV, backVs, backVs_mapd, backId, backO, List.map_cons, List.map_nil, List.getElem?_nil, List.length_cons, List.length_nil, Nat.reduceAdd, Nat.reduceSub, List.cons_append, List.nil_append, List.append_nil]) | ((with_reducible apply xcallIs); exact rfl; exact rfl; (first | exact c_spans g h | exact ORows.data (c_lineRequestsI _ _ h.cols h.cspans) | exact ORows.data (c_lineRequestsI _ _ h.rows h.rspans) | exact c_sum _ (r1.nums h.cols.hi) | exact c_sum _ (r2.nums h.rows.hi)); exact rfl))) | ((with_reducible apply xaw); (first | ((with_reducible apply xstepS); refine AW.step tok rfl ?_) | with_reducible (first | refine AW.seq ?_ | refine AW.ret ?_) | ((with_reducible apply xdraw (id := 2)); refine AW.draw (id := 2) (.q 0 (.q 1 (.q 2 (.q 3 (.q 4 (.q 5 (.q 6 (.q 7 (.q 8 (.q 9 (.q 10 (.q 11 (.fin))))))))))))) tok (by kernel_rfl) rfl (by kernel_rfl) ?_))) | ((with_reducible apply xarun); (first | ((with_reducible apply xrun_q); exact rfl; exact rfl; exact rfl) | ((with_reducible apply xrun_c); exact rfl; exact rfl; exact rfl; exact rfl; exact rfl; exact rfl; (first | exact c_spans g h | exact ORows.data (c_lineRequestsI _ _ h.cols h.cspans) | exact ORows.data (c_lineRequestsI _ _ h.rows h.rspans) | exact c_sum _ (r1.nums h.cols.hi) | exact c_sum _ (r2.nums h.rows.hi)); exact rfl) | with_reducible apply xrun_f)) | with_reducible refine xthen ?_ | with_reducible exact trivial | exact Eq.refl true)
  all_goals (refine xfinIs (by first | exact .inl rfl | exact .inr rfl) rfl (by repeat' (first | exact trivial | exact rfl | refine And.intro ?_ ?_)) rfl ?_ rfl; first | (simp -implicitDefEqProofs only [go_sem, Int.reduceEq, Int.reduceLT, Int.reduceLE, Nat.reduceAdd, Nat.reduceSub, Nat.reduceMul, Nat.reduceEqDiff, Nat.reduceLeDiff, Nat.reducePow, ↓reduceIte, reduceCtorEq, gridReq] <;> (first | rfl | omega | exact decide_eq_decide.2 (by omega) | exact decide_eq_false (by omega) | exact decide_eq_true (by omega) | (symm; first | exact decide_eq_false (by omega) | exact decide_eq_true (by omega)) | (rw [Bool.eq_iff_iff]; simp only [Bool.not_eq_true', Bool.not_eq_false', Bool.and_eq_true, Bool.or_eq_true, decide_eq_true_eq, decide_eq_false_iff_not, reduceCtorEq, true_iff, iff_true, false_iff, iff_false]; omega))))
theorem c_requestS (g : Grid) (h : GOk g) : ACon Try.prog 98 [vGrid g] [] (Is (.tup [.d (.int .i64 (gridReq g).1), .d (.int .i64 (gridReq g).2)])) := by
  have r1 := requests_rok h.cols h.cspans
  have r2 := requests_rok h.rows h.rspans
  refine ACon.introW tok (nt := 16) Try.func98 rfl rfl rfl (by kernel_rfl) rfl ?_
  repeat' (first | ((with_reducible apply xsim); (first | ((with_reducible apply xo); exact rfl) | with_reducible apply xend | ((with_reducible apply xbox); exact rfl; simp only [backV, backVs, backVs_mapd, backId, backO, List.map_cons, List.map_nil, List.getElem?_nil, List.length_cons, List.length_nil, Nat.reduceAdd, Nat.reduceSub, List.cons_append, List.nil_append, List.append_nil]))) | ((with_reducible apply xaw); (first | ((with_reducible apply xstepS); refine AW.step tok rfl ?_) | with_reducible (first | refine AW.seq ?_ | refine AW.ret ?_) | ((with_reducible apply xdraw (id := 1)); refine AW.draw (id := 1) (.q 0 (.q 1 (.q 2 (.q 3 (.q 4 (.q 5 (.q 6 (.q 7 (.q 8 (.q 9 (.q 10 (.q 11 (.q 12 (.q 13 (.fin))))))))))))))) tok (by kernel_rfl) rfl (by kernel_rfl) ?_))) | ((with_reducible apply xarun); (first | ((with_reducible apply xrun_q); exact rfl; exact rfl; exact rfl) | ((with_reducible apply xrun_c); exact rfl; exact rfl; exact rfl; exact rfl; exact rfl; exact rfl; (first | exact c_colSpansS g h | exact c_rowSpansS g h | exact ORows.data (c_wished _ _ h.cols h.cspans) | exact ORows.data (c_wished _ _ h.rows h.rspans) | exact c_total _ (r1.nums h.cols.hi) | exact c_total _ (r2.nums h.rows.hi)); exact rfl) | with_reducible apply xrun_f)) | with_reducible refine xthen ?_ | with_reducible exact trivial | exact Eq.refl true)
  all_goals (refine xfinIs (by first | exact .inl rfl | exact .inr rfl) rfl (by repeat' (first | exact trivial | exact rfl | refine And.intro ?_ ?_)) rfl ?_ rfl; first | (simp -implicitDefEqProofs only [go_sem, Int.reduceEq, Int.reduceLT, Int.reduceLE, Nat.reduceAdd, Nat.reduceSub, Nat.reduceMul, Nat.reduceEqDiff, Nat.reduceLeDiff, Nat.reducePow, ↓reduceIte, reduceCtorEq, gridReq] <;> (first | rfl | omega | exact decide_eq_decide.2 (by omega) | exact decide_eq_false (by omega) | exact decide_eq_true (by omega) | (symm; first | exact decide_eq_false (by omega) | exact decide_eq_true (by omega)) | (rw [Bool.eq_iff_iff]; simp only [Bool.not_eq_true', Bool.not_eq_false', Bool.and_eq_true, Bool.or_eq_true, decide_eq_true_eq, decide_eq_false_iff_not, reduceCtorEq, true_iff, iff_true, false_iff, iff_false]; omega))))

end Go.Proofs.Yticgjepndfjafaa

namespace Go.Proofs.Yticgjepndfjafaa
open Go.Fw
attribute [local irreducible] Go.Fw.aops Go.Fw.arun

/-- Sizes of lines that are used. -/
structure XOk (n : Nat) (xs : List Int) : Prop where
  len : xs.length = n
  hi : n ≤ 5
  bd : ∀ x ∈ xs, 0 ≤ x ∧ x ≤ 32768
  sum : sumI xs ≤ 32768
theorem XOk.nums {n : Nat} {xs : List Int} (h : XOk n xs) : NumsOk xs := ⟨by have := h.len; have := h.hi; omega, fun x hx => by have := h.bd x hx; omega⟩
theorem XOk.take {n : Nat} {xs : List Int} (h : XOk n xs) {k : Nat} : NumsOk (xs.take k) := ⟨by have := h.len; have := h.hi; simp; omega, fun x hx => by have := h.bd x (List.mem_of_mem_take hx); omega⟩
theorem XOk.slc {n : Nat} {xs : List Int} (h : XOk n xs) {a m : Nat} : NumsOk (slc xs a m) := ⟨by have := h.len; have := h.hi; simp [Go.Proofs.Yticgjepndfjafaa.slc]; omega, fun x hx => by have := h.bd x (slc_mem hx); omega⟩
end Go.Proofs.Yticgjepndfjafaa

namespace Go.Proofs.Yticgjepndfjafaa
open Go.Fw

instance : Inhabited Rect := ⟨⟨0, 0, 0, 0⟩⟩
/-- The rectangle lies in another one. -/
def InR (r q : Rect) : Prop := r.x ≤ q.x ∧ r.y ≤ q.y ∧ 0 ≤ q.w ∧ 0 ≤ q.h ∧ q.x + q.w ≤ r.x + r.w ∧ q.y + q.h ≤ r.y + r.h
theorem InR.trans {a b c : Rect} (h1 : InR a b) (h2 : InR b c) : InR a c := by unfold InR at *; omega
theorem items_ok {t : List Node} (h : TreeK t) (i : Nat) : (itemsOf t (kids t i)).length ≤ 10 ∧ (itemsOf t (kids t i)).all packB = true := by
  have := kids_len t i t.length
  have := h.hi
  refine ⟨by simp only [itemsOf, List.length_map]; unfold kids; omega, ?_⟩
  unfold itemsOf
  rw [List.all_map, List.all_eq_true]
  intro k hk
  obtain ⟨a, _⟩ := h.kid hk
  exact packOf_ok h a (wish_le h a)
theorem grid_ok {t : List Node} (h : TreeK t) {i : Nat} (hi : i < t.length) (hk : (nodeAt t i).kind = 1) : GOk (gridOf t i (kids t i)) :=
  gridOf_ok h hi hk fun k hk => wish_le h (h.kid hk).1

/-- The bounds of a node's rectangle. -/
structure RB (k : Nat) (r : Rect) : Prop where
  w : 0 ≤ r.w ∧ r.w ≤ 1700 + 300 * k
  h : 0 ≤ r.h ∧ r.h ≤ 1700 + 300 * k
  x : -(16384 * (k : Int)) ≤ r.x ∧ r.x ≤ 16384 * k
  y : -(16384 * (k : Int)) ≤ r.y ∧ r.y ≤ 16384 * k
theorem RB.in {k : Nat} {r : Rect} (h : RB k r) (hk : k ≤ 10) : RectIn r := by
  obtain ⟨h1, h2, h3, h4⟩ := h
  constructor <;> omega
end Go.Proofs.Yticgjepndfjafaa

namespace Go.Proofs.Yticgjepndfjafaa
open Go.Fw

section
variable {t : List Node} {w h : Int} {A B : Nat → Bool} {out : List Rect}
end
/-- A node is another one, or below it. -/
def belF (t : List Node) : Nat → Nat → Nat → Bool
  | 0, _, _ => false
  | f + 1, i, j => decide (j = i) || (kids t i).any fun k => belF t f k j
def bel (t : List Node) (i j : Nat) : Bool := belF t t.length i j
end Go.Proofs.Yticgjepndfjafaa

namespace Go.Proofs.Yticgjepndfjafaa
open Go.Fw
attribute [local irreducible] Go.Fw.aops Go.Fw.arun

/-- A node's number. -/
@[go_sem] def encK (k : Nat) : List D := [.int .i64 (k : Int)]
theorem encK_map (ks : List Nat) : ks.map encK = (ks.map fun (k : Nat) => (k : Int)).map encN := by rw [List.map_map]; rfl

theorem isKid_iff {t : List Node} {i k : Nat} (hk : k < t.length) : isKid t i k = decide (t[k].parent = (i : Int)) := by rw [isKid, nodeAt_eq hk]

set_option maxRecDepth 8000 in
theorem c_AkidsI (t : List Node) (h : TreeK t) (i : Nat) : ACon Try.prog 75 [vTree t, .d (.int .i64 (i : Int))] [] (ORows encK 1 (kids t i)) := by
  have hlo := h.lo; have hhi := h.hi
  refine ACon.introW tok (nt := 26) Try.func75 rfl rfl rfl (by kernel_rfl) rfl ?_
  repeat' (first | ((with_reducible apply xsim); (first | ((with_reducible apply xlenM); exact rfl; exact rfl) | ((with_reducible apply xo); exact rfl) | with_reducible apply xend | ((with_reducible apply xbox); exact rfl; simp only [backV, backVs, backVs_mapd, backId, backO, List.map_cons, List.map_nil, List.getElem?_nil, List.length_cons, List.length_nil, Nat.reduceAdd, Nat.reduceSub, List.cons_append, List.nil_append, List.append_nil]))) | ((with_reducible apply xaw); (first | ((with_reducible apply xstepS); refine AW.step tok rfl ?_) | with_reducible (first | refine AW.seq ?_ | refine AW.block ?_))) | with_reducible exact trivial)
  refine AW.own 5 1 rfl ?_
  refine AW.loop (S := fun k : Nat => ⟨[(1, .d (.int .i64 (i : Int))), (5, .msl 0 1 0 (kidsTo t i k).length), (9, .d (.lst (t.map encNode))), (10, .d (.int .i64 t.length)), (11, .d (.int .i64 k))], [.arr 1 ((kidsTo t i k).map encK)], 26, 0⟩)
    (Pre := fun k => k ≤ t.length) (μ := fun k => t.length - k) 0 (Nat.zero_le _) ?_ ?_
  · (refine xwk (π := [1]) (by decide) rfl ?_ ?_; (first | simp -implicitDefEqProofs only [go_sem, Int.reduceEq, Int.reduceLT, Int.reduceLE, Nat.reduceAdd, Nat.reduceSub, Nat.reduceMul, Nat.reduceEqDiff, Nat.reduceLeDiff, Nat.reducePow, ↓reduceIte, reduceCtorEq, kidsTo, List.range_zero, List.filter_nil]); repeat' (first | exact renE_n | ((with_reducible apply renE_c); exact rfl; focus (first | (simp -implicitDefEqProofs only [go_sem, Int.reduceEq, Int.reduceLT, Int.reduceLE, Nat.reduceAdd, Nat.reduceSub, Nat.reduceMul, Nat.reduceEqDiff, Nat.reduceLeDiff, Nat.reducePow, ↓reduceIte, reduceCtorEq, kidsTo, List.range_zero, List.filter_nil]; done)))))
  intro k hk
  have hkl := kids_len t i k
  by_cases hlt : k < t.length
  · have hrow := at_map (f := encNode) hlt
    have hs := kidsTo_succ (t := t) (i := i) (k := k)
    rw [isKid_iff hlt] at hs
    by_cases hp : t[k].parent = (i : Int)
    · rw [if_pos (decide_eq_true hp)] at hs
      repeat' (first | ((with_reducible apply xsim); (first | ((with_reducible apply xo); exact rfl) | ((with_reducible apply xst); exact rfl) | with_reducible apply xend | ((with_reducible apply xalloc); exact rfl; simp only [backV, backVs, backVs_mapd, backId, backO, List.map_cons, List.map_nil, List.getElem?_nil, List.length_cons, List.length_nil, Nat.reduceAdd, Nat.reduceSub, List.cons_append, List.nil_append, List.append_nil]) | ((with_reducible apply xbuild); exact rfl; exact rfl; exact rfl; exact rfl; exact rfl; simp only [backV, backVs, backVs_mapd, backId, backO, List.map_cons, List.map_nil, List.getElem?_nil, List.length_cons, List.length_nil, Nat.reduceAdd, Nat.reduceSub, List.cons_append, List.nil_append, List.append_nil]) | ((with_reducible apply xidxL); exact rfl; exact rfl; exact rfl; (first | exact hrow); omega; first | exact rfl | simp only [hsz]) | simp -implicitDefEqProofs only [go_sem, Int.reduceEq, Int.reduceLT, Int.reduceLE, Nat.reduceAdd, Nat.reduceSub, Nat.reduceMul, Nat.reduceEqDiff, Nat.reduceLeDiff, Nat.reducePow, ↓reduceIte, reduceCtorEq, List.length_map])) | ((with_reducible apply xaw); (first | ((with_reducible apply xstepS); refine AW.step tok rfl ?_) | ((with_reducible apply xstep); refine AW.region tok rfl ?_) | with_reducible (first | refine AW.seq ?_ | refine AW.block ?_ | refine AW.skip ?_) | ((with_reducible apply xcond); exact rfl))) | with_reducible refine xthen ?_ | (with_reducible intro hc; (try simp only [decide_eq_true_eq, decide_eq_false_iff_not, Bool.not_true, Bool.not_false, Bool.not_eq_true', Bool.not_eq_false', ne_eq, not_true, reduceCtorEq, List.length_map] at hc); (try (exfalso; omega))) | with_reducible (first | exact trivial | refine And.intro ?_ ?_ | exact rfl) | exact Eq.refl true | (refine inR_i64.mpr ?_; first | omega | (simp only [List.length_map, List.length_map]; omega)) | omega)
      refine round_end (k+1) hlt (by omega) (by (refine xwk (π := [3]) (by decide) rfl ?_ ?_; (first | simp -implicitDefEqProofs only [go_sem, Int.reduceEq, Int.reduceLT, Int.reduceLE, Nat.reduceAdd, Nat.reduceSub, Nat.reduceMul, Nat.reduceEqDiff, Nat.reduceLeDiff, Nat.reducePow, ↓reduceIte, reduceCtorEq, hs, List.map_append, List.length_append]); repeat' (first | exact renE_n | ((with_reducible apply renE_c); exact rfl; focus (first | (simp -implicitDefEqProofs only [go_sem, Int.reduceEq, Int.reduceLT, Int.reduceLE, Nat.reduceAdd, Nat.reduceSub, Nat.reduceMul, Nat.reduceEqDiff, Nat.reduceLeDiff, Nat.reducePow, ↓reduceIte, reduceCtorEq, hs, List.map_append, List.length_append]; done))))))
    · rw [if_neg (by simpa using hp), List.append_nil] at hs
      repeat' (first | ((with_reducible apply xsim); (first | ((with_reducible apply xo); exact rfl) | ((with_reducible apply xst); exact rfl) | with_reducible apply xend | ((with_reducible apply xalloc); exact rfl; simp only [backV, backVs, backVs_mapd, backId, backO, List.map_cons, List.map_nil, List.getElem?_nil, List.length_cons, List.length_nil, Nat.reduceAdd, Nat.reduceSub, List.cons_append, List.nil_append, List.append_nil]) | ((with_reducible apply xidxL); exact rfl; exact rfl; exact rfl; (first | exact hrow); omega; first | exact rfl | simp only [hsz]))) | ((with_reducible apply xaw); (first | ((with_reducible apply xstepS); refine AW.step tok rfl ?_) | ((with_reducible apply xstep); refine AW.region tok rfl ?_) | with_reducible (first | refine AW.seq ?_ | refine AW.block ?_ | refine AW.skip ?_) | ((with_reducible apply xcond); exact rfl))) | with_reducible (first | refine xthen ?_ | refine xblock ?_) | (with_reducible intro hc; (try simp only [decide_eq_true_eq, decide_eq_false_iff_not, Bool.not_true, Bool.not_false, Bool.not_eq_true', Bool.not_eq_false', ne_eq, not_true, reduceCtorEq, List.length_map] at hc); (try (exfalso; omega))) | with_reducible (first | exact trivial | refine And.intro ?_ ?_ | exact rfl) | exact Eq.refl true | (refine inR_i64.mpr ?_; first | omega | (simp only [List.length_map, List.length_map]; omega)))
      refine round_end (k+1) hlt (by omega) (by (refine xwk (π := [0]) (by decide) rfl ?_ ?_; (first | simp -implicitDefEqProofs only [go_sem, Int.reduceEq, Int.reduceLT, Int.reduceLE, Nat.reduceAdd, Nat.reduceSub, Nat.reduceMul, Nat.reduceEqDiff, Nat.reduceLeDiff, Nat.reducePow, ↓reduceIte, reduceCtorEq, hs]); repeat' (first | exact renE_n | ((with_reducible apply renE_c); exact rfl; focus (first | (simp -implicitDefEqProofs only [go_sem, Int.reduceEq, Int.reduceLT, Int.reduceLE, Nat.reduceAdd, Nat.reduceSub, Nat.reduceMul, Nat.reduceEqDiff, Nat.reduceLeDiff, Nat.reducePow, ↓reduceIte, reduceCtorEq, hs]; done))))))
  have hk' : k = t.length := by omega
  subst hk'
  repeat' (first | ((with_reducible apply xsim); (first | ((with_reducible apply xo); exact rfl) | with_reducible apply xend)) | ((with_reducible apply xaw); (first | ((with_reducible apply xstepS); refine AW.step tok rfl ?_) | with_reducible (first | refine AW.seq ?_ | refine AW.ret ?_ | refine AW.exit ?_) | ((with_reducible apply xcond); exact rfl))) | with_reducible (first | refine xthen ?_ | refine xthen_e ?_ | refine xblock_e ?_ | refine xround_e ?_) | (with_reducible intro hc; (try simp only [decide_eq_true_eq, decide_eq_false_iff_not, Bool.not_true, Bool.not_false, Bool.not_eq_true', Bool.not_eq_false', ne_eq, not_true, reduceCtorEq, List.length_map] at hc); (try (exfalso; omega))) | with_reducible (first | exact trivial | refine And.intro ?_ ?_ | exact rfl))
  (refine xfinOwn [0] (by first | exact .inl rfl | exact .inr rfl) rfl (by repeat' (first | exact trivial | exact rfl | refine And.intro ?_ ?_)) (by decide) rfl ?_ ?_ <;> simp -implicitDefEqProofs only [go_sem, Int.reduceEq, Int.reduceLT, Int.reduceLE, Nat.reduceAdd, Nat.reduceSub, Nat.reduceMul, Nat.reduceEqDiff, Nat.reduceLeDiff, Nat.reducePow, ↓reduceIte, reduceCtorEq, kids])
theorem c_AkidsS (t : List Node) (h : TreeK t) (i : Nat) : ACon Try.prog 77 [vTree t, .d (.int .i64 (i : Int))] [] (ORows encK 1 (kids t i)) := by
  have hlo := h.lo; have hhi := h.hi
  refine ACon.introW tok (nt := 28) Try.func77 rfl rfl rfl (by kernel_rfl) rfl ?_
  repeat' (first | ((with_reducible apply xsim); (first | ((with_reducible apply xo); exact rfl) | with_reducible apply xend | ((with_reducible apply xbox); exact rfl; simp only [backV, backVs, backVs_mapd, backId, backO, List.map_cons, List.map_nil, List.getElem?_nil, List.length_cons, List.length_nil, Nat.reduceAdd, Nat.reduceSub, List.cons_append, List.nil_append, List.append_nil]) | ((with_reducible apply xbuild); exact rfl; exact rfl; exact rfl; exact rfl; exact rfl; simp only [backV, backVs, backVs_mapd, backId, backO, List.map_cons, List.map_nil, List.getElem?_nil, List.length_cons, List.length_nil, Nat.reduceAdd, Nat.reduceSub, List.cons_append, List.nil_append, List.append_nil]))) | ((with_reducible apply xaw); (first | ((with_reducible apply xstepS); refine AW.step tok rfl ?_) | with_reducible (first | refine AW.seq ?_ | refine AW.block ?_))) | with_reducible exact trivial)
  have h1 : kidsTo t i 1 = [] := by
    have e := kidsTo_succ (t := t) (i := i) (k := 0)
    have hr := h.root (by omega)
    rw [isKid_iff (by omega), if_neg (by simp only [hr, decide_eq_true_eq]; omega)] at e
    exact e
  refine AW.loop (S := fun k : Nat => ⟨[(1, .d (.int .i64 (i : Int))), (2, .oref 0 0), (5, .msl 1 1 0 (kidsTo t i k).length), (6, .d (.int .i64 k))], [.box [.d (.lst (t.map encNode))], .arr 1 ((kidsTo t i k).map encK)], 28, 0⟩)
    (Pre := fun k => k ≤ t.length) (μ := fun k => t.length - k) 1 hlo ?_ ?_
  · (refine xwk (π := [0, 1]) (by decide) rfl ?_ ?_; (first | simp -implicitDefEqProofs only [go_sem, Int.reduceEq, Int.reduceLT, Int.reduceLE, Nat.reduceAdd, Nat.reduceSub, Nat.reduceMul, Nat.reduceEqDiff, Nat.reduceLeDiff, Nat.reducePow, ↓reduceIte, reduceCtorEq, h1]); repeat' (first | exact renE_n | ((with_reducible apply renE_c); exact rfl; focus (first | (simp -implicitDefEqProofs only [go_sem, Int.reduceEq, Int.reduceLT, Int.reduceLE, Nat.reduceAdd, Nat.reduceSub, Nat.reduceMul, Nat.reduceEqDiff, Nat.reduceLeDiff, Nat.reducePow, ↓reduceIte, reduceCtorEq, h1]; done)))))
  intro k hk
  have hkl := kids_len t i k
  by_cases hlt : k < t.length
  · have hrow := at_map (f := encNode) hlt
    have hs := kidsTo_succ (t := t) (i := i) (k := k)
    rw [isKid_iff hlt] at hs
    by_cases hp : t[k].parent = (i : Int)
    · rw [if_pos (decide_eq_true hp)] at hs
      repeat' (first | ((with_reducible apply xsim); (first | ((with_reducible apply xlenM); exact rfl; exact rfl) | ((with_reducible apply xo); exact rfl) | with_reducible apply xend | ((with_reducible apply xbuild); exact rfl; exact rfl; exact rfl; exact rfl; exact rfl; simp only [backV, backVs, backVs_mapd, backId, backO, List.map_cons, List.map_nil, List.getElem?_nil, List.length_cons, List.length_nil, Nat.reduceAdd, Nat.reduceSub, List.cons_append, List.nil_append, List.append_nil]) | ((with_reducible apply xidxL); exact rfl; exact rfl; exact rfl; (first | exact hrow); omega; first | exact rfl | simp only [hsz]) | simp -implicitDefEqProofs only [go_sem, Int.reduceEq, Int.reduceLT, Int.reduceLE, Nat.reduceAdd, Nat.reduceSub, Nat.reduceMul, Nat.reduceEqDiff, Nat.reduceLeDiff, Nat.reducePow, ↓reduceIte, reduceCtorEq, List.length_map])) | ((with_reducible apply xaw); (first | ((with_reducible apply xstepS); refine AW.step tok rfl ?_) | ((with_reducible apply xstep); refine AW.region tok rfl ?_) | with_reducible (first | refine AW.seq ?_ | refine AW.block ?_ | refine AW.skip ?_) | ((with_reducible apply xcond); exact rfl))) | with_reducible refine xthen ?_ | (with_reducible intro hc; (try simp only [decide_eq_true_eq, decide_eq_false_iff_not, Bool.not_true, Bool.not_false, Bool.not_eq_true', Bool.not_eq_false', ne_eq, not_true, reduceCtorEq, List.length_map] at hc); (try (exfalso; omega))) | with_reducible (first | exact trivial | refine And.intro ?_ ?_ | exact rfl) | (refine inR_i64.mpr ?_; first | omega | (simp only [List.length_map, List.length_map]; omega)) | omega)
      refine round_end (k+1) hlt (by omega) (by (refine xwk (π := [0, 3]) (by decide) rfl ?_ ?_; (first | simp -implicitDefEqProofs only [go_sem, Int.reduceEq, Int.reduceLT, Int.reduceLE, Nat.reduceAdd, Nat.reduceSub, Nat.reduceMul, Nat.reduceEqDiff, Nat.reduceLeDiff, Nat.reducePow, ↓reduceIte, reduceCtorEq, hs, List.map_append, List.length_append]); repeat' (first | exact renE_n | ((with_reducible apply renE_c); exact rfl; focus (first | (simp -implicitDefEqProofs only [go_sem, Int.reduceEq, Int.reduceLT, Int.reduceLE, Nat.reduceAdd, Nat.reduceSub, Nat.reduceMul, Nat.reduceEqDiff, Nat.reduceLeDiff, Nat.reducePow, ↓reduceIte, reduceCtorEq, hs, List.map_append, List.length_append]; done))))))
    · rw [if_neg (by simpa using hp), List.append_nil] at hs
      repeat' (first | ((with_reducible apply xsim); (first | ((with_reducible apply xlenM); exact rfl; exact rfl) | ((with_reducible apply xo); exact rfl) | with_reducible apply xend | ((with_reducible apply xidxL); exact rfl; exact rfl; exact rfl; (first | exact hrow); omega; first | exact rfl | simp only [hsz]))) | ((with_reducible apply xaw); (first | ((with_reducible apply xstepS); refine AW.step tok rfl ?_) | ((with_reducible apply xstep); refine AW.region tok rfl ?_) | with_reducible (first | refine AW.seq ?_ | refine AW.block ?_ | refine AW.skip ?_) | ((with_reducible apply xcond); exact rfl))) | with_reducible (first | refine xthen ?_ | refine xblock ?_) | (with_reducible intro hc; (try simp only [decide_eq_true_eq, decide_eq_false_iff_not, Bool.not_true, Bool.not_false, Bool.not_eq_true', Bool.not_eq_false', ne_eq, not_true, reduceCtorEq, List.length_map] at hc); (try (exfalso; omega))) | with_reducible (first | exact trivial | refine And.intro ?_ ?_ | exact rfl) | (refine inR_i64.mpr ?_; first | omega | (simp only [List.length_map, List.length_map]; omega)))
      refine round_end (k+1) hlt (by omega) (by (refine xwk (π := [0, 1]) (by decide) rfl ?_ ?_; (first | simp -implicitDefEqProofs only [go_sem, Int.reduceEq, Int.reduceLT, Int.reduceLE, Nat.reduceAdd, Nat.reduceSub, Nat.reduceMul, Nat.reduceEqDiff, Nat.reduceLeDiff, Nat.reducePow, ↓reduceIte, reduceCtorEq, hs]); repeat' (first | exact renE_n | ((with_reducible apply renE_c); exact rfl; focus (first | (simp -implicitDefEqProofs only [go_sem, Int.reduceEq, Int.reduceLT, Int.reduceLE, Nat.reduceAdd, Nat.reduceSub, Nat.reduceMul, Nat.reduceEqDiff, Nat.reduceLeDiff, Nat.reducePow, ↓reduceIte, reduceCtorEq, hs]; done))))))
  have hk' : k = t.length := by omega
  subst hk'
  repeat' (first | ((with_reducible apply xsim); (first | ((with_reducible apply xlenM); exact rfl; exact rfl) | ((with_reducible apply xo); exact rfl) | with_reducible apply xend)) | ((with_reducible apply xaw); (first | ((with_reducible apply xstepS); refine AW.step tok rfl ?_) | with_reducible (first | refine AW.seq ?_ | refine AW.ret ?_ | refine AW.exit ?_) | ((with_reducible apply xcond); exact rfl))) | with_reducible (first | refine xthen ?_ | refine xthen_e ?_ | refine xblock_e ?_ | refine xround_e ?_) | (with_reducible intro hc; (try simp only [decide_eq_true_eq, decide_eq_false_iff_not, Bool.not_true, Bool.not_false, Bool.not_eq_true', Bool.not_eq_false', ne_eq, not_true, reduceCtorEq, List.length_map] at hc); (try (exfalso; omega))) | with_reducible (first | exact trivial | refine And.intro ?_ ?_ | exact rfl))
  (refine xfinOwn [1] (by first | exact .inl rfl | exact .inr rfl) rfl (by repeat' (first | exact trivial | exact rfl | refine And.intro ?_ ?_)) (by decide) rfl ?_ ?_ <;> simp -implicitDefEqProofs only [go_sem, Int.reduceEq, Int.reduceLT, Int.reduceLE, Nat.reduceAdd, Nat.reduceSub, Nat.reduceMul, Nat.reduceEqDiff, Nat.reduceLeDiff, Nat.reducePow, ↓reduceIte, reduceCtorEq, kids])
theorem c_kidsI (t : List Node) (h : TreeK t) (i : Nat) : ACon Try.prog 75 [vTree t, .d (.int .i64 (i : Int))] [] (Is (.d (.lst ((kids t i).map encK)))) := ORows.data (c_AkidsI t h i)
theorem c_kidsS (t : List Node) (h : TreeK t) (i : Nat) : ACon Try.prog 77 [vTree t, .d (.int .i64 (i : Int))] [] (Is (.d (.lst ((kids t i).map encK)))) := ORows.data (c_AkidsS t h i)

theorem items_take {t : List Node} {ks : List Nat} {k : Nat} (h : k < ks.length) : (itemsOf t ks).take (k + 1) = (itemsOf t ks).take k ++ [packOf (nodeAt t ks[k]) (wish t ks[k])] := by
  rw [List.take_succ_eq_append_getElem (by simp [itemsOf]; exact h)]; simp [itemsOf]
theorem cells_take {t : List Node} {ks : List Nat} {k : Nat} (h : k < ks.length) : (cellsOf t ks).take (k + 1) = (cellsOf t ks).take k ++ [cellOf (nodeAt t ks[k]) (wish t ks[k])] := by
  rw [List.take_succ_eq_append_getElem (by simp [cellsOf]; exact h)]; simp [cellsOf]
def wishV (s : Int × Int) : V := .tup [.d (.int .i64 s.1), .d (.int .i64 s.2)]

theorem c_packsI (t : List Node) (h : TreeK t) (ks : List Nat) (hks : ∀ k ∈ ks, k < t.length) (hl : ks.length ≤ 10) (hreq : ∀ k ∈ ks, ACon Try.prog 66 [vTree t, .d (.int .i64 (k : Int))] [] (Is (wishV (wish t k)))) :
    ACon Try.prog 93 [vTree t, .d (.lst (ks.map encK))] [] (ORows encPack 9 (itemsOf t ks)) := by
  have hhi := h.hi
  have hil : (itemsOf t ks).length = ks.length := by simp [itemsOf]
  refine ACon.introW tok (nt := 35) Try.func93 rfl rfl rfl (by kernel_rfl) rfl ?_
  repeat' (first | ((with_reducible apply xsim); (first | ((with_reducible apply xlenM); exact rfl; exact rfl) | ((with_reducible apply xo); exact rfl) | with_reducible apply xend | ((with_reducible apply xbox); exact rfl; simp only [backV, backVs, backVs_mapd, backId, backO, List.map_cons, List.map_nil, List.getElem?_nil, List.length_cons, List.length_nil, Nat.reduceAdd, Nat.reduceSub, List.cons_append, List.nil_append, List.append_nil]))) | ((with_reducible apply xaw); (first | ((with_reducible apply xstepS); refine AW.step tok rfl ?_) | with_reducible (first | refine AW.seq ?_ | refine AW.block ?_))) | with_reducible exact trivial)
  refine AW.own 5 9 rfl ?_
  refine AW.loop (S := fun k : Nat => ⟨[(2, .oref 0 0), (5, .msl 1 9 0 k), (9, .d (.lst (ks.map encK))), (10, .d (.int .i64 ks.length)), (11, .d (.int .i64 k))], [.box [.d (.lst (t.map encNode))], .arr 9 (((itemsOf t ks).take k).map encPack)], 35, 0⟩)
    (Pre := fun k => k ≤ ks.length) (μ := fun k => ks.length - k) 0 (Nat.zero_le _) ?_ ?_
  · (refine xwk (π := [0, 1]) (by decide) rfl ?_ ?_; (first | simp -implicitDefEqProofs only [go_sem, Int.reduceEq, Int.reduceLT, Int.reduceLE, Nat.reduceAdd, Nat.reduceSub, Nat.reduceMul, Nat.reduceEqDiff, Nat.reduceLeDiff, Nat.reducePow, ↓reduceIte, reduceCtorEq, List.take_zero]); repeat' (first | exact renE_n | ((with_reducible apply renE_c); exact rfl; focus (first | (simp -implicitDefEqProofs only [go_sem, Int.reduceEq, Int.reduceLT, Int.reduceLE, Nat.reduceAdd, Nat.reduceSub, Nat.reduceMul, Nat.reduceEqDiff, Nat.reduceLeDiff, Nat.reducePow, ↓reduceIte, reduceCtorEq, List.take_zero]; done)))))
  intro k hk
  have hc1 : ((itemsOf t ks).take k).length = k := by simp [hil]; omega
  by_cases hlt : k < ks.length
  · have hrow := at_map (f := encK) hlt
    have hm := hks _ (List.getElem_mem hlt)
    have hrow2 := at_map (f := encNode) hm
    have hs := items_take (t := t) hlt
    rw [nodeAt_eq hm] at hs
    have hr := hreq _ (List.getElem_mem hlt)
    repeat' (first | ((with_reducible apply xsim); (first | ((with_reducible apply xo); exact rfl) | ((with_reducible apply xst); exact rfl) | with_reducible apply xend | ((with_reducible apply xalloc); exact rfl; simp only [backV, backVs, backVs_mapd, backId, backO, List.map_cons, List.map_nil, List.getElem?_nil, List.length_cons, List.length_nil, Nat.reduceAdd, Nat.reduceSub, List.cons_append, List.nil_append, List.append_nil]) | ((with_reducible apply xbuild); exact rfl; exact rfl; exact rfl; exact rfl; exact rfl; simp only [backV, backVs, backVs_mapd, backId, backO, List.map_cons, List.map_nil, List.getElem?_nil, List.length_cons, List.length_nil, Nat.reduceAdd, Nat.reduceSub, List.cons_append, List.nil_append, List.append_nil]) | ((with_reducible apply xidxL); exact rfl; exact rfl; exact rfl; (first | exact hrow | exact hrow2); omega; first | exact rfl | simp only [hsz]) | ((with_reducible apply xcallIs); exact rfl; exact rfl; exact hr; exact rfl) | simp -implicitDefEqProofs only [go_sem, Int.reduceEq, Int.reduceLT, Int.reduceLE, Nat.reduceAdd, Nat.reduceSub, Nat.reduceMul, Nat.reduceEqDiff, Nat.reduceLeDiff, Nat.reducePow, ↓reduceIte, reduceCtorEq, List.length_map, hc1])) | ((with_reducible apply xaw); (first | ((with_reducible apply xstepS); refine AW.step tok rfl ?_) | ((with_reducible apply xstep); refine AW.region tok rfl ?_) | with_reducible (first | refine AW.seq ?_ | refine AW.block ?_ | refine AW.skip ?_) | ((with_reducible apply xcond); exact rfl))) | with_reducible refine xthen ?_ | (with_reducible intro hc; (try simp only [decide_eq_true_eq, decide_eq_false_iff_not, Bool.not_true, Bool.not_false, Bool.not_eq_true', Bool.not_eq_false', ne_eq, not_true, reduceCtorEq, List.length_map, hc1] at hc); (try (exfalso; omega))) | with_reducible (first | exact trivial | refine And.intro ?_ ?_ | exact rfl) | exact Eq.refl true | (refine inR_i64.mpr ?_; first | omega | (simp only [List.length_map, List.length_map, hc1]; omega)) | omega)
    refine round_end (k+1) hlt (by omega) (by (refine xwk (π := [0, 4]) (by decide) rfl ?_ ?_; (first | simp -implicitDefEqProofs only [go_sem, Int.reduceEq, Int.reduceLT, Int.reduceLE, Nat.reduceAdd, Nat.reduceSub, Nat.reduceMul, Nat.reduceEqDiff, Nat.reduceLeDiff, Nat.reducePow, ↓reduceIte, reduceCtorEq, hs, List.map_append, packOf]); repeat' (first | exact renE_n | ((with_reducible apply renE_c); exact rfl; focus (first | (simp -implicitDefEqProofs only [go_sem, Int.reduceEq, Int.reduceLT, Int.reduceLE, Nat.reduceAdd, Nat.reduceSub, Nat.reduceMul, Nat.reduceEqDiff, Nat.reduceLeDiff, Nat.reducePow, ↓reduceIte, reduceCtorEq, hs, List.map_append, packOf]; done))))))
  have hk' : k = ks.length := by omega
  subst hk'
  have t1 : (itemsOf t ks).take ks.length = itemsOf t ks := by rw [← hil, List.take_length]
  rw [t1]
  repeat' (first | ((with_reducible apply xsim); (first | ((with_reducible apply xo); exact rfl) | with_reducible apply xend)) | ((with_reducible apply xaw); (first | ((with_reducible apply xstepS); refine AW.step tok rfl ?_) | with_reducible (first | refine AW.seq ?_ | refine AW.ret ?_ | refine AW.exit ?_) | ((with_reducible apply xcond); exact rfl))) | with_reducible (first | refine xthen ?_ | refine xthen_e ?_ | refine xblock_e ?_ | refine xround_e ?_) | (with_reducible intro hc; (try simp only [decide_eq_true_eq, decide_eq_false_iff_not, Bool.not_true, Bool.not_false, Bool.not_eq_true', Bool.not_eq_false', ne_eq, not_true, reduceCtorEq, List.length_map] at hc); (try (exfalso; omega))) | with_reducible (first | exact trivial | refine And.intro ?_ ?_ | exact rfl))
  (refine xfinOwn [1] (by first | exact .inl rfl | exact .inr rfl) rfl (by repeat' (first | exact trivial | exact rfl | refine And.intro ?_ ?_)) (by decide) rfl ?_ ?_ <;> simp -implicitDefEqProofs only [go_sem, Int.reduceEq, Int.reduceLT, Int.reduceLE, Nat.reduceAdd, Nat.reduceSub, Nat.reduceMul, Nat.reduceEqDiff, Nat.reduceLeDiff, Nat.reducePow, ↓reduceIte, reduceCtorEq, hil])
theorem c_packsS (t : List Node) (h : TreeK t) (ks : List Nat) (hks : ∀ k ∈ ks, k < t.length) (hl : ks.length ≤ 10) (hreq : ∀ k ∈ ks, ACon Try.prog 67 [vTree t, .d (.int .i64 (k : Int))] [] (Is (wishV (wish t k)))) :
    ACon Try.prog 97 [vTree t, .d (.lst (ks.map encK))] [] (ORows encPack 9 (itemsOf t ks)) := by
  have hhi := h.hi
  have hil : (itemsOf t ks).length = ks.length := by simp [itemsOf]
  refine ACon.introW tok (nt := 44) Try.func97 rfl rfl rfl (by kernel_rfl) rfl ?_
  repeat' (first | ((with_reducible apply xsim); (first | ((with_reducible apply xo); exact rfl) | with_reducible apply xend | ((with_reducible apply xbox); exact rfl; simp only [backV, backVs, backVs_mapd, backId, backO, List.map_cons, List.map_nil, List.getElem?_nil, List.length_cons, List.length_nil, Nat.reduceAdd, Nat.reduceSub, List.cons_append, List.nil_append, List.append_nil]) | ((with_reducible apply xbuild); exact rfl; exact rfl; exact rfl; exact rfl; exact rfl; simp only [backV, backVs, backVs_mapd, backId, backO, List.map_cons, List.map_nil, List.getElem?_nil, List.length_cons, List.length_nil, Nat.reduceAdd, Nat.reduceSub, List.cons_append, List.nil_append, List.append_nil]))) | ((with_reducible apply xaw); (first | ((with_reducible apply xstepS); refine AW.step tok rfl ?_) | with_reducible (first | refine AW.seq ?_ | refine AW.block ?_))) | with_reducible exact trivial)
  refine AW.loop (S := fun k : Nat => ⟨[(1, .d (.lst (ks.map encK))), (2, .oref 0 0), (5, .msl 1 9 0 k), (6, .d (.int .i64 k))], [.box [.d (.lst (t.map encNode))], .arr 9 (((itemsOf t ks).take k).map encPack)], 44, 0⟩)
    (Pre := fun k => k ≤ ks.length) (μ := fun k => ks.length - k) 0 (Nat.zero_le _) ?_ ?_
  · (refine xwk (π := [0, 1]) (by decide) rfl ?_ ?_; (first | simp -implicitDefEqProofs only [go_sem, Int.reduceEq, Int.reduceLT, Int.reduceLE, Nat.reduceAdd, Nat.reduceSub, Nat.reduceMul, Nat.reduceEqDiff, Nat.reduceLeDiff, Nat.reducePow, ↓reduceIte, reduceCtorEq, List.take_zero]); repeat' (first | exact renE_n | ((with_reducible apply renE_c); exact rfl; focus (first | (simp -implicitDefEqProofs only [go_sem, Int.reduceEq, Int.reduceLT, Int.reduceLE, Nat.reduceAdd, Nat.reduceSub, Nat.reduceMul, Nat.reduceEqDiff, Nat.reduceLeDiff, Nat.reducePow, ↓reduceIte, reduceCtorEq, List.take_zero]; done)))))
  intro k hk
  have hc1 : ((itemsOf t ks).take k).length = k := by simp [hil]; omega
  by_cases hlt : k < ks.length
  · have hrow := at_map (f := encK) hlt
    have hm := hks _ (List.getElem_mem hlt)
    have hrow2 := at_map (f := encNode) hm
    have hs := items_take (t := t) hlt
    rw [nodeAt_eq hm] at hs
    have hr := hreq _ (List.getElem_mem hlt)
    repeat' (first | ((with_reducible apply xsim); (first | ((with_reducible apply xlenM); exact rfl; exact rfl) | ((with_reducible apply xo); exact rfl) | ((with_reducible apply xst); exact rfl) | with_reducible apply xend | ((with_reducible apply xalloc); exact rfl; simp only [backV, backVs, backVs_mapd, backId, backO, List.map_cons, List.map_nil, List.getElem?_nil, List.length_cons, List.length_nil, Nat.reduceAdd, Nat.reduceSub, List.cons_append, List.nil_append, List.append_nil]) | ((with_reducible apply xbuild); exact rfl; exact rfl; exact rfl; exact rfl; exact rfl; simp only [backV, backVs, backVs_mapd, backId, backO, List.map_cons, List.map_nil, List.getElem?_nil, List.length_cons, List.length_nil, Nat.reduceAdd, Nat.reduceSub, List.cons_append, List.nil_append, List.append_nil]) | ((with_reducible apply xidxL); exact rfl; exact rfl; exact rfl; (first | exact hrow | exact hrow2); omega; first | exact rfl | simp only [hsz]) | simp -implicitDefEqProofs only [go_sem, Int.reduceEq, Int.reduceLT, Int.reduceLE, Nat.reduceAdd, Nat.reduceSub, Nat.reduceMul, Nat.reduceEqDiff, Nat.reduceLeDiff, Nat.reducePow, ↓reduceIte, reduceCtorEq, List.length_map, hc1])) | ((with_reducible apply xaw); (first | ((with_reducible apply xstepS); refine AW.step tok rfl ?_) | ((with_reducible apply xstep); refine AW.region tok rfl ?_) | with_reducible (first | refine AW.seq ?_ | refine AW.block ?_ | refine AW.skip ?_) | ((with_reducible apply xcond); exact rfl) | ((with_reducible apply xdraw (id := 5)); refine AW.draw (id := 5) (.q 0 (.q 1 (.q 2 (.q 3 (.q 4 (.q 5 (.q 6 (.q 7 (.q 8 (.e 9 (.e 10 (.fin)))))))))))) tok (by kernel_rfl) rfl (by kernel_rfl) ?_) | ((with_reducible apply xdraw (id := 6)); refine AW.draw (id := 6) (.q 0 (.q 1 (.q 2 (.q 3 (.q 4 (.q 5 (.q 6 (.q 7 (.q 8 (.q 9 (.q 10 (.fin)))))))))))) tok (by kernel_rfl) rfl (by kernel_rfl) ?_))) | ((with_reducible apply xarun); (first | ((with_reducible apply xrun_q); exact rfl; exact rfl; exact rfl) | ((with_reducible apply xrun_c); exact rfl; exact rfl; exact rfl; exact rfl; exact rfl; exact rfl; exact hr; exact rfl) | ((with_reducible apply xrun_e); exact rfl) | with_reducible apply xrun_f)) | with_reducible refine xthen ?_ | (with_reducible intro hc; (try simp only [decide_eq_true_eq, decide_eq_false_iff_not, Bool.not_true, Bool.not_false, Bool.not_eq_true', Bool.not_eq_false', ne_eq, not_true, reduceCtorEq, List.length_map, hc1] at hc); (try (exfalso; omega))) | with_reducible (first | exact trivial | refine And.intro ?_ ?_ | exact rfl) | exact Eq.refl true | (refine inR_i64.mpr ?_; first | omega | (simp only [List.length_map, List.length_map, hc1]; omega)) | omega)
    refine round_end (k+1) hlt (by omega) (by (refine xwk (π := [0, 4]) (by decide) rfl ?_ ?_; (first | simp -implicitDefEqProofs only [go_sem, Int.reduceEq, Int.reduceLT, Int.reduceLE, Nat.reduceAdd, Nat.reduceSub, Nat.reduceMul, Nat.reduceEqDiff, Nat.reduceLeDiff, Nat.reducePow, ↓reduceIte, reduceCtorEq, hs, List.map_append, packOf]); repeat' (first | exact renE_n | ((with_reducible apply renE_c); exact rfl; focus (first | (simp -implicitDefEqProofs only [go_sem, Int.reduceEq, Int.reduceLT, Int.reduceLE, Nat.reduceAdd, Nat.reduceSub, Nat.reduceMul, Nat.reduceEqDiff, Nat.reduceLeDiff, Nat.reducePow, ↓reduceIte, reduceCtorEq, hs, List.map_append, packOf]; done))))))
  have hk' : k = ks.length := by omega
  subst hk'
  have t1 : (itemsOf t ks).take ks.length = itemsOf t ks := by rw [← hil, List.take_length]
  rw [t1]
  repeat' (first | ((with_reducible apply xsim); (first | ((with_reducible apply xlenM); exact rfl; exact rfl) | ((with_reducible apply xo); exact rfl) | with_reducible apply xend)) | ((with_reducible apply xaw); (first | ((with_reducible apply xstepS); refine AW.step tok rfl ?_) | with_reducible (first | refine AW.seq ?_ | refine AW.ret ?_ | refine AW.exit ?_) | ((with_reducible apply xcond); exact rfl))) | with_reducible (first | refine xthen ?_ | refine xthen_e ?_ | refine xblock_e ?_ | refine xround_e ?_) | (with_reducible intro hc; (try simp only [decide_eq_true_eq, decide_eq_false_iff_not, Bool.not_true, Bool.not_false, Bool.not_eq_true', Bool.not_eq_false', ne_eq, not_true, reduceCtorEq, List.length_map] at hc); (try (exfalso; omega))) | with_reducible (first | exact trivial | refine And.intro ?_ ?_ | exact rfl))
  (refine xfinOwn [1] (by first | exact .inl rfl | exact .inr rfl) rfl (by repeat' (first | exact trivial | exact rfl | refine And.intro ?_ ?_)) (by decide) rfl ?_ ?_ <;> simp -implicitDefEqProofs only [go_sem, Int.reduceEq, Int.reduceLT, Int.reduceLE, Nat.reduceAdd, Nat.reduceSub, Nat.reduceMul, Nat.reduceEqDiff, Nat.reduceLeDiff, Nat.reducePow, ↓reduceIte, reduceCtorEq, hil])

set_option maxRecDepth 8000 in
theorem c_gridI (t : List Node) (h : TreeK t) (i : Nat) (hi : i < t.length) (ks : List Nat) (hks : ∀ k ∈ ks, k < t.length) (hl : ks.length ≤ 10) (hreq : ∀ k ∈ ks, ACon Try.prog 66 [vTree t, .d (.int .i64 (k : Int))] [] (Is (wishV (wish t k)))) :
    ACon Try.prog 94 [vTree t, .d (.int .i64 (i : Int)), .d (.lst (ks.map encK))] [] (Is (vGrid (gridOf t i ks))) := by
  have hhi := h.hi
  have hil : (cellsOf t ks).length = ks.length := by simp [cellsOf]
  have hrow0 := at_map (f := encNode) hi
  have hni := nodeAt_eq hi
  refine ACon.introW tok (nt := 52) Try.func94 rfl rfl rfl (by kernel_rfl) rfl ?_
  repeat' (first | ((with_reducible apply xsim); (first | ((with_reducible apply xlenM); exact rfl; exact rfl) | ((with_reducible apply xo); exact rfl) | ((with_reducible apply xst); exact rfl) | with_reducible apply xend | ((with_reducible apply xalloc); exact rfl; simp only [backV, backVs, backVs_mapd, backId, backO, List.map_cons, List.map_nil, List.getElem?_nil, List.length_cons, List.length_nil, Nat.reduceAdd, Nat.reduceSub, List.cons_append, List.nil_append, List.append_nil]) | ((with_reducible apply xbox); exact rfl; simp only [backV, backVs, backVs_mapd, backId, backO, List.map_cons, List.map_nil, List.getElem?_nil, List.length_cons, List.length_nil, Nat.reduceAdd, Nat.reduceSub, List.cons_append, List.nil_append, List.append_nil]) | ((with_reducible apply xidxL); exact rfl; exact rfl; exact rfl; (first | exact hrow0); omega; first | exact rfl | simp only [hsz]))) | ((with_reducible apply xaw); (first | ((with_reducible apply xstepS); refine AW.step tok rfl ?_) | with_reducible (first | refine AW.seq ?_ | refine AW.block ?_) | ((with_reducible apply xdraw (id := 1)); refine AW.draw (id := 1) (.q 0 (.q 1 (.q 2 (.q 3 (.q 4 (.q 5 (.q 6 (.q 7 (.q 8 (.q 9 (.q 10 (.q 11 (.q 12 (.e 13 (.e 14 (.fin)))))))))))))))) tok (by kernel_rfl) rfl (by kernel_rfl) ?_))) | ((with_reducible apply xarun); (first | ((with_reducible apply xrun_q); exact rfl; exact rfl; exact rfl) | ((with_reducible apply xrun_e); exact rfl) | with_reducible apply xrun_f)) | with_reducible refine xthen ?_ | with_reducible (first | exact trivial | refine And.intro ?_ ?_) | exact Eq.refl true)
  refine AW.weak (Weak.ownBoxCell 2 9 2 rfl rfl) ?_
  refine AW.loop (S := fun k : Nat => ⟨[(3, .oref 0 0), (6, .oref 1 0), (7, .oref 2 0), (24, .d (.lst (ks.map encK))), (25, .d (.int .i64 ks.length)), (26, .d (.int .i64 k))], [.box [.d (.lst (t.map encNode))], .box [.nils, .nils, .nils],
      .box [.d (.lst (t[i].cols.map encLine)), .d (.lst (t[i].rows.map encLine)), .msl 3 9 0 k], .arr 9 (((cellsOf t ks).take k).map encCell)], 52, 0⟩)
    (Pre := fun k => k ≤ ks.length) (μ := fun k => ks.length - k) 0 (Nat.zero_le _) ?_ ?_
  · (refine xwk (π := [0, 1, 2, 3]) (by decide) rfl ?_ ?_; (first | simp -implicitDefEqProofs only [go_sem, Int.reduceEq, Int.reduceLT, Int.reduceLE, Nat.reduceAdd, Nat.reduceSub, Nat.reduceMul, Nat.reduceEqDiff, Nat.reduceLeDiff, Nat.reducePow, ↓reduceIte, reduceCtorEq, List.take_zero]); repeat' (first | exact renE_n | ((with_reducible apply renE_c); exact rfl; focus (first | (simp -implicitDefEqProofs only [go_sem, Int.reduceEq, Int.reduceLT, Int.reduceLE, Nat.reduceAdd, Nat.reduceSub, Nat.reduceMul, Nat.reduceEqDiff, Nat.reduceLeDiff, Nat.reducePow, ↓reduceIte, reduceCtorEq, List.take_zero]; done)))))
  intro k hk
  have hc1 : ((cellsOf t ks).take k).length = k := by simp [hil]; omega
  by_cases hlt : k < ks.length
  · have hrow := at_map (f := encK) hlt
    have hm := hks _ (List.getElem_mem hlt)
    have hrow2 := at_map (f := encNode) hm
    have hs := cells_take (t := t) hlt
    rw [nodeAt_eq hm] at hs
    have hr := hreq _ (List.getElem_mem hlt)
    repeat' (first | ((with_reducible apply xsim); (first | ((with_reducible apply xo); exact rfl) | ((with_reducible apply xst); exact rfl) | with_reducible apply xend | ((with_reducible apply xalloc); exact rfl; simp only [backV, backVs, backVs_mapd, backId, backO, List.map_cons, List.map_nil, List.getElem?_nil, List.length_cons, List.length_nil, Nat.reduceAdd, Nat.reduceSub, List.cons_append, List.nil_append, List.append_nil]) | ((with_reducible apply xbuild); exact rfl; exact rfl; exact rfl; exact rfl; exact rfl; simp only [backV, backVs, backVs_mapd, backId, backO, List.map_cons, List.map_nil, List.getElem?_nil, List.length_cons, List.length_nil, Nat.reduceAdd, Nat.reduceSub, List.cons_append, List.nil_append, List.append_nil]) | ((with_reducible apply xidxL); exact rfl; exact rfl; exact rfl; (first | exact hrow | exact hrow2); omega; first | exact rfl | simp only [hsz]) | ((with_reducible apply xcallIs); exact rfl; exact rfl; exact hr; exact rfl) | simp -implicitDefEqProofs only [go_sem, Int.reduceEq, Int.reduceLT, Int.reduceLE, Nat.reduceAdd, Nat.reduceSub, Nat.reduceMul, Nat.reduceEqDiff, Nat.reduceLeDiff, Nat.reducePow, ↓reduceIte, reduceCtorEq, List.length_map, hc1])) | ((with_reducible apply xaw); (first | ((with_reducible apply xstepS); refine AW.step tok rfl ?_) | ((with_reducible apply xstep); refine AW.region tok rfl ?_) | with_reducible (first | refine AW.seq ?_ | refine AW.block ?_ | refine AW.skip ?_) | ((with_reducible apply xcond); exact rfl))) | with_reducible refine xthen ?_ | (with_reducible intro hc; (try simp only [decide_eq_true_eq, decide_eq_false_iff_not, Bool.not_true, Bool.not_false, Bool.not_eq_true', Bool.not_eq_false', ne_eq, not_true, reduceCtorEq, List.length_map, hc1] at hc); (try (exfalso; omega))) | with_reducible (first | exact trivial | refine And.intro ?_ ?_ | exact rfl) | exact Eq.refl true | (refine inR_i64.mpr ?_; first | omega | (simp only [List.length_map, List.length_map, hc1]; omega)) | omega)
    refine round_end (k+1) hlt (by omega) (by (refine xwk (π := [0, 1, 2, 6]) (by decide) rfl ?_ ?_; (first | simp -implicitDefEqProofs only [go_sem, Int.reduceEq, Int.reduceLT, Int.reduceLE, Nat.reduceAdd, Nat.reduceSub, Nat.reduceMul, Nat.reduceEqDiff, Nat.reduceLeDiff, Nat.reducePow, ↓reduceIte, reduceCtorEq, hs, List.map_append, cellOf]); repeat' (first | exact renE_n | ((with_reducible apply renE_c); exact rfl; focus (first | (simp -implicitDefEqProofs only [go_sem, Int.reduceEq, Int.reduceLT, Int.reduceLE, Nat.reduceAdd, Nat.reduceSub, Nat.reduceMul, Nat.reduceEqDiff, Nat.reduceLeDiff, Nat.reducePow, ↓reduceIte, reduceCtorEq, hs, List.map_append, cellOf]; done))))))
  have hk' : k = ks.length := by omega
  subst hk'
  have t1 : (cellsOf t ks).take ks.length = cellsOf t ks := by rw [← hil, List.take_length]
  rw [t1]
  repeat' (first | ((with_reducible apply xsim); (first | ((with_reducible apply xo); exact rfl) | ((with_reducible apply xst); exact rfl) | with_reducible apply xend)) | ((with_reducible apply xaw); (first | ((with_reducible apply xstepS); refine AW.step tok rfl ?_) | with_reducible (first | refine AW.seq ?_ | refine AW.ret ?_ | refine AW.exit ?_) | ((with_reducible apply xcond); exact rfl))) | with_reducible (first | refine xthen ?_ | refine xthen_e ?_ | refine xblock_e ?_ | refine xround_e ?_) | (with_reducible intro hc; (try simp only [decide_eq_true_eq, decide_eq_false_iff_not, Bool.not_true, Bool.not_false, Bool.not_eq_true', Bool.not_eq_false', ne_eq, not_true, reduceCtorEq, List.length_map] at hc); (try (exfalso; omega))) | with_reducible (first | exact trivial | refine And.intro ?_ ?_ | exact rfl) | exact Eq.refl true)
  refine xfinW (Weak.freezeBoxCell 1 3 9 2 rfl rfl rfl (by simp [hil])) ?_
  (refine xfinIs (by first | exact .inl rfl | exact .inr rfl) rfl (by repeat' (first | exact trivial | exact rfl | refine And.intro ?_ ?_)) rfl ?_ rfl; first | (simp -implicitDefEqProofs only [go_sem, Int.reduceEq, Int.reduceLT, Int.reduceLE, Nat.reduceAdd, Nat.reduceSub, Nat.reduceMul, Nat.reduceEqDiff, Nat.reduceLeDiff, Nat.reducePow, ↓reduceIte, reduceCtorEq, gridOf, hni] <;> (first | rfl | omega | exact decide_eq_decide.2 (by omega) | exact decide_eq_false (by omega) | exact decide_eq_true (by omega) | (symm; first | exact decide_eq_false (by omega) | exact decide_eq_true (by omega)) | (rw [Bool.eq_iff_iff]; simp only [Bool.not_eq_true', Bool.not_eq_false', Bool.and_eq_true, Bool.or_eq_true, decide_eq_true_eq, decide_eq_false_iff_not, reduceCtorEq, true_iff, iff_true, false_iff, iff_false]; omega))))
set_option maxRecDepth 8000 in
theorem c_gridS (t : List Node) (h : TreeK t) (i : Nat) (hi : i < t.length) (ks : List Nat) (hks : ∀ k ∈ ks, k < t.length) (hl : ks.length ≤ 10) (hreq : ∀ k ∈ ks, ACon Try.prog 67 [vTree t, .d (.int .i64 (k : Int))] [] (Is (wishV (wish t k)))) :
    ACon Try.prog 99 [vTree t, .d (.int .i64 (i : Int)), .d (.lst (ks.map encK))] [] (Is (vGrid (gridOf t i ks))) := by
  have hhi := h.hi
  have hil : (cellsOf t ks).length = ks.length := by simp [cellsOf]
  have hrow0 := at_map (f := encNode) hi
  have hni := nodeAt_eq hi
  refine ACon.introW tok (nt := 60) Try.func99 rfl rfl rfl (by kernel_rfl) rfl ?_
  repeat' (first | ((with_reducible apply xsim); (first | ((with_reducible apply xo); exact rfl) | ((with_reducible apply xst); exact rfl) | with_reducible apply xend | ((with_reducible apply xalloc); exact rfl; simp only [backV, backVs, backVs_mapd, backId, backO, List.map_cons, List.map_nil, List.getElem?_nil, List.length_cons, List.length_nil, Nat.reduceAdd, Nat.reduceSub, List.cons_append, List.nil_append, List.append_nil]) | ((with_reducible apply xbox); exact rfl; simp only [backV, backVs, backVs_mapd, backId, backO, List.map_cons, List.map_nil, List.getElem?_nil, List.length_cons, List.length_nil, Nat.reduceAdd, Nat.reduceSub, List.cons_append, List.nil_append, List.append_nil]) | ((with_reducible apply xidxL); exact rfl; exact rfl; exact rfl; (first | exact hrow0); omega; first | exact rfl | simp only [hsz]))) | ((with_reducible apply xaw); (first | ((with_reducible apply xstepS); refine AW.step tok rfl ?_) | with_reducible (first | refine AW.seq ?_ | refine AW.block ?_) | ((with_reducible apply xdraw (id := 1)); refine AW.draw (id := 1) (.q 0 (.q 1 (.q 2 (.q 3 (.q 4 (.q 5 (.q 6 (.q 7 (.q 8 (.q 9 (.q 10 (.q 11 (.q 12 (.e 13 (.e 14 (.fin)))))))))))))))) tok (by kernel_rfl) rfl (by kernel_rfl) ?_))) | ((with_reducible apply xarun); (first | ((with_reducible apply xrun_q); exact rfl; exact rfl; exact rfl) | ((with_reducible apply xrun_e); exact rfl) | with_reducible apply xrun_f)) | with_reducible refine xthen ?_ | with_reducible (first | exact trivial | refine And.intro ?_ ?_) | exact Eq.refl true)
  refine AW.weak (Weak.ownBoxCell 2 9 2 rfl rfl) ?_
  refine AW.loop (S := fun k : Nat => ⟨[(2, .d (.lst (ks.map encK))), (3, .oref 0 0), (6, .oref 1 0), (7, .oref 2 0), (8, .d (.int .i64 k))], [.box [.d (.lst (t.map encNode))], .box [.nils, .nils, .nils],
      .box [.d (.lst (t[i].cols.map encLine)), .d (.lst (t[i].rows.map encLine)), .msl 3 9 0 k], .arr 9 (((cellsOf t ks).take k).map encCell)], 60, 0⟩)
    (Pre := fun k => k ≤ ks.length) (μ := fun k => ks.length - k) 0 (Nat.zero_le _) ?_ ?_
  · (refine xwk (π := [0, 1, 2, 3]) (by decide) rfl ?_ ?_; (first | simp -implicitDefEqProofs only [go_sem, Int.reduceEq, Int.reduceLT, Int.reduceLE, Nat.reduceAdd, Nat.reduceSub, Nat.reduceMul, Nat.reduceEqDiff, Nat.reduceLeDiff, Nat.reducePow, ↓reduceIte, reduceCtorEq, List.take_zero]); repeat' (first | exact renE_n | ((with_reducible apply renE_c); exact rfl; focus (first | (simp -implicitDefEqProofs only [go_sem, Int.reduceEq, Int.reduceLT, Int.reduceLE, Nat.reduceAdd, Nat.reduceSub, Nat.reduceMul, Nat.reduceEqDiff, Nat.reduceLeDiff, Nat.reducePow, ↓reduceIte, reduceCtorEq, List.take_zero]; done)))))
  intro k hk
  have hc1 : ((cellsOf t ks).take k).length = k := by simp [hil]; omega
  by_cases hlt : k < ks.length
  · have hrow := at_map (f := encK) hlt
    have hm := hks _ (List.getElem_mem hlt)
    have hrow2 := at_map (f := encNode) hm
    have hs := cells_take (t := t) hlt
    rw [nodeAt_eq hm] at hs
    have hr := hreq _ (List.getElem_mem hlt)
    repeat' (first | ((with_reducible apply xsim); (first | ((with_reducible apply xlenM); exact rfl; exact rfl) | ((with_reducible apply xo); exact rfl) | ((with_reducible apply xst); exact rfl) | with_reducible apply xend | ((with_reducible apply xalloc); exact rfl; simp only [backV, backVs, backVs_mapd, backId, backO, List.map_cons, List.map_nil, List.getElem?_nil, List.length_cons, List.length_nil, Nat.reduceAdd, Nat.reduceSub, List.cons_append, List.nil_append, List.append_nil]) | ((with_reducible apply xbuild); exact rfl; exact rfl; exact rfl; exact rfl; exact rfl; simp only [backV, backVs, backVs_mapd, backId, backO, List.map_cons, List.map_nil, List.getElem?_nil, List.length_cons, List.length_nil, Nat.reduceAdd, Nat.reduceSub, List.cons_append, List.nil_append, List.append_nil]) | ((with_reducible apply xidxL); exact rfl; exact rfl; exact rfl; (first | exact hrow | exact hrow2); omega; first | exact rfl | simp only [hsz]) | simp -implicitDefEqProofs only [go_sem, Int.reduceEq, Int.reduceLT, Int.reduceLE, Nat.reduceAdd, Nat.reduceSub, Nat.reduceMul, Nat.reduceEqDiff, Nat.reduceLeDiff, Nat.reducePow, ↓reduceIte, reduceCtorEq, List.length_map, hc1])) | ((with_reducible apply xaw); (first | ((with_reducible apply xstepS); refine AW.step tok rfl ?_) | ((with_reducible apply xstep); refine AW.region tok rfl ?_) | with_reducible (first | refine AW.seq ?_ | refine AW.block ?_ | refine AW.skip ?_) | ((with_reducible apply xcond); exact rfl) | ((with_reducible apply xdraw (id := 5)); refine AW.draw (id := 5) (.q 0 (.q 1 (.q 2 (.q 3 (.q 4 (.q 5 (.q 6 (.q 7 (.q 8 (.e 9 (.e 10 (.fin)))))))))))) tok (by kernel_rfl) rfl (by kernel_rfl) ?_) | ((with_reducible apply xdraw (id := 6)); refine AW.draw (id := 6) (.q 0 (.q 1 (.q 2 (.q 3 (.q 4 (.q 5 (.q 6 (.q 7 (.q 8 (.q 9 (.q 10 (.fin)))))))))))) tok (by kernel_rfl) rfl (by kernel_rfl) ?_))) | ((with_reducible apply xarun); (first | ((with_reducible apply xrun_q); exact rfl; exact rfl; exact rfl) | ((with_reducible apply xrun_c); exact rfl; exact rfl; exact rfl; exact rfl; exact rfl; exact rfl; exact hr; exact rfl) | ((with_reducible apply xrun_e); exact rfl) | with_reducible apply xrun_f)) | with_reducible refine xthen ?_ | (with_reducible intro hc; (try simp only [decide_eq_true_eq, decide_eq_false_iff_not, Bool.not_true, Bool.not_false, Bool.not_eq_true', Bool.not_eq_false', ne_eq, not_true, reduceCtorEq, List.length_map, hc1] at hc); (try (exfalso; omega))) | with_reducible (first | exact trivial | refine And.intro ?_ ?_ | exact rfl) | exact Eq.refl true | (refine inR_i64.mpr ?_; first | omega | (simp only [List.length_map, List.length_map, hc1]; omega)) | omega)
    refine round_end (k+1) hlt (by omega) (by (refine xwk (π := [0, 1, 2, 6]) (by decide) rfl ?_ ?_; (first | simp -implicitDefEqProofs only [go_sem, Int.reduceEq, Int.reduceLT, Int.reduceLE, Nat.reduceAdd, Nat.reduceSub, Nat.reduceMul, Nat.reduceEqDiff, Nat.reduceLeDiff, Nat.reducePow, ↓reduceIte, reduceCtorEq, hs, List.map_append, cellOf]); repeat' (first | exact renE_n | ((with_reducible apply renE_c); exact rfl; focus (first | (simp -implicitDefEqProofs only [go_sem, Int.reduceEq, Int.reduceLT, Int.reduceLE, Nat.reduceAdd, Nat.reduceSub, Nat.reduceMul, Nat.reduceEqDiff, Nat.reduceLeDiff, Nat.reducePow, ↓reduceIte, reduceCtorEq, hs, List.map_append, cellOf]; done))))))
  have hk' : k = ks.length := by omega
  subst hk'
  have t1 : (cellsOf t ks).take ks.length = cellsOf t ks := by rw [← hil, List.take_length]
  rw [t1]
  repeat' (first | ((with_reducible apply xsim); (first | ((with_reducible apply xlenM); exact rfl; exact rfl) | ((with_reducible apply xo); exact rfl) | ((with_reducible apply xst); exact rfl) | with_reducible apply xend)) | ((with_reducible apply xaw); (first | ((with_reducible apply xstepS); refine AW.step tok rfl ?_) | with_reducible (first | refine AW.seq ?_ | refine AW.ret ?_ | refine AW.exit ?_) | ((with_reducible apply xcond); exact rfl))) | with_reducible (first | refine xthen ?_ | refine xthen_e ?_ | refine xblock_e ?_ | refine xround_e ?_) | (with_reducible intro hc; (try simp only [decide_eq_true_eq, decide_eq_false_iff_not, Bool.not_true, Bool.not_false, Bool.not_eq_true', Bool.not_eq_false', ne_eq, not_true, reduceCtorEq, List.length_map] at hc); (try (exfalso; omega))) | with_reducible (first | exact trivial | refine And.intro ?_ ?_ | exact rfl) | exact Eq.refl true)
  refine xfinW (Weak.freezeBoxCell 1 3 9 2 rfl rfl rfl (by simp [hil])) ?_
  (refine xfinIs (by first | exact .inl rfl | exact .inr rfl) rfl (by repeat' (first | exact trivial | exact rfl | refine And.intro ?_ ?_)) rfl ?_ rfl; first | (simp -implicitDefEqProofs only [go_sem, Int.reduceEq, Int.reduceLT, Int.reduceLE, Nat.reduceAdd, Nat.reduceSub, Nat.reduceMul, Nat.reduceEqDiff, Nat.reduceLeDiff, Nat.reducePow, ↓reduceIte, reduceCtorEq, gridOf, hni] <;> (first | rfl | omega | exact decide_eq_decide.2 (by omega) | exact decide_eq_false (by omega) | exact decide_eq_true (by omega) | (symm; first | exact decide_eq_false (by omega) | exact decide_eq_true (by omega)) | (rw [Bool.eq_iff_iff]; simp only [Bool.not_eq_true', Bool.not_eq_false', Bool.and_eq_true, Bool.or_eq_true, decide_eq_true_eq, decide_eq_false_iff_not, reduceCtorEq, true_iff, iff_true, false_iff, iff_false]; omega))))
end Go.Proofs.Yticgjepndfjafaa

namespace Go.Proofs.Yticgjepndfjafaa
open Go.Fw
attribute [local irreducible] Go.Fw.aops Go.Fw.arun

set_option maxHeartbeats 4000000 in
set_option maxRecDepth 8000 in
theorem c_validNode (t : List Node) (hL : TreeL t) (k : Nat) (hlt : k < t.length) : ACon Try.prog 89 [vTree t, .d (.int .i64 k)] [] (Is (.d (.bool (nodeOk t[k] && upOk t k t[k])))) := by
  obtain ⟨hL1, hL⟩ := hL
  have hrow := at_map (f := encNode) hlt
  refine ACon.introW tok (nt := 126) Try.func89 rfl rfl rfl (by kernel_rfl) rfl ?_
  by_cases hkd : t[k].kind = 1
  all_goals
    by_cases h0 : k = 0
    · subst h0
      have hu : upOk t 0 t[0] = decide (t[0].parent = -1) := rfl
      generalize hup : upOk t 0 t[0] = up at hu
      repeat' (first | ((with_reducible apply xsim); (first | ((with_reducible apply xlenM); exact rfl; exact rfl) | ((with_reducible apply xo); exact rfl) | ((with_reducible apply xst); exact rfl) | with_reducible apply xend | ((with_reducible apply xguardTS); exact rfl; exact rfl) | ((with_reducible apply xguardS); exact rfl; exact rfl) | ((with_reducible apply xalloc); exact rfl; simp only [backV, backVs, backVs_mapd, backId, backO, List.map_cons, List.map_nil, List.getElem?_nil, List.length_cons, List.length_nil, Nat.reduceAdd, Nat.reduceSub, List.cons_append, List.nil_append, List.append_nil]) | ((with_reducible apply xbox); exact rfl; simp only [backV, backVs, backVs_mapd, backId, backO, List.map_cons, List.map_nil, List.getElem?_nil, List.length_cons, List.length_nil, Nat.reduceAdd, Nat.reduceSub, List.cons_append, List.nil_append, List.append_nil]) | ((with_reducible apply xidxL); exact rfl; exact rfl; exact rfl; (first | exact hrow); omega; first | exact rfl | simp only [hsz]) | ((with_reducible apply xcallIs); exact rfl; exact rfl; (first | exact c_inRange _ _ _ | exact c_validPack _ | exact c_validPlace _ | exact c_validLines _ (hL _ hlt).1 | exact c_validLines _ (hL _ hlt).2 | exact c_validCellN _ _ _ (hL _ _).1 (hL _ _).2); exact rfl))) | ((with_reducible apply xaw); (first | ((with_reducible apply xstepS); refine AW.step tok rfl ?_) | with_reducible (first | refine AW.seq ?_ | refine AW.skip ?_ | refine AW.ret ?_) | ((with_reducible apply xcond); exact rfl))) | with_reducible (first | refine xthen ?_ | refine xthen_r ?_) | (with_reducible intro hc; (try simp only [decide_eq_true_eq, decide_eq_false_iff_not, Bool.not_true, Bool.not_false, Bool.not_eq_true', Bool.not_eq_false', ne_eq, not_true, reduceCtorEq, List.length_map] at hc); (try (exfalso; omega))) | with_reducible (first | exact trivial | refine And.intro ?_ ?_ | exact rfl) | exact Eq.refl true)
      all_goals clear hrow hL
      all_goals (refine xfinIs (by first | exact .inl rfl | exact .inr rfl) rfl (by repeat' (first | exact trivial | exact rfl | refine And.intro ?_ ?_)) rfl ?_ rfl; simp only [V.d.injEq, D.bool.injEq, D.int.injEq]; first | rfl | (simp_all [nodeOk, hup, Int.natCast_pos, List.length_pos_iff]; done) | (simp_all [nodeOk, hup, Int.natCast_pos, List.length_pos_iff]; omega))
    by_cases hr : 0 ≤ t[k].parent ∧ t[k].parent ≤ (k : Int) - 1
    · have hu := upOk_in (by omega) hlt hr
      have hrow2 := node_at (xs := t) (i := t[k].parent) (by omega)
      generalize hup : upOk t k t[k] = up at hu
      repeat' (first | ((with_reducible apply xsim); (first | ((with_reducible apply xlenM); exact rfl; exact rfl) | ((with_reducible apply xo); exact rfl) | ((with_reducible apply xst); exact rfl) | with_reducible apply xend | ((with_reducible apply xguardTS); exact rfl; exact rfl) | ((with_reducible apply xguardS); exact rfl; exact rfl) | ((with_reducible apply xalloc); exact rfl; simp only [backV, backVs, backVs_mapd, backId, backO, List.map_cons, List.map_nil, List.getElem?_nil, List.length_cons, List.length_nil, Nat.reduceAdd, Nat.reduceSub, List.cons_append, List.nil_append, List.append_nil]) | ((with_reducible apply xbox); exact rfl; simp only [backV, backVs, backVs_mapd, backId, backO, List.map_cons, List.map_nil, List.getElem?_nil, List.length_cons, List.length_nil, Nat.reduceAdd, Nat.reduceSub, List.cons_append, List.nil_append, List.append_nil]) | ((with_reducible apply xidxL); exact rfl; exact rfl; exact rfl; (first | exact hrow | exact hrow2); omega; first | exact rfl | simp only [hsz]) | ((with_reducible apply xcallIs); exact rfl; exact rfl; (first | exact c_inRange _ _ _ | exact c_validPack _ | exact c_validPlace _ | exact c_validLines _ (hL _ hlt).1 | exact c_validLines _ (hL _ hlt).2 | exact c_validCellN _ _ _ (hL _ _).1 (hL _ _).2); exact rfl))) | ((with_reducible apply xaw); (first | ((with_reducible apply xstepS); refine AW.step tok rfl ?_) | with_reducible (first | refine AW.seq ?_ | refine AW.skip ?_ | refine AW.ret ?_) | ((with_reducible apply xcond); exact rfl))) | with_reducible (first | refine xthen ?_ | refine xthen_r ?_) | (with_reducible intro hc; (try simp only [decide_eq_true_eq, decide_eq_false_iff_not, Bool.not_true, Bool.not_false, Bool.not_eq_true', Bool.not_eq_false', ne_eq, not_true, reduceCtorEq, List.length_map] at hc); (try (exfalso; omega))) | with_reducible (first | exact trivial | refine And.intro ?_ ?_ | exact rfl) | exact Eq.refl true | (refine inR_i64.mpr ?_; first | omega | (simp only [List.length_map, List.length_map]; omega)))
      all_goals clear hrow hrow2 hL
      all_goals (refine xfinIs (by first | exact .inl rfl | exact .inr rfl) rfl (by repeat' (first | exact trivial | exact rfl | refine And.intro ?_ ?_)) rfl ?_ rfl; simp only [V.d.injEq, D.bool.injEq, D.int.injEq]; first | rfl | (simp_all [nodeOk, hup, cellOk, Int.natCast_pos, List.length_pos_iff]; done) | (simp_all [nodeOk, hup, cellOk, Int.natCast_pos, List.length_pos_iff]; omega))
    · have hu := upOk_out (t := t) (by omega) hr
      generalize hup : upOk t k t[k] = up at hu
      repeat' (first | ((with_reducible apply xsim); (first | ((with_reducible apply xlenM); exact rfl; exact rfl) | ((with_reducible apply xo); exact rfl) | ((with_reducible apply xst); exact rfl) | with_reducible apply xend | ((with_reducible apply xguardTS); exact rfl; exact rfl) | ((with_reducible apply xguardS); exact rfl; exact rfl) | ((with_reducible apply xalloc); exact rfl; simp only [backV, backVs, backVs_mapd, backId, backO, List.map_cons, List.map_nil, List.getElem?_nil, List.length_cons, List.length_nil, Nat.reduceAdd, Nat.reduceSub, List.cons_append, List.nil_append, List.append_nil]) | ((with_reducible apply xbox); exact rfl; simp only [backV, backVs, backVs_mapd, backId, backO, List.map_cons, List.map_nil, List.getElem?_nil, List.length_cons, List.length_nil, Nat.reduceAdd, Nat.reduceSub, List.cons_append, List.nil_append, List.append_nil]) | ((with_reducible apply xidxL); exact rfl; exact rfl; exact rfl; (first | exact hrow); omega; first | exact rfl | simp only [hsz]) | ((with_reducible apply xcallIs); exact rfl; exact rfl; (first | exact c_inRange _ _ _ | exact c_validPack _ | exact c_validPlace _ | exact c_validLines _ (hL _ hlt).1 | exact c_validLines _ (hL _ hlt).2 | exact c_validCellN _ _ _ (hL _ _).1 (hL _ _).2); exact rfl))) | ((with_reducible apply xaw); (first | ((with_reducible apply xstepS); refine AW.step tok rfl ?_) | with_reducible (first | refine AW.seq ?_ | refine AW.skip ?_ | refine AW.ret ?_) | ((with_reducible apply xcond); exact rfl))) | with_reducible (first | refine xthen ?_ | refine xthen_r ?_) | (with_reducible intro hc; (try simp only [decide_eq_true_eq, decide_eq_false_iff_not, Bool.not_true, Bool.not_false, Bool.not_eq_true', Bool.not_eq_false', ne_eq, not_true, reduceCtorEq, List.length_map] at hc); (try (exfalso; omega))) | with_reducible (first | exact trivial | refine And.intro ?_ ?_ | exact rfl) | exact Eq.refl true | (refine inR_i64.mpr ?_; first | omega | (simp only [List.length_map, List.length_map]; omega)))
      all_goals clear hrow hL
      all_goals (refine xfinIs (by first | exact .inl rfl | exact .inr rfl) rfl (by repeat' (first | exact trivial | exact rfl | refine And.intro ?_ ?_)) rfl ?_ rfl; simp only [V.d.injEq, D.bool.injEq, D.int.injEq]; first | rfl | (simp_all [nodeOk, hup, Int.natCast_pos, List.length_pos_iff]; done) | (simp_all [nodeOk, hup, Int.natCast_pos, List.length_pos_iff]; omega))
end Go.Proofs.Yticgjepndfjafaa

namespace Go.Proofs.Yticgjepndfjafaa
open Go.Fw
attribute [local irreducible] Go.Fw.aops Go.Fw.arun

set_option maxRecDepth 8000 in
set_option maxHeartbeats 4000000 in
theorem c_reqI (t : List Node) (h : TreeK t) : ∀ m i : Nat, t.length - i ≤ m → i < t.length → ACon Try.prog 66 [vTree t, .d (.int .i64 (i : Int))] [] (Is (wishV (wish t i))) := by
  intro m
  induction m with
  | zero => intro i h1 h2; omega
  | succ m ih =>
    intro i h1 h2
    have hhi := h.hi
    have hkl : (kids t i).length ≤ 10 := by have := kids_len t i t.length; unfold kids; omega
    have hks : ∀ k ∈ kids t i, k < t.length := fun k hk => (h.kid hk).1
    have hreq : ∀ k ∈ kids t i, ACon Try.prog 66 [vTree t, .d (.int .i64 (k : Int))] [] (Is (wishV (wish t k))) := fun k hk => by
      obtain ⟨a, b, _⟩ := h.kid hk
      exact ih k (by omega) a
    have c1 := c_kidsI t h i
    have c2 := ORows.data (c_packsI t h _ hks hkl hreq)
    have c3 := c_gridI t h i h2 _ hks hkl hreq
    have c4 := c_preqI (itemsOf t (kids t i)) (items_ok h i).1 (items_ok h i).2
    have hrow := at_map (f := encNode) h2
    have hn := (nodeOk_iff (h.ok i h2)).1
    have hw := wish_eq h h2
    unfold wishOf at hw
    rw [nodeAt_eq h2] at hw
    by_cases hA : t[i].keep = true ∨ kids t i = [] ∨ t[i].kind = 2
    · rw [if_pos hA] at hw
      rw [hw]
      have hA' : t[i].keep = true ∨ (kids t i).length = 0 ∨ t[i].kind = 2 := by rw [List.length_eq_zero_iff]; exact hA
      clear hw hA hreq ih
      rcases hA' with hA | hA | hA
      all_goals
        refine ACon.introW tok (nt := 50) Try.func66 rfl rfl rfl (by kernel_rfl) rfl ?_
        repeat' (first | ((with_reducible apply xsim); (first | ((with_reducible apply xlenM); exact rfl; exact rfl) | ((with_reducible apply xo); exact rfl) | ((with_reducible apply xst); exact rfl) | with_reducible apply xend | ((with_reducible apply xguardS); exact rfl; exact rfl) | ((with_reducible apply xalloc); exact rfl; simp only [backV, backVs, backVs_mapd, backId, backO, List.map_cons, List.map_nil, List.getElem?_nil, List.length_cons, List.length_nil, Nat.reduceAdd, Nat.reduceSub, List.cons_append, List.nil_append, List.append_nil]) | ((with_reducible apply xbox); exact rfl; simp only [backV, backVs, backVs_mapd, backId, backO, List.map_cons, List.map_nil, List.getElem?_nil, List.length_cons, List.length_nil, Nat.reduceAdd, Nat.reduceSub, List.cons_append, List.nil_append, List.append_nil]) | ((with_reducible apply xidxL); exact rfl; exact rfl; exact rfl; (first | exact hrow); omega; first | exact rfl | simp only [hsz]))) | ((with_reducible apply xaw); (first | ((with_reducible apply xstepS); refine AW.step tok rfl ?_) | with_reducible (first | refine AW.seq ?_ | refine AW.block ?_ | refine AW.ret ?_) | ((with_reducible apply xcond); exact rfl) | ((with_reducible apply xdraw (id := 1)); refine AW.draw (id := 1) (.q 0 (.q 1 (.q 2 (.q 3 (.q 4 (.q 5 (.q 6 (.q 7 (.e 8 (.e 9 (.q 10 (.fin)))))))))))) tok (by kernel_rfl) rfl (by kernel_rfl) ?_) | ((with_reducible apply xdraw (id := 3)); refine AW.draw (id := 3) (.q 0 (.q 1 (.q 2 (.q 3 (.q 4 (.q 5 (.fin))))))) tok (by kernel_rfl) rfl (by kernel_rfl) ?_))) | ((with_reducible apply xarun); (first | ((with_reducible apply xrun_q); exact rfl; exact rfl; exact rfl) | ((with_reducible apply xrun_c); exact rfl; exact rfl; exact rfl; exact rfl; exact rfl; exact rfl; exact c1; exact rfl) | ((with_reducible apply xrun_e); exact rfl) | with_reducible apply xrun_f)) | with_reducible (first | refine xthen ?_ | refine xthen_r ?_ | refine xblock_r ?_) | (with_reducible intro hc; (try simp only [decide_eq_true_eq, decide_eq_false_iff_not, Bool.not_true, Bool.not_false, Bool.not_eq_true', Bool.not_eq_false', ne_eq, not_true, reduceCtorEq, List.length_map, hA] at hc); (try (exfalso; omega))) | with_reducible (first | exact trivial | refine And.intro ?_ ?_ | exact rfl) | exact Eq.refl true)
        all_goals (refine xfinIs (by first | exact .inl rfl | exact .inr rfl) rfl (by repeat' (first | exact trivial | exact rfl | refine And.intro ?_ ?_)) rfl ?_ rfl; first | (simp -implicitDefEqProofs only [go_sem, Int.reduceEq, Int.reduceLT, Int.reduceLE, Nat.reduceAdd, Nat.reduceSub, Nat.reduceMul, Nat.reduceEqDiff, Nat.reduceLeDiff, Nat.reducePow, ↓reduceIte, reduceCtorEq, wishV] <;> (first | rfl | omega | exact decide_eq_decide.2 (by omega) | exact decide_eq_false (by omega) | exact decide_eq_true (by omega) | (symm; first | exact decide_eq_false (by omega) | exact decide_eq_true (by omega)) | (rw [Bool.eq_iff_iff]; simp only [Bool.not_eq_true', Bool.not_eq_false', Bool.and_eq_true, Bool.or_eq_true, decide_eq_true_eq, decide_eq_false_iff_not, reduceCtorEq, true_iff, iff_true, false_iff, iff_false]; omega))))
    · rw [if_neg hA] at hw
      rw [not_or, not_or, ← List.length_eq_zero_iff] at hA
      obtain ⟨hk1, hk2, hk3⟩ := hA
      have hk1 : t[i].keep = false := by simpa using hk1
      by_cases hk0 : t[i].kind = 0
      · rw [if_pos hk0] at hw
        have hw : wish t i = preqs (itemsOf t (kids t i)) := hw
        rw [hw]
        clear hw hreq ih
        refine ACon.introW tok (nt := 50) Try.func66 rfl rfl rfl (by kernel_rfl) rfl ?_
        repeat' (first | ((with_reducible apply xsim); (first | ((with_reducible apply xlenM); exact rfl; exact rfl) | ((with_reducible apply xo); exact rfl) | ((with_reducible apply xst); exact rfl) | with_reducible apply xend | ((with_reducible apply xguardS); exact rfl; exact rfl) | ((with_reducible apply xalloc); exact rfl; simp only [backV, backVs, backVs_mapd, backId, backO, List.map_cons, List.map_nil, List.getElem?_nil, List.length_cons, List.length_nil, Nat.reduceAdd, Nat.reduceSub, List.cons_append, List.nil_append, List.append_nil]) | ((with_reducible apply xbox); exact rfl; simp only [backV, backVs, backVs_mapd, backId, backO, List.map_cons, List.map_nil, List.getElem?_nil, List.length_cons, List.length_nil, Nat.reduceAdd, Nat.reduceSub, List.cons_append, List.nil_append, List.append_nil]) | ((with_reducible apply xidxL); exact rfl; exact rfl; exact rfl; (first | exact hrow); omega; first | exact rfl | simp only [hsz]) | ((with_reducible apply xcallIs); exact rfl; exact rfl; (first | exact c1 | exact c2 | exact c4); exact rfl))) | ((with_reducible apply xaw); (first | ((with_reducible apply xstepS); refine AW.step tok rfl ?_) | with_reducible (first | refine AW.seq ?_ | refine AW.block ?_ | refine AW.ret ?_) | ((with_reducible apply xcond); exact rfl) | ((with_reducible apply xdraw (id := 1)); refine AW.draw (id := 1) (.q 0 (.q 1 (.q 2 (.q 3 (.q 4 (.q 5 (.q 6 (.q 7 (.e 8 (.e 9 (.q 10 (.fin)))))))))))) tok (by kernel_rfl) rfl (by kernel_rfl) ?_))) | ((with_reducible apply xarun); (first | ((with_reducible apply xrun_q); exact rfl; exact rfl; exact rfl) | ((with_reducible apply xrun_c); exact rfl; exact rfl; exact rfl; exact rfl; exact rfl; exact rfl; (first | exact c1 | exact c2 | exact c4); exact rfl) | ((with_reducible apply xrun_e); exact rfl) | with_reducible apply xrun_f)) | with_reducible (first | refine xthen ?_ | refine xthen_r ?_ | refine xblock_r ?_) | (with_reducible intro hc; (try simp only [decide_eq_true_eq, decide_eq_false_iff_not, Bool.not_true, Bool.not_false, Bool.not_eq_true', Bool.not_eq_false', ne_eq, not_true, reduceCtorEq, List.length_map, hk1] at hc); (try (exfalso; omega))) | with_reducible (first | exact trivial | refine And.intro ?_ ?_ | exact rfl) | exact Eq.refl true)
        all_goals (refine xfinIs (by first | exact .inl rfl | exact .inr rfl) rfl (by repeat' (first | exact trivial | exact rfl | refine And.intro ?_ ?_)) rfl ?_ rfl; first | (simp -implicitDefEqProofs only [go_sem, Int.reduceEq, Int.reduceLT, Int.reduceLE, Nat.reduceAdd, Nat.reduceSub, Nat.reduceMul, Nat.reduceEqDiff, Nat.reduceLeDiff, Nat.reducePow, ↓reduceIte, reduceCtorEq, wishV] <;> (first | rfl | omega | exact decide_eq_decide.2 (by omega) | exact decide_eq_false (by omega) | exact decide_eq_true (by omega) | (symm; first | exact decide_eq_false (by omega) | exact decide_eq_true (by omega)) | (rw [Bool.eq_iff_iff]; simp only [Bool.not_eq_true', Bool.not_eq_false', Bool.and_eq_true, Bool.or_eq_true, decide_eq_true_eq, decide_eq_false_iff_not, reduceCtorEq, true_iff, iff_true, false_iff, iff_false]; omega))))
      · rw [if_neg hk0] at hw
        have hk1' : (nodeAt t i).kind = 1 := by rw [nodeAt_eq h2]; omega
        have c5 := c_requestI (gridOf t i (kids t i)) (grid_ok h h2 hk1')
        have hw : wish t i = gridReq (gridOf t i (kids t i)) := by rw [hw, ← nodeAt_eq h2]; rfl
        rw [hw]
        clear hw hreq ih
        refine ACon.introW tok (nt := 50) Try.func66 rfl rfl rfl (by kernel_rfl) rfl ?_
        repeat' (first | ((with_reducible apply xsim); (first | ((with_reducible apply xlenM); exact rfl; exact rfl) | ((with_reducible apply xo); exact rfl) | ((with_reducible apply xst); exact rfl) | with_reducible apply xend | ((with_reducible apply xguardS); exact rfl; exact rfl) | ((with_reducible apply xalloc); exact rfl; simp only [backV, backVs, backVs_mapd, backId, backO, List.map_cons, List.map_nil, List.getElem?_nil, List.length_cons, List.length_nil, Nat.reduceAdd, Nat.reduceSub, List.cons_append, List.nil_append, List.append_nil]) | ((with_reducible apply xbox); exact rfl; simp only [backV, backVs, backVs_mapd, backId, backO, List.map_cons, List.map_nil, List.getElem?_nil, List.length_cons, List.length_nil, Nat.reduceAdd, Nat.reduceSub, List.cons_append, List.nil_append, List.append_nil]) | ((with_reducible apply xidxL); exact rfl; exact rfl; exact rfl; (first | exact hrow); omega; first | exact rfl | simp only [hsz]) | ((with_reducible apply xcallIs); exact rfl; exact rfl; (first | exact c1 | exact c3 | exact c5); exact rfl))) | ((with_reducible apply xaw); (first | ((with_reducible apply xstepS); refine AW.step tok rfl ?_) | with_reducible (first | refine AW.seq ?_ | refine AW.block ?_ | refine AW.skip ?_ | refine AW.ret ?_) | ((with_reducible apply xcond); exact rfl) | ((with_reducible apply xdraw (id := 1)); refine AW.draw (id := 1) (.q 0 (.q 1 (.q 2 (.q 3 (.q 4 (.q 5 (.q 6 (.q 7 (.e 8 (.e 9 (.q 10 (.fin)))))))))))) tok (by kernel_rfl) rfl (by kernel_rfl) ?_))) | ((with_reducible apply xarun); (first | ((with_reducible apply xrun_q); exact rfl; exact rfl; exact rfl) | ((with_reducible apply xrun_c); exact rfl; exact rfl; exact rfl; exact rfl; exact rfl; exact rfl; (first | exact c1 | exact c3 | exact c5); exact rfl) | ((with_reducible apply xrun_e); exact rfl) | with_reducible apply xrun_f)) | with_reducible (first | refine xthen ?_ | refine xblock ?_) | (with_reducible intro hc; (try simp only [decide_eq_true_eq, decide_eq_false_iff_not, Bool.not_true, Bool.not_false, Bool.not_eq_true', Bool.not_eq_false', ne_eq, not_true, reduceCtorEq, List.length_map, hk1] at hc); (try (exfalso; omega))) | with_reducible (first | exact trivial | refine And.intro ?_ ?_ | exact rfl) | exact Eq.refl true)
        all_goals (refine xfinIs (by first | exact .inl rfl | exact .inr rfl) rfl (by repeat' (first | exact trivial | exact rfl | refine And.intro ?_ ?_)) rfl ?_ rfl; first | (simp -implicitDefEqProofs only [go_sem, Int.reduceEq, Int.reduceLT, Int.reduceLE, Nat.reduceAdd, Nat.reduceSub, Nat.reduceMul, Nat.reduceEqDiff, Nat.reduceLeDiff, Nat.reducePow, ↓reduceIte, reduceCtorEq, wishV] <;> (first | rfl | omega | exact decide_eq_decide.2 (by omega) | exact decide_eq_false (by omega) | exact decide_eq_true (by omega) | (symm; first | exact decide_eq_false (by omega) | exact decide_eq_true (by omega)) | (rw [Bool.eq_iff_iff]; simp only [Bool.not_eq_true', Bool.not_eq_false', Bool.and_eq_true, Bool.or_eq_true, decide_eq_true_eq, decide_eq_false_iff_not, reduceCtorEq, true_iff, iff_true, false_iff, iff_false]; omega))))

set_option maxRecDepth 8000 in
set_option maxHeartbeats 4000000 in
theorem c_reqS (t : List Node) (h : TreeK t) : ∀ m i : Nat, t.length - i ≤ m → i < t.length → ACon Try.prog 67 [vTree t, .d (.int .i64 (i : Int))] [] (Is (wishV (wish t i))) := by
  intro m
  induction m with
  | zero => intro i h1 h2; omega
  | succ m ih =>
    intro i h1 h2
    have hhi := h.hi
    have hkl : (kids t i).length ≤ 10 := by have := kids_len t i t.length; unfold kids; omega
    have hks : ∀ k ∈ kids t i, k < t.length := fun k hk => (h.kid hk).1
    have hreq : ∀ k ∈ kids t i, ACon Try.prog 67 [vTree t, .d (.int .i64 (k : Int))] [] (Is (wishV (wish t k))) := fun k hk => by
      obtain ⟨a, b, _⟩ := h.kid hk
      exact ih k (by omega) a
    have c1 := c_kidsS t h i
    have c2 := ORows.data (c_packsS t h _ hks hkl hreq)
    have c3 := c_gridS t h i h2 _ hks hkl hreq
    have c4 := c_preqS (itemsOf t (kids t i)) (items_ok h i).1 (items_ok h i).2
    have hrow := at_map (f := encNode) h2
    have hn := (nodeOk_iff (h.ok i h2)).1
    have hw := wish_eq h h2
    unfold wishOf at hw
    rw [nodeAt_eq h2] at hw
    by_cases hA : t[i].keep = true ∨ kids t i = [] ∨ t[i].kind = 2
    · rw [if_pos hA] at hw
      rw [hw]
      have hA' : t[i].keep = true ∨ (kids t i).length = 0 ∨ t[i].kind = 2 := by rw [List.length_eq_zero_iff]; exact hA
      clear hw hA hreq ih
      rcases hA' with hA | hA | hA
      all_goals
        refine ACon.introW tok (nt := 48) Try.func67 rfl rfl rfl (by kernel_rfl) rfl ?_
        repeat' (first | ((with_reducible apply xsim); (first | ((with_reducible apply xlenM); exact rfl; exact rfl) | ((with_reducible apply xo); exact rfl) | ((with_reducible apply xst); exact rfl) | with_reducible apply xend | ((with_reducible apply xguardS); exact rfl; exact rfl) | ((with_reducible apply xalloc); exact rfl; simp only [backV, backVs, backVs_mapd, backId, backO, List.map_cons, List.map_nil, List.getElem?_nil, List.length_cons, List.length_nil, Nat.reduceAdd, Nat.reduceSub, List.cons_append, List.nil_append, List.append_nil]) | ((with_reducible apply xbox); exact rfl; simp only [backV, backVs, backVs_mapd, backId, backO, List.map_cons, List.map_nil, List.getElem?_nil, List.length_cons, List.length_nil, Nat.reduceAdd, Nat.reduceSub, List.cons_append, List.nil_append, List.append_nil]) | ((with_reducible apply xidxL); exact rfl; exact rfl; exact rfl; (first | exact hrow); omega; first | exact rfl | simp only [hsz]) | ((with_reducible apply xcallIs); exact rfl; exact rfl; exact c1; exact rfl))) | ((with_reducible apply xaw); (first | ((with_reducible apply xstepS); refine AW.step tok rfl ?_) | with_reducible (first | refine AW.seq ?_ | refine AW.ret ?_) | ((with_reducible apply xcond); exact rfl) | ((with_reducible apply xdraw (id := 4)); refine AW.draw (id := 4) (.q 0 (.q 1 (.q 2 (.q 3 (.q 4 (.q 5 (.fin))))))) tok (by kernel_rfl) rfl (by kernel_rfl) ?_))) | ((with_reducible apply xarun); (first | ((with_reducible apply xrun_q); exact rfl; exact rfl; exact rfl) | with_reducible apply xrun_f)) | with_reducible (first | refine xthen ?_ | refine xthen_r ?_) | (with_reducible intro hc; (try simp only [decide_eq_true_eq, decide_eq_false_iff_not, Bool.not_true, Bool.not_false, Bool.not_eq_true', Bool.not_eq_false', ne_eq, not_true, reduceCtorEq, List.length_map, hA] at hc); (try (exfalso; omega))) | with_reducible (first | exact trivial | refine And.intro ?_ ?_ | exact rfl) | exact Eq.refl true)
        all_goals (refine xfinIs (by first | exact .inl rfl | exact .inr rfl) rfl (by repeat' (first | exact trivial | exact rfl | refine And.intro ?_ ?_)) rfl ?_ rfl; first | (simp -implicitDefEqProofs only [go_sem, Int.reduceEq, Int.reduceLT, Int.reduceLE, Nat.reduceAdd, Nat.reduceSub, Nat.reduceMul, Nat.reduceEqDiff, Nat.reduceLeDiff, Nat.reducePow, ↓reduceIte, reduceCtorEq, wishV] <;> (first | rfl | omega | exact decide_eq_decide.2 (by omega) | exact decide_eq_false (by omega) | exact decide_eq_true (by omega) | (symm; first | exact decide_eq_false (by omega) | exact decide_eq_true (by omega)) | (rw [Bool.eq_iff_iff]; simp only [Bool.not_eq_true', Bool.not_eq_false', Bool.and_eq_true, Bool.or_eq_true, decide_eq_true_eq, decide_eq_false_iff_not, reduceCtorEq, true_iff, iff_true, false_iff, iff_false]; omega))))
    · rw [if_neg hA] at hw
      rw [not_or, not_or, ← List.length_eq_zero_iff] at hA
      obtain ⟨hk1, hk2, hk3⟩ := hA
      have hk1 : t[i].keep = false := by simpa using hk1
      by_cases hk0 : t[i].kind = 0
      · rw [if_pos hk0] at hw
        have hw : wish t i = preqs (itemsOf t (kids t i)) := hw
        rw [hw]
        clear hw hreq ih
        refine ACon.introW tok (nt := 48) Try.func67 rfl rfl rfl (by kernel_rfl) rfl ?_
        repeat' (first | ((with_reducible apply xsim); (first | ((with_reducible apply xlenM); exact rfl; exact rfl) | ((with_reducible apply xo); exact rfl) | ((with_reducible apply xst); exact rfl) | with_reducible apply xend | ((with_reducible apply xguardS); exact rfl; exact rfl) | ((with_reducible apply xalloc); exact rfl; simp only [backV, backVs, backVs_mapd, backId, backO, List.map_cons, List.map_nil, List.getElem?_nil, List.length_cons, List.length_nil, Nat.reduceAdd, Nat.reduceSub, List.cons_append, List.nil_append, List.append_nil]) | ((with_reducible apply xbox); exact rfl; simp only [backV, backVs, backVs_mapd, backId, backO, List.map_cons, List.map_nil, List.getElem?_nil, List.length_cons, List.length_nil, Nat.reduceAdd, Nat.reduceSub, List.cons_append, List.nil_append, List.append_nil]) | ((with_reducible apply xidxL); exact rfl; exact rfl; exact rfl; (first | exact hrow); omega; first | exact rfl | simp only [hsz]) | ((with_reducible apply xcallIs); exact rfl; exact rfl; (first | exact c1 | exact c2 | exact c4); exact rfl))) | ((with_reducible apply xaw); (first | ((with_reducible apply xstepS); refine AW.step tok rfl ?_) | with_reducible (first | refine AW.seq ?_ | refine AW.skip ?_ | refine AW.ret ?_) | ((with_reducible apply xcond); exact rfl))) | with_reducible (first | refine xthen ?_ | refine xthen_r ?_) | (with_reducible intro hc; (try simp only [decide_eq_true_eq, decide_eq_false_iff_not, Bool.not_true, Bool.not_false, Bool.not_eq_true', Bool.not_eq_false', ne_eq, not_true, reduceCtorEq, List.length_map, hk1] at hc); (try (exfalso; omega))) | with_reducible (first | exact trivial | refine And.intro ?_ ?_ | exact rfl) | exact Eq.refl true)
        all_goals (refine xfinIs (by first | exact .inl rfl | exact .inr rfl) rfl (by repeat' (first | exact trivial | exact rfl | refine And.intro ?_ ?_)) rfl ?_ rfl; first | (simp -implicitDefEqProofs only [go_sem, Int.reduceEq, Int.reduceLT, Int.reduceLE, Nat.reduceAdd, Nat.reduceSub, Nat.reduceMul, Nat.reduceEqDiff, Nat.reduceLeDiff, Nat.reducePow, ↓reduceIte, reduceCtorEq, wishV] <;> (first | rfl | omega | exact decide_eq_decide.2 (by omega) | exact decide_eq_false (by omega) | exact decide_eq_true (by omega) | (symm; first | exact decide_eq_false (by omega) | exact decide_eq_true (by omega)) | (rw [Bool.eq_iff_iff]; simp only [Bool.not_eq_true', Bool.not_eq_false', Bool.and_eq_true, Bool.or_eq_true, decide_eq_true_eq, decide_eq_false_iff_not, reduceCtorEq, true_iff, iff_true, false_iff, iff_false]; omega))))
      · rw [if_neg hk0] at hw
        have hk1' : (nodeAt t i).kind = 1 := by rw [nodeAt_eq h2]; omega
        have c5 := c_requestS (gridOf t i (kids t i)) (grid_ok h h2 hk1')
        have hw : wish t i = gridReq (gridOf t i (kids t i)) := by rw [hw, ← nodeAt_eq h2]; rfl
        rw [hw]
        clear hw hreq ih
        refine ACon.introW tok (nt := 48) Try.func67 rfl rfl rfl (by kernel_rfl) rfl ?_
        repeat' (first | ((with_reducible apply xsim); (first | ((with_reducible apply xlenM); exact rfl; exact rfl) | ((with_reducible apply xo); exact rfl) | ((with_reducible apply xst); exact rfl) | with_reducible apply xend | ((with_reducible apply xguardS); exact rfl; exact rfl) | ((with_reducible apply xalloc); exact rfl; simp only [backV, backVs, backVs_mapd, backId, backO, List.map_cons, List.map_nil, List.getElem?_nil, List.length_cons, List.length_nil, Nat.reduceAdd, Nat.reduceSub, List.cons_append, List.nil_append, List.append_nil]) | ((with_reducible apply xbox); exact rfl; simp only [backV, backVs, backVs_mapd, backId, backO, List.map_cons, List.map_nil, List.getElem?_nil, List.length_cons, List.length_nil, Nat.reduceAdd, Nat.reduceSub, List.cons_append, List.nil_append, List.append_nil]) | ((with_reducible apply xidxL); exact rfl; exact rfl; exact rfl; (first | exact hrow); omega; first | exact rfl | simp only [hsz]) | ((with_reducible apply xcallIs); exact rfl; exact rfl; (first | exact c1 | exact c3 | exact c5); exact rfl))) | ((with_reducible apply xaw); (first | ((with_reducible apply xstepS); refine AW.step tok rfl ?_) | with_reducible (first | refine AW.seq ?_ | refine AW.skip ?_ | refine AW.ret ?_) | ((with_reducible apply xcond); exact rfl))) | with_reducible refine xthen ?_ | (with_reducible intro hc; (try simp only [decide_eq_true_eq, decide_eq_false_iff_not, Bool.not_true, Bool.not_false, Bool.not_eq_true', Bool.not_eq_false', ne_eq, not_true, reduceCtorEq, List.length_map, hk1] at hc); (try (exfalso; omega))) | with_reducible (first | exact trivial | refine And.intro ?_ ?_ | exact rfl) | exact Eq.refl true)
        all_goals (refine xfinIs (by first | exact .inl rfl | exact .inr rfl) rfl (by repeat' (first | exact trivial | exact rfl | refine And.intro ?_ ?_)) rfl ?_ rfl; first | (simp -implicitDefEqProofs only [go_sem, Int.reduceEq, Int.reduceLT, Int.reduceLE, Nat.reduceAdd, Nat.reduceSub, Nat.reduceMul, Nat.reduceEqDiff, Nat.reduceLeDiff, Nat.reducePow, ↓reduceIte, reduceCtorEq, wishV] <;> (first | rfl | omega | exact decide_eq_decide.2 (by omega) | exact decide_eq_false (by omega) | exact decide_eq_true (by omega) | (symm; first | exact decide_eq_false (by omega) | exact decide_eq_true (by omega)) | (rw [Bool.eq_iff_iff]; simp only [Bool.not_eq_true', Bool.not_eq_false', Bool.and_eq_true, Bool.or_eq_true, decide_eq_true_eq, decide_eq_false_iff_not, reduceCtorEq, true_iff, iff_true, false_iff, iff_false]; omega))))

theorem c_request (t : List Node) (h : TreeK t) (i : Nat) (hi : i < t.length) : ACon Try.prog 66 [vTree t, .d (.int .i64 (i : Int))] [] (Is (wishV (wish t i))) := c_reqI t h _ i (Nat.le_refl _) hi
theorem c_sizeOf (t : List Node) (h : TreeK t) (i : Nat) (hi : i < t.length) : ACon Try.prog 67 [vTree t, .d (.int .i64 (i : Int))] [] (Is (wishV (wish t i))) := c_reqS t h _ i (Nat.le_refl _) hi
end Go.Proofs.Yticgjepndfjafaa

namespace Go.Proofs.Yticgjepndfjafaa
open Go.Fw

/-! A node asks for another size. -/
def setWH (n : Node) (w h : Int) : Node := ⟨n.parent, w, h, n.keep, n.kind, n.cols, n.rows, n.pack, n.cell, n.place⟩
def asked (t : List Node) (i : Nat) (w h : Int) : List Node := t.set i (setWH (nodeAt t i) w h)
section
variable {t : List Node} {i : Nat} {w h : Int}
theorem asked_len : (asked t i w h).length = t.length := by simp [asked]
theorem asked_ne {k : Nat} (hk : k ≠ i) : nodeAt (asked t i w h) k = nodeAt t k := by
  simp only [nodeAt, asked]
  rw [List.getElem?_set_ne (fun e => hk e.symm)]
theorem asked_eq (hi : i < t.length) : nodeAt (asked t i w h) i = setWH (nodeAt t i) w h := by
  simp only [nodeAt, asked]
  rw [List.getElem?_set_self hi]
  rfl
theorem asked_or (k : Nat) : nodeAt (asked t i w h) k = nodeAt t k ∨ nodeAt (asked t i w h) k = setWH (nodeAt t k) w h := by
  by_cases e : k = i
  · subst e
    by_cases hk : k < t.length
    · exact .inr (asked_eq hk)
    · left
      simp only [nodeAt, asked]
      rw [List.getElem?_eq_none (by simp; omega), List.getElem?_eq_none (by omega)]
  · exact .inl (asked_ne e)
theorem asked_rest (k : Nat) : (nodeAt (asked t i w h) k).parent = (nodeAt t k).parent ∧ (nodeAt (asked t i w h) k).keep = (nodeAt t k).keep ∧ (nodeAt (asked t i w h) k).kind = (nodeAt t k).kind ∧
    (nodeAt (asked t i w h) k).cols = (nodeAt t k).cols ∧ (nodeAt (asked t i w h) k).rows = (nodeAt t k).rows ∧ (nodeAt (asked t i w h) k).pack = (nodeAt t k).pack ∧
    (nodeAt (asked t i w h) k).cell = (nodeAt t k).cell ∧ (nodeAt (asked t i w h) k).place = (nodeAt t k).place := by
  rcases asked_or (t := t) (i := i) (w := w) (h := h) k with e | e <;> rw [e] <;> exact ⟨rfl, rfl, rfl, rfl, rfl, rfl, rfl, rfl⟩
theorem asked_kids (j : Nat) : kids (asked t i w h) j = kids t j := by
  unfold kids kidsTo
  rw [asked_len]
  congr 1
  funext k
  simp only [isKid, (asked_rest k).1]
theorem nodeOk_set {n : Node} (hn : nodeOk n = true) (hw : 0 ≤ w ∧ w ≤ 30) (hh : 0 ≤ h ∧ h ≤ 30) : nodeOk (setWH n w h) = true := by
  have h1 := nodeOk_iff hn
  simp only [nodeOk, Bool.and_eq_true, decide_eq_true_eq] at hn ⊢
  simp only [setWH]
  obtain ⟨⟨⟨⟨⟨a, b⟩, c⟩, d⟩, e⟩, f⟩ := hn
  exact ⟨⟨⟨⟨⟨by omega, b⟩, c⟩, d⟩, e⟩, f⟩
theorem upOk_iff {n : Node} {k : Nat} : upOk t k n = if k = 0 then decide (n.parent = -1) else decide (0 ≤ n.parent ∧ n.parent ≤ (k : Int) - 1) && match t[n.parent.toNat]? with
    | some u => if u.kind = 1 then lies n.cell u.cols.length u.rows.length else true
    | none => true := rfl
theorem asked_get? (k : Nat) : (asked t i w h)[k]? = (t[k]?).map fun n => if k = i then setWH n w h else n := by
  unfold asked
  rw [List.getElem?_set]
  by_cases e : i = k
  · subst e
    rw [if_pos rfl]
    by_cases hi : i < t.length
    · rw [if_pos hi, List.getElem?_eq_getElem hi, nodeAt_eq hi]; simp
    · rw [if_neg hi, List.getElem?_eq_none (by omega)]; rfl
  · rw [if_neg e]
    cases t[k]? with
    | none => rfl
    | some n => simp only [Option.map_some]; rw [if_neg fun e' : k = i => e e'.symm]
theorem asked_get {k : Nat} (hk : k < (asked t i w h).length) : (asked t i w h)[k] = if k = i then setWH (t[k]'(by rw [asked_len] at hk; exact hk)) w h else t[k]'(by rw [asked_len] at hk; exact hk) := by
  have := asked_get? (t := t) (i := i) (w := w) (h := h) k
  rw [List.getElem?_eq_getElem hk, List.getElem?_eq_getElem (by rw [asked_len] at hk; exact hk)] at this
  exact Option.some.inj this
theorem asked_ok (ht : treeOk t = true) (hi : i < t.length) (hw : 0 ≤ w ∧ w ≤ 30) (hh : 0 ≤ h ∧ h ≤ 30) : treeOk (asked t i w h) = true := by
  obtain ⟨h1, h2⟩ := treeOk_iff.1 ht
  refine treeOk_iff.2 ⟨by rw [asked_len]; exact h1, fun k hk => ?_⟩
  have hk' : k < t.length := by rw [asked_len] at hk; exact hk
  have hu : upOk (asked t i w h) k (asked t i w h)[k] = upOk t k t[k] := by
    have e1 : ((asked t i w h)[k]).parent = t[k].parent ∧ ((asked t i w h)[k]).cell = t[k].cell := by
      rw [asked_get hk]; split <;> exact ⟨rfl, rfl⟩
    rw [upOk_iff, upOk_iff, e1.1, e1.2, asked_get?]
    cases t[t[k].parent.toNat]? with
    | none => rfl
    | some u =>
      simp only [Option.map_some]
      by_cases e : t[k].parent.toNat = i
      · rw [if_pos e]; rfl
      · rw [if_neg e]
  rw [hu]
  refine ⟨?_, (h2 k hk').2⟩
  rw [asked_get hk]
  split
  · exact nodeOk_set (h2 k hk').1 hw hh
  · exact (h2 k hk').1
end

/-- A node's wish turns only with its own size or a kid's wish. -/
theorem touch_kid {t : List Node} (hk : TreeK t) {i : Nat} {w h : Int} (hk' : TreeK (asked t i w h)) {j : Nat} (hj : j < t.length) (hne : j ≠ i) (hd : wish (asked t i w h) j ≠ wish t j) :
    (nodeAt t j).keep = false ∧ (nodeAt t j).kind ≠ 2 ∧ ∃ k ∈ kids t j, wish (asked t i w h) k ≠ wish t k := by
  rw [wish_eq hk' (by rw [asked_len]; exact hj), wish_eq hk hj] at hd
  have e1 : ∀ f, wishOf (asked t i w h) j f = wishOf t j f := by
    intro f
    unfold wishOf
    rw [asked_kids, asked_ne hne]
    have a1 : ((kids t j).map fun k => packOf (nodeAt (asked t i w h) k) (f k)) = (kids t j).map fun k => packOf (nodeAt t k) (f k) := List.map_congr_left fun k _ => by
      unfold packOf; rw [(asked_rest k).2.2.2.2.2.1]
    have a2 : ((kids t j).map fun k => cellOf (nodeAt (asked t i w h) k) (f k)) = (kids t j).map fun k => cellOf (nodeAt t k) (f k) := List.map_congr_left fun k _ => by
      unfold cellOf; rw [(asked_rest k).2.2.2.2.2.2.1]
    rw [a1, a2]
  rw [e1] at hd
  refine ⟨?_, ?_, ?_⟩
  · cases hkp : (nodeAt t j).keep with
    | false => rfl
    | true => exact absurd (by unfold wishOf; rw [if_pos (.inl hkp), if_pos (.inl hkp)]) hd
  · intro hk2
    exact hd (by unfold wishOf; rw [if_pos (.inr (.inr hk2)), if_pos (.inr (.inr hk2))])
  · refine Decidable.byContradiction fun hc => hd (wishOf_congr fun k hkk => ?_)
    exact Decidable.byContradiction fun hn => hc ⟨k, hkk, hn⟩

/-- The way up from a node. -/
def wayF (t : List Node) : Nat → Nat → List Nat
  | 0, i => [i]
  | f + 1, i => if i = 0 then [0] else i :: wayF t f (nodeAt t i).parent.toNat
def way (t : List Node) (i : Nat) : List Nat := wayF t i i
theorem wayF_fuel {t : List Node} (h : TreeK t) : ∀ (f g i : Nat), i < t.length → i ≤ f → i ≤ g → wayF t f i = wayF t g i := by
  intro f
  induction f with
  | zero =>
    intro g i hi h1 h2
    have : i = 0 := by omega
    subst this
    cases g <;> simp [wayF]
  | succ f ih =>
    intro g i hi h1 h2
    by_cases h0 : i = 0
    · subst h0
      cases g <;> simp [wayF]
    · cases g with
      | zero => omega
      | succ g =>
        have hp := h.up i hi (by omega)
        simp only [wayF]
        rw [if_neg h0, if_neg h0, nodeAt_eq hi, ih g _ (by omega) (by omega) (by omega)]
theorem way_zero (t : List Node) : way t 0 = [0] := rfl
theorem way_succ {t : List Node} (h : TreeK t) {i : Nat} (hi : i < t.length) (h0 : i ≠ 0) : way t i = i :: way t t[i].parent.toNat := by
  have hp := h.up i hi (by omega)
  obtain ⟨m, rfl⟩ : ∃ m, i = m + 1 := ⟨i - 1, by omega⟩
  unfold way
  simp only [wayF]
  rw [if_neg h0, nodeAt_eq hi, wayF_fuel h m _ _ (by omega) (by omega) (Nat.le_refl _)]
theorem way_head {t : List Node} (h : TreeK t) {i : Nat} (hi : i < t.length) : ∃ r, way t i = i :: r := by
  by_cases h0 : i = 0
  · subst h0; exact ⟨[], rfl⟩
  · exact ⟨_, way_succ h hi h0⟩
theorem way_le {t : List Node} (h : TreeK t) : ∀ i, i < t.length → ∀ k ∈ way t i, k ≤ i := by
  intro i
  induction i using Nat.strongRecOn with
  | ind i ih =>
    intro hi k hk
    by_cases h0 : i = 0
    · subst h0
      rw [way_zero, List.mem_singleton] at hk
      omega
    · rw [way_succ h hi h0] at hk
      have hp := h.up i hi (by omega)
      rcases List.mem_cons.1 hk with rfl | hk
      · exact Nat.le_refl _
      · have := ih _ (by omega) (by omega) k hk
        omega
theorem way_len {t : List Node} (h : TreeK t) : ∀ i, i < t.length → (way t i).length ≤ i + 1 := by
  intro i
  induction i using Nat.strongRecOn with
  | ind i ih =>
    intro hi
    by_cases h0 : i = 0
    · subst h0
      simp [way_zero]
    · rw [way_succ h hi h0]
      have hp := h.up i hi (by omega)
      have := ih t[i].parent.toNat (by omega) (by omega)
      simp only [List.length_cons]
      omega
theorem way_up {t : List Node} (h : TreeK t) : ∀ i, i < t.length → ∀ k ∈ way t i, k ≠ 0 → ∃ hk : k < t.length, t[k].parent.toNat ∈ way t i := by
  intro i
  induction i using Nat.strongRecOn with
  | ind i ih =>
    intro hi k hk hk0
    by_cases h0 : i = 0
    · subst h0
      rw [way_zero, List.mem_singleton] at hk
      omega
    · rw [way_succ h hi h0] at hk ⊢
      have hp := h.up i hi (by omega)
      rcases List.mem_cons.1 hk with rfl | hk
      · obtain ⟨r, hr⟩ := way_head h (i := t[k].parent.toNat) (by omega)
        exact ⟨hi, by rw [hr]; simp⟩
      · obtain ⟨a, b⟩ := ih _ (by omega) (by omega) k hk hk0
        exact ⟨a, List.mem_cons_of_mem _ b⟩
/-- The node behind another one on the way up is its parent; the last one is the root. -/
theorem way_next {t : List Node} (h : TreeK t) : ∀ i, i < t.length → ∀ k (hk : k + 1 < (way t i).length), ∃ hl : (way t i)[k] < t.length, t[(way t i)[k]].parent = (((way t i)[k + 1] : Nat) : Int) := by
  intro i
  induction i using Nat.strongRecOn with
  | ind i ih =>
    intro hi k hk
    by_cases h0 : i = 0
    · subst h0
      simp only [way_zero, List.length_cons, List.length_nil] at hk
      omega
    · have hp := h.up i hi (by omega)
      have e := way_succ h hi h0
      simp only [e, List.length_cons] at hk ⊢
      cases k with
      | zero =>
        obtain ⟨r, hr⟩ := way_head h (i := t[i].parent.toNat) (by omega)
        simp only [List.getElem_cons_zero, List.getElem_cons_succ, hr]
        exact ⟨hi, by omega⟩
      | succ k =>
        simp only [List.getElem_cons_succ]
        exact ih _ (by omega) (by omega) k (by omega)
theorem way_last {t : List Node} (h : TreeK t) : ∀ i, i < t.length → ∃ hl : 0 < (way t i).length, (way t i)[(way t i).length - 1]'(by omega) = 0 := by
  intro i
  induction i using Nat.strongRecOn with
  | ind i ih =>
    intro hi
    by_cases h0 : i = 0
    · subst h0
      exact ⟨by simp [way_zero], rfl⟩
    · have hp := h.up i hi (by omega)
      obtain ⟨a, b⟩ := ih t[i].parent.toNat (by omega) (by omega)
      refine ⟨by rw [way_succ h hi h0]; simp, ?_⟩
      simp only [way_succ h hi h0, List.length_cons]
      obtain ⟨r, hr⟩ := way_head h (i := t[i].parent.toNat) (by omega)
      simp only [hr] at b ⊢
      simp only [List.length_cons, Nat.add_sub_cancel, List.getElem_cons_succ] at b ⊢
      exact b
theorem way_dec {t : List Node} (h : TreeK t) {i : Nat} (hi : i < t.length) : ∀ d k (hk : k + d + 1 < (way t i).length), (way t i)[k + d + 1] < (way t i)[k]'(by omega) := by
  intro d
  have step : ∀ k (hk : k + 1 < (way t i).length), (way t i)[k + 1] < (way t i)[k] := by
    intro k hk
    obtain ⟨hl, hp⟩ := way_next h i hi k hk
    by_cases h0 : (way t i)[k] = 0
    · have := h.root (by omega)
      simp only [h0] at hp
      omega
    · have := h.up _ hl (by omega)
      omega
  induction d with
  | zero => intro k hk; exact step k hk
  | succ d ih =>
    intro k hk
    have := ih k (by omega)
    have := step (k + d + 1) (by omega)
    simp only [show k + (d + 1) + 1 = k + d + 1 + 1 by omega]
    omega

def touched (t t' : List Node) : List Nat := (List.range t.length).filter fun k => decide (wish t k ≠ wish t' k)
theorem mem_touched {t t' : List Node} {k : Nat} : k ∈ touched t t' ↔ k < t.length ∧ wish t k ≠ wish t' k := by simp [touched]
theorem touched_way {t : List Node} (hk : TreeK t) {i : Nat} {w h : Int} (hi : i < t.length) (hk' : TreeK (asked t i w h)) : ∀ m j, t.length - j ≤ m → j ∈ touched t (asked t i w h) → j ∈ way t i := by
  intro m
  induction m with
  | zero => intro j h1 h2; have := (mem_touched.1 h2).1; omega
  | succ m ih =>
    intro j h1 h2
    obtain ⟨hj, hd⟩ := mem_touched.1 h2
    by_cases e : j = i
    · subst e
      obtain ⟨r, hr⟩ := way_head hk hj
      rw [hr]; simp
    · obtain ⟨_, _, k, hkk, hdk⟩ := touch_kid hk hk' hj e (fun e => hd e.symm)
      obtain ⟨a, b, c⟩ := hk.kid hkk
      have := ih k (by omega) (mem_touched.2 ⟨a, fun e => hdk e.symm⟩)
      obtain ⟨_, d⟩ := way_up hk i hi k this (by omega)
      rw [c] at d
      simpa using d
theorem touched_next {t : List Node} (hk : TreeK t) {i : Nat} {w h : Int} (hi : i < t.length) (hk' : TreeK (asked t i w h)) {k : Nat} (hkl : k + 1 < (way t i).length) (ht : (way t i)[k + 1] ∈ touched t (asked t i w h)) :
    (way t i)[k] ∈ touched t (asked t i w h) ∧ (nodeAt t (way t i)[k + 1]).keep = false ∧ (nodeAt t (way t i)[k + 1]).kind ≠ 2 := by
  obtain ⟨hj, hd⟩ := mem_touched.1 ht
  have hlt : (way t i)[k + 1] < i := by
    have h1 := way_dec hk hi 0 k (by omega)
    have h2 := way_le hk i hi _ (List.getElem_mem (show k < (way t i).length by omega))
    simp only [Nat.add_zero] at h1
    omega
  obtain ⟨a, b, m, hm, hdm⟩ := touch_kid hk hk' hj (by omega) (fun e => hd e.symm)
  refine ⟨?_, a, b⟩
  obtain ⟨c1, c2, c3⟩ := hk.kid hm
  have hmt : m ∈ touched t (asked t i w h) := mem_touched.2 ⟨c1, fun e => hdm e.symm⟩
  have hmw := touched_way hk hi hk' _ m (Nat.le_refl _) hmt
  obtain ⟨l, hl, hlm⟩ := List.mem_iff_getElem.1 hmw
  -- the node's place on the way is the one ahead
  have hl1 : l + 1 < (way t i).length := by
    refine Decidable.byContradiction fun hc => ?_
    obtain ⟨z1, z2⟩ := way_last hk i hi
    have e : l = (way t i).length - 1 := by omega
    subst e
    rw [z2] at hlm
    omega
  obtain ⟨n1, n2⟩ := way_next hk i hi l hl1
  simp only [hlm] at n2
  rw [c3] at n2
  have heq : (way t i)[l + 1] = (way t i)[k + 1] := by omega
  have : l = k := by
    refine Decidable.byContradiction fun hc => ?_
    rcases Nat.lt_or_gt_of_ne hc with hlt' | hgt
    · have := way_dec hk hi (k - l - 1) (l + 1) (by omega)
      simp only [show l + 1 + (k - l - 1) + 1 = k + 1 by omega] at this
      omega
    · have := way_dec hk hi (l - k - 1) (k + 1) (by omega)
      simp only [show k + 1 + (l - k - 1) + 1 = l + 1 by omega] at this
      omega
  subst this
  rw [hlm]
  exact hmt

end Go.Proofs.Yticgjepndfjafaa

namespace Go.Proofs.Yticgjepndfjafaa
open Go.Fw
attribute [local irreducible] Go.Fw.aops Go.Fw.arun

theorem c_validTree (t : List Node) (hL : TreeL t) : ACon Try.prog 57 [vTree t] [] (Is (.d (.bool (treeOk t)))) := by
  have hL' := hL
  obtain ⟨hL1, _⟩ := hL'
  refine ACon.introW tok (nt := 19) Try.func57 rfl rfl rfl (by kernel_rfl) rfl ?_
  repeat' (first | ((with_reducible apply xsim); (first | ((with_reducible apply xo); exact rfl) | with_reducible apply xend | ((with_reducible apply xbox); exact rfl; simp only [backV, backVs, backVs_mapd, backId, backO, List.map_cons, List.map_nil, List.getElem?_nil, List.length_cons, List.length_nil, Nat.reduceAdd, Nat.reduceSub, List.cons_append, List.nil_append, List.append_nil]))) | ((with_reducible apply xaw); (first | ((with_reducible apply xstepS); refine AW.step tok rfl ?_) | with_reducible (first | refine AW.seq ?_ | refine AW.block ?_))) | with_reducible exact trivial)
  refine AW.loop (S := fun k : Nat => ⟨[(1, .oref 0 0), (3, .d (.int .i64 k))], [.box [.d (.lst (t.map encNode))]], 19, 0⟩)
    (Pre := fun k => k ≤ t.length ∧ ∀ j (h : j < t.length), j < k → (nodeOk t[j] && upOk t j t[j]) = true) (μ := fun k => t.length - k) 0 ⟨Nat.zero_le _, fun j _ h => absurd h (Nat.not_lt_zero _)⟩ ?_ ?_
  · (refine xwk (π := [0]) (by decide) rfl ?_ ?_; (first | simp -implicitDefEqProofs only [go_sem, Int.reduceEq, Int.reduceLT, Int.reduceLE, Nat.reduceAdd, Nat.reduceSub, Nat.reduceMul, Nat.reduceEqDiff, Nat.reduceLeDiff, Nat.reducePow, ↓reduceIte, reduceCtorEq]); repeat' (first | exact renE_n | ((with_reducible apply renE_c); exact rfl; focus (first | (simp -implicitDefEqProofs only [go_sem, Int.reduceEq, Int.reduceLT, Int.reduceLE, Nat.reduceAdd, Nat.reduceSub, Nat.reduceMul, Nat.reduceEqDiff, Nat.reduceLeDiff, Nat.reducePow, ↓reduceIte, reduceCtorEq]; done)))))
  rintro k ⟨hk, hp⟩
  by_cases hlt : k < t.length
  · have cn := c_validNode t hL k hlt
    by_cases hv : (nodeOk t[k] && upOk t k t[k]) = true
    · rw [hv] at cn
      repeat' (first | ((with_reducible apply xsim); (first | ((with_reducible apply xlenM); exact rfl; exact rfl) | ((with_reducible apply xo); exact rfl) | with_reducible apply xend | ((with_reducible apply xcallIs); exact rfl; exact rfl; exact cn; exact rfl))) | ((with_reducible apply xaw); (first | ((with_reducible apply xstepS); refine AW.step tok rfl ?_) | ((with_reducible apply xstep); refine AW.region tok rfl ?_) | with_reducible (first | refine AW.seq ?_ | refine AW.block ?_ | refine AW.skip ?_) | ((with_reducible apply xcond); exact rfl))) | with_reducible (first | refine xthen ?_ | refine xblock ?_) | (with_reducible intro hc; (try simp only [decide_eq_true_eq, decide_eq_false_iff_not, Bool.not_true, Bool.not_false, Bool.not_eq_true', Bool.not_eq_false', ne_eq, not_true, reduceCtorEq, List.length_map] at hc); (try (exfalso; omega))) | with_reducible (first | exact trivial | refine And.intro ?_ ?_ | exact rfl) | exact Eq.refl true | (refine inR_i64.mpr ?_; first | omega | (simp only [List.length_map, List.length_map]; omega)))
      refine round_end (k + 1) ⟨by omega, fun j h hj => ?_⟩ (by omega) (by (refine xwk (π := [0]) (by decide) rfl ?_ ?_; (first | simp -implicitDefEqProofs only [go_sem, Int.reduceEq, Int.reduceLT, Int.reduceLE, Nat.reduceAdd, Nat.reduceSub, Nat.reduceMul, Nat.reduceEqDiff, Nat.reduceLeDiff, Nat.reducePow, ↓reduceIte, reduceCtorEq]); repeat' (first | exact renE_n | ((with_reducible apply renE_c); exact rfl; focus (first | (simp -implicitDefEqProofs only [go_sem, Int.reduceEq, Int.reduceLT, Int.reduceLE, Nat.reduceAdd, Nat.reduceSub, Nat.reduceMul, Nat.reduceEqDiff, Nat.reduceLeDiff, Nat.reducePow, ↓reduceIte, reduceCtorEq]; done))))))
      by_cases e : j = k
      · subst e; exact hv
      · exact hp j h (by omega)
    · have hv' : (nodeOk t[k] && upOk t k t[k]) = false := by simpa using hv
      rw [hv'] at cn
      repeat' (first | ((with_reducible apply xsim); (first | ((with_reducible apply xlenM); exact rfl; exact rfl) | ((with_reducible apply xo); exact rfl) | with_reducible apply xend | ((with_reducible apply xcallIs); exact rfl; exact rfl; exact cn; exact rfl))) | ((with_reducible apply xaw); (first | ((with_reducible apply xstepS); refine AW.step tok rfl ?_) | with_reducible (first | refine AW.seq ?_ | refine AW.block ?_ | refine AW.skip ?_ | refine AW.ret ?_) | ((with_reducible apply xcond); exact rfl))) | with_reducible (first | refine xthen ?_ | refine xthen_r ?_ | refine xblock_r ?_ | refine xround_r ?_) | (with_reducible intro hc; (try simp only [decide_eq_true_eq, decide_eq_false_iff_not, Bool.not_true, Bool.not_false, Bool.not_eq_true', Bool.not_eq_false', ne_eq, not_true, reduceCtorEq, List.length_map] at hc); (try (exfalso; omega))) | with_reducible (first | exact trivial | refine And.intro ?_ ?_ | exact rfl) | exact Eq.refl true)
      (refine xfinIs (by first | exact .inl rfl | exact .inr rfl) rfl (by repeat' (first | exact trivial | exact rfl | refine And.intro ?_ ?_)) rfl ?_ rfl; first | (simp -implicitDefEqProofs only [go_sem, Int.reduceEq, Int.reduceLT, Int.reduceLE, Nat.reduceAdd, Nat.reduceSub, Nat.reduceMul, Nat.reduceEqDiff, Nat.reduceLeDiff, Nat.reducePow, ↓reduceIte, reduceCtorEq, treeOk_ff hlt hv'] <;> (first | rfl | omega | exact decide_eq_decide.2 (by omega) | exact decide_eq_false (by omega) | exact decide_eq_true (by omega) | (symm; first | exact decide_eq_false (by omega) | exact decide_eq_true (by omega)) | (rw [Bool.eq_iff_iff]; simp only [Bool.not_eq_true', Bool.not_eq_false', Bool.and_eq_true, Bool.or_eq_true, decide_eq_true_eq, decide_eq_false_iff_not, reduceCtorEq, true_iff, iff_true, false_iff, iff_false]; omega))))
  · by_cases hlen : 1 ≤ t.length ∧ t.length ≤ 10
    · repeat' (first | ((with_reducible apply xsim); (first | ((with_reducible apply xlenM); exact rfl; exact rfl) | ((with_reducible apply xo); exact rfl) | with_reducible apply xend | ((with_reducible apply xcallIs); exact rfl; exact rfl; exact c_inRange _ _ _; exact rfl))) | ((with_reducible apply xaw); (first | ((with_reducible apply xstepS); refine AW.step tok rfl ?_) | with_reducible (first | refine AW.seq ?_ | refine AW.ret ?_ | refine AW.exit ?_) | ((with_reducible apply xcond); exact rfl))) | with_reducible (first | refine xthen ?_ | refine xthen_e ?_ | refine xblock_e ?_ | refine xround_e ?_) | (with_reducible intro hc; (try simp only [decide_eq_true_eq, decide_eq_false_iff_not, Bool.not_true, Bool.not_false, Bool.not_eq_true', Bool.not_eq_false', ne_eq, not_true, reduceCtorEq, List.length_map] at hc); (try (exfalso; omega))) | with_reducible (first | exact trivial | refine And.intro ?_ ?_ | exact rfl))
      (refine xfinIs (by first | exact .inl rfl | exact .inr rfl) rfl (by repeat' (first | exact trivial | exact rfl | refine And.intro ?_ ?_)) rfl ?_ rfl; first | (simp -implicitDefEqProofs only [go_sem, Int.reduceEq, Int.reduceLT, Int.reduceLE, Nat.reduceAdd, Nat.reduceSub, Nat.reduceMul, Nat.reduceEqDiff, Nat.reduceLeDiff, Nat.reducePow, ↓reduceIte, reduceCtorEq, treeOk_tt hlen fun i h => hp i h (by omega)] <;> (first | rfl | omega | exact decide_eq_decide.2 (by omega) | exact decide_eq_false (by omega) | exact decide_eq_true (by omega) | (symm; first | exact decide_eq_false (by omega) | exact decide_eq_true (by omega)) | (rw [Bool.eq_iff_iff]; simp only [Bool.not_eq_true', Bool.not_eq_false', Bool.and_eq_true, Bool.or_eq_true, decide_eq_true_eq, decide_eq_false_iff_not, reduceCtorEq, true_iff, iff_true, false_iff, iff_false]; omega))))
    · repeat' (first | ((with_reducible apply xsim); (first | ((with_reducible apply xlenM); exact rfl; exact rfl) | ((with_reducible apply xo); exact rfl) | with_reducible apply xend | ((with_reducible apply xcallIs); exact rfl; exact rfl; exact c_inRange _ _ _; exact rfl))) | ((with_reducible apply xaw); (first | ((with_reducible apply xstepS); refine AW.step tok rfl ?_) | with_reducible (first | refine AW.seq ?_ | refine AW.ret ?_ | refine AW.exit ?_) | ((with_reducible apply xcond); exact rfl))) | with_reducible (first | refine xthen ?_ | refine xthen_e ?_ | refine xblock_e ?_ | refine xround_e ?_) | (with_reducible intro hc; (try simp only [decide_eq_true_eq, decide_eq_false_iff_not, Bool.not_true, Bool.not_false, Bool.not_eq_true', Bool.not_eq_false', ne_eq, not_true, reduceCtorEq, List.length_map] at hc); (try (exfalso; omega))) | with_reducible (first | exact trivial | refine And.intro ?_ ?_ | exact rfl))
      (refine xfinIs (by first | exact .inl rfl | exact .inr rfl) rfl (by repeat' (first | exact trivial | exact rfl | refine And.intro ?_ ?_)) rfl ?_ rfl; first | (simp -implicitDefEqProofs only [go_sem, Int.reduceEq, Int.reduceLT, Int.reduceLE, Nat.reduceAdd, Nat.reduceSub, Nat.reduceMul, Nat.reduceEqDiff, Nat.reduceLeDiff, Nat.reducePow, ↓reduceIte, reduceCtorEq, treeOk_len hlen] <;> (first | rfl | omega | exact decide_eq_decide.2 (by omega) | exact decide_eq_false (by omega) | exact decide_eq_true (by omega) | (symm; first | exact decide_eq_false (by omega) | exact decide_eq_true (by omega)) | (rw [Bool.eq_iff_iff]; simp only [Bool.not_eq_true', Bool.not_eq_false', Bool.and_eq_true, Bool.or_eq_true, decide_eq_true_eq, decide_eq_false_iff_not, reduceCtorEq, true_iff, iff_true, false_iff, iff_false]; omega))))

/-- The tree is valid and has the node. -/
def goodN (t : List Node) (i : Int) : Bool := treeOk t && decide (0 ≤ i ∧ i ≤ (t.length : Int) - 1)
theorem c_goodNode (t : List Node) (hL : TreeL t) (i : Int) : ACon Try.prog 59 [vTree t, .d (.int .i64 i)] [] (Is (.d (.bool (goodN t i)))) := by
  have hL1 := hL.1
  have c1 := c_validTree t hL
  cases ht : treeOk t
  all_goals
    rw [ht] at c1
    refine ACon.introW tok (nt := 15) Try.func59 rfl rfl rfl (by kernel_rfl) rfl ?_
    repeat' (first | ((with_reducible apply xsim); (first | ((with_reducible apply xlenM); exact rfl; exact rfl) | ((with_reducible apply xo); exact rfl) | with_reducible apply xend | ((with_reducible apply xguardS); exact rfl; exact rfl) | ((with_reducible apply xbox); exact rfl; simp only [backV, backVs, backVs_mapd, backId, backO, List.map_cons, List.map_nil, List.getElem?_nil, List.length_cons, List.length_nil, Nat.reduceAdd, Nat.reduceSub, List.cons_append, List.nil_append, List.append_nil]) | ((with_reducible apply xcallIs); exact rfl; exact rfl; (first | exact c1 | exact c_inRange _ _ _); exact rfl))) | ((with_reducible apply xaw); (first | ((with_reducible apply xstepS); refine AW.step tok rfl ?_) | with_reducible refine AW.ret ?_)) | (with_reducible intro hc; (try simp only [decide_eq_true_eq, decide_eq_false_iff_not, Bool.not_true, Bool.not_false, Bool.not_eq_true', Bool.not_eq_false', ne_eq, not_true, reduceCtorEq, List.length_map] at hc); (try (exfalso; omega))) | with_reducible (first | exact trivial | refine And.intro ?_ ?_ | exact rfl) | exact Eq.refl true | (refine inR_i64.mpr ?_; first | omega | (simp only [List.length_map, List.length_map]; omega)))
    all_goals (refine xfinIs (by first | exact .inl rfl | exact .inr rfl) rfl (by repeat' (first | exact trivial | exact rfl | refine And.intro ?_ ?_)) rfl ?_ rfl; first | (simp -implicitDefEqProofs only [go_sem, Int.reduceEq, Int.reduceLT, Int.reduceLE, Nat.reduceAdd, Nat.reduceSub, Nat.reduceMul, Nat.reduceEqDiff, Nat.reduceLeDiff, Nat.reducePow, ↓reduceIte, reduceCtorEq, goodN, ht, Bool.true_and, Bool.false_and] <;> (first | rfl | omega | exact decide_eq_decide.2 (by omega) | exact decide_eq_false (by omega) | exact decide_eq_true (by omega) | (symm; first | exact decide_eq_false (by omega) | exact decide_eq_true (by omega)) | (rw [Bool.eq_iff_iff]; simp only [Bool.not_eq_true', Bool.not_eq_false', Bool.and_eq_true, Bool.or_eq_true, decide_eq_true_eq, decide_eq_false_iff_not, reduceCtorEq, true_iff, iff_true, false_iff, iff_false]; omega))))
theorem goodN_iff {t : List Node} {i : Int} : goodN t i = true ↔ treeOk t = true ∧ 0 ≤ i ∧ i.toNat < t.length := by
  simp only [goodN, Bool.and_eq_true, decide_eq_true_eq]
  refine and_congr_right fun _ => ?_
  omega
/-! Ways up. -/
def cur (l : List Nat) (k : Nat) : Int := match l[k]? with
  | some m => (m : Int)
  | none => -1
theorem cur_at {l : List Nat} {k : Nat} (h : k < l.length) : cur l k = ((l[k] : Nat) : Int) := by simp [cur, h]
theorem cur_end {l : List Nat} : cur l l.length = -1 := by simp [cur]
theorem way_cur {t : List Node} (h : TreeK t) {i : Nat} (hi : i < t.length) {k : Nat} (hk : k < (way t i).length) : ∃ hl : (way t i)[k] < t.length, t[(way t i)[k]].parent = cur (way t i) (k + 1) := by
  by_cases h1 : k + 1 < (way t i).length
  · obtain ⟨a, b⟩ := way_next h i hi k h1
    exact ⟨a, by rw [b, cur_at h1]⟩
  · obtain ⟨a, b⟩ := way_last h i hi
    have e : k = (way t i).length - 1 := by omega
    have e0 : (way t i)[k] = 0 := by simp only [e, b]
    have hlo := h.lo
    have hr := h.root (by omega)
    refine ⟨by omega, ?_⟩
    simp only [e0, hr]
    rw [show k + 1 = (way t i).length by omega, cur_end]
theorem way_take {l : List Nat} {k : Nat} (h : k < l.length) : l.take (k + 1) = l.take k ++ [l[k]] := List.take_succ_eq_append_getElem h
/-- The way up of a number that may be none of a node. -/
def wayOf (t : List Node) (i : Int) : List Nat := if goodN t i = true then way t i.toNat else []

theorem c_wayI (t : List Node) (hL : TreeL t) (i : Int) : ACon Try.prog 18 [vTree t, .d (.int .i64 i)] [] (ORows encK 1 (wayOf t i)) := by
  have hL1 := hL.1
  have c1 := c_ValidTree t hL
  cases ht : treeOk t
  · rw [ht] at c1
    have hg : goodN t i = false := by rw [goodN, ht, Bool.false_and]
    refine ACon.introW tok (nt := 31) Try.func18 rfl rfl rfl (by kernel_rfl) rfl ?_
    repeat' (first | ((with_reducible apply xsim); (first | ((with_reducible apply xo); exact rfl) | with_reducible apply xend | ((with_reducible apply xguardS); exact rfl; exact rfl) | ((with_reducible apply xbox); exact rfl; simp only [backV, backVs, backVs_mapd, backId, backO, List.map_cons, List.map_nil, List.getElem?_nil, List.length_cons, List.length_nil, Nat.reduceAdd, Nat.reduceSub, List.cons_append, List.nil_append, List.append_nil]) | ((with_reducible apply xcallIs); exact rfl; exact rfl; exact c1; exact rfl))) | ((with_reducible apply xaw); (first | ((with_reducible apply xstepS); refine AW.step tok rfl ?_) | with_reducible (first | refine AW.seq ?_ | refine AW.ret ?_) | ((with_reducible apply xcond); exact rfl))) | with_reducible refine xthen_r ?_ | (with_reducible intro hc; (try simp only [decide_eq_true_eq, decide_eq_false_iff_not, Bool.not_true, Bool.not_false, Bool.not_eq_true', Bool.not_eq_false', ne_eq, not_true, reduceCtorEq, List.length_map] at hc); (try (exfalso; omega))) | with_reducible exact trivial | exact Eq.refl true)
    refine xfinW (Weak.own 4 1 rfl) ?_
    rw [show wayOf t i = [] by rw [wayOf, hg]; rfl]
    (refine xfinOwn [1] (by first | exact .inl rfl | exact .inr rfl) rfl (by repeat' (first | exact trivial | exact rfl | refine And.intro ?_ ?_)) (by decide) rfl ?_ ?_ <;> simp -implicitDefEqProofs only [go_sem, Int.reduceEq, Int.reduceLT, Int.reduceLE, Nat.reduceAdd, Nat.reduceSub, Nat.reduceMul, Nat.reduceEqDiff, Nat.reduceLeDiff, Nat.reducePow, ↓reduceIte, reduceCtorEq])
  rw [ht] at c1
  by_cases hi0 : 0 ≤ i ∧ i ≤ (t.length : Int) - 1
  · have hg : goodN t i = true := by rw [goodN, ht, Bool.true_and]; exact decide_eq_true hi0
    have h := treeK ht
    have hi : i.toNat < t.length := by omega
    have hhi := h.hi
    have hwl := way_len h _ hi
    have hc0 : cur (way t i.toNat) 0 = i := by
      obtain ⟨r, hr⟩ := way_head h hi
      rw [hr]; exact Int.toNat_of_nonneg hi0.1
    rw [show wayOf t i = way t i.toNat by rw [wayOf, if_pos hg]]
    refine ACon.introW tok (nt := 31) Try.func18 rfl rfl rfl (by kernel_rfl) rfl ?_
    repeat' (first | ((with_reducible apply xsim); (first | ((with_reducible apply xlenM); exact rfl; exact rfl) | ((with_reducible apply xo); exact rfl) | with_reducible apply xend | ((with_reducible apply xguardS); exact rfl; exact rfl) | ((with_reducible apply xbox); exact rfl; simp only [backV, backVs, backVs_mapd, backId, backO, List.map_cons, List.map_nil, List.getElem?_nil, List.length_cons, List.length_nil, Nat.reduceAdd, Nat.reduceSub, List.cons_append, List.nil_append, List.append_nil]) | ((with_reducible apply xcallIs); exact rfl; exact rfl; (first | exact c1 | exact c_within _ _ _); exact rfl))) | ((with_reducible apply xaw); (first | ((with_reducible apply xstepS); refine AW.step tok rfl ?_) | with_reducible (first | refine AW.seq ?_ | refine AW.block ?_ | refine AW.skip ?_) | ((with_reducible apply xcond); exact rfl))) | with_reducible refine xthen ?_ | (with_reducible intro hc; (try simp only [decide_eq_true_eq, decide_eq_false_iff_not, Bool.not_true, Bool.not_false, Bool.not_eq_true', Bool.not_eq_false', ne_eq, not_true, reduceCtorEq, List.length_map] at hc); (try (exfalso; omega))) | with_reducible (first | exact trivial | refine And.intro ?_ ?_ | exact rfl) | exact Eq.refl true | (refine inR_i64.mpr ?_; first | omega | (simp only [List.length_map, List.length_map]; omega)))
    refine AW.own 5 1 rfl ?_
    refine AW.loop (S := fun k : Nat => ⟨[(1, .d (.int .i64 (cur (way t i.toNat) k))), (2, .oref 0 0), (5, .msl 1 1 0 k)], [.box [.d (.lst (t.map encNode))], .arr 1 (((way t i.toNat).take k).map encK)], 31, 0⟩)
      (Pre := fun k => k ≤ (way t i.toNat).length) (μ := fun k => (way t i.toNat).length - k) 0 (Nat.zero_le _) ?_ ?_
    · (refine xwk (π := [0, 1]) (by decide) rfl ?_ ?_; (first | simp -implicitDefEqProofs only [go_sem, Int.reduceEq, Int.reduceLT, Int.reduceLE, Nat.reduceAdd, Nat.reduceSub, Nat.reduceMul, Nat.reduceEqDiff, Nat.reduceLeDiff, Nat.reducePow, ↓reduceIte, reduceCtorEq, List.take_zero, hc0]); repeat' (first | exact renE_n | ((with_reducible apply renE_c); exact rfl; focus (first | (simp -implicitDefEqProofs only [go_sem, Int.reduceEq, Int.reduceLT, Int.reduceLE, Nat.reduceAdd, Nat.reduceSub, Nat.reduceMul, Nat.reduceEqDiff, Nat.reduceLeDiff, Nat.reducePow, ↓reduceIte, reduceCtorEq, List.take_zero, hc0]; done)))))
    intro k hk
    have hc1 : ((way t i.toNat).take k).length = k := by simp; omega
    by_cases hlt : k < (way t i.toNat).length
    · obtain ⟨hm, hn⟩ := way_cur h hi hlt
      have hrow := at_map (f := encNode) hm
      have hs := way_take hlt
      rw [cur_at hlt]
      repeat' (first | ((with_reducible apply xsim); (first | ((with_reducible apply xo); exact rfl) | with_reducible apply xend | ((with_reducible apply xbuild); exact rfl; exact rfl; exact rfl; exact rfl; exact rfl; simp only [backV, backVs, backVs_mapd, backId, backO, List.map_cons, List.map_nil, List.getElem?_nil, List.length_cons, List.length_nil, Nat.reduceAdd, Nat.reduceSub, List.cons_append, List.nil_append, List.append_nil]) | ((with_reducible apply xidxL); exact rfl; exact rfl; exact rfl; (first | exact hrow); omega; first | exact rfl | simp only [hsz]) | simp -implicitDefEqProofs only [go_sem, Int.reduceEq, Int.reduceLT, Int.reduceLE, Nat.reduceAdd, Nat.reduceSub, Nat.reduceMul, Nat.reduceEqDiff, Nat.reduceLeDiff, Nat.reducePow, ↓reduceIte, reduceCtorEq, List.length_map, hc1])) | ((with_reducible apply xaw); (first | ((with_reducible apply xstepS); refine AW.step tok rfl ?_) | ((with_reducible apply xstep); refine AW.region tok rfl ?_) | with_reducible (first | refine AW.seq ?_ | refine AW.block ?_ | refine AW.skip ?_) | ((with_reducible apply xcond); exact rfl))) | with_reducible refine xthen ?_ | (with_reducible intro hc; (try simp only [decide_eq_true_eq, decide_eq_false_iff_not, Bool.not_true, Bool.not_false, Bool.not_eq_true', Bool.not_eq_false', ne_eq, not_true, reduceCtorEq, List.length_map, hc1] at hc); (try (exfalso; omega))) | with_reducible (first | exact trivial | refine And.intro ?_ ?_ | exact rfl) | omega)
      refine round_end (k+1) hlt (by omega) (by (refine xwk (π := [0, 3]) (by decide) rfl ?_ ?_; (first | simp -implicitDefEqProofs only [go_sem, Int.reduceEq, Int.reduceLT, Int.reduceLE, Nat.reduceAdd, Nat.reduceSub, Nat.reduceMul, Nat.reduceEqDiff, Nat.reduceLeDiff, Nat.reducePow, ↓reduceIte, reduceCtorEq, hs, List.map_append, hn]); repeat' (first | exact renE_n | ((with_reducible apply renE_c); exact rfl; focus (first | (simp -implicitDefEqProofs only [go_sem, Int.reduceEq, Int.reduceLT, Int.reduceLE, Nat.reduceAdd, Nat.reduceSub, Nat.reduceMul, Nat.reduceEqDiff, Nat.reduceLeDiff, Nat.reducePow, ↓reduceIte, reduceCtorEq, hs, List.map_append, hn]; done))))))
    have hk' : k = (way t i.toNat).length := by omega
    subst hk'
    rw [cur_end, List.take_length]
    repeat' (first | ((with_reducible apply xsim); (first | ((with_reducible apply xo); exact rfl) | with_reducible apply xend)) | ((with_reducible apply xaw); (first | ((with_reducible apply xstepS); refine AW.step tok rfl ?_) | with_reducible (first | refine AW.seq ?_ | refine AW.ret ?_ | refine AW.exit ?_) | ((with_reducible apply xcond); exact rfl))) | with_reducible (first | refine xthen ?_ | refine xthen_e ?_ | refine xblock_e ?_ | refine xround_e ?_) | (with_reducible intro hc; (try simp only [decide_eq_true_eq, decide_eq_false_iff_not, Bool.not_true, Bool.not_false, Bool.not_eq_true', Bool.not_eq_false', ne_eq, not_true, reduceCtorEq, List.length_map] at hc); (try (exfalso; omega))) | with_reducible (first | exact trivial | refine And.intro ?_ ?_ | exact rfl))
    (refine xfinOwn [1] (by first | exact .inl rfl | exact .inr rfl) rfl (by repeat' (first | exact trivial | exact rfl | refine And.intro ?_ ?_)) (by decide) rfl ?_ ?_ <;> simp -implicitDefEqProofs only [go_sem, Int.reduceEq, Int.reduceLT, Int.reduceLE, Nat.reduceAdd, Nat.reduceSub, Nat.reduceMul, Nat.reduceEqDiff, Nat.reduceLeDiff, Nat.reducePow, ↓reduceIte, reduceCtorEq])
  · have hg : goodN t i = false := by rw [goodN, ht, Bool.true_and]; exact decide_eq_false hi0
    refine ACon.introW tok (nt := 31) Try.func18 rfl rfl rfl (by kernel_rfl) rfl ?_
    repeat' (first | ((with_reducible apply xsim); (first | ((with_reducible apply xlenM); exact rfl; exact rfl) | ((with_reducible apply xo); exact rfl) | with_reducible apply xend | ((with_reducible apply xguardS); exact rfl; exact rfl) | ((with_reducible apply xbox); exact rfl; simp only [backV, backVs, backVs_mapd, backId, backO, List.map_cons, List.map_nil, List.getElem?_nil, List.length_cons, List.length_nil, Nat.reduceAdd, Nat.reduceSub, List.cons_append, List.nil_append, List.append_nil]) | ((with_reducible apply xcallIs); exact rfl; exact rfl; (first | exact c1 | exact c_within _ _ _); exact rfl))) | ((with_reducible apply xaw); (first | ((with_reducible apply xstepS); refine AW.step tok rfl ?_) | with_reducible (first | refine AW.seq ?_ | refine AW.ret ?_) | ((with_reducible apply xcond); exact rfl))) | with_reducible refine xthen_r ?_ | (with_reducible intro hc; (try simp only [decide_eq_true_eq, decide_eq_false_iff_not, Bool.not_true, Bool.not_false, Bool.not_eq_true', Bool.not_eq_false', ne_eq, not_true, reduceCtorEq, List.length_map] at hc); (try (exfalso; omega))) | with_reducible (first | exact trivial | refine And.intro ?_ ?_ | exact rfl) | exact Eq.refl true | (refine inR_i64.mpr ?_; first | omega | (simp only [List.length_map, List.length_map]; omega)))
    refine xfinW (Weak.own 4 1 rfl) ?_
    rw [show wayOf t i = [] by rw [wayOf, hg]; rfl]
    (refine xfinOwn [1] (by first | exact .inl rfl | exact .inr rfl) rfl (by repeat' (first | exact trivial | exact rfl | refine And.intro ?_ ?_)) (by decide) rfl ?_ ?_ <;> simp -implicitDefEqProofs only [go_sem, Int.reduceEq, Int.reduceLT, Int.reduceLE, Nat.reduceAdd, Nat.reduceSub, Nat.reduceMul, Nat.reduceEqDiff, Nat.reduceLeDiff, Nat.reducePow, ↓reduceIte, reduceCtorEq])
end Go.Proofs.Yticgjepndfjafaa

namespace Go.Fw
theorem xnoblock {P : Program} {i : Nat} {c d : Code} {Q : Exit → St → Prop} {s : St} (h : AW P (.seq (.block i c) d) Q s) : AW P (.seq (.block i c) d) Q s := h
theorem xnoblockT {P : Program} {i : Nat} {c : Code} {Q : Exit → St → Prop} {s : St} (h : AW P (.block i c) Q s) : AW P (.block i c) Q s := h
end Go.Fw

namespace Go.Proofs.Yticgjepndfjafaa
open Go.Fw
attribute [local irreducible] Go.Fw.aops Go.Fw.arun

/-- Two rectangles have no points in common. -/
def Apart (a b : Rect) : Prop := min (a.x + a.w) (b.x + b.w) - max a.x b.x ≤ 0 ∨ min (a.y + a.h) (b.y + b.h) - max a.y b.y ≤ 0
end Go.Proofs.Yticgjepndfjafaa

namespace Go.Proofs.Yticgjepndfjafaa
open Go.Fw
def Ins (a b : Rect) : Prop := a.x ≤ b.x ∧ a.y ≤ b.y ∧ b.x + b.w ≤ a.x + a.w ∧ b.y + b.h ≤ a.y + a.h
theorem Apart.mono {a b c : Rect} (h : Apart a b) (hi : Ins b c) : Apart a c := by unfold Apart Ins at *; omega
theorem Apart.symm {a b : Rect} (h : Apart a b) : Apart b a := by unfold Apart at *; omega
end Go.Proofs.Yticgjepndfjafaa

namespace Go.Proofs.Yticgjepndfjafaa
open Go.Fw
attribute [local irreducible] Go.Fw.aops Go.Fw.arun
theorem TreeB.L {t : List Node} (h : TreeB t) : TreeL t := ⟨by have := h.2.1; omega, fun i hi => by have := h.2.2 _ (List.getElem_mem hi); omega⟩
/-- A tree that was drawn, a number, and a size. -/
def AAsk (r : V) : Prop := ∃ (t : List Node) (i w h : Int), r = .tup [vTree t, .d (.int .i64 i), .d (.int .i64 w), .d (.int .i64 h)] ∧ TreeB t
set_option maxHeartbeats 4000000 in
theorem c_DrawAskFor (cs : List Byte) (hl : cs.length < 2^63) : ACon Try.prog 21 [.d (.lst (cs.map encByte))] [] (Sm AAsk) := by
  have hb : (cs.take 2000).length ≤ 2000 := by rw [List.length_take]; omega
  refine ACon.introW tok (nt := 24) Try.func21 rfl rfl rfl (by kernel_rfl) rfl ?_
  repeat' ((fail_if_success (with_reducible apply xnocond)); first | ((with_reducible apply xsim); (first | ((with_reducible apply xo); exact rfl) | ((with_reducible apply xst); exact rfl) | with_reducible apply xend | ((with_reducible apply xalloc); exact rfl; simp only [backV, backVs, backVs_mapd, backId, backO, List.map_cons, List.map_nil, List.getElem?_nil, List.length_cons, List.length_nil, Nat.reduceAdd, Nat.reduceSub, List.cons_append, List.nil_append, List.append_nil]) | ((with_reducible apply xcallOwn); exact rfl; exact rfl; exact c_newReader cs hl; simp only [backV, backVs, backVs_mapd, backId, backO, List.map_cons, List.map_nil, List.getElem?_nil, List.length_cons, List.length_nil, Nat.reduceAdd, Nat.reduceSub, List.cons_append, List.nil_append, List.append_nil]) | ((with_reducible apply xcallRd); exact rfl; exact rfl; exact rfl; exact c_nodeIn _ _ hb (by omega); rintro _ p' _ _ ⟨t, i, rfl, ht⟩; (try simp only [List.set_cons_zero, List.set_cons_succ])))) | ((with_reducible apply xaw); (first | ((with_reducible apply xstepS); refine AW.step tok rfl ?_) | with_reducible refine AW.seq ?_)) | with_reducible (first | exact trivial | refine And.intro ?_ ?_) | exact Eq.refl true)
  refine AW.weak (Weak.freezeBox 7 2 (cells := [.lst (t.map encNode)]) rfl rfl) ?_
  repeat' (first | ((with_reducible apply xsim); (first | ((with_reducible apply xo); exact rfl) | ((with_reducible apply xst); exact rfl) | with_reducible apply xend | ((with_reducible apply xcallRd); exact rfl; exact rfl; exact rfl; exact c_dOne rfl hb (by omega) rfl rfl; rintro _ p' _ _ ⟨v, rfl, h1⟩; (try simp only [List.set_cons_zero, List.set_cons_succ])))) | ((with_reducible apply xaw); (first | with_reducible refine AW.ret ?_ | ((with_reducible apply xdraw (id := 3)); refine AW.draw (id := 3) (.l 0 (.q 1 (.q 2 (.b 3 (.q 5 (.b 6 (.e 4 (.e 7 (.e 8 (.q 9 (.q 10 (.q 11 (.fin))))))))))))) tok (by kernel_rfl) rfl (by kernel_rfl) ?_))) | ((with_reducible apply xarun); (first | ((with_reducible apply xrun_q); exact rfl; exact rfl; exact rfl) | ((with_reducible apply xrun_l); exact rfl; exact rfl; exact rfl; exact rfl; exact rfl; exact rfl; focus (repeat (first | exact trivial | exact rfl | refine And.intro ?_ ?_))) | ((with_reducible apply xrun_b); exact rfl; exact rfl; exact rfl; exact rfl; exact rfl; exact rfl; exact rfl; exact rfl; exact rfl) | ((with_reducible apply xrun_e); exact rfl) | with_reducible apply xrun_f)) | with_reducible refine xthen ?_ | with_reducible (first | exact trivial | refine And.intro ?_ ?_) | exact Eq.refl true)
  refine xfinSm (by first | exact .inl rfl | exact .inr rfl) rfl (by repeat' (first | exact trivial | exact rfl | refine And.intro ?_ ?_)) rfl ?_
  exact ⟨t, _, _, _, rfl, ht⟩
theorem c_DrawTouchedBy (cs : List Byte) (hl : cs.length < 2^63) : ACon Try.prog 28 [.d (.lst (cs.map encByte))] [] (Sm AAsk) := by
  refine ACon.introW tok (nt := 12) Try.func28 rfl rfl rfl (by kernel_rfl) rfl ?_
  repeat' (first | ((with_reducible apply xsim); (first | ((with_reducible apply xo); exact rfl) | ((with_reducible apply xst); exact rfl) | with_reducible apply xend | ((with_reducible apply xalloc); exact rfl; simp only [backV, backVs, backVs_mapd, backId, backO, List.map_cons, List.map_nil, List.getElem?_nil, List.length_cons, List.length_nil, Nat.reduceAdd, Nat.reduceSub, List.cons_append, List.nil_append, List.append_nil]) | ((with_reducible apply xcallSm); exact rfl; exact rfl; exact c_DrawAskFor cs hl; rintro _ ⟨t, i, w, h, rfl, ht⟩))) | ((with_reducible apply xaw); (first | ((with_reducible apply xstepS); refine AW.step tok rfl ?_) | with_reducible refine AW.ret ?_)) | with_reducible (first | exact trivial | refine And.intro ?_ ?_) | exact Eq.refl true)
  refine xfinSm (by first | exact .inl rfl | exact .inr rfl) rfl (by repeat' (first | exact trivial | exact rfl | refine And.intro ?_ ?_)) rfl ?_
  exact ⟨t, _, _, _, rfl, ht⟩
end Go.Proofs.Yticgjepndfjafaa

namespace Go.Proofs.Yticgjepndfjafaa
open Go.Fw
attribute [local irreducible] Go.Fw.aops Go.Fw.arun

/-! Nodes that are smaller than they ask for. -/
theorem filter_len (p : Nat → Bool) (k : Nat) : ((List.range k).filter p).length ≤ k := by
  have := List.length_filter_le p (List.range k)
  simpa using this

/-- What all nodes ask for, one after the other. -/
def wants (t : List Node) : Nat → List Int
  | 0 => []
  | k + 1 => wants t k ++ [(wish t k).1, (wish t k).2]
theorem wants_len (t : List Node) : ∀ k, (wants t k).length = 2 * k
  | 0 => rfl
  | k + 1 => by simp only [wants, List.length_append, wants_len t k, List.length_cons, List.length_nil]; omega
theorem wants_get (t : List Node) {i : Nat} : ∀ k, i < k → (wants t k)[2 * i]? = some (wish t i).1 ∧ (wants t k)[2 * i + 1]? = some (wish t i).2 := by
  intro k
  induction k with
  | zero => intro h; omega
  | succ k ih =>
    intro h
    have hl := wants_len t k
    simp only [wants]
    by_cases e : i = k
    · subst e
      rw [List.getElem?_append_right (by omega), List.getElem?_append_right (by omega), hl]
      simp
    · rw [List.getElem?_append_left (by omega), List.getElem?_append_left (by omega)]
      exact ih (by omega)

theorem c_wantsOf (t : List Node) (hk : TreeK t) : ACon Try.prog 68 [vTree t] [] (Is (.d (.lst ((wants t t.length).map encN)))) := by
  refine ORows.data (sz := 1) (enc := encN) ?_
  have hhi := hk.hi
  refine ACon.introW tok (nt := 27) Try.func68 rfl rfl rfl (by kernel_rfl) rfl ?_
  repeat' (first | ((with_reducible apply xsim); (first | ((with_reducible apply xo); exact rfl) | with_reducible apply xend | ((with_reducible apply xbox); exact rfl; simp only [backV, backVs, backVs_mapd, backId, backO, List.map_cons, List.map_nil, List.getElem?_nil, List.length_cons, List.length_nil, Nat.reduceAdd, Nat.reduceSub, List.cons_append, List.nil_append, List.append_nil]) | ((with_reducible apply xbuild); exact rfl; exact rfl; exact rfl; exact rfl; exact rfl; simp only [backV, backVs, backVs_mapd, backId, backO, List.map_cons, List.map_nil, List.getElem?_nil, List.length_cons, List.length_nil, Nat.reduceAdd, Nat.reduceSub, List.cons_append, List.nil_append, List.append_nil]))) | ((with_reducible apply xaw); (first | ((with_reducible apply xstepS); refine AW.step tok rfl ?_) | with_reducible (first | refine AW.seq ?_ | refine AW.block ?_))) | with_reducible exact trivial)
  refine AW.loop (S := fun k : Nat => ⟨[(1, .oref 0 0), (3, .msl 1 1 0 (2 * k)), (4, .d (.int .i64 k))], [.box [.d (.lst (t.map encNode))], .arr 1 ((wants t k).map encN)], 27, 0⟩)
    (Pre := fun k => k ≤ t.length) (μ := fun k => t.length - k) 0 (Nat.zero_le _) ?_ ?_
  · (refine xwk (π := [0, 1]) (by decide) rfl ?_ ?_; (first | simp -implicitDefEqProofs only [go_sem, Int.reduceEq, Int.reduceLT, Int.reduceLE, Nat.reduceAdd, Nat.reduceSub, Nat.reduceMul, Nat.reduceEqDiff, Nat.reduceLeDiff, Nat.reducePow, ↓reduceIte, reduceCtorEq, wants]); repeat' (first | exact renE_n | ((with_reducible apply renE_c); exact rfl; focus (first | (simp -implicitDefEqProofs only [go_sem, Int.reduceEq, Int.reduceLT, Int.reduceLE, Nat.reduceAdd, Nat.reduceSub, Nat.reduceMul, Nat.reduceEqDiff, Nat.reduceLeDiff, Nat.reducePow, ↓reduceIte, reduceCtorEq, wants]; done)))))
  intro k hkk
  have hl := wants_len t k
  by_cases hlt : k < t.length
  · have c1 := c_sizeOf t hk k hlt
    have hs : wants t (k + 1) = wants t k ++ [(wish t k).1, (wish t k).2] := rfl
    repeat' (first | ((with_reducible apply xsim); (first | ((with_reducible apply xlenM); exact rfl; exact rfl) | ((with_reducible apply xo); exact rfl) | with_reducible apply xend | ((with_reducible apply xbuild); exact rfl; exact rfl; exact rfl; exact rfl; exact rfl; simp only [backV, backVs, backVs_mapd, backId, backO, List.map_cons, List.map_nil, List.getElem?_nil, List.length_cons, List.length_nil, Nat.reduceAdd, Nat.reduceSub, List.cons_append, List.nil_append, List.append_nil]) | ((with_reducible apply xcallIs); exact rfl; exact rfl; exact c1; exact rfl) | simp -implicitDefEqProofs only [go_sem, Int.reduceEq, Int.reduceLT, Int.reduceLE, Nat.reduceAdd, Nat.reduceSub, Nat.reduceMul, Nat.reduceEqDiff, Nat.reduceLeDiff, Nat.reducePow, ↓reduceIte, reduceCtorEq, List.length_map, hl])) | ((with_reducible apply xaw); (first | ((with_reducible apply xstepS); refine AW.step tok rfl ?_) | ((with_reducible apply xstep); refine AW.region tok rfl ?_) | with_reducible (first | refine AW.seq ?_ | refine AW.block ?_ | refine AW.skip ?_) | ((with_reducible apply xcond); exact rfl))) | with_reducible refine xthen ?_ | (with_reducible intro hc; (try simp only [decide_eq_true_eq, decide_eq_false_iff_not, Bool.not_true, Bool.not_false, Bool.not_eq_true', Bool.not_eq_false', ne_eq, not_true, reduceCtorEq, List.length_map, hl] at hc); (try (exfalso; omega))) | with_reducible (first | exact trivial | refine And.intro ?_ ?_ | exact rfl) | exact Eq.refl true | (refine inR_i64.mpr ?_; first | omega | (simp only [List.length_map, List.length_map, hl]; omega)) | omega | ((rcases hc with rfl | rfl <;> rfl)))
    refine round_end (k+1) hlt (by omega) (by (refine xwk (π := [0, 3]) (by decide) rfl ?_ ?_; (first | simp -implicitDefEqProofs only [go_sem, Int.reduceEq, Int.reduceLT, Int.reduceLE, Nat.reduceAdd, Nat.reduceSub, Nat.reduceMul, Nat.reduceEqDiff, Nat.reduceLeDiff, Nat.reducePow, ↓reduceIte, reduceCtorEq, hs, List.map_append, Nat.mul_add]); repeat' (first | exact renE_n | ((with_reducible apply renE_c); exact rfl; focus (first | (simp -implicitDefEqProofs only [go_sem, Int.reduceEq, Int.reduceLT, Int.reduceLE, Nat.reduceAdd, Nat.reduceSub, Nat.reduceMul, Nat.reduceEqDiff, Nat.reduceLeDiff, Nat.reducePow, ↓reduceIte, reduceCtorEq, hs, List.map_append, Nat.mul_add]; done))))))
  have hk' : k = t.length := by omega
  subst hk'
  repeat' (first | ((with_reducible apply xsim); (first | ((with_reducible apply xlenM); exact rfl; exact rfl) | ((with_reducible apply xo); exact rfl) | with_reducible apply xend)) | ((with_reducible apply xaw); (first | ((with_reducible apply xstepS); refine AW.step tok rfl ?_) | with_reducible (first | refine AW.seq ?_ | refine AW.ret ?_ | refine AW.exit ?_) | ((with_reducible apply xcond); exact rfl))) | with_reducible (first | refine xthen ?_ | refine xthen_e ?_ | refine xblock_e ?_ | refine xround_e ?_) | (with_reducible intro hc; (try simp only [decide_eq_true_eq, decide_eq_false_iff_not, Bool.not_true, Bool.not_false, Bool.not_eq_true', Bool.not_eq_false', ne_eq, not_true, reduceCtorEq, List.length_map] at hc); (try (exfalso; omega))) | with_reducible (first | exact trivial | refine And.intro ?_ ?_ | exact rfl))
  (refine xfinOwn [1] (by first | exact .inl rfl | exact .inr rfl) rfl (by repeat' (first | exact trivial | exact rfl | refine And.intro ?_ ?_)) (by decide) rfl ?_ ?_ <;> simp -implicitDefEqProofs only [go_sem, Int.reduceEq, Int.reduceLT, Int.reduceLE, Nat.reduceAdd, Nat.reduceSub, Nat.reduceMul, Nat.reduceEqDiff, Nat.reduceLeDiff, Nat.reducePow, ↓reduceIte, reduceCtorEq, hl])

end Go.Proofs.Yticgjepndfjafaa

namespace Go.Proofs.Yticgjepndfjafaa
open Go.Fw
attribute [local irreducible] Go.Fw.aops Go.Fw.arun

theorem c_equalK (ks : List Nat) (hl : ks.length < 2^40) : ACon Try.prog 19 [.d (.lst (ks.map encK)), .d (.lst (ks.map encK))] [] (Is (.d (.bool true))) := by
  rw [encK_map]
  exact c_laws.equalInts _ (by rw [List.length_map]; omega)

def hasN (ks : List Nat) (n : Int) : Bool := ks.any fun k => decide ((k : Int) = n)
theorem hasN_iff {ks : List Nat} {n : Nat} : hasN ks (n : Int) = true ↔ n ∈ ks := by
  unfold hasN
  rw [List.any_eq_true]
  constructor
  · rintro ⟨k, hk, h⟩
    have h : (k : Int) = (n : Int) := of_decide_eq_true h
    have : k = n := by omega
    exact this ▸ hk
  · intro h
    exact ⟨n, h, by simp⟩
theorem c_isIn (ks : List Nat) (n : Int) (hl : ks.length < 2^40) : ACon Try.prog 31 [.d (.lst (ks.map encK)), .d (.int .i64 n)] [] (Is (.d (.bool (hasN ks n)))) := by
  refine ACon.introW tok (nt := 18) Try.func31 rfl rfl rfl (by kernel_rfl) rfl ?_
  repeat' (first | ((with_reducible apply xsim); (first | ((with_reducible apply xo); exact rfl) | with_reducible apply xend)) | ((with_reducible apply xaw); (first | ((with_reducible apply xstepS); refine AW.step tok rfl ?_) | with_reducible (first | refine AW.seq ?_ | refine AW.block ?_))) | with_reducible exact trivial)
  refine AW.loop (S := fun k : Nat => ⟨[(0, .d (.lst (ks.map encK))), (1, .d (.int .i64 n)), (5, .d (.int .i64 k))], [], 18, 0⟩)
    (Pre := fun k => k ≤ ks.length ∧ (ks.take k).any (fun k => decide ((k : Int) = n)) = false) (μ := fun k => ks.length - k) 0 ⟨Nat.zero_le _, rfl⟩ ?_ ?_
  · (refine xwk (π := []) (by decide) rfl ?_ ?_; (first | exact trivial); repeat' (first | exact renE_n | ((with_reducible apply renE_c); exact rfl; focus (first | (simp -implicitDefEqProofs only [go_sem, Int.reduceEq, Int.reduceLT, Int.reduceLE, Nat.reduceAdd, Nat.reduceSub, Nat.reduceMul, Nat.reduceEqDiff, Nat.reduceLeDiff, Nat.reducePow, ↓reduceIte, reduceCtorEq]; done)))))
  rintro k ⟨hk, hno⟩
  by_cases hlt : k < ks.length
  · have hrow := at_map (f := encK) hlt
    have ht : (ks.take (k + 1)).any (fun k => decide ((k : Int) = n)) = ((ks.take k).any (fun k => decide ((k : Int) = n)) || decide ((ks[k] : Int) = n)) := by
      rw [List.take_succ_eq_append_getElem hlt, List.any_append]
      simp only [List.any_cons, List.any_nil, Bool.or_false]
    by_cases he : (ks[k] : Int) = n
    · have hh : hasN ks n = true := by
        unfold hasN
        rw [List.any_eq_true]
        exact ⟨ks[k], List.getElem_mem hlt, decide_eq_true he⟩
      rw [hh]
      repeat' (first | ((with_reducible apply xsim); (first | ((with_reducible apply xlenM); exact rfl; exact rfl) | ((with_reducible apply xo); exact rfl) | with_reducible apply xend | ((with_reducible apply xidxL); exact rfl; exact rfl; exact rfl; (first | exact hrow); omega; first | exact rfl | simp only [hsz]))) | ((with_reducible apply xaw); (first | ((with_reducible apply xstepS); refine AW.step tok rfl ?_) | with_reducible (first | refine AW.seq ?_ | refine AW.block ?_ | refine AW.skip ?_ | refine AW.ret ?_) | ((with_reducible apply xcond); exact rfl))) | with_reducible (first | refine xthen ?_ | refine xthen_r ?_ | refine xblock_r ?_ | refine xround_r ?_) | (with_reducible intro hc; (try simp only [decide_eq_true_eq, decide_eq_false_iff_not, Bool.not_true, Bool.not_false, Bool.not_eq_true', Bool.not_eq_false', ne_eq, not_true, reduceCtorEq, List.length_map] at hc); (try (exfalso; omega))) | with_reducible (first | exact trivial | refine And.intro ?_ ?_ | exact rfl))
      (refine xfinIs (by first | exact .inl rfl | exact .inr rfl) rfl (by repeat' (first | exact trivial | exact rfl | refine And.intro ?_ ?_)) rfl ?_ rfl; first | with_reducible exact rfl)
    · repeat' (first | ((with_reducible apply xsim); (first | ((with_reducible apply xlenM); exact rfl; exact rfl) | ((with_reducible apply xo); exact rfl) | with_reducible apply xend | ((with_reducible apply xidxL); exact rfl; exact rfl; exact rfl; (first | exact hrow); omega; first | exact rfl | simp only [hsz]))) | ((with_reducible apply xaw); (first | ((with_reducible apply xstepS); refine AW.step tok rfl ?_) | ((with_reducible apply xstep); refine AW.region tok rfl ?_) | with_reducible (first | refine AW.seq ?_ | refine AW.block ?_ | refine AW.skip ?_) | ((with_reducible apply xcond); exact rfl))) | with_reducible (first | refine xthen ?_ | refine xblock ?_) | (with_reducible intro hc; (try simp only [decide_eq_true_eq, decide_eq_false_iff_not, Bool.not_true, Bool.not_false, Bool.not_eq_true', Bool.not_eq_false', ne_eq, not_true, reduceCtorEq, List.length_map] at hc); (try (exfalso; omega))) | with_reducible (first | exact trivial | refine And.intro ?_ ?_ | exact rfl) | (refine inR_i64.mpr ?_; first | omega | (simp only [List.length_map, List.length_map]; omega)))
      refine round_end (k+1) ⟨hlt, by rw [ht, hno, decide_eq_false he]; rfl⟩ (by omega) (by (refine xwk (π := []) (by decide) rfl ?_ ?_; (first | exact trivial); repeat' (first | exact renE_n | ((with_reducible apply renE_c); exact rfl; focus (first | (simp -implicitDefEqProofs only [go_sem, Int.reduceEq, Int.reduceLT, Int.reduceLE, Nat.reduceAdd, Nat.reduceSub, Nat.reduceMul, Nat.reduceEqDiff, Nat.reduceLeDiff, Nat.reducePow, ↓reduceIte, reduceCtorEq]; done))))))
  have hk' : k = ks.length := by omega
  subst hk'
  rw [List.take_length] at hno
  rw [show hasN ks n = false from hno]
  repeat' (first | ((with_reducible apply xsim); (first | ((with_reducible apply xlenM); exact rfl; exact rfl) | ((with_reducible apply xo); exact rfl) | with_reducible apply xend)) | ((with_reducible apply xaw); (first | ((with_reducible apply xstepS); refine AW.step tok rfl ?_) | with_reducible (first | refine AW.seq ?_ | refine AW.ret ?_ | refine AW.exit ?_) | ((with_reducible apply xcond); exact rfl))) | with_reducible (first | refine xthen ?_ | refine xthen_e ?_ | refine xblock_e ?_ | refine xround_e ?_) | (with_reducible intro hc; (try simp only [decide_eq_true_eq, decide_eq_false_iff_not, Bool.not_true, Bool.not_false, Bool.not_eq_true', Bool.not_eq_false', ne_eq, not_true, reduceCtorEq, List.length_map] at hc); (try (exfalso; omega))) | with_reducible (first | exact trivial | refine And.intro ?_ ?_ | exact rfl))
  (refine xfinIs (by first | exact .inl rfl | exact .inr rfl) rfl (by repeat' (first | exact trivial | exact rfl | refine And.intro ?_ ?_)) rfl ?_ rfl; first | with_reducible exact rfl)
theorem c_ascends (ks : List Nat) (hl : ks.length < 2^40) (hp : ks.Pairwise (· < ·)) : ACon Try.prog 32 [.d (.lst (ks.map encK))] [] (Is (.d (.bool true))) := by
  refine ACon.introW tok (nt := 20) Try.func32 rfl rfl rfl (by kernel_rfl) rfl ?_
  repeat' (first | ((with_reducible apply xsim); (first | ((with_reducible apply xo); exact rfl) | with_reducible apply xend)) | ((with_reducible apply xaw); (first | ((with_reducible apply xstepS); refine AW.step tok rfl ?_) | with_reducible (first | refine AW.seq ?_ | refine AW.block ?_))) | with_reducible exact trivial)
  refine AW.loop (S := fun k : Nat => ⟨[(0, .d (.lst (ks.map encK))), (3, .d (.int .i64 ((k : Int) + 1)))], [], 20, 0⟩)
    (Pre := fun k => k ≤ ks.length) (μ := fun k => ks.length - k) 0 (Nat.zero_le _) ?_ ?_
  · (refine xwk (π := []) (by decide) rfl ?_ ?_; (first | exact trivial); repeat' (first | exact renE_n | ((with_reducible apply renE_c); exact rfl; focus (first | (simp -implicitDefEqProofs only [go_sem, Int.reduceEq, Int.reduceLT, Int.reduceLE, Nat.reduceAdd, Nat.reduceSub, Nat.reduceMul, Nat.reduceEqDiff, Nat.reduceLeDiff, Nat.reducePow, ↓reduceIte, reduceCtorEq]; done) | (simp -implicitDefEqProofs only [go_sem, Int.reduceEq, Int.reduceLT, Int.reduceLE, Nat.reduceAdd, Nat.reduceSub, Nat.reduceMul, Nat.reduceEqDiff, Nat.reduceLeDiff, Nat.reducePow, ↓reduceIte, reduceCtorEq]; omega)))))
  intro k hk
  by_cases hlt : k + 1 < ks.length
  · have hrow := at_map (f := encK) (k := k) (xs := ks) (by omega)
    have hrow2 := at_map (f := encK) hlt
    have h1 : (ks.map encK)[((k : Int) + 1).toNat]? = some (encK ks[k + 1]) := by rw [show ((k : Int) + 1).toNat = k + 1 by omega]; exact hrow2
    have h2 : (ks.map encK)[((k : Int) + 1 - 1).toNat]? = some (encK (ks[k]'(by omega))) := by rw [show ((k : Int) + 1 - 1).toNat = k by omega]; exact hrow
    have hlt' := List.pairwise_iff_getElem.1 hp k (k + 1) (by omega) hlt (by omega)
    repeat' (first | ((with_reducible apply xsim); (first | ((with_reducible apply xlenM); exact rfl; exact rfl) | ((with_reducible apply xo); exact rfl) | with_reducible apply xend | ((with_reducible apply xidxL); exact rfl; exact rfl; exact rfl; (first | exact h1 | exact h2); omega; first | exact rfl | simp only [hsz]))) | ((with_reducible apply xaw); (first | ((with_reducible apply xstepS); refine AW.step tok rfl ?_) | ((with_reducible apply xstep); refine AW.region tok rfl ?_) | with_reducible (first | refine AW.seq ?_ | refine AW.block ?_ | refine AW.skip ?_) | ((with_reducible apply xcond); exact rfl) | ((with_reducible apply xdraw (id := 4)); refine AW.draw (id := 4) (.q 0 (.q 1 (.q 2 (.q 3 (.q 4 (.q 5 (.q 6 (.q 7 (.q 8 (.q 9 (.fin))))))))))) tok (by kernel_rfl) rfl (by kernel_rfl) ?_))) | ((with_reducible apply xarun); (first | ((with_reducible apply xrun_q); exact rfl; exact rfl; exact rfl) | with_reducible apply xrun_f)) | with_reducible (first | refine xthen ?_ | refine xblock ?_) | (with_reducible intro hc; (try simp only [decide_eq_true_eq, decide_eq_false_iff_not, Bool.not_true, Bool.not_false, Bool.not_eq_true', Bool.not_eq_false', ne_eq, not_true, reduceCtorEq, List.length_map] at hc); (try (exfalso; omega))) | with_reducible (first | exact trivial | refine And.intro ?_ ?_ | exact rfl) | (refine inR_i64.mpr ?_; first | omega | (simp only [List.length_map, List.length_map]; omega)))
    refine round_end (k+1) (by omega) (by omega) (by (refine xwk (π := []) (by decide) rfl ?_ ?_; (first | exact trivial); repeat' (first | exact renE_n | ((with_reducible apply renE_c); exact rfl; focus (first | (simp -implicitDefEqProofs only [go_sem, Int.reduceEq, Int.reduceLT, Int.reduceLE, Nat.reduceAdd, Nat.reduceSub, Nat.reduceMul, Nat.reduceEqDiff, Nat.reduceLeDiff, Nat.reducePow, ↓reduceIte, reduceCtorEq, Int.natCast_add, Int.natCast_one]; done))))))
  · repeat' (first | ((with_reducible apply xsim); (first | ((with_reducible apply xlenM); exact rfl; exact rfl) | ((with_reducible apply xo); exact rfl) | with_reducible apply xend)) | ((with_reducible apply xaw); (first | ((with_reducible apply xstepS); refine AW.step tok rfl ?_) | with_reducible (first | refine AW.seq ?_ | refine AW.ret ?_ | refine AW.exit ?_) | ((with_reducible apply xcond); exact rfl))) | with_reducible (first | refine xthen ?_ | refine xthen_e ?_ | refine xblock_e ?_ | refine xround_e ?_) | (with_reducible intro hc; (try simp only [decide_eq_true_eq, decide_eq_false_iff_not, Bool.not_true, Bool.not_false, Bool.not_eq_true', Bool.not_eq_false', ne_eq, not_true, reduceCtorEq, List.length_map] at hc); (try (exfalso; omega))) | with_reducible (first | exact trivial | refine And.intro ?_ ?_ | exact rfl))
    (refine xfinIs (by first | exact .inl rfl | exact .inr rfl) rfl (by repeat' (first | exact trivial | exact rfl | refine And.intro ?_ ?_)) rfl ?_ rfl; first | with_reducible exact rfl)
theorem filter_asc (p : Nat → Bool) (n : Nat) : ((List.range n).filter p).Pairwise (· < ·) := List.Pairwise.filter _ List.pairwise_lt_range
end Go.Proofs.Yticgjepndfjafaa

namespace Go.Fw
/-- An empty slice of data is one value or another. -/
theorem AW.rawNil {P : Program} {c : Code} {Q : Exit → St → Prop} {s : St} (t : Nat) (ht : getB s.env t = .d (.lst [])) (h : ∀ a cap, AW P c Q ⟨(t, .d (.raw (.slice a 0 cap))) :: s.env, s.objs, s.n, s.fx⟩) : AW P c Q s := by
  refine ⟨fun x a w hC => ?_⟩
  obtain ⟨ok, ρ, hI, hF, hE, hn, hd, hx⟩ := hC
  have hv := hE t
  rw [← getB_eq, ht] at hv
  have : ∃ ad cap, a.tmps.getD t undef = .slice ad 0 cap := by
    generalize a.tmps.getD t undef = v at hv ⊢
    cases hv with
    | d hv =>
      cases hv with
      | nil => exact ⟨_, _, rfl⟩
      | lst => exact ⟨_, _, rfl⟩
  obtain ⟨ad, cap, hval⟩ := this
  refine (h ad cap).run x a w ⟨ok, ρ, hI, hF, fun j => ?_, hn, hd, hx⟩
  simp only [getE]
  split
  · rename_i e
    subst e
    rw [hval]
    exact .d (.raw rfl)
  · exact hE j
end Go.Fw

