/- Contracts of the functions and the plain law behind them, as far as FnExactNaturalLayout needs them; joined out of the texts Q1 R8 R9 G2 K2 T1 T6 T7 G3 X1 X2 K3 R10 R2 K5 K6 K10 K11 G6 G7. -/
import Derived.Deep.Slices
import Derived.Deep.Fields
import Derived.ChangeSame
import Derived.Below
import Derived.ProofKit
import Derived.Test.YtpfhnhhkfobjnaaGreatTt
set_option linter.unusedSimpArgs false
set_option linter.unusedVariables false
namespace Go.Proofs.YtpfhnhhkfobjnaaGreat
open Go.Fw
attribute [local irreducible] Go.Fw.aops Go.Fw.arun
@[go_sem] def lv59 : List (List Nat) := [[0, 1, 2], [6]]
@[go_sem] def lv53 : List (List Nat) := [[0, 1, 2], [6]]
@[go_sem] def lv154 : List (List Nat) := [[0, 1], [0, 1, 7, 8], [0, 1, 7, 8, 9], [0, 1, 5, 7, 8], [0, 1, 5, 7, 8, 16], [4], [0, 1, 7, 8], [4]]
@[go_sem] def lv146 : List (List Nat) := [[0, 1], [4]]

theorem c_within (n lo hi : Int) : ACon Tryz.prog 59 [.d (.int .i64 n), .d (.int .i64 lo), .d (.int .i64 hi)] [] (Is (.d (.bool (decide (lo ≤ n ∧ n ≤ hi))))) := by
  refine ACon.introW tok (nt := 15) Tryz.func59 rfl rfl rfl (by kernel_rfl) rfl ?_
  repeat' (first | ((with_reducible apply xsim); (first | ((with_reducible apply xo); exact rfl) | with_reducible apply xend | ((with_reducible apply xguardS); exact rfl; exact rfl))) | ((with_reducible apply xaw); (first | ((with_reducible apply xstepS); refine AW.step tok rfl ?_) | with_reducible refine AW.ret ?_)) | (with_reducible intro hc; (try simp only [hcL, reduceCtorEq] at hc); (try (exfalso; omega))) | with_reducible (first | exact trivial | refine And.intro ?_ ?_ | exact rfl))
  all_goals (refine xfinIs (by first | exact .inl rfl | exact .inr rfl) rfl (by repeat' (first | exact trivial | exact rfl | refine And.intro ?_ ?_)) rfl ?_ rfl; first | (simp -implicitDefEqProofs only [go_sem] <;> (first | rfl | omega | exact decide_eq_decide.2 (by omega) | exact decide_eq_false (by omega) | exact decide_eq_true (by omega) | (symm; first | exact decide_eq_false (by omega) | exact decide_eq_true (by omega)) | (rw [Bool.eq_iff_iff]; simp only [boL, reduceCtorEq]; omega))))

theorem c_inRange (n lo hi : Int) : ACon Tryz.prog 53 [.d (.int .i64 n), .d (.int .i64 lo), .d (.int .i64 hi)] [] (Is (.d (.bool (decide (lo ≤ n ∧ n ≤ hi))))) := by
  refine ACon.introW tok (nt := 15) Tryz.func53 rfl rfl rfl (by kernel_rfl) rfl ?_
  repeat' (first | ((with_reducible apply xsim); (first | ((with_reducible apply xo); exact rfl) | with_reducible apply xend | ((with_reducible apply xguardS); exact rfl; exact rfl))) | ((with_reducible apply xaw); (first | ((with_reducible apply xstepS); refine AW.step tok rfl ?_) | with_reducible refine AW.ret ?_)) | (with_reducible intro hc; (try simp only [hcL, reduceCtorEq] at hc); (try (exfalso; omega))) | with_reducible (first | exact trivial | refine And.intro ?_ ?_ | exact rfl))
  all_goals (refine xfinIs (by first | exact .inl rfl | exact .inr rfl) rfl (by repeat' (first | exact trivial | exact rfl | refine And.intro ?_ ?_)) rfl ?_ rfl; first | (simp -implicitDefEqProofs only [go_sem] <;> (first | rfl | omega | exact decide_eq_decide.2 (by omega) | exact decide_eq_false (by omega) | exact decide_eq_true (by omega) | (symm; first | exact decide_eq_false (by omega) | exact decide_eq_true (by omega)) | (rw [Bool.eq_iff_iff]; simp only [boL, reduceCtorEq]; omega))))

def idxOf {α : Type} (p : α → Bool) (xs : List α) : Int := match xs.findIdx? p with | some i => i | none => -1

theorem idxOf_at {α : Type} {p : α → Bool} {xs : List α} {k : Nat} (hlt : k < xs.length) (hp : ∀ j (h : j < xs.length), j < k → p xs[j] = false) (h : p xs[k] = true) : idxOf p xs = k := by
  have : xs.findIdx? p = some k := by
    rw [List.findIdx?_eq_some_iff_getElem]
    exact ⟨hlt, h, fun j hj => by simp [hp j (by omega) hj]⟩
  simp [idxOf, this]
theorem idxOf_none {α : Type} {p : α → Bool} {xs : List α} {k : Nat} (hlt : ¬ k < xs.length) (hp : ∀ j (h : j < xs.length), j < k → p xs[j] = false) : idxOf p xs = -1 := by
  have : xs.findIdx? p = none := by
    rw [List.findIdx?_eq_none_iff]
    intro x hx
    obtain ⟨j, hj, rfl⟩ := List.mem_iff_getElem.1 hx
    exact hp j hj (by omega)
  simp [idxOf, this]
theorem idxOf_any {α : Type} {p : α → Bool} {xs : List α} : decide (idxOf p xs ≥ 0) = xs.any p := by
  unfold idxOf
  cases h : xs.findIdx? p with
  | none =>
    rw [List.findIdx?_eq_none_iff] at h
    rw [show xs.any p = false by simpa [List.any_eq_false] using h]
    decide
  | some i =>
    have : xs.any p = true := by
      rw [List.findIdx?_eq_some_iff_getElem] at h
      obtain ⟨h1, h2, _⟩ := h
      exact List.any_eq_true.2 ⟨_, List.getElem_mem h1, h2⟩
    rw [this]; simp

theorem c_IndexFuncLine {α : Type} (enc : α → List D) (xs : List α) (g : Nat) (cap : List D) (p : α → Bool) (hsz : ∀ x, (enc x).length = 2) (hlen : xs.length < 2^63)
    (hg : ∀ x ∈ xs, ACon Tryz.prog g (.agg ((enc x).map .d) :: cap.map .d) [] (Is (.d (.bool (p x))))) :
    ACon Tryz.prog 154 [.d (.lst (xs.map enc)), .d (.fn g cap)] [] (Is (.d (.int .i64 (idxOf p xs)))) := by
  refine ACon.introW tok (nt := 19) Tryz.func154 rfl rfl rfl (by kernel_rfl) rfl ?_
  repeat' (first | ((first | refine AW.stepL lv154 tok rfl ?_ | refine AW.region tok rfl ?_ | refine AW.condE ?_ | refine AW.skip ?_ | refine AW.ret ?_ | refine AW.exit ?_ | refine aops_call ?_) <;> simp -implicitDefEqProofs only [go_sem]) | refine AW.seq ?_ | refine AW.block ?_ | refine And.intro ?_ ?_ | exact fun h => (h trivial).elim | exact fun h => h.elim | refine fun _ => ?_ | exact rfl | exact Nat.le_of_ble_eq_true rfl | omega | exact ⟨_, rfl, fun r hr => (by simp at hr; obtain ⟨a, _, rfl⟩ := hr; rfl)⟩ | (rename_i hm; simp only [List.take_succ_cons, List.take_zero, List.drop_zero, List.mem_singleton] at hm; subst hm; rfl) | (simp only [List.take_succ_cons, List.take_zero, List.drop_zero, List.length_cons, List.length_nil]; omega))
  refine AW.loop (S := fun k : Nat => ⟨[(0, .d (.lst (xs.map enc))), (1, .d (.fn g cap)), (7, .d (.int .i64 xs.length)), (8, .d (.int .i64 k))], [], 19, 0⟩)
    (Pre := fun k => k ≤ xs.length ∧ ∀ j (h : j < xs.length), j < k → p xs[j] = false) (μ := fun k => xs.length - k) 0 ⟨Nat.zero_le _, fun j _ h => absurd h (Nat.not_lt_zero _)⟩ ?_ ?_
  · (refine xwk (π := []) (by decide) rfl ?_ ?_; (first | exact trivial); repeat' (first | exact renE_n | ((with_reducible apply renE_c); exact rfl; focus (first | (simp -implicitDefEqProofs only [go_sem, List.length_map]; done)))))
  · rintro k ⟨hk, hp⟩
    by_cases hlt : k < xs.length
    · have hrow := at_map (f := enc) hlt
      have hrow2 : List.take 2 (List.map V.d (enc xs[k])) = List.map V.d (enc xs[k]) := by rw [List.take_of_length_le]; rw [List.length_map, hsz]; omega
      repeat' (first | ((first | refine AW.stepL lv154 tok rfl ?_ | refine AW.region tok rfl ?_ | refine AW.condE ?_ | refine AW.skip ?_ | refine AW.ret ?_ | refine AW.exit ?_ | refine aops_call ?_ | refine ACall.is (by first | rfl | simp -implicitDefEqProofs only [go_sem, ↓reduceIte, Nat.reduceEqDiff, ltT hlt, not_true, hrow, hrow2, hsz, List.length_map]) (hg _ (List.getElem_mem hlt)) ?_) <;> simp -implicitDefEqProofs only [go_sem, ltT hlt, not_true, hrow, hrow2, hsz, List.length_map]) | refine AW.seq ?_ | refine AW.block ?_ | refine And.intro ?_ ?_ | exact fun h => (h trivial).elim | exact fun h => h.elim | refine fun _ => ?_ | exact rfl | exact Nat.le_of_ble_eq_true rfl | omega | exact ⟨_, rfl, fun r hr => (by simp at hr; obtain ⟨a, _, rfl⟩ := hr; rfl)⟩ | (rename_i hm; simp only [List.take_succ_cons, List.take_zero, List.drop_zero, List.mem_singleton] at hm; subst hm; rfl) | (simp only [List.take_succ_cons, List.take_zero, List.drop_zero, List.length_cons, List.length_nil]; omega))
      · rename_i hpk
        (refine xfinIs (by first | exact .inl rfl | exact .inr rfl) rfl (by repeat' (first | exact trivial | exact rfl | refine And.intro ?_ ?_)) rfl ?_ rfl; first | (simp -implicitDefEqProofs only [go_sem, idxOf_at hlt hp hpk] <;> (first | rfl | omega | exact decide_eq_decide.2 (by omega) | exact decide_eq_false (by omega) | exact decide_eq_true (by omega) | (symm; first | exact decide_eq_false (by omega) | exact decide_eq_true (by omega)) | (rw [Bool.eq_iff_iff]; simp only [boL, reduceCtorEq]; omega))))
      · rename_i hpk
        refine round_end (k+1) ⟨by omega, ?_⟩ (by omega) (Weak.of [] rfl rfl List.nodup_nil rfl trivial ?_)
        · intro j hj h; by_cases h' : j = k
          · subst h'; exact hpk
          · exact hp j hj (by omega)
        · simp -implicitDefEqProofs only [go_sem]
    · repeat' (first | ((with_reducible apply xsim); (first | ((with_reducible apply xo); exact rfl) | with_reducible apply xend)) | ((with_reducible apply xaw); (first | ((with_reducible apply xstepS); refine AW.step tok rfl ?_) | with_reducible (first | refine AW.seq ?_ | refine AW.ret ?_ | refine AW.exit ?_) | ((with_reducible apply xcond); exact rfl))) | with_reducible (first | refine xthen ?_ | refine xthen_e ?_ | refine xblock_e ?_ | refine xround_e ?_) | (with_reducible intro hc; (try simp only [hcL, reduceCtorEq, List.length_map] at hc); (try (exfalso; omega))) | with_reducible (first | exact trivial | refine And.intro ?_ ?_ | exact rfl))
      (refine xfinIs (by first | exact .inl rfl | exact .inr rfl) rfl (by repeat' (first | exact trivial | exact rfl | refine And.intro ?_ ?_)) rfl ?_ rfl; first | (simp -implicitDefEqProofs only [go_sem, idxOf_none hlt hp] <;> (first | rfl | omega | exact decide_eq_decide.2 (by omega) | exact decide_eq_false (by omega) | exact decide_eq_true (by omega) | (symm; first | exact decide_eq_false (by omega) | exact decide_eq_true (by omega)) | (rw [Bool.eq_iff_iff]; simp only [boL, reduceCtorEq]; omega))))

theorem c_ContainsFuncLine {α : Type} (enc : α → List D) (xs : List α) (g : Nat) (cap : List D) (p : α → Bool) (hsz : ∀ x, (enc x).length = 2) (hlen : xs.length < 2^63)
    (hg : ∀ x ∈ xs, ACon Tryz.prog g (.agg ((enc x).map .d) :: cap.map .d) [] (Is (.d (.bool (p x))))) :
    ACon Tryz.prog 146 [.d (.lst (xs.map enc)), .d (.fn g cap)] [] (Is (.d (.bool (xs.any p)))) := by
  refine ACon.introW tok (nt := 9) Tryz.func146 rfl rfl rfl (by kernel_rfl) rfl ?_
  repeat' (first | ((with_reducible apply xsim); (first | ((with_reducible apply xo); exact rfl) | with_reducible apply xend | ((with_reducible apply xcallIs); exact rfl; exact rfl; exact c_IndexFuncLine enc xs g cap p hsz hlen hg; exact rfl))) | ((with_reducible apply xaw); (first | ((with_reducible apply xstepS); refine AW.step tok rfl ?_) | with_reducible refine AW.ret ?_)) | with_reducible (first | exact trivial | refine And.intro ?_ ?_ | exact rfl))
  (refine xfinIs (by first | exact .inl rfl | exact .inr rfl) rfl (by repeat' (first | exact trivial | exact rfl | refine And.intro ?_ ?_)) rfl ?_ rfl; first | (simp -implicitDefEqProofs only [go_sem, idxOf_any] <;> (first | rfl | omega | exact decide_eq_decide.2 (by omega) | exact decide_eq_false (by omega) | exact decide_eq_true (by omega) | (symm; first | exact decide_eq_false (by omega) | exact decide_eq_true (by omega)) | (rw [Bool.eq_iff_iff]; simp only [boL, reduceCtorEq]; omega))))

end Go.Proofs.YtpfhnhhkfobjnaaGreat

namespace Go.Proofs.YtpfhnhhkfobjnaaGreat
open Go.Fw

/-- Rows that are filled one by one. -/
def fillRows {α : Type} (enc : α → List D) (z : List D) (xs : List α) (k : Nat) : List (List D) := (xs.take k).map enc ++ List.replicate (xs.length - k) z

theorem fillRows_len {α : Type} {enc : α → List D} {z : List D} {xs : List α} {k : Nat} (hk : k ≤ xs.length) : (fillRows enc z xs k).length = xs.length := by
  simp [fillRows]; omega
theorem fillRows_at {α : Type} {enc : α → List D} {z : List D} {xs : List α} {k : Nat} (hk : k < xs.length) : (fillRows enc z xs k)[k]? = some z := by
  unfold fillRows
  rw [List.getElem?_append_right (by simp; omega)]
  simp only [List.length_map, List.length_take]
  rw [List.getElem?_replicate, if_pos (by omega)]
theorem fillRows_set {α : Type} {enc : α → List D} {z : List D} {xs : List α} {k : Nat} (hk : k < xs.length) : (fillRows enc z xs k).set k (enc xs[k]) = fillRows enc z xs (k + 1) := by
  unfold fillRows
  rw [List.set_append_right _ _ (by simp; omega)]
  simp only [List.length_map, List.length_take]
  rw [show k - min k xs.length = 0 by omega, show xs.length - k = (xs.length - (k + 1)) + 1 by omega, List.replicate_succ, List.set_cons_zero, List.take_succ_eq_append_getElem hk, List.map_append, List.append_assoc]
  rfl
theorem fillRows_all {α : Type} {enc : α → List D} {z : List D} {xs : List α} : fillRows enc z xs xs.length = xs.map enc := by simp [fillRows]
theorem fillRows_zero {α : Type} {enc : α → List D} {z : List D} {xs : List α} : fillRows enc z xs 0 = List.replicate xs.length z := by simp [fillRows]

/-- A slice of rows that is handed over. -/
def ORows {α : Type} (enc : α → List D) (sz : Nat) (xs : List α) : V → List O → Prop := Own (.msl 0 sz 0 xs.length) [.arr sz (xs.map enc)]

theorem ORows.data {α : Type} {P : Program} {f : Nat} {args : List V} {sz : Nat} {enc : α → List D} {xs : List α} (h : ACon P f args [] (ORows enc sz xs)) : ACon P f args [] (Is (.d (.lst (xs.map enc)))) := by
  have h2 : ACon P f args [] (fun r os => r = .d (.lst (xs.map enc)) ∧ os = [.dead]) := by
    refine h.frz ?_
    rintro r os ⟨rfl, rfl⟩
    exact ⟨0, sz, xs.map enc, by rw [List.length_map], rfl, rfl, rfl⟩
  refine h2.ren ?_
  rintro r os ⟨rfl, rfl⟩
  exact ⟨[], .d (.lst (xs.map enc)), [], by decide, rfl, trivial, rfl, rfl, rfl⟩

end Go.Proofs.YtpfhnhhkfobjnaaGreat

namespace Go.Proofs.YtpfhnhhkfobjnaaGreat
open Go.Fw Go.ChangeShapes Go.WideShapes Go.Deep Go.RowKit Go.ChangeAt

section
variable {H : Type} {enc : TypeId × Value → H} {P : Program} {w : World} {base : Nat} {spare : Nat → Bool} {held : Bool}

theorem list_of {α : Type} {R : Nat → α → Prop} : ∀ n : Nat, (∀ i, i < n → ∃ p, R i p) → ∃ xs : List α, xs.length = n ∧ ∀ (i : Nat) (p : α), xs[i]? = some p → R i p := by
  intro n
  induction n with
  | zero => intro _; exact ⟨[], rfl, fun i p h => by simp at h⟩
  | succ n ih =>
    intro h
    obtain ⟨xs, h1, h2⟩ := ih fun i hi => h i (by omega)
    obtain ⟨p, hp⟩ := h n (by omega)
    refine ⟨xs ++ [p], by simp [h1], fun i q hq => ?_⟩
    rcases Nat.lt_or_ge i xs.length with hl | hl
    · rw [List.getElem?_append_left hl] at hq; exact h2 i q hq
    · rw [List.getElem?_append_right hl] at hq
      have : i - xs.length = 0 := by
        rcases Nat.eq_zero_or_pos (i - xs.length) with e | e
        · exact e
        · rw [List.getElem?_eq_none (by simp; omega)] at hq; cases hq
      rw [this] at hq
      simp only [List.getElem?_cons_zero, Option.some.injEq] at hq
      subst hq
      rw [show i = n by omega]
      exact hp

/-- A slice of records that the input brings. -/
theorem open_recs {α : Type} {encR : α → List D} {nf : Nat} {t e : TypeId} {fuel : Nat} {v : Value} {x : DataW H × List MemPlace} (ht : P.underlying t = some (.slice e)) (hC : P.cellsOf e = nf) (hnf : 0 < nf)
    (hlen : ∀ p, (encR p).length = nf)
    (hdec : ∀ (n : Nat) (cs : List Value) (y : DataW H × List MemPlace), DataW.trod enc P w base spare held n e cs = some y → ∃ p : α, ∀ (j : Nat) (d : D), (encR p)[j]? = some d → ∃ u : Value, cs[j]? = some u ∧ DRep w (· < w.heap.size) d u)
    (h : DataW.trod enc P w base spare held fuel t [v] = some x) : ∃ xs : List α, DRep w (· < w.heap.size) (.lst (xs.map encR)) v ∧ xs.length ≤ maxLen := by
  rcases open_slice ht h with ⟨h0, _⟩ | ⟨a, len, cap, m, n, D0, Pl, hcs, hb, hl, hm, hmm, hx, hi⟩
  · obtain rfl : v = .slice none 0 0 := by simpa using h0
    exact ⟨[], .nil, Nat.zero_le _⟩
  · obtain rfl : v = .slice (some a) len cap := by simpa using hcs
    have hlm : len ≤ m := by rw [hmm]; split <;> omega
    obtain ⟨xs, h1, h2⟩ := list_of (R := fun i (p : α) => ∀ (j : Nat) (d : D), (encR p)[j]? = some d → ∃ u : Value, w.cell? (a.add (i * nf + j)) = some u ∧ DRep w (· < w.heap.size) d u) len fun i hil => by
      obtain ⟨cs', hc, htr⟩ := hi i (by omega)
      obtain ⟨p, hp⟩ := hdec _ _ _ htr
      rw [hC] at hc
      obtain ⟨_, hcl, hat⟩ := World.cells?_some hc
      refine ⟨p, fun j d hd => ?_⟩
      obtain ⟨u, hu, hr⟩ := hp j d hd
      have hj : j < nf := by rw [← hlen p]; exact (List.getElem?_eq_some_iff.1 hd).1
      refine ⟨u, ?_, hr⟩
      rw [← Go.Deep.add_add, hat j hj, hu]
    refine ⟨xs, ?_, by omega⟩
    subst h1
    cases xs with
    | nil => exact .nil
    | cons p0 xs =>
      have hfirst : ∃ u, w.cell? (a.add 0) = some u := by
        have hd : (encR p0)[0]? = some ((encR p0)[0]'(by rw [hlen]; exact hnf)) := List.getElem?_eq_getElem _
        obtain ⟨u, hu, _⟩ := h2 0 p0 rfl 0 _ hd
        exact ⟨u, by simpa using hu⟩
      obtain ⟨u, hu⟩ := hfirst
      obtain ⟨b, off, spot⟩ := a
      have hs : spot = none ∧ b < w.heap.size := by
        unfold World.cell? Addr.add at hu
        simp only at hu
        split at hu
        · rename_i c _ _ hb
          refine ⟨?_, (Array.getElem?_eq_some_iff.1 hb).1⟩
          cases spot with
          | none => rfl
          | some q => simp at hu
        · cases hu
      obtain ⟨rfl, hbl⟩ := hs
      have := DRep.lst (w := w) (ok := (· < w.heap.size)) (rows := (p0 :: xs).map encR) (sz := nf) (b := b) (off := off) (cap := cap)
        (vs := fun i j => (w.cell? ⟨b, off + (i * nf + j), none⟩).getD undef) hbl
        (fun r hr => by obtain ⟨p, _, rfl⟩ := List.mem_map.1 hr; exact hlen p) (by rw [List.length_map]; exact hl)
        (fun i j r d hi hj => by
          rw [List.getElem?_map, Option.map_eq_some_iff] at hi
          obtain ⟨p, hp, rfl⟩ := hi
          obtain ⟨u, hu, _⟩ := h2 i p hp j d hj
          have hu : w.cell? ⟨b, off + (i * nf + j), none⟩ = some u := by rw [addr_add] at hu; exact hu
          rw [hu]; rfl)
        (fun i j r d hi hj => by
          rw [List.getElem?_map, Option.map_eq_some_iff] at hi
          obtain ⟨p, hp, rfl⟩ := hi
          obtain ⟨u, hu, hr⟩ := h2 i p hp j d hj
          have hu : w.cell? ⟨b, off + (i * nf + j), none⟩ = some u := by rw [addr_add] at hu; exact hu
          rw [hu]; exact hr)
      rwa [List.length_map] at this

end

/-- A law that is proved on the abstract machine, as the row asks for it. -/
theorem bridge {P : Program} {f : Nat} {args : List V} {vs : Array Value} {W : World} (hc : ACon P f args [] (Is (.d (.bool true)))) (hs : vs.size = args.length)
    (hv : ∀ (i : Nat) x, args[i]? = some x → VRep W (· < W.heap.size) [] x (vs.getD i undef)) : Calls P f vs W fun e W' => e = .returned (.bool true) ∧ Below W.heap.size W W' := by
  refine (hc.run W (· < W.heap.size) [] vs ⟨rfl, fun _ h => h, fun id o h => by simp at h, fun i j oi oj b h => by simp at h, fun i o b h => by simp at h⟩ hs hv).mono ?_
  rintro e W' ⟨v, r, os, ok', ρ', rfl, ⟨rfl, rfl⟩, hI, hV, hF⟩
  cases hV with
  | d h =>
    cases h
    exact ⟨rfl, hF.os, hF.tape, hF.output, hF.size, fun k hk => hF.block k hk (fun id o h => by simp at h) (fun e => by cases e)⟩

section
variable {H : Type} {enc : TypeId × Value → H} {w : World} {base : Nat} {spare : Nat → Bool} {held : Bool}

theorem take1 {cs : List Value} {j : Nat} {v : Value} (h : (cs.drop j).take 1 = [v]) : cs[j]? = some v := by
  have : ((cs.drop j).take 1)[0]? = some v := by rw [h]; rfl
  rw [List.getElem?_take_of_lt (by omega), List.getElem?_drop] at this
  simpa using this

theorem fieldI {cs : List Value} {n' j : Nat} {z : DataW H × List MemPlace} (h : DataW.trod enc Tryz.prog w base spare held n' 3 ((cs.drop j).take (Tryz.prog.cellsOf 3)) = some z) : ∃ k : Int, cs[j]? = some (.int .i64 k) := by
  obtain ⟨k, hk, _, _⟩ := DataW.trod_int Tryz.underlying3 h
  rw [show Tryz.prog.cellsOf 3 = 1 by kernel_rfl] at hk
  exact ⟨k, take1 hk⟩

theorem fieldB {cs : List Value} {n' j : Nat} {z : DataW H × List MemPlace} (h : DataW.trod enc Tryz.prog w base spare held n' 4 ((cs.drop j).take (Tryz.prog.cellsOf 4)) = some z) : ∃ k : Bool, cs[j]? = some (.bool k) := by
  obtain ⟨k, hk, _⟩ := DataW.trod_bool Tryz.underlying4 h
  rw [show Tryz.prog.cellsOf 4 = 1 by kernel_rfl] at hk
  exact ⟨k, take1 hk⟩

/-- What a record's cells hold. -/
def DecR {α : Type} (w : World) (encR : α → List D) (ok : α → Prop) (cs : List Value) : Prop :=
  ∃ p : α, ok p ∧ ∀ (j : Nat) (d : D), (encR p)[j]? = some d → ∃ u : Value, cs[j]? = some u ∧ DRep w (· < w.heap.size) d u

theorem fieldL {α : Type} {encR : α → List D} {nf : Nat} {t e : TypeId} {cs : List Value} {n' j : Nat} {z : DataW H × List MemPlace} (ht : Tryz.prog.underlying t = some (.slice e)) (hct : Tryz.prog.cellsOf t = 1) (hC : Tryz.prog.cellsOf e = nf) (hnf : 0 < nf)
    (hlen : ∀ p, (encR p).length = nf) (hdec : ∀ (n : Nat) (cs : List Value) (y : DataW H × List MemPlace), DataW.trod enc Tryz.prog w base spare held n e cs = some y → DecR w encR (fun _ => True) cs)
    (h : DataW.trod enc Tryz.prog w base spare held n' t ((cs.drop j).take (Tryz.prog.cellsOf t)) = some z) : ∃ (u : Value) (xs : List α), cs[j]? = some u ∧ DRep w (· < w.heap.size) (.lst (xs.map encR)) u ∧ xs.length ≤ maxLen := by
  rw [hct] at h
  obtain ⟨v, hv⟩ : ∃ v, (cs.drop j).take 1 = [v] := by
    rcases open_slice ht h with ⟨h0, _⟩ | ⟨a, len, cap, m, n, D0, Pl, hcs, _⟩
    · exact ⟨_, h0⟩
    · exact ⟨_, hcs⟩
  rw [hv] at h
  obtain ⟨xs, h1, h2⟩ := open_recs ht hC hnf hlen (fun n cs y hy => by obtain ⟨p, _, hp⟩ := hdec n cs y hy; exact ⟨p, hp⟩) h
  exact ⟨v, xs, take1 hv, h1, h2⟩

/-- A record that the input brings. -/
theorem open_rec {α : Type} {encR : α → List D} {ok : α → Prop} {cs : Array Value} (hl : ∀ p, (encR p).length = cs.size) (h : DecR w encR ok cs.toList) : ∃ p : α, ok p ∧ ∀ ρ, VRep w (· < w.heap.size) ρ (.agg ((encR p).map .d)) (.agg cs) := by
  obtain ⟨p, ho, hp⟩ := h
  refine ⟨p, ho, fun ρ => .agg (by simp [hl p]) fun i c hc => ?_⟩
  rw [List.getElem?_map, Option.map_eq_some_iff] at hc
  obtain ⟨d, hd, rfl⟩ := hc
  obtain ⟨u, hu, hr⟩ := hp i d hd
  have : cs[i]? = some u := by simpa using hu
  rw [show cs.getD i undef = u by simp [Array.getD_eq_getD_getElem?, this]]
  exact .d hr

end
end Go.Proofs.YtpfhnhhkfobjnaaGreat

namespace Go.Proofs.YtpfhnhhkfobjnaaGreat
open Go.Fw
attribute [local irreducible] Go.Fw.aops Go.Fw.arun

structure Line where
  weight : Int
  min : Int
@[go_sem] def encLine (l : Line) : List D := [.int .i64 l.weight, .int .i64 l.min]
@[go_sem] def vLine (l : Line) : V := .agg ((encLine l).map .d)
structure Span where
  «at» : Int
  many : Int
  need : Int
@[go_sem] def encSpan (s : Span) : List D := [.int .i64 s.at, .int .i64 s.many, .int .i64 s.need]
@[go_sem] def vSpan (s : Span) : V := .agg ((encSpan s).map .d)
structure Cell where
  col : Int
  row : Int
  manyCols : Int
  manyRows : Int
  w : Int
  h : Int
  stick : Int
  padX : Int
  padY : Int
@[go_sem] def encCell (c : Cell) : List D := [.int .i64 c.col, .int .i64 c.row, .int .i64 c.manyCols, .int .i64 c.manyRows, .int .i64 c.w, .int .i64 c.h, .int .i64 c.stick, .int .i64 c.padX, .int .i64 c.padY]
@[go_sem] def vCell (c : Cell) : V := .agg ((encCell c).map .d)
structure Grid where
  cols : List Line
  rows : List Line
  cells : List Cell
@[go_sem] def encGrid (g : Grid) : List D := [.lst (g.cols.map encLine), .lst (g.rows.map encLine), .lst (g.cells.map encCell)]
@[go_sem] def vGrid (g : Grid) : V := .agg ((encGrid g).map .d)

def validLine (l : Line) : Bool := decide (0 ≤ l.weight ∧ l.weight ≤ 5 ∧ 0 ≤ l.min ∧ l.min ≤ 30)
def linesOk (ls : List Line) : Bool := decide (1 ≤ ls.length ∧ ls.length ≤ 5) && ls.all validLine
def lies (c : Cell) (nc nr : Int) : Bool := decide (0 ≤ c.col ∧ c.col ≤ nc - 1 ∧ 1 ≤ c.manyCols ∧ c.manyCols ≤ nc - c.col ∧ 0 ≤ c.row ∧ c.row ≤ nr - 1 ∧ 1 ≤ c.manyRows ∧ c.manyRows ≤ nr - c.row ∧ 0 ≤ c.stick ∧ c.stick ≤ 15 ∧ 0 ≤ c.padX ∧ c.padX ≤ 10 ∧ 0 ≤ c.padY ∧ c.padY ≤ 10)
def cellOk (c : Cell) (nc nr : Int) : Bool := decide (0 ≤ c.w ∧ c.w ≤ 30 ∧ 0 ≤ c.h ∧ c.h ≤ 30) && lies c nc nr
theorem any_not {α : Type} {p : α → Bool} {xs : List α} : (!xs.any fun x => !p x) = xs.all p := by
  induction xs with
  | nil => rfl
  | cons x xs ih => simp only [List.any_cons, List.all_cons, ← ih, Bool.not_or, Bool.not_not]

theorem c_spanOk (a m n : Int) (hn : 0 ≤ n ∧ n < 2^40) : ACon Tryz.prog 123 [.d (.int .i64 a), .d (.int .i64 m), .d (.int .i64 n)] [] (Is (.d (.bool (decide (0 ≤ a ∧ a ≤ n - 1 ∧ 1 ≤ m ∧ m ≤ n - a))))) := by
  refine ACon.introW tok (nt := 18) Tryz.func123 rfl rfl rfl (by kernel_rfl) rfl ?_
  repeat' (first | ((with_reducible apply xsim); (first | ((with_reducible apply xo); exact rfl) | with_reducible apply xend | ((with_reducible apply xguardS); exact rfl; exact rfl) | ((with_reducible apply xcallIs); exact rfl; exact rfl; exact c_within _ _ _; exact rfl))) | ((with_reducible apply xaw); (first | ((with_reducible apply xstepS); refine AW.step tok rfl ?_) | with_reducible refine AW.ret ?_)) | (with_reducible intro hc; (try simp only [hcL, reduceCtorEq] at hc); (try (exfalso; omega))) | with_reducible (first | exact trivial | refine And.intro ?_ ?_ | exact rfl) | (refine inR_i64.mpr ?_; first | omega | (simp only [List.length_map]; omega)))
  all_goals (refine xfinIs (by first | exact .inl rfl | exact .inr rfl) rfl (by repeat' (first | exact trivial | exact rfl | refine And.intro ?_ ?_)) rfl ?_ rfl; first | (simp -implicitDefEqProofs only [go_sem] <;> (first | rfl | omega | exact decide_eq_decide.2 (by omega) | exact decide_eq_false (by omega) | exact decide_eq_true (by omega) | (symm; first | exact decide_eq_false (by omega) | exact decide_eq_true (by omega)) | (rw [Bool.eq_iff_iff]; simp only [boL, reduceCtorEq]; omega))))

theorem c_linesOk1 (l : Line) : ACon Tryz.prog 147 [vLine l] [] (Is (.d (.bool (!validLine l)))) := by
  refine ACon.introW tok (nt := 13) Tryz.func147 rfl rfl rfl (by kernel_rfl) rfl ?_
  repeat' (first | ((with_reducible apply xsim); (first | ((with_reducible apply xo); exact rfl) | with_reducible apply xend | ((with_reducible apply xguardS); exact rfl; exact rfl) | ((with_reducible apply xbox); exact rfl; simp only [bkL, Nat.reduceAdd, Nat.reduceSub]) | ((with_reducible apply xcallIs); exact rfl; exact rfl; exact c_within _ _ _; exact rfl))) | ((with_reducible apply xaw); (first | ((with_reducible apply xstepS); refine AW.step tok rfl ?_) | with_reducible refine AW.ret ?_)) | (with_reducible intro hc; (try simp only [hcL, reduceCtorEq] at hc); (try (exfalso; omega))) | with_reducible exact trivial)
  all_goals (refine xfinIs (by first | exact .inl rfl | exact .inr rfl) rfl (by repeat' (first | exact trivial | exact rfl | refine And.intro ?_ ?_)) rfl ?_ rfl; first | (simp -implicitDefEqProofs only [go_sem, validLine] <;> (first | rfl | omega | exact decide_eq_decide.2 (by omega) | exact decide_eq_false (by omega) | exact decide_eq_true (by omega) | (symm; first | exact decide_eq_false (by omega) | exact decide_eq_true (by omega)) | (rw [Bool.eq_iff_iff]; simp only [boL, reduceCtorEq]; omega))))

theorem c_linesOk (ls : List Line) (hl : ls.length < 2^63) : ACon Tryz.prog 122 [.d (.lst (ls.map encLine))] [] (Is (.d (.bool (linesOk ls)))) := by
  refine ACon.introW tok (nt := 11) Tryz.func122 rfl rfl rfl (by kernel_rfl) rfl ?_
  repeat' (first | ((with_reducible apply xsim); (first | ((with_reducible apply xlenM); exact rfl; exact rfl) | ((with_reducible apply xo); exact rfl) | with_reducible apply xend | ((with_reducible apply xguardS); exact rfl; exact rfl) | ((with_reducible apply xcallIs); exact rfl; exact rfl; (first | exact c_within _ _ _ | exact c_ContainsFuncLine encLine ls _ [] (fun p => !validLine p) (fun _ => rfl) hl (fun x _ => c_linesOk1 x)); exact rfl))) | ((with_reducible apply xaw); (first | ((with_reducible apply xstepS); refine AW.step tok rfl ?_) | with_reducible refine AW.ret ?_)) | (with_reducible intro hc; (try simp only [hcL, reduceCtorEq, List.length_map] at hc); (try (exfalso; omega))) | with_reducible exact trivial)
  · rename_i h1 h2
    have h1 : 1 ≤ ls.length ∧ ls.length ≤ 5 := by omega
    (refine xfinIs (by first | exact .inl rfl | exact .inr rfl) rfl (by repeat' (first | exact trivial | exact rfl | refine And.intro ?_ ?_)) rfl ?_ rfl; first | (simp -implicitDefEqProofs only [go_sem, linesOk, any_not, h1, and_self, decide_true, Bool.true_and] <;> (first | rfl | omega | exact decide_eq_decide.2 (by omega) | exact decide_eq_false (by omega) | exact decide_eq_true (by omega) | (symm; first | exact decide_eq_false (by omega) | exact decide_eq_true (by omega)) | (rw [Bool.eq_iff_iff]; simp only [boL, reduceCtorEq]; omega))))
  · (refine xfinIs (by first | exact .inl rfl | exact .inr rfl) rfl (by repeat' (first | exact trivial | exact rfl | refine And.intro ?_ ?_)) rfl ?_ rfl; first | (simp -implicitDefEqProofs only [go_sem, linesOk, decide_eq_false (show ¬ (1 ≤ ls.length ∧ ls.length ≤ 5) by omega), Bool.false_and] <;> (first | rfl | omega | exact decide_eq_decide.2 (by omega) | exact decide_eq_false (by omega) | exact decide_eq_true (by omega) | (symm; first | exact decide_eq_false (by omega) | exact decide_eq_true (by omega)) | (rw [Bool.eq_iff_iff]; simp only [boL, reduceCtorEq]; omega))))

theorem c_lies (c : Cell) (g : Grid) (h1 : g.cols.length < 2^40) (h2 : g.rows.length < 2^40) : ACon Tryz.prog 87 [vCell c, vGrid g] [] (Is (.d (.bool (lies c g.cols.length g.rows.length)))) := by
  refine ACon.introW tok (nt := 38) Tryz.func87 rfl rfl rfl (by kernel_rfl) rfl ?_
  repeat' (first | ((with_reducible apply xsim); (first | ((with_reducible apply xlenM); exact rfl; exact rfl) | ((with_reducible apply xo); exact rfl) | with_reducible apply xend | ((with_reducible apply xguardS); exact rfl; exact rfl) | ((with_reducible apply xbox); exact rfl; simp only [bkL, Nat.reduceAdd, Nat.reduceSub]) | ((with_reducible apply xcallIs); exact rfl; exact rfl; (first | exact c_within _ _ _ | exact c_spanOk _ _ _ (by omega)); exact rfl))) | ((with_reducible apply xaw); (first | ((with_reducible apply xstepS); refine AW.step tok rfl ?_) | with_reducible refine AW.ret ?_)) | (with_reducible intro hc; (try simp only [hcL, reduceCtorEq, List.length_map] at hc); (try (exfalso; omega))) | with_reducible exact trivial)
  all_goals (refine xfinIs (by first | exact .inl rfl | exact .inr rfl) rfl (by repeat' (first | exact trivial | exact rfl | refine And.intro ?_ ?_)) rfl ?_ rfl; first | (simp -implicitDefEqProofs only [go_sem, lies] <;> (first | rfl | omega | exact decide_eq_decide.2 (by omega) | exact decide_eq_false (by omega) | exact decide_eq_true (by omega) | (symm; first | exact decide_eq_false (by omega) | exact decide_eq_true (by omega)) | (rw [Bool.eq_iff_iff]; simp only [boL, reduceCtorEq]; omega))))

theorem c_validLine (l : Line) : ACon Tryz.prog 145 [vLine l] [] (Is (.d (.bool (validLine l)))) := by
  refine ACon.introW tok (nt := 11) Tryz.func145 rfl rfl rfl (by kernel_rfl) rfl ?_
  repeat' (first | ((with_reducible apply xsim); (first | ((with_reducible apply xo); exact rfl) | with_reducible apply xend | ((with_reducible apply xguardS); exact rfl; exact rfl) | ((with_reducible apply xbox); exact rfl; simp only [bkL, Nat.reduceAdd, Nat.reduceSub]) | ((with_reducible apply xcallIs); exact rfl; exact rfl; exact c_inRange _ _ _; exact rfl))) | ((with_reducible apply xaw); (first | ((with_reducible apply xstepS); refine AW.step tok rfl ?_) | with_reducible refine AW.ret ?_)) | (with_reducible intro hc; (try simp only [hcL, reduceCtorEq] at hc); (try (exfalso; omega))) | with_reducible exact trivial)
  all_goals (refine xfinIs (by first | exact .inl rfl | exact .inr rfl) rfl (by repeat' (first | exact trivial | exact rfl | refine And.intro ?_ ?_)) rfl ?_ rfl; first | (simp -implicitDefEqProofs only [go_sem, validLine] <;> (first | rfl | omega | exact decide_eq_decide.2 (by omega) | exact decide_eq_false (by omega) | exact decide_eq_true (by omega) | (symm; first | exact decide_eq_false (by omega) | exact decide_eq_true (by omega)) | (rw [Bool.eq_iff_iff]; simp only [boL, reduceCtorEq]; omega))))

theorem c_validCell (c : Cell) (g : Grid) (h1 : g.cols.length < 2^40) (h2 : g.rows.length < 2^40) : ACon Tryz.prog 116 [vGrid g, vCell c] [] (Is (.d (.bool (cellOk c g.cols.length g.rows.length)))) := by
  refine ACon.introW tok (nt := 68) Tryz.func116 rfl rfl rfl (by kernel_rfl) rfl ?_
  repeat' (first | ((with_reducible apply xsim); (first | ((with_reducible apply xlenM); exact rfl; exact rfl) | ((with_reducible apply xo); exact rfl) | with_reducible apply xend | ((with_reducible apply xguardS); exact rfl; exact rfl) | ((with_reducible apply xbox); exact rfl; simp only [bkL, Nat.reduceAdd, Nat.reduceSub]) | ((with_reducible apply xcallIs); exact rfl; exact rfl; exact c_inRange _ _ _; exact rfl))) | ((with_reducible apply xaw); (first | ((with_reducible apply xstepS); refine AW.step tok rfl ?_) | with_reducible refine AW.ret ?_)) | (with_reducible intro hc; (try simp only [hcL, reduceCtorEq, List.length_map] at hc); (try (exfalso; omega))) | with_reducible (first | exact trivial | refine And.intro ?_ ?_ | exact rfl) | (refine inR_i64.mpr ?_; first | omega | (simp only [List.length_map, List.length_map]; omega)))
  all_goals (refine xfinIs (by first | exact .inl rfl | exact .inr rfl) rfl (by repeat' (first | exact trivial | exact rfl | refine And.intro ?_ ?_)) rfl ?_ rfl; first | (simp -implicitDefEqProofs only [go_sem, cellOk, lies, ← Bool.decide_and] <;> (first | rfl | omega | exact decide_eq_decide.2 (by omega) | exact decide_eq_false (by omega) | exact decide_eq_true (by omega) | (symm; first | exact decide_eq_false (by omega) | exact decide_eq_true (by omega)) | (rw [Bool.eq_iff_iff]; simp only [boL, reduceCtorEq]; omega))))

theorem all_ff {α : Type} {p : α → Bool} {xs : List α} {k : Nat} (h : k < xs.length) (hp : p xs[k] = false) : xs.all p = false := List.all_eq_false.2 ⟨_, List.getElem_mem h, by simp [hp]⟩
theorem all_tt {α : Type} {p : α → Bool} {xs : List α} (hp : ∀ j (h : j < xs.length), p xs[j] = true) : xs.all p = true := List.all_eq_true.2 fun x hx => by
  obtain ⟨j, hj, rfl⟩ := List.mem_iff_getElem.1 hx
  exact hp j hj

theorem c_validLines (ls : List Line) (hl : ls.length < 2^40) : ACon Tryz.prog 115 [.d (.lst (ls.map encLine))] [] (Is (.d (.bool (linesOk ls)))) := by
  refine ACon.introW tok (nt := 19) Tryz.func115 rfl rfl rfl (by kernel_rfl) rfl ?_
  repeat' (first | ((with_reducible apply xsim); (first | ((with_reducible apply xo); exact rfl) | with_reducible apply xend)) | ((with_reducible apply xaw); (first | ((with_reducible apply xstepS); refine AW.step tok rfl ?_) | with_reducible (first | refine AW.seq ?_ | refine AW.block ?_))) | with_reducible exact trivial)
  refine AW.loop (S := fun k : Nat => ⟨[(0, .d (.lst (ls.map encLine))), (3, .d (.int .i64 k))], [], 19, .p 0⟩)
    (Pre := fun k => k ≤ ls.length ∧ ∀ j (h : j < ls.length), j < k → validLine ls[j] = true) (μ := fun k => ls.length - k) 0 ⟨Nat.zero_le _, fun j _ h => absurd h (Nat.not_lt_zero _)⟩ ?_ ?_
  · (refine xwk (π := []) (by decide) rfl ?_ ?_; (first | exact trivial); repeat' (first | exact renE_n | ((with_reducible apply renE_c); exact rfl; focus (first | (simp -implicitDefEqProofs only [go_sem]; done)))))
  · rintro k ⟨hk, hp⟩
    by_cases hlt : k < ls.length
    · have hrow := at_map (f := encLine) hlt
      repeat' (first | ((with_reducible apply xsim); (first | ((with_reducible apply xlenM); exact rfl; exact rfl) | ((with_reducible apply xo); exact rfl) | with_reducible apply xend | ((with_reducible apply xidxL); exact rfl; exact rfl; exact rfl; (first | exact hrow); omega; first | exact rfl | simp only [hsz]) | ((with_reducible apply xcallIs); exact rfl; exact rfl; exact c_validLine ls[k]; exact rfl))) | ((with_reducible apply xaw); (first | ((with_reducible apply xstepS); refine AW.step tok rfl ?_) | ((with_reducible apply xstep); refine AW.region tok rfl ?_) | with_reducible (first | refine AW.seq ?_ | refine AW.block ?_ | refine AW.skip ?_ | refine AW.ret ?_) | ((with_reducible apply xcond); exact rfl))) | with_reducible (first | refine xthen ?_ | refine xthen_r ?_ | refine xblock ?_ | refine xblock_r ?_ | refine xround_r ?_) | (with_reducible intro hc; (try simp only [hcL, reduceCtorEq, List.length_map] at hc); (try (exfalso; omega))) | with_reducible (first | exact trivial | refine And.intro ?_ ?_ | exact rfl) | exact Eq.refl true | (refine inR_i64.mpr ?_; first | omega | (simp only [List.length_map, List.length_map]; omega)))
      · (refine xfinIs (by first | exact .inl rfl | exact .inr rfl) rfl (by repeat' (first | exact trivial | exact rfl | refine And.intro ?_ ?_)) rfl ?_ rfl; first | (simp -implicitDefEqProofs only [go_sem, linesOk, all_ff hlt hc, Bool.and_false] <;> (first | rfl | omega | exact decide_eq_decide.2 (by omega) | exact decide_eq_false (by omega) | exact decide_eq_true (by omega) | (symm; first | exact decide_eq_false (by omega) | exact decide_eq_true (by omega)) | (rw [Bool.eq_iff_iff]; simp only [boL, reduceCtorEq]; omega))))
      · refine round_end (k+1) ⟨by omega, ?_⟩ (by omega) (by (refine xwk (π := []) (by decide) rfl ?_ ?_; (first | exact trivial); repeat' (first | exact renE_n | ((with_reducible apply renE_c); exact rfl; focus (first | (simp -implicitDefEqProofs only [go_sem]; done))))))
        intro j hj h; by_cases h' : j = k
        · subst h'; exact hc
        · exact hp j hj (by omega)
    · have hall := all_tt (p := validLine) (xs := ls) fun j h => hp j h (by omega)
      repeat' (first | ((with_reducible apply xsim); (first | ((with_reducible apply xlenM); exact rfl; exact rfl) | ((with_reducible apply xo); exact rfl) | with_reducible apply xend | ((with_reducible apply xcallIs); exact rfl; exact rfl; exact c_inRange _ _ _; exact rfl))) | ((with_reducible apply xaw); (first | ((with_reducible apply xstepS); refine AW.step tok rfl ?_) | with_reducible (first | refine AW.seq ?_ | refine AW.ret ?_ | refine AW.exit ?_) | ((with_reducible apply xcond); exact rfl))) | with_reducible (first | refine xthen ?_ | refine xthen_e ?_ | refine xblock_e ?_ | refine xround_e ?_) | (with_reducible intro hc; (try simp only [hcL, reduceCtorEq, List.length_map] at hc); (try (exfalso; omega))) | with_reducible (first | exact trivial | refine And.intro ?_ ?_ | exact rfl))
      (refine xfinIs (by first | exact .inl rfl | exact .inr rfl) rfl (by repeat' (first | exact trivial | exact rfl | refine And.intro ?_ ?_)) rfl ?_ rfl; first | (simp -implicitDefEqProofs only [go_sem, linesOk, hall, Bool.and_true] <;> (first | rfl | omega | exact decide_eq_decide.2 (by omega) | exact decide_eq_false (by omega) | exact decide_eq_true (by omega) | (symm; first | exact decide_eq_false (by omega) | exact decide_eq_true (by omega)) | (rw [Bool.eq_iff_iff]; simp only [boL, reduceCtorEq]; omega))))

end Go.Proofs.YtpfhnhhkfobjnaaGreat

namespace Go.Proofs.YtpfhnhhkfobjnaaGreat
open Go.Fw
attribute [local irreducible] Go.Fw.aops Go.Fw.arun

structure Pack where
  w : Int
  h : Int
  side : Int
  fillX : Bool
  fillY : Bool
  expand : Bool
  anchor : Int
  padX : Int
  padY : Int

@[go_sem] def encPack (p : Pack) : List D := [.int .i64 p.w, .int .i64 p.h, .int .i64 p.side, .bool p.fillX, .bool p.fillY, .bool p.expand, .int .i64 p.anchor, .int .i64 p.padX, .int .i64 p.padY]
@[go_sem] def vPack (p : Pack) : V := .agg ((encPack p).map .d)

def validPack (p : Pack) : Bool := decide (0 ≤ p.w ∧ p.w ≤ 30 ∧ 0 ≤ p.h ∧ p.h ≤ 30 ∧ 0 ≤ p.side ∧ p.side ≤ 3 ∧ 0 ≤ p.anchor ∧ p.anchor ≤ 8 ∧ 0 ≤ p.padX ∧ p.padX ≤ 10 ∧ 0 ≤ p.padY ∧ p.padY ≤ 10)

theorem validPack_iff {p : Pack} : validPack p = true ↔ (0 ≤ p.w ∧ p.w ≤ 30 ∧ 0 ≤ p.h ∧ p.h ≤ 30 ∧ 0 ≤ p.side ∧ p.side ≤ 3 ∧ 0 ≤ p.anchor ∧ p.anchor ≤ 8 ∧ 0 ≤ p.padX ∧ p.padX ≤ 10 ∧ 0 ≤ p.padY ∧ p.padY ≤ 10) := by
  simp [validPack]

/-- An item whose size may be greater. -/
def packB (p : Pack) : Bool := decide (0 ≤ p.w ∧ p.w ≤ 4076 ∧ 0 ≤ p.h ∧ p.h ≤ 4076 ∧ 0 ≤ p.side ∧ p.side ≤ 3 ∧ 0 ≤ p.anchor ∧ p.anchor ≤ 8 ∧ 0 ≤ p.padX ∧ p.padX ≤ 10 ∧ 0 ≤ p.padY ∧ p.padY ≤ 10)
theorem packB_iff {p : Pack} : packB p = true ↔ (0 ≤ p.w ∧ p.w ≤ 4076 ∧ 0 ≤ p.h ∧ p.h ≤ 4076 ∧ 0 ≤ p.side ∧ p.side ≤ 3 ∧ 0 ≤ p.anchor ∧ p.anchor ≤ 8 ∧ 0 ≤ p.padX ∧ p.padX ≤ 10 ∧ 0 ≤ p.padY ∧ p.padY ≤ 10) := by
  simp [packB]

theorem c_ValidPack (p : Pack) : ACon Tryz.prog 120 [vPack p] [] (Is (.d (.bool (validPack p)))) := by
  refine ACon.introW tok (nt := 31) Tryz.func120 rfl rfl rfl (by kernel_rfl) rfl ?_
  repeat' (first | ((with_reducible apply xsim); (first | ((with_reducible apply xo); exact rfl) | with_reducible apply xend | ((with_reducible apply xguardS); exact rfl; exact rfl) | ((with_reducible apply xbox); exact rfl; simp only [bkL, Nat.reduceAdd, Nat.reduceSub]) | ((with_reducible apply xcallIs); exact rfl; exact rfl; exact c_within _ _ _; exact rfl))) | ((with_reducible apply xaw); (first | ((with_reducible apply xstepS); refine AW.step tok rfl ?_) | with_reducible refine AW.ret ?_)) | (with_reducible intro hc; (try simp only [hcL, reduceCtorEq] at hc); (try (exfalso; omega))) | with_reducible exact trivial)
  all_goals (refine xfinIs (by first | exact .inl rfl | exact .inr rfl) rfl (by repeat' (first | exact trivial | exact rfl | refine And.intro ?_ ?_)) rfl ?_ rfl; first | (simp -implicitDefEqProofs only [go_sem, validPack] <;> (first | rfl | omega | exact decide_eq_decide.2 (by omega) | exact decide_eq_false (by omega) | exact decide_eq_true (by omega) | (symm; first | exact decide_eq_false (by omega) | exact decide_eq_true (by omega)) | (rw [Bool.eq_iff_iff]; simp only [boL, reduceCtorEq]; omega))))

def down (p : Pack) : Bool := decide (p.side = 0 ∨ p.side = 1)
def needW (p : Pack) : Int := p.w + 2 * p.padX
def needH (p : Pack) : Int := p.h + 2 * p.padY
def need (p : Pack) (d : Bool) : Int := if d then needH p else needW p

theorem c_down (p : Pack) : ACon Tryz.prog 118 [vPack p] [] (Is (.d (.bool (down p)))) := by
  refine ACon.introW tok (nt := 11) Tryz.func118 rfl rfl rfl (by kernel_rfl) rfl ?_
  repeat' (first | ((with_reducible apply xsim); (first | ((with_reducible apply xo); exact rfl) | with_reducible apply xend | ((with_reducible apply xguardS); exact rfl; exact rfl) | ((with_reducible apply xbox); exact rfl; simp only [bkL, Nat.reduceAdd, Nat.reduceSub]))) | ((with_reducible apply xaw); (first | ((with_reducible apply xstepS); refine AW.step tok rfl ?_) | with_reducible refine AW.ret ?_)) | (with_reducible intro hc; (try simp only [hcL, reduceCtorEq] at hc); (try (exfalso; omega))) | with_reducible (first | exact trivial | refine And.intro ?_ ?_ | exact rfl))
  all_goals (refine xfinIs (by first | exact .inl rfl | exact .inr rfl) rfl (by repeat' (first | exact trivial | exact rfl | refine And.intro ?_ ?_)) rfl ?_ rfl; first | (simp -implicitDefEqProofs only [go_sem, down] <;> (first | rfl | omega | exact decide_eq_decide.2 (by omega) | exact decide_eq_false (by omega) | exact decide_eq_true (by omega) | (symm; first | exact decide_eq_false (by omega) | exact decide_eq_true (by omega)) | (rw [Bool.eq_iff_iff]; simp only [boL, reduceCtorEq]; omega))))

theorem c_upright (n : Int) : ACon Tryz.prog 125 [.d (.int .i64 n)] [] (Is (.d (.bool (decide (n = 0 ∨ n = 1))))) := by
  refine ACon.introW tok (nt := 9) Tryz.func125 rfl rfl rfl (by kernel_rfl) rfl ?_
  repeat' (first | ((with_reducible apply xsim); (first | ((with_reducible apply xo); exact rfl) | with_reducible apply xend | ((with_reducible apply xguardS); exact rfl; exact rfl))) | ((with_reducible apply xaw); (first | ((with_reducible apply xstepS); refine AW.step tok rfl ?_) | with_reducible refine AW.ret ?_)) | (with_reducible intro hc; (try simp only [hcL, reduceCtorEq] at hc); (try (exfalso; omega))) | with_reducible (first | exact trivial | refine And.intro ?_ ?_ | exact rfl))
  all_goals (refine xfinIs (by first | exact .inl rfl | exact .inr rfl) rfl (by repeat' (first | exact trivial | exact rfl | refine And.intro ?_ ?_)) rfl ?_ rfl; first | (simp -implicitDefEqProofs only [go_sem] <;> (first | rfl | omega | exact decide_eq_decide.2 (by omega) | exact decide_eq_false (by omega) | exact decide_eq_true (by omega) | (symm; first | exact decide_eq_false (by omega) | exact decide_eq_true (by omega)) | (rw [Bool.eq_iff_iff]; simp only [boL, reduceCtorEq]; omega))))

theorem c_needs (p : Pack) (hp : packB p = true) : ACon Tryz.prog 117 [vPack p] [] (Is (.tup [.d (.int .i64 (needW p)), .d (.int .i64 (needH p))])) := by
  have hv := packB_iff.1 hp
  refine ACon.introW tok (nt := 16) Tryz.func117 rfl rfl rfl (by kernel_rfl) rfl ?_
  repeat' (first | ((with_reducible apply xsim); (first | ((with_reducible apply xo); exact rfl) | with_reducible apply xend | ((with_reducible apply xbox); exact rfl; simp only [bkL, Nat.reduceAdd, Nat.reduceSub]))) | ((with_reducible apply xaw); (first | ((with_reducible apply xstepS); refine AW.step tok rfl ?_) | with_reducible (first | refine AW.seq ?_ | refine AW.ret ?_) | ((with_reducible apply xdraw (id := 1)); refine AW.draw (id := 1) (.q 0 (.q 1 (.q 2 (.q 3 (.q 4 (.q 5 (.q 6 (.q 7 (.q 8 (.q 9 (.q 10 (.q 11 (.q 12 (.q 13 (.fin))))))))))))))) tok (by kernel_rfl) rfl (by kernel_rfl) ?_))) | ((with_reducible apply xarun); (first | ((with_reducible apply xrun_q); exact rfl; exact rfl; exact rfl) | with_reducible apply xrun_f)) | with_reducible refine xthen ?_ | with_reducible (first | exact trivial | refine And.intro ?_ ?_ | exact rfl) | (refine inR_i64.mpr ?_; first | omega | (simp only [List.length_map]; omega)))
  all_goals (refine xfinIs (by first | exact .inl rfl | exact .inr rfl) rfl (by repeat' (first | exact trivial | exact rfl | refine And.intro ?_ ?_)) rfl ?_ rfl; first | (simp -implicitDefEqProofs only [go_sem, needW, needH] <;> (first | rfl | omega | exact decide_eq_decide.2 (by omega) | exact decide_eq_false (by omega) | exact decide_eq_true (by omega) | (symm; first | exact decide_eq_false (by omega) | exact decide_eq_true (by omega)) | (rw [Bool.eq_iff_iff]; simp only [boL, reduceCtorEq]; omega))))

theorem c_outer (p : Pack) (hp : packB p = true) : ACon Tryz.prog 124 [vPack p] [] (Is (.tup [.d (.int .i64 (needW p)), .d (.int .i64 (needH p))])) := by
  have hv := packB_iff.1 hp
  refine ACon.introW tok (nt := 16) Tryz.func124 rfl rfl rfl (by kernel_rfl) rfl ?_
  repeat' (first | ((with_reducible apply xsim); (first | ((with_reducible apply xo); exact rfl) | with_reducible apply xend | ((with_reducible apply xbox); exact rfl; simp only [bkL, Nat.reduceAdd, Nat.reduceSub]))) | ((with_reducible apply xaw); (first | ((with_reducible apply xstepS); refine AW.step tok rfl ?_) | with_reducible (first | refine AW.seq ?_ | refine AW.ret ?_) | ((with_reducible apply xdraw (id := 1)); refine AW.draw (id := 1) (.q 0 (.q 1 (.q 2 (.q 3 (.q 4 (.q 5 (.q 6 (.q 7 (.q 8 (.q 9 (.q 10 (.q 11 (.q 12 (.q 13 (.fin))))))))))))))) tok (by kernel_rfl) rfl (by kernel_rfl) ?_))) | ((with_reducible apply xarun); (first | ((with_reducible apply xrun_q); exact rfl; exact rfl; exact rfl) | with_reducible apply xrun_f)) | with_reducible refine xthen ?_ | with_reducible (first | exact trivial | refine And.intro ?_ ?_ | exact rfl) | (refine inR_i64.mpr ?_; first | omega | (simp only [List.length_map]; omega)))
  all_goals (refine xfinIs (by first | exact .inl rfl | exact .inr rfl) rfl (by repeat' (first | exact trivial | exact rfl | refine And.intro ?_ ?_)) rfl ?_ rfl; first | (simp -implicitDefEqProofs only [go_sem, needW, needH] <;> (first | rfl | omega | exact decide_eq_decide.2 (by omega) | exact decide_eq_false (by omega) | exact decide_eq_true (by omega) | (symm; first | exact decide_eq_false (by omega) | exact decide_eq_true (by omega)) | (rw [Bool.eq_iff_iff]; simp only [boL, reduceCtorEq]; omega))))

theorem c_need (p : Pack) (d : Bool) (hp : packB p = true) : ACon Tryz.prog 137 [vPack p, .d (.bool d)] [] (Is (.d (.int .i64 (need p d)))) := by
  refine ACon.introW tok (nt := 15) Tryz.func137 rfl rfl rfl (by kernel_rfl) rfl ?_
  repeat' (first | ((with_reducible apply xsim); (first | ((with_reducible apply xo); exact rfl) | with_reducible apply xend | ((with_reducible apply xbox); exact rfl; simp only [bkL, Nat.reduceAdd, Nat.reduceSub]) | ((with_reducible apply xcallIs); exact rfl; exact rfl; exact c_needs p hp; exact rfl))) | ((with_reducible apply xaw); (first | ((with_reducible apply xstepS); refine AW.step tok rfl ?_) | with_reducible (first | refine AW.seq ?_ | refine AW.skip ?_ | refine AW.ret ?_) | ((with_reducible apply xcond); exact rfl))) | with_reducible (first | refine xthen ?_ | refine xthen_r ?_) | (with_reducible intro hc; (try simp only [hcL, reduceCtorEq] at hc); (try (exfalso; omega))) | with_reducible exact trivial | exact Eq.refl true)
  all_goals (refine xfinIs (by first | exact .inl rfl | exact .inr rfl) rfl (by repeat' (first | exact trivial | exact rfl | refine And.intro ?_ ?_)) rfl ?_ rfl; first | (simp -implicitDefEqProofs only [go_sem, need, *] <;> (first | rfl | omega | exact decide_eq_decide.2 (by omega) | exact decide_eq_false (by omega) | exact decide_eq_true (by omega) | (symm; first | exact decide_eq_false (by omega) | exact decide_eq_true (by omega)) | (rw [Bool.eq_iff_iff]; simp only [boL, reduceCtorEq]; omega))))

theorem all_at {xs : List Pack} (h : xs.all packB = true) {k : Nat} (hk : k < xs.length) : packB xs[k] = true := List.all_eq_true.1 h _ (List.getElem_mem hk)

theorem c_validSide (n : Int) : ACon Tryz.prog 143 [.d (.int .i64 n)] [] (Is (.d (.bool (decide (0 ≤ n ∧ n ≤ 3))))) := by
  refine ACon.introW tok (nt := 5) Tryz.func143 rfl rfl rfl (by kernel_rfl) rfl ?_
  repeat' (first | ((with_reducible apply xsim); (first | ((with_reducible apply xo); exact rfl) | with_reducible apply xend | ((with_reducible apply xcallIs); exact rfl; exact rfl; exact c_inRange _ _ _; exact rfl))) | ((with_reducible apply xaw); (first | ((with_reducible apply xstepS); refine AW.step tok rfl ?_) | with_reducible refine AW.ret ?_)) | with_reducible exact trivial)
  all_goals (refine xfinIs (by first | exact .inl rfl | exact .inr rfl) rfl (by repeat' (first | exact trivial | exact rfl | refine And.intro ?_ ?_)) rfl ?_ rfl; first | with_reducible exact rfl)

theorem c_validAnchor (n : Int) : ACon Tryz.prog 144 [.d (.int .i64 n)] [] (Is (.d (.bool (decide (0 ≤ n ∧ n ≤ 8))))) := by
  refine ACon.introW tok (nt := 5) Tryz.func144 rfl rfl rfl (by kernel_rfl) rfl ?_
  repeat' (first | ((with_reducible apply xsim); (first | ((with_reducible apply xo); exact rfl) | with_reducible apply xend | ((with_reducible apply xcallIs); exact rfl; exact rfl; exact c_inRange _ _ _; exact rfl))) | ((with_reducible apply xaw); (first | ((with_reducible apply xstepS); refine AW.step tok rfl ?_) | with_reducible refine AW.ret ?_)) | with_reducible exact trivial)
  all_goals (refine xfinIs (by first | exact .inl rfl | exact .inr rfl) rfl (by repeat' (first | exact trivial | exact rfl | refine And.intro ?_ ?_)) rfl ?_ rfl; first | with_reducible exact rfl)

theorem c_validPack (p : Pack) : ACon Tryz.prog 113 [vPack p] [] (Is (.d (.bool (validPack p)))) := by
  refine ACon.introW tok (nt := 31) Tryz.func113 rfl rfl rfl (by kernel_rfl) rfl ?_
  repeat' (first | ((with_reducible apply xsim); (first | ((with_reducible apply xo); exact rfl) | with_reducible apply xend | ((with_reducible apply xguardS); exact rfl; exact rfl) | ((with_reducible apply xbox); exact rfl; simp only [bkL, Nat.reduceAdd, Nat.reduceSub]) | ((with_reducible apply xcallIs); exact rfl; exact rfl; (first | exact c_inRange _ _ _ | exact c_validSide _ | exact c_validAnchor _); exact rfl))) | ((with_reducible apply xaw); (first | ((with_reducible apply xstepS); refine AW.step tok rfl ?_) | with_reducible refine AW.ret ?_)) | (with_reducible intro hc; (try simp only [hcL, reduceCtorEq] at hc); (try (exfalso; omega))) | with_reducible exact trivial)
  all_goals (refine xfinIs (by first | exact .inl rfl | exact .inr rfl) rfl (by repeat' (first | exact trivial | exact rfl | refine And.intro ?_ ?_)) rfl ?_ rfl; first | (simp -implicitDefEqProofs only [go_sem, validPack] <;> (first | rfl | omega | exact decide_eq_decide.2 (by omega) | exact decide_eq_false (by omega) | exact decide_eq_true (by omega) | (symm; first | exact decide_eq_false (by omega) | exact decide_eq_true (by omega)) | (rw [Bool.eq_iff_iff]; simp only [boL, reduceCtorEq]; omega))))

theorem c_half (n m : Int) (hn : -2^60 < n ∧ n < 2^60) (hm : 0 < m ∧ m < 2^40) : ACon Tryz.prog 155 [.d (.int .i64 n), .d (.int .i64 m)] [] (Is (.d (.int .i64 ((max n 0).tdiv m)))) := by
  by_cases h0 : n < 0
  · have e : max n 0 = 0 := by omega
    refine ACon.introW tok (nt := 10) Tryz.func155 rfl rfl rfl (by kernel_rfl) rfl ?_
    repeat' (first | ((with_reducible apply xsim); (first | ((with_reducible apply xo); exact rfl) | with_reducible apply xend)) | ((with_reducible apply xaw); (first | ((with_reducible apply xstepS); refine AW.step tok rfl ?_) | with_reducible (first | refine AW.seq ?_ | refine AW.ret ?_) | ((with_reducible apply xcond); exact rfl))) | with_reducible refine xthen_r ?_ | (with_reducible intro hc; (try simp only [hcL, reduceCtorEq] at hc); (try (exfalso; omega))) | with_reducible (first | exact trivial | refine And.intro ?_ ?_ | exact rfl))
    (refine xfinIs (by first | exact .inl rfl | exact .inr rfl) rfl (by repeat' (first | exact trivial | exact rfl | refine And.intro ?_ ?_)) rfl ?_ rfl; first | (simp -implicitDefEqProofs only [go_sem, e, Int.zero_tdiv] <;> (first | rfl | omega | exact decide_eq_decide.2 (by omega) | exact decide_eq_false (by omega) | exact decide_eq_true (by omega) | (symm; first | exact decide_eq_false (by omega) | exact decide_eq_true (by omega)) | (rw [Bool.eq_iff_iff]; simp only [boL, reduceCtorEq]; omega))))
  · have e : max n 0 = n := by omega
    have h1 : 0 ≤ n.tdiv m := Int.tdiv_nonneg (by omega) (by omega)
    have h2 : n.tdiv m ≤ n := Int.tdiv_le_self _ (by omega)
    refine ACon.introW tok (nt := 10) Tryz.func155 rfl rfl rfl (by kernel_rfl) rfl ?_
    repeat' (first | ((with_reducible apply xsim); (first | ((with_reducible apply xo); exact rfl) | with_reducible apply xend)) | ((with_reducible apply xaw); (first | ((with_reducible apply xstepS); refine AW.step tok rfl ?_) | with_reducible (first | refine AW.seq ?_ | refine AW.skip ?_ | refine AW.ret ?_) | ((with_reducible apply xcond); exact rfl))) | with_reducible refine xthen ?_ | (with_reducible intro hc; (try simp only [hcL, reduceCtorEq] at hc); (try (exfalso; omega))) | with_reducible (first | exact trivial | refine And.intro ?_ ?_ | exact rfl) | (refine inR_i64.mpr ?_; first | omega | (simp only [List.length_map]; omega)) | omega)
    (refine xfinIs (by first | exact .inl rfl | exact .inr rfl) rfl (by repeat' (first | exact trivial | exact rfl | refine And.intro ?_ ?_)) rfl ?_ rfl; first | (simp -implicitDefEqProofs only [go_sem, e] <;> (first | rfl | omega | exact decide_eq_decide.2 (by omega) | exact decide_eq_false (by omega) | exact decide_eq_true (by omega) | (symm; first | exact decide_eq_false (by omega) | exact decide_eq_true (by omega)) | (rw [Bool.eq_iff_iff]; simp only [boL, reduceCtorEq]; omega))))

/-- One item's step of the share: the least, the count, the room. -/
def shStep (d : Bool) (s : Int × Int × Int) (p : Pack) : Int × Int × Int :=
  if down p = d then (s.1, s.2.1 + (if p.expand then 1 else 0), s.2.2 - need p d) else (min s.1 ((max (s.2.2 - need p d) 0).tdiv s.2.1), s.2.1, s.2.2)
def shAll (d : Bool) (room : Int) (xs : List Pack) : Int × Int × Int := xs.foldl (shStep d) (room, 0, room)
def share (xs : List Pack) (room : Int) (d : Bool) : Int := min (shAll d room xs).1 ((max (shAll d room xs).2.2 0).tdiv (shAll d room xs).2.1)

theorem shAll_take {d : Bool} {room : Int} {xs : List Pack} {k : Nat} (h : k < xs.length) : shAll d room (xs.take (k + 1)) = shStep d (shAll d room (xs.take k)) xs[k] := by
  unfold shAll
  rw [List.take_succ_eq_append_getElem h, List.foldl_append]
  rfl

theorem need_le {p : Pack} {d : Bool} (h : packB p = true) : 0 ≤ need p d ∧ need p d ≤ 4096 := by
  have := packB_iff.1 h
  unfold need needW needH
  split <;> omega

/-- The count is at least 1 behind the first item; what is said of the numbers. -/
theorem shAll_inv {d : Bool} {room : Int} {xs : List Pack} (hr : 0 ≤ room ∧ room ≤ 4194304) (hv : xs.all packB = true) (h0 : ∀ p, xs.head? = some p → p.expand = true ∧ down p = d) : ∀ k, k ≤ xs.length →
    0 ≤ (shAll d room (xs.take k)).1 ∧ (shAll d room (xs.take k)).1 ≤ room ∧ 0 ≤ (shAll d room (xs.take k)).2.1 ∧ (shAll d room (xs.take k)).2.1 ≤ k ∧ (0 < k → 1 ≤ (shAll d room (xs.take k)).2.1) ∧
    (shAll d room (xs.take k)).2.2 ≤ room ∧ room - 4096 * k ≤ (shAll d room (xs.take k)).2.2 := by
  intro k
  induction k with
  | zero => intro _; simp [shAll]; omega
  | succ k ih =>
    intro hk
    have hlt : k < xs.length := by omega
    obtain ⟨h1, h2, h3, h4, h5, h6, h7⟩ := ih (by omega)
    rw [shAll_take hlt]
    have hn := need_le (d := d) (all_at hv hlt)
    generalize hs : shAll d room (xs.take k) = s at *
    unfold shStep
    by_cases hd : down xs[k] = d
    · rw [if_pos hd]
      by_cases he : xs[k].expand = true
      · rw [if_pos he]; simp only; omega
      · rw [if_neg he]; simp only
        have : 0 < k := by
          rcases Nat.eq_zero_or_pos k with e | e
          · subst e
            have := (h0 xs[0] (by rw [List.head?_eq_getElem?]; exact List.getElem?_eq_getElem hlt)).1
            exact absurd this he
          · exact e
        have := h5 this
        omega
    · rw [if_neg hd]
      have : 0 < k := by
        rcases Nat.eq_zero_or_pos k with e | e
        · subst e
          have := (h0 xs[0] (by rw [List.head?_eq_getElem?]; exact List.getElem?_eq_getElem hlt)).2
          exact absurd this hd
        · exact e
      have hpos := h5 this
      have hdiv : 0 ≤ (max (s.2.2 - need xs[k] d) 0).tdiv s.2.1 := Int.tdiv_nonneg (by omega) (by omega)
      simp only
      omega

theorem div_bd {a m : Int} (h : 0 ≤ a) : 0 ≤ a.tdiv m ∧ a.tdiv m ≤ a ∨ m < 0 := by
  rcases Int.lt_or_le m 0 with h' | h'
  · exact .inr h'
  · exact .inl ⟨Int.tdiv_nonneg h h', Int.tdiv_le_self _ h⟩

theorem c_expandShare (xs : List Pack) (room : Int) (d : Bool) (hr : 0 ≤ room ∧ room ≤ 4194304) (hl : xs.length ≤ 10) (hv : xs.all packB = true) (h0 : ∃ p, xs.head? = some p ∧ p.expand = true ∧ down p = d) :
    ACon Tryz.prog 138 [.d (.lst (xs.map encPack)), .d (.int .i64 room), .d (.bool d)] [] (Is (.d (.int .i64 (share xs room d)))) := by
  have h0' : ∀ p, xs.head? = some p → p.expand = true ∧ down p = d := fun p hp => by
    obtain ⟨q, h1, h2⟩ := h0
    rw [h1] at hp; cases hp; exact h2
  have hinv := fun k hk => shAll_inv hr hv h0' k hk
  refine ACon.introW tok (nt := 48) Tryz.func138 rfl rfl rfl (by kernel_rfl) rfl ?_
  repeat' (first | ((with_reducible apply xsim); (first | ((with_reducible apply xlenM); exact rfl; exact rfl) | ((with_reducible apply xo); exact rfl) | with_reducible apply xend)) | ((with_reducible apply xaw); (first | ((with_reducible apply xstepS); refine AW.step tok rfl ?_) | with_reducible (first | refine AW.seq ?_ | refine AW.block ?_))) | with_reducible exact trivial)
  refine AW.loop (S := fun k : Nat => ⟨[(1, .d (.int .i64 (shAll d room (xs.take k)).2.2)), (2, .d (.bool d)), (7, .d (.int .i64 (shAll d room (xs.take k)).1)), (8, .d (.int .i64 (shAll d room (xs.take k)).2.1)),
      (12, .d (.lst (xs.map encPack))), (13, .d (.int .i64 xs.length)), (14, .d (.int .i64 k))], [], 48, 0⟩)
    (Pre := fun k => k ≤ xs.length) (μ := fun k => xs.length - k) 0 (Nat.zero_le _) ?_ ?_
  · (refine xwk (π := []) (by decide) rfl ?_ ?_; (first | exact trivial); repeat' (first | exact renE_n | ((with_reducible apply renE_c); exact rfl; focus (first | (simp -implicitDefEqProofs only [go_sem, List.length_map, shAll, List.foldl_nil]; done)))))
  · intro k hk
    have i1 := hinv k hk
    by_cases hlt : k < xs.length
    · have hrow := at_map (f := encPack) hlt
      have hn := need_le (d := d) (all_at hv hlt)
      have hst := shAll_take (d := d) (room := room) hlt
      have i2 := hinv (k+1) hlt
      rw [hst] at i2
      have hdiv := div_bd (a := max ((shAll d room (xs.take k)).2.2 - need xs[k] d) 0) (m := (shAll d room (xs.take k)).2.1) (by omega)
      have hpos : ¬ down xs[k] = d ∨ ¬ xs[k].expand = true → 1 ≤ (shAll d room (xs.take k)).2.1 := by
        intro h
        rcases Nat.eq_zero_or_pos k with e | e
        · subst e
          have := h0' xs[0] (by rw [List.head?_eq_getElem?]; exact List.getElem?_eq_getElem hlt)
          exact absurd this (by rintro ⟨h1, h2⟩; rcases h with h | h; exact h h2; exact h h1)
        · exact i1.2.2.2.2.1 e
      by_cases hd : down xs[k] = d
      · have hd' : (down xs[k] == d) = true := by simp [hd]
        repeat' (first | ((with_reducible apply xsim); (first | ((with_reducible apply xo); exact rfl) | ((with_reducible apply xst); exact rfl) | with_reducible apply xend | ((with_reducible apply xalloc); exact rfl; simp only [bkL, Nat.reduceAdd, Nat.reduceSub]) | ((with_reducible apply xidxL); exact rfl; exact rfl; exact rfl; (first | exact hrow); omega; first | exact rfl | simp only [hsz]) | ((with_reducible apply xcallIs); exact rfl; exact rfl; (first | exact c_down xs[k] | exact c_need xs[k] d (all_at hv hlt)); exact rfl))) | ((with_reducible apply xaw); (first | ((with_reducible apply xstepS); refine AW.step tok rfl ?_) | ((with_reducible apply xstep); refine AW.region tok rfl ?_) | with_reducible (first | refine AW.seq ?_ | refine AW.block ?_ | refine AW.skip ?_ | refine AW.exit ?_) | ((with_reducible apply xcond); exact rfl))) | with_reducible (first | refine xthen ?_ | refine xthen_e ?_ | refine xblock_e ?_) | (with_reducible intro hc; (try simp only [hcL, reduceCtorEq, List.length_map, hd'] at hc); (try (exfalso; omega))) | with_reducible (first | exact trivial | refine And.intro ?_ ?_ | exact rfl) | exact Eq.refl true | (refine inR_i64.mpr ?_; first | omega | (simp only [List.length_map, List.length_map, hd']; omega)))
        · refine round_end (k+1) hlt (by omega) (by (refine xwk (π := []) (by decide) rfl ?_ ?_; (first | exact trivial); repeat' (first | exact renE_n | ((with_reducible apply renE_c); exact rfl; focus (first | (simp -implicitDefEqProofs only [go_sem, hst, shStep, if_pos hd, if_pos hc]; done))))))
        · refine round_end (k+1) hlt (by omega) (by (refine xwk (π := []) (by decide) rfl ?_ ?_; (first | exact trivial); repeat' (first | exact renE_n | ((with_reducible apply renE_c); exact rfl; focus (first | (simp -implicitDefEqProofs only [go_sem, hst, shStep, if_pos hd, hc, Int.add_zero]; done))))))
      · have hd' : (down xs[k] == d) = false := by simp [hd]
        have hp1 := hpos (.inl hd)
        repeat' (first | ((with_reducible apply xsim); (first | ((with_reducible apply xo); exact rfl) | ((with_reducible apply xst); exact rfl) | with_reducible apply xend | ((with_reducible apply xalloc); exact rfl; simp only [bkL, Nat.reduceAdd, Nat.reduceSub]) | ((with_reducible apply xidxL); exact rfl; exact rfl; exact rfl; (first | exact hrow); omega; first | exact rfl | simp only [hsz]) | ((with_reducible apply xcallIs); exact rfl; exact rfl; (first | exact c_down xs[k] | exact c_need xs[k] d (all_at hv hlt)); exact rfl))) | ((with_reducible apply xaw); (first | ((with_reducible apply xstepS); refine AW.step tok rfl ?_) | ((with_reducible apply xstep); refine AW.region tok rfl ?_) | with_reducible (first | refine AW.seq ?_ | refine AW.block ?_ | refine AW.skip ?_) | ((with_reducible apply xcond); exact rfl))) | with_reducible (first | refine xthen ?_ | refine xblock ?_) | (with_reducible intro hc; (try simp only [hcL, reduceCtorEq, List.length_map, hd'] at hc); (try (exfalso; omega))) | with_reducible (first | exact trivial | refine And.intro ?_ ?_ | exact rfl) | exact Eq.refl true | (refine inR_i64.mpr ?_; first | omega | (simp only [List.length_map, List.length_map, hd']; omega)) | omega)
        refine round_end (k+1) hlt (by omega) (by (refine xwk (π := []) (by decide) rfl ?_ ?_; (first | exact trivial); repeat' (first | exact renE_n | ((with_reducible apply renE_c); exact rfl; focus (first | (simp -implicitDefEqProofs only [go_sem, hst, shStep, if_neg hd]; done))))))
    · have hk' : xs.take k = xs := List.take_of_length_le (by omega)
      have hpos : 0 < k := by
        obtain ⟨p, h1, _⟩ := h0
        cases xs with
        | nil => cases h1
        | cons => simp at hlt; omega
      have hp1 := i1.2.2.2.2.1 hpos
      have hdiv := div_bd (a := max (shAll d room (xs.take k)).2.2 0) (m := (shAll d room (xs.take k)).2.1) (by omega)
      repeat' (first | ((with_reducible apply xsim); (first | ((with_reducible apply xo); exact rfl) | with_reducible apply xend)) | ((with_reducible apply xaw); (first | ((with_reducible apply xstepS); refine AW.step tok rfl ?_) | with_reducible (first | refine AW.seq ?_ | refine AW.ret ?_ | refine AW.exit ?_) | ((with_reducible apply xcond); exact rfl))) | with_reducible (first | refine xthen ?_ | refine xthen_e ?_ | refine xblock_e ?_ | refine xround_e ?_) | (with_reducible intro hc; (try simp only [hcL, reduceCtorEq, List.length_map] at hc); (try (exfalso; omega))) | with_reducible (first | exact trivial | refine And.intro ?_ ?_ | exact rfl) | (refine inR_i64.mpr ?_; first | omega | (simp only [List.length_map, List.length_map]; omega)) | omega)
      (refine xfinIs (by first | exact .inl rfl | exact .inr rfl) rfl (by repeat' (first | exact trivial | exact rfl | refine And.intro ?_ ?_)) rfl ?_ rfl; first | (simp -implicitDefEqProofs only [go_sem, share, hk'] <;> (first | rfl | omega | exact decide_eq_decide.2 (by omega) | exact decide_eq_false (by omega) | exact decide_eq_true (by omega) | (symm; first | exact decide_eq_false (by omega) | exact decide_eq_true (by omega)) | (rw [Bool.eq_iff_iff]; simp only [boL, reduceCtorEq]; omega))))
end Go.Proofs.YtpfhnhhkfobjnaaGreat

namespace Go.Proofs.YtpfhnhhkfobjnaaGreat
open Go.Fw

structure Place where
  x : Int
  y : Int
  relX : Int
  relY : Int
  w : Int
  h : Int
  relW : Int
  relH : Int
  anchor : Int
@[go_sem] def encPlace (p : Place) : List D := [.int .i64 p.x, .int .i64 p.y, .int .i64 p.relX, .int .i64 p.relY, .int .i64 p.w, .int .i64 p.h, .int .i64 p.relW, .int .i64 p.relH, .int .i64 p.anchor]
@[go_sem] def vPlace (p : Place) : V := .agg ((encPlace p).map .d)
structure Node where
  parent : Int
  w : Int
  h : Int
  keep : Bool
  kind : Int
  cols : List Line
  rows : List Line
  pack : Pack
  cell : Cell
  place : Place
@[go_sem] def encNode (n : Node) : List D := .int .i64 n.parent :: .int .i64 n.w :: .int .i64 n.h :: .bool n.keep :: .int .i64 n.kind :: .lst (n.cols.map encLine) :: .lst (n.rows.map encLine) :: [
  .int .i64 n.pack.w, .int .i64 n.pack.h, .int .i64 n.pack.side, .bool n.pack.fillX, .bool n.pack.fillY, .bool n.pack.expand, .int .i64 n.pack.anchor, .int .i64 n.pack.padX, .int .i64 n.pack.padY,
  .int .i64 n.cell.col, .int .i64 n.cell.row, .int .i64 n.cell.manyCols, .int .i64 n.cell.manyRows, .int .i64 n.cell.w, .int .i64 n.cell.h, .int .i64 n.cell.stick, .int .i64 n.cell.padX, .int .i64 n.cell.padY,
  .int .i64 n.place.x, .int .i64 n.place.y, .int .i64 n.place.relX, .int .i64 n.place.relY, .int .i64 n.place.w, .int .i64 n.place.h, .int .i64 n.place.relW, .int .i64 n.place.relH, .int .i64 n.place.anchor]
@[go_sem] def vNode (n : Node) : V := .agg ((encNode n).map .d)
@[go_sem] def encTree (t : List Node) : List D := [.lst (t.map encNode)]
@[go_sem] def vTree (t : List Node) : V := .agg ((encTree t).map .d)

def validPlace (p : Place) : Bool := decide (-300 ≤ p.x ∧ p.x ≤ 300 ∧ -300 ≤ p.y ∧ p.y ≤ 300 ∧ 0 ≤ p.relX ∧ p.relX ≤ 1000 ∧ 0 ≤ p.relY ∧ p.relY ≤ 1000 ∧ -300 ≤ p.w ∧ p.w ≤ 300 ∧ -300 ≤ p.h ∧ p.h ≤ 300 ∧ 0 ≤ p.relW ∧ p.relW ≤ 1000 ∧ 0 ≤ p.relH ∧ p.relH ≤ 1000 ∧ 0 ≤ p.anchor ∧ p.anchor ≤ 8)
/-- A node by itself. -/
def nodeOk (n : Node) : Bool := decide (0 ≤ n.w ∧ n.w ≤ 30 ∧ 0 ≤ n.h ∧ n.h ≤ 30 ∧ 0 ≤ n.kind ∧ n.kind ≤ 2) && validPack n.pack && decide (n.pack.w = 0 ∧ n.pack.h = 0) && validPlace n.place && decide (n.cell.w = 0 ∧ n.cell.h = 0) &&
  if n.kind = 1 then linesOk n.cols && linesOk n.rows else decide (n.cols.length = 0 ∧ n.rows.length = 0)
/-- A node and its parent. -/
def upOk (t : List Node) (i : Nat) (n : Node) : Bool :=
  if i = 0 then decide (n.parent = -1)
  else decide (0 ≤ n.parent ∧ n.parent ≤ (i : Int) - 1) && match t[n.parent.toNat]? with
    | some u => if u.kind = 1 then lies n.cell u.cols.length u.rows.length else true
    | none => true
def treeOk (t : List Node) : Bool := decide (1 ≤ t.length ∧ t.length ≤ 10) && (List.range t.length).all fun i => match t[i]? with
  | some n => nodeOk n && upOk t i n
  | none => true
end Go.Proofs.YtpfhnhhkfobjnaaGreat

namespace Go.Proofs.YtpfhnhhkfobjnaaGreat
open Go.Fw
attribute [local irreducible] Go.Fw.aops Go.Fw.arun

theorem gridNil {w : World} {ok : Nat → Prop} {ρ : List (Option Nat)} {x y : V} {v : Value} (h : VRep w ok ρ (.agg [x, y, .nils]) v) : VRep w ok ρ (.agg [x, y, .d (.lst [])]) v := by
  cases h with
  | agg hn h =>
    refine .agg hn fun i c hi => ?_
    match i with
    | 0 => exact h 0 c hi
    | 1 => exact h 1 c hi
    | 2 =>
      obtain rfl : V.d (.lst []) = c := by simpa using hi
      have := h 2 .nils rfl
      generalize Array.getD _ 2 undef = u at this ⊢
      cases this
      exact .d .nil
    | n + 3 => simp at hi
theorem gridNil1 {P : Program} {f : Nat} {a x y : V} {Q : V → List O → Prop} (h : ACon P f [a, .agg [x, y, .d (.lst [])]] [] Q) : ACon P f [a, .agg [x, y, .nils]] [] Q := by
  refine ⟨h.1, fun w ok ρ vs hI hs hv => h.2 w ok ρ vs hI hs fun i c hx => ?_⟩
  match i with
  | 0 => exact hv 0 c (by simpa using hx)
  | 1 =>
    obtain rfl : V.agg [x, y, .d (.lst [])] = c := by simpa using hx
    exact gridNil (hv 1 _ rfl)
  | n + 2 => simp at hx
theorem gridNil0 {P : Program} {f : Nat} {a x y : V} {Q : V → List O → Prop} (h : ACon P f [.agg [x, y, .d (.lst [])], a] [] Q) : ACon P f [.agg [x, y, .nils], a] [] Q := by
  refine ⟨h.1, fun w ok ρ vs hI hs hv => h.2 w ok ρ vs hI hs fun i c hx => ?_⟩
  match i with
  | 0 =>
    obtain rfl : V.agg [x, y, .d (.lst [])] = c := by simpa using hx
    exact gridNil (hv 0 _ rfl)
  | 1 => exact hv 1 c (by simpa using hx)
  | n + 2 => simp at hx

theorem c_liesN (c : Cell) (xs ys : List Line) (h1 : xs.length < 2^40) (h2 : ys.length < 2^40) : ACon Tryz.prog 87 [vCell c, .agg [.d (.lst (xs.map encLine)), .d (.lst (ys.map encLine)), .nils]] [] (Is (.d (.bool (lies c xs.length ys.length)))) :=
  gridNil1 (c_lies c ⟨xs, ys, []⟩ h1 h2)
theorem c_validCellN (c : Cell) (xs ys : List Line) (h1 : xs.length < 2^40) (h2 : ys.length < 2^40) : ACon Tryz.prog 116 [.agg [.d (.lst (xs.map encLine)), .d (.lst (ys.map encLine)), .nils], vCell c] [] (Is (.d (.bool (cellOk c xs.length ys.length)))) :=
  gridNil0 (c_validCell c ⟨xs, ys, []⟩ h1 h2)

theorem c_validPlace (p : Place) : ACon Tryz.prog 114 [vPlace p] [] (Is (.d (.bool (validPlace p)))) := by
  refine ACon.introW tok (nt := 46) Tryz.func114 rfl rfl rfl (by kernel_rfl) rfl ?_
  repeat' (first | ((with_reducible apply xsim); (first | ((with_reducible apply xo); exact rfl) | with_reducible apply xend | ((with_reducible apply xguardS); exact rfl; exact rfl) | ((with_reducible apply xbox); exact rfl; simp only [bkL, Nat.reduceAdd, Nat.reduceSub]) | ((with_reducible apply xcallIs); exact rfl; exact rfl; (first | exact c_inRange _ _ _ | exact c_validAnchor _); exact rfl))) | ((with_reducible apply xaw); (first | ((with_reducible apply xstepS); refine AW.step tok rfl ?_) | with_reducible refine AW.ret ?_)) | (with_reducible intro hc; (try simp only [hcL, reduceCtorEq] at hc); (try (exfalso; omega))) | with_reducible exact trivial)
  all_goals (refine xfinIs (by first | exact .inl rfl | exact .inr rfl) rfl (by repeat' (first | exact trivial | exact rfl | refine And.intro ?_ ?_)) rfl ?_ rfl; first | (simp -implicitDefEqProofs only [go_sem, validPlace] <;> (first | rfl | omega | exact decide_eq_decide.2 (by omega) | exact decide_eq_false (by omega) | exact decide_eq_true (by omega) | (symm; first | exact decide_eq_false (by omega) | exact decide_eq_true (by omega)) | (rw [Bool.eq_iff_iff]; simp only [boL, reduceCtorEq]; omega))))

set_option maxHeartbeats 4000000 in
theorem c_ValidPlace (p : Place) : ACon Tryz.prog 121 [vPlace p] [] (Is (.d (.bool (validPlace p)))) := by
  refine ACon.introW tok (nt := 46) Tryz.func121 rfl rfl rfl (by kernel_rfl) rfl ?_
  repeat' (first | ((with_reducible apply xsim); (first | ((with_reducible apply xo); exact rfl) | with_reducible apply xend | ((with_reducible apply xbox); exact rfl; simp only [bkL, Nat.reduceAdd, Nat.reduceSub]) | ((with_reducible apply xbuild); exact rfl; exact rfl; exact rfl; exact rfl; exact rfl; simp only [bkL, Nat.reduceAdd, Nat.reduceSub]))) | ((with_reducible apply xaw); (first | ((with_reducible apply xstepS); refine AW.step tok rfl ?_) | with_reducible (first | refine AW.seq ?_ | refine AW.block ?_))) | with_reducible exact trivial | exact Eq.refl true)
  refine AW.loop (S := fun k : Nat => ⟨[(1, .oref 0 0), (15, .msl 1 1 0 4), (16, .d (.int .i64 4)), (17, .d (.int .i64 k))], [.box ((encPlace p).map .d), .arr 1 [[.int .i64 p.x], [.int .i64 p.y], [.int .i64 p.w], [.int .i64 p.h]]], 46, .p 0⟩)
    (Pre := fun k => k ≤ 4 ∧ (1 ≤ k → -300 ≤ p.x ∧ p.x ≤ 300) ∧ (2 ≤ k → -300 ≤ p.y ∧ p.y ≤ 300) ∧ (3 ≤ k → -300 ≤ p.w ∧ p.w ≤ 300) ∧ (4 ≤ k → -300 ≤ p.h ∧ p.h ≤ 300)) (μ := fun k => 4 - k) 0 (by omega) ?_ ?_
  · (refine xwk (π := [0, 1]) (by decide) rfl ?_ ?_; (first | simp -implicitDefEqProofs only [go_sem]); repeat' (first | exact renE_n | ((with_reducible apply renE_c); exact rfl; focus (first | (simp -implicitDefEqProofs only [go_sem]; done)))))
  rintro k ⟨hk, a1, a2, a3, a4⟩
  obtain rfl | rfl | rfl | rfl | rfl : k = 0 ∨ k = 1 ∨ k = 2 ∨ k = 3 ∨ k = 4 := by omega
  · repeat' (first | ((with_reducible apply xsim); (first | ((with_reducible apply xo); exact rfl) | with_reducible apply xend | ((with_reducible apply xidxM); exact rfl; exact rfl; exact rfl; omega; omega; exact rfl) | ((with_reducible apply xldA); exact rfl; exact rfl; exact rfl; exact rfl; exact rfl) | ((with_reducible apply xcallIs); exact rfl; exact rfl; exact c_within _ _ _; exact rfl))) | ((with_reducible apply xaw); (first | ((with_reducible apply xstepS); refine AW.step tok rfl ?_) | ((with_reducible apply xstep); refine AW.region tok rfl ?_) | with_reducible (first | refine AW.seq ?_ | refine AW.block ?_ | refine AW.skip ?_ | refine AW.ret ?_) | ((with_reducible apply xcond); exact rfl))) | with_reducible (first | refine xthen ?_ | refine xthen_r ?_ | refine xblock ?_ | refine xblock_r ?_ | refine xround_r ?_) | (with_reducible intro hc; (try simp only [hcL, reduceCtorEq] at hc); (try (exfalso; omega))) | with_reducible (first | exact trivial | refine And.intro ?_ ?_ | exact rfl) | (refine inR_i64.mpr ?_; first | omega | (simp only [List.length_map]; omega)))
    · (refine xfinIs (by first | exact .inl rfl | exact .inr rfl) rfl (by repeat' (first | exact trivial | exact rfl | refine And.intro ?_ ?_)) rfl ?_ rfl; first | (simp -implicitDefEqProofs only [go_sem, validPlace] <;> (first | rfl | omega | exact decide_eq_decide.2 (by omega) | exact decide_eq_false (by omega) | exact decide_eq_true (by omega) | (symm; first | exact decide_eq_false (by omega) | exact decide_eq_true (by omega)) | (rw [Bool.eq_iff_iff]; simp only [boL, reduceCtorEq]; omega))))
    · exact round_end 1 (by omega) (by omega) (by (refine xwk (π := [0, 1]) (by decide) rfl ?_ ?_; (first | simp -implicitDefEqProofs only [go_sem]); repeat' (first | exact renE_n | ((with_reducible apply renE_c); exact rfl; focus (first | (simp -implicitDefEqProofs only [go_sem]; done) | (simp -implicitDefEqProofs only [go_sem]; omega))))))
  · repeat' (first | ((with_reducible apply xsim); (first | ((with_reducible apply xo); exact rfl) | with_reducible apply xend | ((with_reducible apply xidxM); exact rfl; exact rfl; exact rfl; omega; omega; exact rfl) | ((with_reducible apply xldA); exact rfl; exact rfl; exact rfl; exact rfl; exact rfl) | ((with_reducible apply xcallIs); exact rfl; exact rfl; exact c_within _ _ _; exact rfl))) | ((with_reducible apply xaw); (first | ((with_reducible apply xstepS); refine AW.step tok rfl ?_) | ((with_reducible apply xstep); refine AW.region tok rfl ?_) | with_reducible (first | refine AW.seq ?_ | refine AW.block ?_ | refine AW.skip ?_ | refine AW.ret ?_) | ((with_reducible apply xcond); exact rfl))) | with_reducible (first | refine xthen ?_ | refine xthen_r ?_ | refine xblock ?_ | refine xblock_r ?_ | refine xround_r ?_) | (with_reducible intro hc; (try simp only [hcL, reduceCtorEq] at hc); (try (exfalso; omega))) | with_reducible (first | exact trivial | refine And.intro ?_ ?_ | exact rfl) | (refine inR_i64.mpr ?_; first | omega | (simp only [List.length_map]; omega)))
    · (refine xfinIs (by first | exact .inl rfl | exact .inr rfl) rfl (by repeat' (first | exact trivial | exact rfl | refine And.intro ?_ ?_)) rfl ?_ rfl; first | (simp -implicitDefEqProofs only [go_sem, validPlace] <;> (first | rfl | omega | exact decide_eq_decide.2 (by omega) | exact decide_eq_false (by omega) | exact decide_eq_true (by omega) | (symm; first | exact decide_eq_false (by omega) | exact decide_eq_true (by omega)) | (rw [Bool.eq_iff_iff]; simp only [boL, reduceCtorEq]; omega))))
    · exact round_end 2 (by omega) (by omega) (by (refine xwk (π := [0, 1]) (by decide) rfl ?_ ?_; (first | simp -implicitDefEqProofs only [go_sem]); repeat' (first | exact renE_n | ((with_reducible apply renE_c); exact rfl; focus (first | (simp -implicitDefEqProofs only [go_sem]; done) | (simp -implicitDefEqProofs only [go_sem]; omega))))))
  · repeat' (first | ((with_reducible apply xsim); (first | ((with_reducible apply xo); exact rfl) | with_reducible apply xend | ((with_reducible apply xidxM); exact rfl; exact rfl; exact rfl; omega; omega; exact rfl) | ((with_reducible apply xldA); exact rfl; exact rfl; exact rfl; exact rfl; exact rfl) | ((with_reducible apply xcallIs); exact rfl; exact rfl; exact c_within _ _ _; exact rfl))) | ((with_reducible apply xaw); (first | ((with_reducible apply xstepS); refine AW.step tok rfl ?_) | ((with_reducible apply xstep); refine AW.region tok rfl ?_) | with_reducible (first | refine AW.seq ?_ | refine AW.block ?_ | refine AW.skip ?_ | refine AW.ret ?_) | ((with_reducible apply xcond); exact rfl))) | with_reducible (first | refine xthen ?_ | refine xthen_r ?_ | refine xblock ?_ | refine xblock_r ?_ | refine xround_r ?_) | (with_reducible intro hc; (try simp only [hcL, reduceCtorEq] at hc); (try (exfalso; omega))) | with_reducible (first | exact trivial | refine And.intro ?_ ?_ | exact rfl) | (refine inR_i64.mpr ?_; first | omega | (simp only [List.length_map]; omega)))
    · (refine xfinIs (by first | exact .inl rfl | exact .inr rfl) rfl (by repeat' (first | exact trivial | exact rfl | refine And.intro ?_ ?_)) rfl ?_ rfl; first | (simp -implicitDefEqProofs only [go_sem, validPlace] <;> (first | rfl | omega | exact decide_eq_decide.2 (by omega) | exact decide_eq_false (by omega) | exact decide_eq_true (by omega) | (symm; first | exact decide_eq_false (by omega) | exact decide_eq_true (by omega)) | (rw [Bool.eq_iff_iff]; simp only [boL, reduceCtorEq]; omega))))
    · exact round_end 3 (by omega) (by omega) (by (refine xwk (π := [0, 1]) (by decide) rfl ?_ ?_; (first | simp -implicitDefEqProofs only [go_sem]); repeat' (first | exact renE_n | ((with_reducible apply renE_c); exact rfl; focus (first | (simp -implicitDefEqProofs only [go_sem]; done) | (simp -implicitDefEqProofs only [go_sem]; omega))))))
  · repeat' (first | ((with_reducible apply xsim); (first | ((with_reducible apply xo); exact rfl) | with_reducible apply xend | ((with_reducible apply xidxM); exact rfl; exact rfl; exact rfl; omega; omega; exact rfl) | ((with_reducible apply xldA); exact rfl; exact rfl; exact rfl; exact rfl; exact rfl) | ((with_reducible apply xcallIs); exact rfl; exact rfl; exact c_within _ _ _; exact rfl))) | ((with_reducible apply xaw); (first | ((with_reducible apply xstepS); refine AW.step tok rfl ?_) | ((with_reducible apply xstep); refine AW.region tok rfl ?_) | with_reducible (first | refine AW.seq ?_ | refine AW.block ?_ | refine AW.skip ?_ | refine AW.ret ?_) | ((with_reducible apply xcond); exact rfl))) | with_reducible (first | refine xthen ?_ | refine xthen_r ?_ | refine xblock ?_ | refine xblock_r ?_ | refine xround_r ?_) | (with_reducible intro hc; (try simp only [hcL, reduceCtorEq] at hc); (try (exfalso; omega))) | with_reducible (first | exact trivial | refine And.intro ?_ ?_ | exact rfl) | (refine inR_i64.mpr ?_; first | omega | (simp only [List.length_map]; omega)))
    · (refine xfinIs (by first | exact .inl rfl | exact .inr rfl) rfl (by repeat' (first | exact trivial | exact rfl | refine And.intro ?_ ?_)) rfl ?_ rfl; first | (simp -implicitDefEqProofs only [go_sem, validPlace] <;> (first | rfl | omega | exact decide_eq_decide.2 (by omega) | exact decide_eq_false (by omega) | exact decide_eq_true (by omega) | (symm; first | exact decide_eq_false (by omega) | exact decide_eq_true (by omega)) | (rw [Bool.eq_iff_iff]; simp only [boL, reduceCtorEq]; omega))))
    · exact round_end 4 (by omega) (by omega) (by (refine xwk (π := [0, 1]) (by decide) rfl ?_ ?_; (first | simp -implicitDefEqProofs only [go_sem]); repeat' (first | exact renE_n | ((with_reducible apply renE_c); exact rfl; focus (first | (simp -implicitDefEqProofs only [go_sem]; done) | (simp -implicitDefEqProofs only [go_sem]; omega))))))
  have b1 := a1 (by omega); have b2 := a2 (by omega); have b3 := a3 (by omega); have b4 := a4 (by omega)
  repeat' (first | ((with_reducible apply xsim); (first | ((with_reducible apply xo); exact rfl) | with_reducible apply xend | ((with_reducible apply xbuild); exact rfl; exact rfl; exact rfl; exact rfl; exact rfl; simp only [bkL, Nat.reduceAdd, Nat.reduceSub]))) | ((with_reducible apply xaw); (first | ((with_reducible apply xstepS); refine AW.step tok rfl ?_) | with_reducible (first | refine AW.seq ?_ | refine AW.block ?_ | refine AW.exit ?_) | ((with_reducible apply xcond); exact rfl))) | with_reducible (first | refine xthen ?_ | refine xthen_e ?_ | refine xblock_e ?_ | refine xround_e ?_) | (with_reducible intro hc; (try simp only [hcL, reduceCtorEq] at hc); (try (exfalso; omega))) | with_reducible (first | exact trivial | refine And.intro ?_ ?_ | exact rfl) | exact Eq.refl true)
  refine AW.loop (S := fun k : Nat => ⟨[(1, .oref 0 0), (33, .msl 1 1 0 4), (34, .d (.int .i64 4)), (35, .d (.int .i64 k))], [.box ((encPlace p).map .d), .arr 1 [[.int .i64 p.relX], [.int .i64 p.relY], [.int .i64 p.relW], [.int .i64 p.relH]]], 46, .p 0⟩)
    (Pre := fun k => k ≤ 4 ∧ (1 ≤ k → 0 ≤ p.relX ∧ p.relX ≤ 1000) ∧ (2 ≤ k → 0 ≤ p.relY ∧ p.relY ≤ 1000) ∧ (3 ≤ k → 0 ≤ p.relW ∧ p.relW ≤ 1000) ∧ (4 ≤ k → 0 ≤ p.relH ∧ p.relH ≤ 1000)) (μ := fun k => 4 - k) 0 (by omega) ?_ ?_
  · (refine xwk (π := [0, 2]) (by decide) rfl ?_ ?_; (first | simp -implicitDefEqProofs only [go_sem]); repeat' (first | exact renE_n | ((with_reducible apply renE_c); exact rfl; focus (first | (simp -implicitDefEqProofs only [go_sem]; done)))))
  rintro k ⟨hk, c1, c2, c3, c4⟩
  obtain rfl | rfl | rfl | rfl | rfl : k = 0 ∨ k = 1 ∨ k = 2 ∨ k = 3 ∨ k = 4 := by omega
  · repeat' (first | ((with_reducible apply xsim); (first | ((with_reducible apply xo); exact rfl) | with_reducible apply xend | ((with_reducible apply xidxM); exact rfl; exact rfl; exact rfl; omega; omega; exact rfl) | ((with_reducible apply xldA); exact rfl; exact rfl; exact rfl; exact rfl; exact rfl) | ((with_reducible apply xcallIs); exact rfl; exact rfl; exact c_within _ _ _; exact rfl))) | ((with_reducible apply xaw); (first | ((with_reducible apply xstepS); refine AW.step tok rfl ?_) | ((with_reducible apply xstep); refine AW.region tok rfl ?_) | with_reducible (first | refine AW.seq ?_ | refine AW.block ?_ | refine AW.skip ?_ | refine AW.ret ?_) | ((with_reducible apply xcond); exact rfl))) | with_reducible (first | refine xthen ?_ | refine xthen_r ?_ | refine xblock ?_ | refine xblock_r ?_ | refine xround_r ?_) | (with_reducible intro hc; (try simp only [hcL, reduceCtorEq] at hc); (try (exfalso; omega))) | with_reducible (first | exact trivial | refine And.intro ?_ ?_ | exact rfl) | (refine inR_i64.mpr ?_; first | omega | (simp only [List.length_map]; omega)))
    · (refine xfinIs (by first | exact .inl rfl | exact .inr rfl) rfl (by repeat' (first | exact trivial | exact rfl | refine And.intro ?_ ?_)) rfl ?_ rfl; first | (simp -implicitDefEqProofs only [go_sem, validPlace] <;> (first | rfl | omega | exact decide_eq_decide.2 (by omega) | exact decide_eq_false (by omega) | exact decide_eq_true (by omega) | (symm; first | exact decide_eq_false (by omega) | exact decide_eq_true (by omega)) | (rw [Bool.eq_iff_iff]; simp only [boL, reduceCtorEq]; omega))))
    · exact round_end 1 (by omega) (by omega) (by (refine xwk (π := [0, 1]) (by decide) rfl ?_ ?_; (first | simp -implicitDefEqProofs only [go_sem]); repeat' (first | exact renE_n | ((with_reducible apply renE_c); exact rfl; focus (first | (simp -implicitDefEqProofs only [go_sem]; done) | (simp -implicitDefEqProofs only [go_sem]; omega))))))
  · repeat' (first | ((with_reducible apply xsim); (first | ((with_reducible apply xo); exact rfl) | with_reducible apply xend | ((with_reducible apply xidxM); exact rfl; exact rfl; exact rfl; omega; omega; exact rfl) | ((with_reducible apply xldA); exact rfl; exact rfl; exact rfl; exact rfl; exact rfl) | ((with_reducible apply xcallIs); exact rfl; exact rfl; exact c_within _ _ _; exact rfl))) | ((with_reducible apply xaw); (first | ((with_reducible apply xstepS); refine AW.step tok rfl ?_) | ((with_reducible apply xstep); refine AW.region tok rfl ?_) | with_reducible (first | refine AW.seq ?_ | refine AW.block ?_ | refine AW.skip ?_ | refine AW.ret ?_) | ((with_reducible apply xcond); exact rfl))) | with_reducible (first | refine xthen ?_ | refine xthen_r ?_ | refine xblock ?_ | refine xblock_r ?_ | refine xround_r ?_) | (with_reducible intro hc; (try simp only [hcL, reduceCtorEq] at hc); (try (exfalso; omega))) | with_reducible (first | exact trivial | refine And.intro ?_ ?_ | exact rfl) | (refine inR_i64.mpr ?_; first | omega | (simp only [List.length_map]; omega)))
    · (refine xfinIs (by first | exact .inl rfl | exact .inr rfl) rfl (by repeat' (first | exact trivial | exact rfl | refine And.intro ?_ ?_)) rfl ?_ rfl; first | (simp -implicitDefEqProofs only [go_sem, validPlace] <;> (first | rfl | omega | exact decide_eq_decide.2 (by omega) | exact decide_eq_false (by omega) | exact decide_eq_true (by omega) | (symm; first | exact decide_eq_false (by omega) | exact decide_eq_true (by omega)) | (rw [Bool.eq_iff_iff]; simp only [boL, reduceCtorEq]; omega))))
    · exact round_end 2 (by omega) (by omega) (by (refine xwk (π := [0, 1]) (by decide) rfl ?_ ?_; (first | simp -implicitDefEqProofs only [go_sem]); repeat' (first | exact renE_n | ((with_reducible apply renE_c); exact rfl; focus (first | (simp -implicitDefEqProofs only [go_sem]; done) | (simp -implicitDefEqProofs only [go_sem]; omega))))))
  · repeat' (first | ((with_reducible apply xsim); (first | ((with_reducible apply xo); exact rfl) | with_reducible apply xend | ((with_reducible apply xidxM); exact rfl; exact rfl; exact rfl; omega; omega; exact rfl) | ((with_reducible apply xldA); exact rfl; exact rfl; exact rfl; exact rfl; exact rfl) | ((with_reducible apply xcallIs); exact rfl; exact rfl; exact c_within _ _ _; exact rfl))) | ((with_reducible apply xaw); (first | ((with_reducible apply xstepS); refine AW.step tok rfl ?_) | ((with_reducible apply xstep); refine AW.region tok rfl ?_) | with_reducible (first | refine AW.seq ?_ | refine AW.block ?_ | refine AW.skip ?_ | refine AW.ret ?_) | ((with_reducible apply xcond); exact rfl))) | with_reducible (first | refine xthen ?_ | refine xthen_r ?_ | refine xblock ?_ | refine xblock_r ?_ | refine xround_r ?_) | (with_reducible intro hc; (try simp only [hcL, reduceCtorEq] at hc); (try (exfalso; omega))) | with_reducible (first | exact trivial | refine And.intro ?_ ?_ | exact rfl) | (refine inR_i64.mpr ?_; first | omega | (simp only [List.length_map]; omega)))
    · (refine xfinIs (by first | exact .inl rfl | exact .inr rfl) rfl (by repeat' (first | exact trivial | exact rfl | refine And.intro ?_ ?_)) rfl ?_ rfl; first | (simp -implicitDefEqProofs only [go_sem, validPlace] <;> (first | rfl | omega | exact decide_eq_decide.2 (by omega) | exact decide_eq_false (by omega) | exact decide_eq_true (by omega) | (symm; first | exact decide_eq_false (by omega) | exact decide_eq_true (by omega)) | (rw [Bool.eq_iff_iff]; simp only [boL, reduceCtorEq]; omega))))
    · exact round_end 3 (by omega) (by omega) (by (refine xwk (π := [0, 1]) (by decide) rfl ?_ ?_; (first | simp -implicitDefEqProofs only [go_sem]); repeat' (first | exact renE_n | ((with_reducible apply renE_c); exact rfl; focus (first | (simp -implicitDefEqProofs only [go_sem]; done) | (simp -implicitDefEqProofs only [go_sem]; omega))))))
  · repeat' (first | ((with_reducible apply xsim); (first | ((with_reducible apply xo); exact rfl) | with_reducible apply xend | ((with_reducible apply xidxM); exact rfl; exact rfl; exact rfl; omega; omega; exact rfl) | ((with_reducible apply xldA); exact rfl; exact rfl; exact rfl; exact rfl; exact rfl) | ((with_reducible apply xcallIs); exact rfl; exact rfl; exact c_within _ _ _; exact rfl))) | ((with_reducible apply xaw); (first | ((with_reducible apply xstepS); refine AW.step tok rfl ?_) | ((with_reducible apply xstep); refine AW.region tok rfl ?_) | with_reducible (first | refine AW.seq ?_ | refine AW.block ?_ | refine AW.skip ?_ | refine AW.ret ?_) | ((with_reducible apply xcond); exact rfl))) | with_reducible (first | refine xthen ?_ | refine xthen_r ?_ | refine xblock ?_ | refine xblock_r ?_ | refine xround_r ?_) | (with_reducible intro hc; (try simp only [hcL, reduceCtorEq] at hc); (try (exfalso; omega))) | with_reducible (first | exact trivial | refine And.intro ?_ ?_ | exact rfl) | (refine inR_i64.mpr ?_; first | omega | (simp only [List.length_map]; omega)))
    · (refine xfinIs (by first | exact .inl rfl | exact .inr rfl) rfl (by repeat' (first | exact trivial | exact rfl | refine And.intro ?_ ?_)) rfl ?_ rfl; first | (simp -implicitDefEqProofs only [go_sem, validPlace] <;> (first | rfl | omega | exact decide_eq_decide.2 (by omega) | exact decide_eq_false (by omega) | exact decide_eq_true (by omega) | (symm; first | exact decide_eq_false (by omega) | exact decide_eq_true (by omega)) | (rw [Bool.eq_iff_iff]; simp only [boL, reduceCtorEq]; omega))))
    · exact round_end 4 (by omega) (by omega) (by (refine xwk (π := [0, 1]) (by decide) rfl ?_ ?_; (first | simp -implicitDefEqProofs only [go_sem]); repeat' (first | exact renE_n | ((with_reducible apply renE_c); exact rfl; focus (first | (simp -implicitDefEqProofs only [go_sem]; done) | (simp -implicitDefEqProofs only [go_sem]; omega))))))
  have d1 := c1 (by omega); have d2 := c2 (by omega); have d3 := c3 (by omega); have d4 := c4 (by omega)
  repeat' (first | ((with_reducible apply xsim); (first | ((with_reducible apply xo); exact rfl) | with_reducible apply xend | ((with_reducible apply xcallIs); exact rfl; exact rfl; exact c_within _ _ _; exact rfl))) | ((with_reducible apply xaw); (first | ((with_reducible apply xstepS); refine AW.step tok rfl ?_) | with_reducible (first | refine AW.seq ?_ | refine AW.ret ?_ | refine AW.exit ?_) | ((with_reducible apply xcond); exact rfl))) | with_reducible (first | refine xthen ?_ | refine xthen_e ?_ | refine xblock_e ?_ | refine xround_e ?_) | (with_reducible intro hc; (try simp only [hcL, reduceCtorEq] at hc); (try (exfalso; omega))) | with_reducible (first | exact trivial | refine And.intro ?_ ?_ | exact rfl))
  (refine xfinIs (by first | exact .inl rfl | exact .inr rfl) rfl (by repeat' (first | exact trivial | exact rfl | refine And.intro ?_ ?_)) rfl ?_ rfl; first | (simp -implicitDefEqProofs only [go_sem, validPlace] <;> (first | rfl | omega | exact decide_eq_decide.2 (by omega) | exact decide_eq_false (by omega) | exact decide_eq_true (by omega) | (symm; first | exact decide_eq_false (by omega) | exact decide_eq_true (by omega)) | (rw [Bool.eq_iff_iff]; simp only [boL, reduceCtorEq]; omega))))

set_option maxHeartbeats 4000000 in
theorem c_nodeOk (n : Node) (h1 : n.cols.length < 2^40) (h2 : n.rows.length < 2^40) : ACon Tryz.prog 86 [vNode n] [] (Is (.d (.bool (nodeOk n)))) := by
  refine ACon.introW tok (nt := 74) Tryz.func86 rfl rfl rfl (by kernel_rfl) rfl ?_
  repeat' (first | ((with_reducible apply xsim); (first | ((with_reducible apply xlenM); exact rfl; exact rfl) | ((with_reducible apply xo); exact rfl) | with_reducible apply xend | ((with_reducible apply xguardS); exact rfl; exact rfl) | ((with_reducible apply xbox); exact rfl; simp only [bkL, Nat.reduceAdd, Nat.reduceSub]) | ((with_reducible apply xcallIs); exact rfl; exact rfl; (first | exact c_within _ _ _ | exact c_ValidPack n.pack | exact c_ValidPlace n.place | exact c_linesOk n.cols (by omega) | exact c_linesOk n.rows (by omega)); exact rfl))) | ((with_reducible apply xaw); (first | ((with_reducible apply xstepS); refine AW.step tok rfl ?_) | with_reducible (first | refine AW.seq ?_ | refine AW.skip ?_ | refine AW.ret ?_) | ((with_reducible apply xcond); exact rfl))) | with_reducible (first | refine xthen ?_ | refine xthen_r ?_) | (with_reducible intro hc; (try simp only [hcL, reduceCtorEq, List.length_map] at hc); (try (exfalso; omega))) | with_reducible (first | exact trivial | refine And.intro ?_ ?_ | exact rfl) | exact Eq.refl true)
  all_goals (refine xfinIs (by first | exact .inl rfl | exact .inr rfl) rfl (by repeat' (first | exact trivial | exact rfl | refine And.intro ?_ ?_)) rfl ?_ rfl; simp only [V.d.injEq, D.bool.injEq, D.int.injEq]; first | rfl | (simp_all [nodeOk]; done) | (simp_all [nodeOk]; omega))
end Go.Proofs.YtpfhnhhkfobjnaaGreat

namespace Go.Proofs.YtpfhnhhkfobjnaaGreat
open Go.Fw
attribute [local irreducible] Go.Fw.aops Go.Fw.arun

theorem node_at {xs : List Node} {i : Int} (h : 0 ≤ i ∧ i < xs.length) : (xs.map encNode)[idxAdd 0 i.toNat]? = some (encNode (xs[i.toNat]'(by omega))) := at_map (f := encNode) (k := i.toNat) _

theorem treeOk_iff {t : List Node} : treeOk t = true ↔ (1 ≤ t.length ∧ t.length ≤ 10) ∧ ∀ i (h : i < t.length), nodeOk t[i] = true ∧ upOk t i t[i] = true := by
  simp only [treeOk, Bool.and_eq_true, decide_eq_true_eq, List.all_eq_true, List.mem_range]
  refine and_congr_right fun _ => ⟨fun h i hi => ?_, fun h i hi => ?_⟩
  · have := h i hi
    rw [List.getElem?_eq_getElem hi] at this
    simpa using this
  · rw [List.getElem?_eq_getElem hi]
    simpa using h i hi
theorem treeOk_ff {t : List Node} {i : Nat} (hi : i < t.length) (h : (nodeOk t[i] && upOk t i t[i]) = false) : treeOk t = false := by
  refine Bool.eq_false_iff.2 fun hc => ?_
  have := (treeOk_iff.1 hc).2 i hi
  rw [this.1, this.2] at h
  cases h
theorem treeOk_tt {t : List Node} (h1 : 1 ≤ t.length ∧ t.length ≤ 10) (h : ∀ i (h : i < t.length), (nodeOk t[i] && upOk t i t[i]) = true) : treeOk t = true :=
  treeOk_iff.2 ⟨h1, fun i hi => by simpa using h i hi⟩
theorem treeOk_len {t : List Node} (h1 : ¬ (1 ≤ t.length ∧ t.length ≤ 10)) : treeOk t = false := Bool.eq_false_iff.2 fun hc => h1 (treeOk_iff.1 hc).1
theorem upOk_0 {t : List Node} {n : Node} : upOk t 0 n = decide (n.parent = -1) := rfl
theorem upOk_out {t : List Node} {k : Nat} {n : Node} (hk : 0 < k) (h : ¬ (0 ≤ n.parent ∧ n.parent ≤ (k : Int) - 1)) : upOk t k n = false := by
  unfold upOk
  rw [if_neg (by omega), decide_eq_false h, Bool.false_and]
theorem upOk_in {t : List Node} {k : Nat} {n : Node} (hk : 0 < k) (hl : k < t.length) (h : 0 ≤ n.parent ∧ n.parent ≤ (k : Int) - 1) :
    upOk t k n = if (t[n.parent.toNat]'(by omega)).kind = 1 then lies n.cell (t[n.parent.toNat]'(by omega)).cols.length (t[n.parent.toNat]'(by omega)).rows.length else true := by
  unfold upOk
  rw [if_neg (by omega), decide_eq_true h, Bool.true_and, List.getElem?_eq_getElem (by omega)]
theorem ff_l {a b : Bool} (h : a = false) : (a && b) = false := by rw [h]; rfl
theorem ff_r {a b : Bool} (h : b = false) : (a && b) = false := by rw [h]; cases a <;> rfl
theorem tt_b {a b : Bool} (h : a = true) (h' : b = true) : (a && b) = true := by rw [h, h']; rfl
/-- The lengths are no numbers too great. -/
def TreeL (t : List Node) : Prop := t.length < 2^40 ∧ ∀ i (h : i < t.length), t[i].cols.length < 2^40 ∧ t[i].rows.length < 2^40

set_option maxHeartbeats 4000000 in
set_option maxRecDepth 8000 in
theorem c_ValidTree (t : List Node) (hL : TreeL t) : ACon Tryz.prog 65 [vTree t] [] (Is (.d (.bool (treeOk t)))) := by
  obtain ⟨hL1, hL⟩ := hL
  refine ACon.introW tok (nt := 66) Tryz.func65 rfl rfl rfl (by kernel_rfl) rfl ?_
  repeat' (first | ((with_reducible apply xsim); (first | ((with_reducible apply xlenM); exact rfl; exact rfl) | ((with_reducible apply xo); exact rfl) | with_reducible apply xend | ((with_reducible apply xbox); exact rfl; simp only [bkL, Nat.reduceAdd, Nat.reduceSub]) | ((with_reducible apply xcallIs); exact rfl; exact rfl; exact c_within _ _ _; exact rfl))) | ((with_reducible apply xaw); (first | ((with_reducible apply xstepS); refine AW.step tok rfl ?_) | with_reducible (first | refine AW.seq ?_ | refine AW.block ?_ | refine AW.skip ?_ | refine AW.ret ?_) | ((with_reducible apply xcond); exact rfl))) | with_reducible (first | refine xthen ?_ | refine xthen_r ?_) | (with_reducible intro hc; (try simp only [hcL, reduceCtorEq, List.length_map] at hc); (try (exfalso; omega))) | with_reducible exact trivial)
  · (refine xfinIs (by first | exact .inl rfl | exact .inr rfl) rfl (by repeat' (first | exact trivial | exact rfl | refine And.intro ?_ ?_)) rfl ?_ rfl; first | (simp -implicitDefEqProofs only [go_sem, treeOk_len (show ¬ (1 ≤ t.length ∧ t.length ≤ 10) by omega)] <;> (first | rfl | omega | exact decide_eq_decide.2 (by omega) | exact decide_eq_false (by omega) | exact decide_eq_true (by omega) | (symm; first | exact decide_eq_false (by omega) | exact decide_eq_true (by omega)) | (rw [Bool.eq_iff_iff]; simp only [boL, reduceCtorEq]; omega))))
  have hlen' : 1 ≤ t.length ∧ t.length ≤ 10 := by omega
  refine AW.loop (S := fun k : Nat => ⟨[(1, .oref 0 0), (12, .d (.lst (t.map encNode))), (13, .d (.int .i64 t.length)), (14, .d (.int .i64 k))], [.box [.d (.lst (t.map encNode))]], 66, .p 0⟩)
    (Pre := fun k => k ≤ t.length ∧ ∀ j (h : j < t.length), j < k → (nodeOk t[j] && upOk t j t[j]) = true) (μ := fun k => t.length - k) 0 ⟨Nat.zero_le _, fun j _ h => absurd h (Nat.not_lt_zero _)⟩ ?_ ?_
  · (refine xwk (π := [0]) (by decide) rfl ?_ ?_; (first | simp -implicitDefEqProofs only [go_sem]); repeat' (first | exact renE_n | ((with_reducible apply renE_c); exact rfl; focus (first | (simp -implicitDefEqProofs only [go_sem]; done)))))
  rintro k ⟨hk, hp⟩
  have next : ∀ (hlt : k < t.length), (nodeOk t[k] && upOk t k t[k]) = true → ∀ j (h : j < t.length), j < k + 1 → (nodeOk t[j] && upOk t j t[j]) = true := by
    intro hlt h j hj h'
    by_cases e : j = k
    · subst e; exact h
    · exact hp j hj (by omega)
  by_cases hlt : k < t.length
  · have hrow := at_map (f := encNode) hlt
    have cn := c_nodeOk t[k] (hL k hlt).1 (hL k hlt).2
    by_cases h0 : k = 0
    · subst h0
      by_cases hpm : t[0].parent = -1
      · repeat' (first | ((with_reducible apply xsim); (first | ((with_reducible apply xo); exact rfl) | ((with_reducible apply xst); exact rfl) | with_reducible apply xend | ((with_reducible apply xguardS); exact rfl; exact rfl) | ((with_reducible apply xalloc); exact rfl; simp only [bkL, Nat.reduceAdd, Nat.reduceSub]) | ((with_reducible apply xidxL); exact rfl; exact rfl; exact rfl; (first | exact hrow); omega; first | exact rfl | simp only [hsz]) | ((with_reducible apply xcallIs); exact rfl; exact rfl; (first | exact c_within _ _ _ | exact cn); exact rfl))) | ((with_reducible apply xaw); (first | ((with_reducible apply xstepS); refine AW.step tok rfl ?_) | ((with_reducible apply xstep); refine AW.region tok rfl ?_) | with_reducible (first | refine AW.seq ?_ | refine AW.block ?_ | refine AW.skip ?_ | refine AW.ret ?_) | ((with_reducible apply xcond); exact rfl))) | with_reducible (first | refine xthen ?_ | refine xthen_r ?_ | refine xblock ?_ | refine xblock_r ?_ | refine xround_r ?_) | (with_reducible intro hc; (try simp only [hcL, reduceCtorEq, List.length_map] at hc); (try (exfalso; omega))) | with_reducible (first | exact trivial | refine And.intro ?_ ?_ | exact rfl) | exact Eq.refl true | (refine inR_i64.mpr ?_; first | omega | (simp only [List.length_map, List.length_map]; omega)))
        · (refine xfinIs (by first | exact .inl rfl | exact .inr rfl) rfl (by repeat' (first | exact trivial | exact rfl | refine And.intro ?_ ?_)) rfl ?_ rfl; first | (simp -implicitDefEqProofs only [go_sem, treeOk_ff hlt (ff_l hc)] <;> (first | rfl | omega | exact decide_eq_decide.2 (by omega) | exact decide_eq_false (by omega) | exact decide_eq_true (by omega) | (symm; first | exact decide_eq_false (by omega) | exact decide_eq_true (by omega)) | (rw [Bool.eq_iff_iff]; simp only [boL, reduceCtorEq]; omega))))
        · rename_i hno _ _ _
          exact round_end 1 ⟨by omega, next hlt (tt_b (by first | exact hno | assumption) (by rw [upOk_0]; exact decide_eq_true hpm))⟩ (by omega) (by (refine xwk (π := [0]) (by decide) rfl ?_ ?_; (first | simp -implicitDefEqProofs only [go_sem]); repeat' (first | exact renE_n | ((with_reducible apply renE_c); exact rfl; focus (first | (simp -implicitDefEqProofs only [go_sem]; done) | (simp -implicitDefEqProofs only [go_sem]; omega))))))
      · repeat' (first | ((with_reducible apply xsim); (first | ((with_reducible apply xo); exact rfl) | ((with_reducible apply xst); exact rfl) | with_reducible apply xend | ((with_reducible apply xguardTS); exact rfl; exact rfl) | ((with_reducible apply xguardS); exact rfl; exact rfl) | ((with_reducible apply xalloc); exact rfl; simp only [bkL, Nat.reduceAdd, Nat.reduceSub]) | ((with_reducible apply xidxL); exact rfl; exact rfl; exact rfl; (first | exact hrow); omega; first | exact rfl | simp only [hsz]))) | ((with_reducible apply xaw); (first | ((with_reducible apply xstepS); refine AW.step tok rfl ?_) | with_reducible (first | refine AW.seq ?_ | refine AW.block ?_ | refine AW.skip ?_ | refine AW.ret ?_) | ((with_reducible apply xcond); exact rfl))) | with_reducible (first | refine xthen ?_ | refine xthen_r ?_ | refine xblock_r ?_ | refine xround_r ?_) | (with_reducible intro hc; (try simp only [hcL, reduceCtorEq, List.length_map] at hc); (try (exfalso; omega))) | with_reducible (first | exact trivial | refine And.intro ?_ ?_ | exact rfl) | exact Eq.refl true)
        (refine xfinIs (by first | exact .inl rfl | exact .inr rfl) rfl (by repeat' (first | exact trivial | exact rfl | refine And.intro ?_ ?_)) rfl ?_ rfl; first | (simp -implicitDefEqProofs only [go_sem, treeOk_ff hlt (ff_r (by rw [upOk_0]; exact decide_eq_false hpm))] <;> (first | rfl | omega | exact decide_eq_decide.2 (by omega) | exact decide_eq_false (by omega) | exact decide_eq_true (by omega) | (symm; first | exact decide_eq_false (by omega) | exact decide_eq_true (by omega)) | (rw [Bool.eq_iff_iff]; simp only [boL, reduceCtorEq]; omega))))
    by_cases hr : 0 ≤ t[k].parent ∧ t[k].parent ≤ (k : Int) - 1
    · have hu := upOk_in (by omega) hlt hr
      by_cases hkd : (t[t[k].parent.toNat]'(by omega)).kind = 1
      · rw [if_pos hkd] at hu
        repeat' (first | ((with_reducible apply xsim); (first | ((with_reducible apply xo); exact rfl) | ((with_reducible apply xst); exact rfl) | with_reducible apply xend | ((with_reducible apply xguardS); exact rfl; exact rfl) | ((with_reducible apply xalloc); exact rfl; simp only [bkL, Nat.reduceAdd, Nat.reduceSub]) | ((with_reducible apply xidxL); exact rfl; exact rfl; exact rfl; (first | exact hrow | exact (node_at (by omega))); omega; first | exact rfl | simp only [hsz]) | ((with_reducible apply xcallIs); exact rfl; exact rfl; (first | exact c_within _ _ _ | exact cn | exact c_liesN _ _ _ (hL _ _).1 (hL _ _).2); exact rfl))) | ((with_reducible apply xaw); (first | ((with_reducible apply xstepS); refine AW.step tok rfl ?_) | ((with_reducible apply xstep); refine AW.region tok rfl ?_) | with_reducible (first | refine AW.seq ?_ | refine AW.block ?_ | refine AW.skip ?_ | refine AW.ret ?_) | ((with_reducible apply xcond); exact rfl))) | with_reducible (first | refine xthen ?_ | refine xthen_r ?_ | refine xblock ?_ | refine xblock_r ?_ | refine xround_r ?_) | (with_reducible intro hc; (try simp only [hcL, reduceCtorEq, List.length_map] at hc); (try (exfalso; omega))) | with_reducible (first | exact trivial | refine And.intro ?_ ?_ | exact rfl) | exact Eq.refl true | (refine inR_i64.mpr ?_; first | omega | (simp only [List.length_map, List.length_map]; omega)))
        · (refine xfinIs (by first | exact .inl rfl | exact .inr rfl) rfl (by repeat' (first | exact trivial | exact rfl | refine And.intro ?_ ?_)) rfl ?_ rfl; first | (simp -implicitDefEqProofs only [go_sem, treeOk_ff hlt (ff_l hc)] <;> (first | rfl | omega | exact decide_eq_decide.2 (by omega) | exact decide_eq_false (by omega) | exact decide_eq_true (by omega) | (symm; first | exact decide_eq_false (by omega) | exact decide_eq_true (by omega)) | (rw [Bool.eq_iff_iff]; simp only [boL, reduceCtorEq]; omega))))
        · (refine xfinIs (by first | exact .inl rfl | exact .inr rfl) rfl (by repeat' (first | exact trivial | exact rfl | refine And.intro ?_ ?_)) rfl ?_ rfl; first | (simp -implicitDefEqProofs only [go_sem, treeOk_ff hlt (ff_r (hu.trans hc))] <;> (first | rfl | omega | exact decide_eq_decide.2 (by omega) | exact decide_eq_false (by omega) | exact decide_eq_true (by omega) | (symm; first | exact decide_eq_false (by omega) | exact decide_eq_true (by omega)) | (rw [Bool.eq_iff_iff]; simp only [boL, reduceCtorEq]; omega))))
        · exact round_end (k + 1) ⟨by omega, next hlt (tt_b (by assumption) (hu.trans hc))⟩ (by omega) (by (refine xwk (π := [0]) (by decide) rfl ?_ ?_; (first | simp -implicitDefEqProofs only [go_sem]); repeat' (first | exact renE_n | ((with_reducible apply renE_c); exact rfl; focus (first | (simp -implicitDefEqProofs only [go_sem]; done))))))
      · rw [if_neg hkd] at hu
        repeat' (first | ((with_reducible apply xsim); (first | ((with_reducible apply xo); exact rfl) | ((with_reducible apply xst); exact rfl) | with_reducible apply xend | ((with_reducible apply xguardS); exact rfl; exact rfl) | ((with_reducible apply xalloc); exact rfl; simp only [bkL, Nat.reduceAdd, Nat.reduceSub]) | ((with_reducible apply xidxL); exact rfl; exact rfl; exact rfl; (first | exact hrow | exact (node_at (by omega))); omega; first | exact rfl | simp only [hsz]) | ((with_reducible apply xcallIs); exact rfl; exact rfl; (first | exact c_within _ _ _ | exact cn | exact c_liesN _ _ _ (hL _ _).1 (hL _ _).2); exact rfl))) | ((with_reducible apply xaw); (first | ((with_reducible apply xstepS); refine AW.step tok rfl ?_) | ((with_reducible apply xstep); refine AW.region tok rfl ?_) | with_reducible (first | refine AW.seq ?_ | refine AW.block ?_ | refine AW.skip ?_ | refine AW.ret ?_) | ((with_reducible apply xcond); exact rfl))) | with_reducible (first | refine xthen ?_ | refine xthen_r ?_ | refine xblock ?_ | refine xblock_r ?_ | refine xround_r ?_) | (with_reducible intro hc; (try simp only [hcL, reduceCtorEq, List.length_map] at hc); (try (exfalso; omega))) | with_reducible (first | exact trivial | refine And.intro ?_ ?_ | exact rfl) | exact Eq.refl true | (refine inR_i64.mpr ?_; first | omega | (simp only [List.length_map, List.length_map]; omega)))
        · (refine xfinIs (by first | exact .inl rfl | exact .inr rfl) rfl (by repeat' (first | exact trivial | exact rfl | refine And.intro ?_ ?_)) rfl ?_ rfl; first | (simp -implicitDefEqProofs only [go_sem, treeOk_ff hlt (ff_l hc)] <;> (first | rfl | omega | exact decide_eq_decide.2 (by omega) | exact decide_eq_false (by omega) | exact decide_eq_true (by omega) | (symm; first | exact decide_eq_false (by omega) | exact decide_eq_true (by omega)) | (rw [Bool.eq_iff_iff]; simp only [boL, reduceCtorEq]; omega))))
        · exact round_end (k + 1) ⟨by omega, next hlt (tt_b (by assumption) hu)⟩ (by omega) (by (refine xwk (π := [0]) (by decide) rfl ?_ ?_; (first | simp -implicitDefEqProofs only [go_sem]); repeat' (first | exact renE_n | ((with_reducible apply renE_c); exact rfl; focus (first | (simp -implicitDefEqProofs only [go_sem]; done))))))
    · have hu := upOk_out (t := t) (by omega) hr
      repeat' (first | ((with_reducible apply xsim); (first | ((with_reducible apply xo); exact rfl) | ((with_reducible apply xst); exact rfl) | with_reducible apply xend | ((with_reducible apply xguardS); exact rfl; exact rfl) | ((with_reducible apply xalloc); exact rfl; simp only [bkL, Nat.reduceAdd, Nat.reduceSub]) | ((with_reducible apply xidxL); exact rfl; exact rfl; exact rfl; (first | exact hrow); omega; first | exact rfl | simp only [hsz]) | ((with_reducible apply xcallIs); exact rfl; exact rfl; (first | exact c_within _ _ _ | exact cn); exact rfl))) | ((with_reducible apply xaw); (first | ((with_reducible apply xstepS); refine AW.step tok rfl ?_) | with_reducible (first | refine AW.seq ?_ | refine AW.block ?_ | refine AW.skip ?_ | refine AW.ret ?_) | ((with_reducible apply xcond); exact rfl))) | with_reducible (first | refine xthen ?_ | refine xthen_r ?_ | refine xblock_r ?_ | refine xround_r ?_) | (with_reducible intro hc; (try simp only [hcL, reduceCtorEq, List.length_map] at hc); (try (exfalso; omega))) | with_reducible (first | exact trivial | refine And.intro ?_ ?_ | exact rfl) | exact Eq.refl true | (refine inR_i64.mpr ?_; first | omega | (simp only [List.length_map, List.length_map]; omega)))
      (refine xfinIs (by first | exact .inl rfl | exact .inr rfl) rfl (by repeat' (first | exact trivial | exact rfl | refine And.intro ?_ ?_)) rfl ?_ rfl; first | (simp -implicitDefEqProofs only [go_sem, treeOk_ff hlt (ff_r hu)] <;> (first | rfl | omega | exact decide_eq_decide.2 (by omega) | exact decide_eq_false (by omega) | exact decide_eq_true (by omega) | (symm; first | exact decide_eq_false (by omega) | exact decide_eq_true (by omega)) | (rw [Bool.eq_iff_iff]; simp only [boL, reduceCtorEq]; omega))))
  · repeat' (first | ((with_reducible apply xsim); (first | ((with_reducible apply xo); exact rfl) | with_reducible apply xend)) | ((with_reducible apply xaw); (first | ((with_reducible apply xstepS); refine AW.step tok rfl ?_) | with_reducible (first | refine AW.seq ?_ | refine AW.ret ?_ | refine AW.exit ?_) | ((with_reducible apply xcond); exact rfl))) | with_reducible (first | refine xthen ?_ | refine xthen_e ?_ | refine xblock_e ?_ | refine xround_e ?_) | (with_reducible intro hc; (try simp only [hcL, reduceCtorEq, List.length_map] at hc); (try (exfalso; omega))) | with_reducible (first | exact trivial | refine And.intro ?_ ?_ | exact rfl))
    (refine xfinIs (by first | exact .inl rfl | exact .inr rfl) rfl (by repeat' (first | exact trivial | exact rfl | refine And.intro ?_ ?_)) rfl ?_ rfl; first | (simp -implicitDefEqProofs only [go_sem, treeOk_tt hlen' fun i h => hp i h (by omega)] <;> (first | rfl | omega | exact decide_eq_decide.2 (by omega) | exact decide_eq_false (by omega) | exact decide_eq_true (by omega) | (symm; first | exact decide_eq_false (by omega) | exact decide_eq_true (by omega)) | (rw [Bool.eq_iff_iff]; simp only [boL, reduceCtorEq]; omega))))
end Go.Proofs.YtpfhnhhkfobjnaaGreat

namespace Go.Proofs.YtpfhnhhkfobjnaaGreat
open Go.Fw
attribute [local irreducible] Go.Fw.aops Go.Fw.arun

theorem c_szLineS (xs : List Line) (n : Int) (hn : 0 ≤ n ∧ n ≤ 2^20) (hl : xs.length < 2^63) : ACon Tryz.prog 92 [.d (.lst (xs.map encLine)), .d (.int .i64 n)] [] (Is (.d (.int .i64 (if n - xs.length < 0 then -1 else n - xs.length)))) := by
  by_cases h : n - xs.length < 0
  · refine ACon.introW tok (nt := 12) Tryz.func92 rfl rfl rfl (by kernel_rfl) rfl ?_
    repeat' (first | ((with_reducible apply xsim); (first | ((with_reducible apply xlenM); exact rfl; exact rfl) | ((with_reducible apply xo); exact rfl) | with_reducible apply xend)) | ((with_reducible apply xaw); (first | ((with_reducible apply xstepS); refine AW.step tok rfl ?_) | with_reducible (first | refine AW.seq ?_ | refine AW.ret ?_) | ((with_reducible apply xcond); exact rfl))) | with_reducible refine xthen_r ?_ | (with_reducible intro hc; (try simp only [hcL, reduceCtorEq, List.length_map] at hc); (try (exfalso; omega))) | with_reducible (first | exact trivial | refine And.intro ?_ ?_ | exact rfl) | (refine inR_i64.mpr ?_; first | omega | (simp only [List.length_map, List.length_map]; omega)))
    all_goals (refine xfinIs (by first | exact .inl rfl | exact .inr rfl) rfl (by repeat' (first | exact trivial | exact rfl | refine And.intro ?_ ?_)) rfl ?_ rfl; first | (simp -implicitDefEqProofs only [go_sem, if_pos h] <;> (first | rfl | omega | exact decide_eq_decide.2 (by omega) | exact decide_eq_false (by omega) | exact decide_eq_true (by omega) | (symm; first | exact decide_eq_false (by omega) | exact decide_eq_true (by omega)) | (rw [Bool.eq_iff_iff]; simp only [boL, reduceCtorEq]; omega))))
  · refine ACon.introW tok (nt := 12) Tryz.func92 rfl rfl rfl (by kernel_rfl) rfl ?_
    repeat' (first | ((with_reducible apply xsim); (first | ((with_reducible apply xlenM); exact rfl; exact rfl) | ((with_reducible apply xo); exact rfl) | with_reducible apply xend)) | ((with_reducible apply xaw); (first | ((with_reducible apply xstepS); refine AW.step tok rfl ?_) | with_reducible (first | refine AW.seq ?_ | refine AW.skip ?_ | refine AW.ret ?_) | ((with_reducible apply xcond); exact rfl))) | with_reducible refine xthen ?_ | (with_reducible intro hc; (try simp only [hcL, reduceCtorEq, List.length_map] at hc); (try (exfalso; omega))) | with_reducible (first | exact trivial | refine And.intro ?_ ?_ | exact rfl) | (refine inR_i64.mpr ?_; first | omega | (simp only [List.length_map, List.length_map]; omega)))
    all_goals (refine xfinIs (by first | exact .inl rfl | exact .inr rfl) rfl (by repeat' (first | exact trivial | exact rfl | refine And.intro ?_ ?_)) rfl ?_ rfl; first | (simp -implicitDefEqProofs only [go_sem, if_neg h] <;> (first | rfl | omega | exact decide_eq_decide.2 (by omega) | exact decide_eq_false (by omega) | exact decide_eq_true (by omega) | (symm; first | exact decide_eq_false (by omega) | exact decide_eq_true (by omega)) | (rw [Bool.eq_iff_iff]; simp only [boL, reduceCtorEq]; omega))))
theorem c_toLine (p : Line) : ACon Tryz.prog 136 [vLine p] [] (Is (vLine p)) := by
  refine ACon.introW tok (nt := 11) Tryz.func136 rfl rfl rfl (by kernel_rfl) rfl ?_
  repeat' (first | ((with_reducible apply xsim); (first | ((with_reducible apply xo); exact rfl) | ((with_reducible apply xst); exact rfl) | with_reducible apply xend | ((with_reducible apply xalloc); exact rfl; simp only [bkL, Nat.reduceAdd, Nat.reduceSub]) | ((with_reducible apply xbox); exact rfl; simp only [bkL, Nat.reduceAdd, Nat.reduceSub]))) | ((with_reducible apply xaw); (first | ((with_reducible apply xstepS); refine AW.step tok rfl ?_) | with_reducible refine AW.ret ?_)) | with_reducible (first | exact trivial | refine And.intro ?_ ?_) | exact Eq.refl true)
  all_goals (refine xfinIs (by first | exact .inl rfl | exact .inr rfl) rfl (by repeat' (first | exact trivial | exact rfl | refine And.intro ?_ ?_)) rfl ?_ rfl; first | (simp -implicitDefEqProofs only [go_sem] <;> (first | rfl | omega | exact decide_eq_decide.2 (by omega) | exact decide_eq_false (by omega) | exact decide_eq_true (by omega) | (symm; first | exact decide_eq_false (by omega) | exact decide_eq_true (by omega)) | (rw [Bool.eq_iff_iff]; simp only [boL, reduceCtorEq]; omega))))
theorem c_toCell (p : Cell) : ACon Tryz.prog 98 [vCell p] [] (Is (vCell p)) := by
  refine ACon.introW tok (nt := 32) Tryz.func98 rfl rfl rfl (by kernel_rfl) rfl ?_
  repeat' (first | ((with_reducible apply xsim); (first | ((with_reducible apply xo); exact rfl) | ((with_reducible apply xst); exact rfl) | with_reducible apply xend | ((with_reducible apply xalloc); exact rfl; simp only [bkL, Nat.reduceAdd, Nat.reduceSub]) | ((with_reducible apply xbox); exact rfl; simp only [bkL, Nat.reduceAdd, Nat.reduceSub]))) | ((with_reducible apply xaw); (first | ((with_reducible apply xstepS); refine AW.step tok rfl ?_) | with_reducible refine AW.ret ?_)) | with_reducible (first | exact trivial | refine And.intro ?_ ?_) | exact Eq.refl true)
  all_goals (refine xfinIs (by first | exact .inl rfl | exact .inr rfl) rfl (by repeat' (first | exact trivial | exact rfl | refine And.intro ?_ ?_)) rfl ?_ rfl; first | (simp -implicitDefEqProofs only [go_sem] <;> (first | rfl | omega | exact decide_eq_decide.2 (by omega) | exact decide_eq_false (by omega) | exact decide_eq_true (by omega) | (symm; first | exact decide_eq_false (by omega) | exact decide_eq_true (by omega)) | (rw [Bool.eq_iff_iff]; simp only [boL, reduceCtorEq]; omega))))
theorem c_eqLine (p : Line) : ACon Tryz.prog 142 [vLine p, vLine p] [] (Is (.d (.bool true))) := by
  refine ACon.introW tok (nt := 15) Tryz.func142 rfl rfl rfl (by kernel_rfl) rfl ?_
  repeat' (first | ((with_reducible apply xsim); (first | ((with_reducible apply xo); exact rfl) | with_reducible apply xend | ((with_reducible apply xbox); exact rfl; simp only [bkL, Nat.reduceAdd, Nat.reduceSub]))) | ((with_reducible apply xaw); (first | ((with_reducible apply xstepS); refine AW.step tok rfl ?_) | with_reducible (first | refine AW.seq ?_ | refine AW.skip ?_ | refine AW.ret ?_) | ((with_reducible apply xcond); exact rfl))) | with_reducible refine xthen ?_ | (with_reducible intro hc; (try simp only [hcL, reduceCtorEq, ne_eq, not_true_eq_false, decide_false, bne_self_eq_false] at hc); (try (exfalso; omega))) | with_reducible (first | exact trivial | refine And.intro ?_ ?_ | exact rfl))
  all_goals (refine xfinIs (by first | exact .inl rfl | exact .inr rfl) rfl (by repeat' (first | exact trivial | exact rfl | refine And.intro ?_ ?_)) rfl ?_ rfl; first | with_reducible exact rfl)
theorem c_eqLineS (xs : List Line) (hl : xs.length < 2^63) : ACon Tryz.prog 109 [.d (.lst (xs.map encLine)), .d (.lst (xs.map encLine))] [] (Is (.d (.bool true))) := by
  refine ACon.introW tok (nt := 27) Tryz.func109 rfl rfl rfl (by kernel_rfl) rfl ?_
  repeat' (first | ((with_reducible apply xsim); (first | ((with_reducible apply xlenM); exact rfl; exact rfl) | ((with_reducible apply xo); exact rfl) | with_reducible apply xend)) | ((with_reducible apply xaw); (first | ((with_reducible apply xstepS); refine AW.step tok rfl ?_) | with_reducible (first | refine AW.seq ?_ | refine AW.block ?_ | refine AW.skip ?_) | ((with_reducible apply xcond); exact rfl))) | with_reducible refine xthen ?_ | (with_reducible intro hc; (try simp only [hcL, reduceCtorEq, List.length_map] at hc); (try (exfalso; omega))) | with_reducible (first | exact trivial | refine And.intro ?_ ?_ | exact rfl))
  refine AW.loop (S := fun k : Nat => ⟨[(0, .d (.lst (xs.map encLine))), (1, .d (.lst (xs.map encLine))), (5, .d (.int .i64 k))], [], 27, .p 0⟩)
    (Pre := fun k => k ≤ xs.length) (μ := fun k => xs.length - k) 0 (Nat.zero_le _) ?_ ?_
  · (refine xwk (π := []) (by decide) rfl ?_ ?_; (first | exact trivial); repeat' (first | exact renE_n | ((with_reducible apply renE_c); exact rfl; focus (first | (simp -implicitDefEqProofs only [go_sem]; done)))))
  · intro k hk
    by_cases hlt : k < xs.length
    · have hrow := at_map (f := encLine) hlt
      repeat' (first | ((with_reducible apply xsim); (first | ((with_reducible apply xlenM); exact rfl; exact rfl) | ((with_reducible apply xo); exact rfl) | with_reducible apply xend | ((with_reducible apply xidxL); exact rfl; exact rfl; exact rfl; (first | exact hrow); omega; first | exact rfl | simp only [hsz]))) | ((with_reducible apply xaw); (first | ((with_reducible apply xstepS); refine AW.step tok rfl ?_) | ((with_reducible apply xstep); refine AW.region tok rfl ?_) | with_reducible (first | refine AW.seq ?_ | refine AW.block ?_ | refine AW.skip ?_) | ((with_reducible apply xcond); exact rfl) | ((with_reducible apply xdraw (id := 6)); refine AW.draw (id := 6) (.q 0 (.q 1 (.q 2 (.q 3 (.q 4 (.q 5 (.q 6 (.q 7 (.q 8 (.q 9 (.fin))))))))))) tok (by kernel_rfl) rfl (by kernel_rfl) ?_))) | ((with_reducible apply xarun); (first | ((with_reducible apply xrun_q); exact rfl; exact rfl; exact rfl) | ((with_reducible apply xrun_c); exact rfl; exact rfl; exact rfl; exact rfl; exact rfl; exact rfl; exact c_eqLine xs[k]; exact rfl) | with_reducible apply xrun_f)) | with_reducible (first | refine xthen ?_ | refine xblock ?_) | (with_reducible intro hc; (try simp only [hcL, reduceCtorEq, List.length_map] at hc); (try (exfalso; omega))) | with_reducible (first | exact trivial | refine And.intro ?_ ?_ | exact rfl) | exact Eq.refl true | (refine inR_i64.mpr ?_; first | omega | (simp only [List.length_map, List.length_map]; omega)))
      refine round_end (k+1) hlt (by omega) (by (refine xwk (π := []) (by decide) rfl ?_ ?_; (first | exact trivial); repeat' (first | exact renE_n | ((with_reducible apply renE_c); exact rfl; focus (first | (simp -implicitDefEqProofs only [go_sem]; done))))))
    · repeat' (first | ((with_reducible apply xsim); (first | ((with_reducible apply xlenM); exact rfl; exact rfl) | ((with_reducible apply xo); exact rfl) | with_reducible apply xend)) | ((with_reducible apply xaw); (first | ((with_reducible apply xstepS); refine AW.step tok rfl ?_) | with_reducible (first | refine AW.seq ?_ | refine AW.ret ?_ | refine AW.exit ?_) | ((with_reducible apply xcond); exact rfl))) | with_reducible (first | refine xthen ?_ | refine xthen_e ?_ | refine xblock_e ?_ | refine xround_e ?_) | (with_reducible intro hc; (try simp only [hcL, reduceCtorEq, List.length_map] at hc); (try (exfalso; omega))) | with_reducible (first | exact trivial | refine And.intro ?_ ?_ | exact rfl))
      (refine xfinIs (by first | exact .inl rfl | exact .inr rfl) rfl (by repeat' (first | exact trivial | exact rfl | refine And.intro ?_ ?_)) rfl ?_ rfl; first | with_reducible exact rfl)
theorem c_eqCell (p : Cell) : ACon Tryz.prog 111 [vCell p, vCell p] [] (Is (.d (.bool true))) := by
  refine ACon.introW tok (nt := 50) Tryz.func111 rfl rfl rfl (by kernel_rfl) rfl ?_
  repeat' (first | ((with_reducible apply xsim); (first | ((with_reducible apply xo); exact rfl) | with_reducible apply xend | ((with_reducible apply xbox); exact rfl; simp only [bkL, Nat.reduceAdd, Nat.reduceSub]))) | ((with_reducible apply xaw); (first | ((with_reducible apply xstepS); refine AW.step tok rfl ?_) | with_reducible (first | refine AW.seq ?_ | refine AW.skip ?_ | refine AW.ret ?_) | ((with_reducible apply xcond); exact rfl))) | with_reducible refine xthen ?_ | (with_reducible intro hc; (try simp only [hcL, reduceCtorEq, ne_eq, not_true_eq_false, decide_false, bne_self_eq_false] at hc); (try (exfalso; omega))) | with_reducible (first | exact trivial | refine And.intro ?_ ?_ | exact rfl))
  all_goals (refine xfinIs (by first | exact .inl rfl | exact .inr rfl) rfl (by repeat' (first | exact trivial | exact rfl | refine And.intro ?_ ?_)) rfl ?_ rfl; first | with_reducible exact rfl)
def zLine : List D := [.int .i64 0, .int .i64 0]
theorem c_toLineS (xs : List Line) (hl : xs.length ≤ 2^20) : ACon Tryz.prog 96 [.d (.lst (xs.map encLine))] [] (ORows encLine 2 xs) := by
  refine ACon.introW tok (nt := 23) Tryz.func96 rfl rfl rfl (by kernel_rfl) rfl ?_
  repeat' (first | ((with_reducible apply xsim); (first | ((with_reducible apply xlenM); exact rfl; exact rfl) | ((with_reducible apply xo); exact rfl) | with_reducible apply xend | simp -implicitDefEqProofs only [go_sem, List.length_map])) | ((with_reducible apply xaw); (first | ((with_reducible apply xstepS); refine AW.step tok rfl ?_) | with_reducible (first | refine AW.seq ?_ | refine AW.block ?_))) | with_reducible (first | exact trivial | refine And.intro ?_ ?_) | omega)
  refine AW.loop (S := fun k : Nat => ⟨[(0, .d (.lst (xs.map encLine))), (3, .msl 0 2 0 xs.length), (4, .d (.int .i64 k))], [.arr 2 (fillRows encLine zLine xs k)], 23, .p 0⟩)
    (Pre := fun k => k ≤ xs.length) (μ := fun k => xs.length - k) 0 (Nat.zero_le _) ?_ ?_
  · (refine xwk (π := [0]) (by decide) rfl ?_ ?_; (first | simp -implicitDefEqProofs only [go_sem, fillRows_zero, zLine]); repeat' (first | exact renE_n | ((with_reducible apply renE_c); exact rfl; focus (first | (simp -implicitDefEqProofs only [go_sem, fillRows_zero, zLine]; done)))))
  · intro k hk
    by_cases hlt : k < xs.length
    · have hrow := at_map (f := encLine) hlt
      have hz := fillRows_at (enc := encLine) (z := zLine) hlt
      have hset := fillRows_set (enc := encLine) (z := zLine) hlt
      simp only [encLine] at hset
      repeat' (first | ((with_reducible apply xsim); (first | ((with_reducible apply xlenM); exact rfl; exact rfl) | ((with_reducible apply xo); exact rfl) | with_reducible apply xend | ((with_reducible apply xidxL); exact rfl; exact rfl; exact rfl; (first | exact hrow | exact hz); omega; first | exact rfl | simp only [hsz]) | ((with_reducible apply xidxM); exact rfl; exact rfl; exact rfl; omega; omega; exact rfl) | ((with_reducible apply xstA); exact rfl; exact rfl; exact rfl; exact rfl; (first | exact hrow | exact hz); exact rfl; exact rfl; exact rfl; exact rfl; (try simp only [List.set_cons_zero, List.set_cons_succ, List.length_map])) | ((with_reducible apply xcallIs); exact rfl; exact rfl; exact c_toLine xs[k]; exact rfl))) | ((with_reducible apply xaw); (first | ((with_reducible apply xstepS); refine AW.step tok rfl ?_) | ((with_reducible apply xstep); refine AW.region tok rfl ?_) | with_reducible (first | refine AW.seq ?_ | refine AW.block ?_ | refine AW.skip ?_) | ((with_reducible apply xcond); exact rfl))) | with_reducible (first | refine xthen ?_ | refine xblock ?_) | (with_reducible intro hc; (try simp only [hcL, reduceCtorEq, List.length_map] at hc); (try (exfalso; omega))) | with_reducible (first | exact trivial | refine And.intro ?_ ?_ | exact rfl) | exact Eq.refl true | (refine inR_i64.mpr ?_; first | omega | (simp only [List.length_map, List.length_map]; omega)))
      refine round_end (k+1) hlt (by omega) (by (refine xwk (π := [0]) (by decide) rfl ?_ ?_; (first | simp -implicitDefEqProofs only [go_sem, hset]); repeat' (first | exact renE_n | ((with_reducible apply renE_c); exact rfl; focus (first | (simp -implicitDefEqProofs only [go_sem, hset]; done))))))
    · have hk' : k = xs.length := by omega
      subst hk'
      repeat' (first | ((with_reducible apply xsim); (first | ((with_reducible apply xlenM); exact rfl; exact rfl) | ((with_reducible apply xo); exact rfl) | with_reducible apply xend)) | ((with_reducible apply xaw); (first | ((with_reducible apply xstepS); refine AW.step tok rfl ?_) | with_reducible (first | refine AW.seq ?_ | refine AW.ret ?_ | refine AW.exit ?_) | ((with_reducible apply xcond); exact rfl))) | with_reducible (first | refine xthen ?_ | refine xthen_e ?_ | refine xblock_e ?_ | refine xround_e ?_) | (with_reducible intro hc; (try simp only [hcL, reduceCtorEq, List.length_map] at hc); (try (exfalso; omega))) | with_reducible (first | exact trivial | refine And.intro ?_ ?_ | exact rfl))
      (refine xfinOwn [0] (by first | exact .inl rfl | exact .inr rfl) rfl (by repeat' (first | exact trivial | exact rfl | refine And.intro ?_ ?_)) (by decide) rfl ?_ ?_ <;> simp -implicitDefEqProofs only [go_sem, fillRows_all])
theorem c_toLineSd (xs : List Line) (hl : xs.length ≤ 2^20) : ACon Tryz.prog 96 [.d (.lst (xs.map encLine))] [] (Is (.d (.lst (xs.map encLine)))) := by
  refine ACon.introW tok (nt := 23) Tryz.func96 rfl rfl rfl (by kernel_rfl) rfl ?_
  repeat' (first | ((with_reducible apply xsim); (first | ((with_reducible apply xlenM); exact rfl; exact rfl) | ((with_reducible apply xo); exact rfl) | with_reducible apply xend | simp -implicitDefEqProofs only [go_sem, List.length_map])) | ((with_reducible apply xaw); (first | ((with_reducible apply xstepS); refine AW.step tok rfl ?_) | with_reducible (first | refine AW.seq ?_ | refine AW.block ?_))) | with_reducible (first | exact trivial | refine And.intro ?_ ?_) | omega)
  refine AW.loop (S := fun k : Nat => ⟨[(0, .d (.lst (xs.map encLine))), (3, .msl 0 2 0 xs.length), (4, .d (.int .i64 k))], [.arr 2 (fillRows encLine zLine xs k)], 23, .p 0⟩)
    (Pre := fun k => k ≤ xs.length) (μ := fun k => xs.length - k) 0 (Nat.zero_le _) ?_ ?_
  · (refine xwk (π := [0]) (by decide) rfl ?_ ?_; (first | simp -implicitDefEqProofs only [go_sem, fillRows_zero, zLine]); repeat' (first | exact renE_n | ((with_reducible apply renE_c); exact rfl; focus (first | (simp -implicitDefEqProofs only [go_sem, fillRows_zero, zLine]; done)))))
  · intro k hk
    by_cases hlt : k < xs.length
    · have hrow := at_map (f := encLine) hlt
      have hz := fillRows_at (enc := encLine) (z := zLine) hlt
      have hset := fillRows_set (enc := encLine) (z := zLine) hlt
      simp only [encLine] at hset
      repeat' (first | ((with_reducible apply xsim); (first | ((with_reducible apply xlenM); exact rfl; exact rfl) | ((with_reducible apply xo); exact rfl) | with_reducible apply xend | ((with_reducible apply xidxL); exact rfl; exact rfl; exact rfl; (first | exact hrow | exact hz); omega; first | exact rfl | simp only [hsz]) | ((with_reducible apply xidxM); exact rfl; exact rfl; exact rfl; omega; omega; exact rfl) | ((with_reducible apply xstA); exact rfl; exact rfl; exact rfl; exact rfl; (first | exact hrow | exact hz); exact rfl; exact rfl; exact rfl; exact rfl; (try simp only [List.set_cons_zero, List.set_cons_succ, List.length_map])) | ((with_reducible apply xcallIs); exact rfl; exact rfl; exact c_toLine xs[k]; exact rfl))) | ((with_reducible apply xaw); (first | ((with_reducible apply xstepS); refine AW.step tok rfl ?_) | ((with_reducible apply xstep); refine AW.region tok rfl ?_) | with_reducible (first | refine AW.seq ?_ | refine AW.block ?_ | refine AW.skip ?_) | ((with_reducible apply xcond); exact rfl))) | with_reducible (first | refine xthen ?_ | refine xblock ?_) | (with_reducible intro hc; (try simp only [hcL, reduceCtorEq, List.length_map] at hc); (try (exfalso; omega))) | with_reducible (first | exact trivial | refine And.intro ?_ ?_ | exact rfl) | exact Eq.refl true | (refine inR_i64.mpr ?_; first | omega | (simp only [List.length_map, List.length_map]; omega)))
      refine round_end (k+1) hlt (by omega) (by (refine xwk (π := [0]) (by decide) rfl ?_ ?_; (first | simp -implicitDefEqProofs only [go_sem, hset]); repeat' (first | exact renE_n | ((with_reducible apply renE_c); exact rfl; focus (first | (simp -implicitDefEqProofs only [go_sem, hset]; done))))))
    · have hk' : k = xs.length := by omega
      subst hk'
      have hfl := fillRows_len (enc := encLine) (z := zLine) (Nat.le_refl xs.length)
      repeat' (first | ((with_reducible apply xsim); (first | ((with_reducible apply xlenM); exact rfl; exact rfl) | ((with_reducible apply xo); exact rfl) | with_reducible apply xend)) | ((with_reducible apply xaw); (first | ((with_reducible apply xstepS); refine AW.step tok rfl ?_) | with_reducible (first | refine AW.seq ?_ | refine AW.ret ?_ | refine AW.exit ?_) | ((with_reducible apply xcond); exact rfl))) | with_reducible (first | refine xthen ?_ | refine xthen_e ?_ | refine xblock_e ?_ | refine xround_e ?_) | (with_reducible intro hc; (try simp only [hcL, reduceCtorEq, List.length_map] at hc); (try (exfalso; omega))) | with_reducible (first | exact trivial | refine And.intro ?_ ?_ | exact rfl))
      refine xfinW (Weak.freezeA 2 0 2 rfl rfl (by rw [hfl])) ?_
      (refine xfinIs (by first | exact .inl rfl | exact .inr rfl) rfl (by repeat' (first | exact trivial | exact rfl | refine And.intro ?_ ?_)) rfl ?_ rfl; first | (simp -implicitDefEqProofs only [go_sem, fillRows_all] <;> (first | rfl | omega | exact decide_eq_decide.2 (by omega) | exact decide_eq_false (by omega) | exact decide_eq_true (by omega) | (symm; first | exact decide_eq_false (by omega) | exact decide_eq_true (by omega)) | (rw [Bool.eq_iff_iff]; simp only [boL, reduceCtorEq]; omega))))
end Go.Proofs.YtpfhnhhkfobjnaaGreat

namespace Go.Proofs.YtpfhnhhkfobjnaaGreat
open Go.Fw
attribute [local irreducible] Go.Fw.aops Go.Fw.arun

/-! A tree that the input brings, as the program has it. -/
theorem c_toPack (p : Pack) : ACon Tryz.prog 97 [vPack p] [] (Is (vPack p)) := by
  refine ACon.introW tok (nt := 32) Tryz.func97 rfl rfl rfl (by kernel_rfl) rfl ?_
  repeat' (first | ((with_reducible apply xsim); (first | ((with_reducible apply xo); exact rfl) | ((with_reducible apply xst); exact rfl) | with_reducible apply xend | ((with_reducible apply xalloc); exact rfl; simp only [bkL, Nat.reduceAdd, Nat.reduceSub]) | ((with_reducible apply xbox); exact rfl; simp only [bkL, Nat.reduceAdd, Nat.reduceSub]))) | ((with_reducible apply xaw); (first | ((with_reducible apply xstepS); refine AW.step tok rfl ?_) | with_reducible refine AW.ret ?_)) | with_reducible (first | exact trivial | refine And.intro ?_ ?_) | exact Eq.refl true)
  all_goals (refine xfinIs (by first | exact .inl rfl | exact .inr rfl) rfl (by repeat' (first | exact trivial | exact rfl | refine And.intro ?_ ?_)) rfl ?_ rfl; first | (simp -implicitDefEqProofs only [go_sem] <;> (first | rfl | omega | exact decide_eq_decide.2 (by omega) | exact decide_eq_false (by omega) | exact decide_eq_true (by omega) | (symm; first | exact decide_eq_false (by omega) | exact decide_eq_true (by omega)) | (rw [Bool.eq_iff_iff]; simp only [boL, reduceCtorEq]; omega))))
theorem c_eqPack (p : Pack) : ACon Tryz.prog 110 [vPack p, vPack p] [] (Is (.d (.bool true))) := by
  refine ACon.introW tok (nt := 50) Tryz.func110 rfl rfl rfl (by kernel_rfl) rfl ?_
  repeat' (first | ((with_reducible apply xsim); (first | ((with_reducible apply xo); exact rfl) | with_reducible apply xend | ((with_reducible apply xbox); exact rfl; simp only [bkL, Nat.reduceAdd, Nat.reduceSub]))) | ((with_reducible apply xaw); (first | ((with_reducible apply xstepS); refine AW.step tok rfl ?_) | with_reducible (first | refine AW.seq ?_ | refine AW.skip ?_ | refine AW.ret ?_) | ((with_reducible apply xcond); exact rfl))) | with_reducible refine xthen ?_ | (with_reducible intro hc; (try simp only [hcL, reduceCtorEq, ne_eq, not_true_eq_false, decide_false, bne_self_eq_false] at hc); (try (exfalso; omega))) | with_reducible (first | exact trivial | refine And.intro ?_ ?_ | exact rfl) | exact Eq.refl true)
  all_goals (refine xfinIs (by first | exact .inl rfl | exact .inr rfl) rfl (by repeat' (first | exact trivial | exact rfl | refine And.intro ?_ ?_)) rfl ?_ rfl; first | with_reducible exact rfl)
theorem c_toPlace (p : Place) : ACon Tryz.prog 99 [vPlace p] [] (Is (vPlace p)) := by
  refine ACon.introW tok (nt := 32) Tryz.func99 rfl rfl rfl (by kernel_rfl) rfl ?_
  repeat' (first | ((with_reducible apply xsim); (first | ((with_reducible apply xo); exact rfl) | ((with_reducible apply xst); exact rfl) | with_reducible apply xend | ((with_reducible apply xalloc); exact rfl; simp only [bkL, Nat.reduceAdd, Nat.reduceSub]) | ((with_reducible apply xbox); exact rfl; simp only [bkL, Nat.reduceAdd, Nat.reduceSub]))) | ((with_reducible apply xaw); (first | ((with_reducible apply xstepS); refine AW.step tok rfl ?_) | with_reducible refine AW.ret ?_)) | with_reducible (first | exact trivial | refine And.intro ?_ ?_) | exact Eq.refl true)
  all_goals (refine xfinIs (by first | exact .inl rfl | exact .inr rfl) rfl (by repeat' (first | exact trivial | exact rfl | refine And.intro ?_ ?_)) rfl ?_ rfl; first | (simp -implicitDefEqProofs only [go_sem] <;> (first | rfl | omega | exact decide_eq_decide.2 (by omega) | exact decide_eq_false (by omega) | exact decide_eq_true (by omega) | (symm; first | exact decide_eq_false (by omega) | exact decide_eq_true (by omega)) | (rw [Bool.eq_iff_iff]; simp only [boL, reduceCtorEq]; omega))))
theorem c_eqPlace (p : Place) : ACon Tryz.prog 112 [vPlace p, vPlace p] [] (Is (.d (.bool true))) := by
  refine ACon.introW tok (nt := 50) Tryz.func112 rfl rfl rfl (by kernel_rfl) rfl ?_
  repeat' (first | ((with_reducible apply xsim); (first | ((with_reducible apply xo); exact rfl) | with_reducible apply xend | ((with_reducible apply xbox); exact rfl; simp only [bkL, Nat.reduceAdd, Nat.reduceSub]))) | ((with_reducible apply xaw); (first | ((with_reducible apply xstepS); refine AW.step tok rfl ?_) | with_reducible (first | refine AW.seq ?_ | refine AW.skip ?_ | refine AW.ret ?_) | ((with_reducible apply xcond); exact rfl))) | with_reducible refine xthen ?_ | (with_reducible intro hc; (try simp only [hcL, reduceCtorEq, ne_eq, not_true_eq_false, decide_false, bne_self_eq_false] at hc); (try (exfalso; omega))) | with_reducible (first | exact trivial | refine And.intro ?_ ?_ | exact rfl))
  all_goals (refine xfinIs (by first | exact .inl rfl | exact .inr rfl) rfl (by repeat' (first | exact trivial | exact rfl | refine And.intro ?_ ?_)) rfl ?_ rfl; first | with_reducible exact rfl)
def szL (k : Nat) (n : Int) : Int := if n - k < 0 then -1 else n - k
def szN (x : Node) (n : Int) : Int := if szL x.cols.length n < 0 then -1 else szL x.rows.length (szL x.cols.length n)
def szF : List Node → Int → Int
  | [], n => n
  | x :: xs, n => if szN x n < 0 then -1 else szF xs (szN x n)
def szT (t : List Node) (n : Int) : Int := if n - t.length < 0 then -1 else szF t (n - t.length)
theorem szL_le {k : Nat} {n : Int} (h : ¬ szL k n < 0) : szL k n = n - k ∧ 0 ≤ n - k := by
  unfold szL at h ⊢
  split <;> rename_i hc
  · rw [if_pos hc] at h; omega
  · omega
theorem szN_le {x : Node} {n : Int} (h : ¬ szN x n < 0) : szN x n ≤ n ∧ (x.cols.length : Int) ≤ n ∧ (x.rows.length : Int) ≤ n ∧ 0 ≤ n := by
  unfold szN at h ⊢
  split <;> rename_i hc
  · rw [if_pos hc] at h; omega
  · rw [if_neg hc] at h
    have h1 := szL_le hc
    have h2 := szL_le h
    omega
theorem szF_le : ∀ {xs : List Node} {n : Int}, ¬ szF xs n < 0 → ∀ x ∈ xs, (x.cols.length : Int) ≤ n ∧ (x.rows.length : Int) ≤ n
  | [], n, _, x, hx => by cases hx
  | y :: ys, n, h, x, hx => by
    simp only [szF] at h
    split at h <;> rename_i hc
    · omega
    · have h1 := szN_le hc
      rcases List.mem_cons.1 hx with rfl | hx
      · exact ⟨h1.2.1, h1.2.2.1⟩
      · have := szF_le h x hx
        omega
theorem szT_le {t : List Node} (h : ¬ szT t (2^20) < 0) : t.length ≤ 2^20 ∧ ∀ x ∈ t, x.cols.length ≤ 2^20 ∧ x.rows.length ≤ 2^20 := by
  unfold szT at h
  split at h <;> rename_i hc
  · omega
  · refine ⟨by omega, fun x hx => ?_⟩
    have := szF_le h x hx
    omega
theorem szL_lt {k : Nat} {n : Int} (h : szL k n < 0) : szL k n = -1 := by
  unfold szL at h ⊢
  split <;> rename_i hc
  · rfl
  · rw [if_neg hc] at h; omega
theorem szN_lt {x : Node} {n : Int} (h : szN x n < 0) : szN x n = -1 := by
  unfold szN at h ⊢
  split <;> rename_i hc
  · rfl
  · rw [if_neg hc] at h; exact szL_lt h
theorem szF_lt : ∀ {xs : List Node} {n : Int}, szF xs n < 0 → 0 ≤ n → szF xs n = -1
  | [], n, h, h0 => by simp only [szF] at h; omega
  | y :: ys, n, h, h0 => by
    simp only [szF] at h ⊢
    split <;> rename_i hc
    · rfl
    · rw [if_neg hc] at h
      exact szF_lt h (by omega)

theorem c_szNode (x : Node) (n : Int) (hn : 0 ≤ n ∧ n ≤ 2^20) (h1 : x.cols.length < 2^63) (h2 : x.rows.length < 2^63) : ACon Tryz.prog 71 [vNode x, .d (.int .i64 n)] [] (Is (.d (.int .i64 (szN x n)))) := by
  have e1 := c_szLineS x.cols n hn h1
  rw [show (if n - (x.cols.length : Int) < 0 then -1 else n - (x.cols.length : Int)) = szL x.cols.length n from rfl] at e1
  by_cases q1 : szL x.cols.length n < 0
  · rw [show szN x n = -1 by unfold szN; rw [if_pos q1]]
    generalize szL x.cols.length n = a at *
    refine ACon.introW tok (nt := 18) Tryz.func71 rfl rfl rfl (by kernel_rfl) rfl ?_
    repeat' (first | ((with_reducible apply xsim); (first | ((with_reducible apply xo); exact rfl) | with_reducible apply xend | ((with_reducible apply xbox); exact rfl; simp only [bkL, Nat.reduceAdd, Nat.reduceSub]) | ((with_reducible apply xcallIs); exact rfl; exact rfl; exact e1; exact rfl))) | ((with_reducible apply xaw); (first | ((with_reducible apply xstepS); refine AW.step tok rfl ?_) | with_reducible (first | refine AW.seq ?_ | refine AW.ret ?_) | ((with_reducible apply xcond); exact rfl))) | with_reducible refine xthen_r ?_ | (with_reducible intro hc; (try simp only [hcL, reduceCtorEq] at hc); (try (exfalso; omega))) | with_reducible (first | exact trivial | refine And.intro ?_ ?_ | exact rfl))
    all_goals (refine xfinIs (by first | exact .inl rfl | exact .inr rfl) rfl (by repeat' (first | exact trivial | exact rfl | refine And.intro ?_ ?_)) rfl ?_ rfl; first | with_reducible exact rfl)
  · have q1' := szL_le q1
    have e2 := c_szLineS x.rows (szL x.cols.length n) (by omega) h2
    rw [show (if szL x.cols.length n - (x.rows.length : Int) < 0 then -1 else szL x.cols.length n - (x.rows.length : Int)) = szL x.rows.length (szL x.cols.length n) from rfl] at e2
    rw [show szN x n = szL x.rows.length (szL x.cols.length n) by unfold szN; rw [if_neg q1]]
    by_cases q2 : szL x.rows.length (szL x.cols.length n) < 0
    · rw [szL_lt q2] at e2 ⊢
      generalize szL x.cols.length n = a at *
      refine ACon.introW tok (nt := 18) Tryz.func71 rfl rfl rfl (by kernel_rfl) rfl ?_
      repeat' (first | ((with_reducible apply xsim); (first | ((with_reducible apply xo); exact rfl) | with_reducible apply xend | ((with_reducible apply xbox); exact rfl; simp only [bkL, Nat.reduceAdd, Nat.reduceSub]) | ((with_reducible apply xcallIs); exact rfl; exact rfl; (first | exact e1 | exact e2); exact rfl))) | ((with_reducible apply xaw); (first | ((with_reducible apply xstepS); refine AW.step tok rfl ?_) | with_reducible (first | refine AW.seq ?_ | refine AW.skip ?_ | refine AW.ret ?_) | ((with_reducible apply xcond); exact rfl))) | with_reducible (first | refine xthen ?_ | refine xthen_r ?_) | (with_reducible intro hc; (try simp only [hcL, reduceCtorEq] at hc); (try (exfalso; omega))) | with_reducible (first | exact trivial | refine And.intro ?_ ?_ | exact rfl))
      all_goals (refine xfinIs (by first | exact .inl rfl | exact .inr rfl) rfl (by repeat' (first | exact trivial | exact rfl | refine And.intro ?_ ?_)) rfl ?_ rfl; first | with_reducible exact rfl)
    · generalize szL x.rows.length (szL x.cols.length n) = b at *
      generalize szL x.cols.length n = a at *
      refine ACon.introW tok (nt := 18) Tryz.func71 rfl rfl rfl (by kernel_rfl) rfl ?_
      repeat' (first | ((with_reducible apply xsim); (first | ((with_reducible apply xo); exact rfl) | with_reducible apply xend | ((with_reducible apply xbox); exact rfl; simp only [bkL, Nat.reduceAdd, Nat.reduceSub]) | ((with_reducible apply xcallIs); exact rfl; exact rfl; (first | exact e1 | exact e2); exact rfl))) | ((with_reducible apply xaw); (first | ((with_reducible apply xstepS); refine AW.step tok rfl ?_) | with_reducible (first | refine AW.seq ?_ | refine AW.skip ?_ | refine AW.ret ?_) | ((with_reducible apply xcond); exact rfl))) | with_reducible refine xthen ?_ | (with_reducible intro hc; (try simp only [hcL, reduceCtorEq] at hc); (try (exfalso; omega))) | with_reducible (first | exact trivial | refine And.intro ?_ ?_ | exact rfl))
      all_goals (refine xfinIs (by first | exact .inl rfl | exact .inr rfl) rfl (by repeat' (first | exact trivial | exact rfl | refine And.intro ?_ ?_)) rfl ?_ rfl; first | with_reducible exact rfl)
theorem c_szNodeS (t : List Node) (n : Int) (hn : 0 ≤ n ∧ n ≤ 2^20) (hl : t.length < 2^63) (hcs : ∀ x ∈ t, x.cols.length < 2^63 ∧ x.rows.length < 2^63) : ACon Tryz.prog 41 [.d (.lst (t.map encNode)), .d (.int .i64 n)] [] (Is (.d (.int .i64 (szT t n)))) := by
  by_cases q : n - t.length < 0
  · rw [show szT t n = -1 by unfold szT; rw [if_pos q]]
    refine ACon.introW tok (nt := 27) Tryz.func41 rfl rfl rfl (by kernel_rfl) rfl ?_
    repeat' (first | ((with_reducible apply xsim); (first | ((with_reducible apply xlenM); exact rfl; exact rfl) | ((with_reducible apply xo); exact rfl) | with_reducible apply xend)) | ((with_reducible apply xaw); (first | ((with_reducible apply xstepS); refine AW.step tok rfl ?_) | with_reducible (first | refine AW.seq ?_ | refine AW.ret ?_) | ((with_reducible apply xcond); exact rfl))) | with_reducible refine xthen_r ?_ | (with_reducible intro hc; (try simp only [hcL, reduceCtorEq, List.length_map] at hc); (try (exfalso; omega))) | with_reducible (first | exact trivial | refine And.intro ?_ ?_ | exact rfl) | (refine inR_i64.mpr ?_; first | omega | (simp only [List.length_map, List.length_map]; omega)))
    all_goals (refine xfinIs (by first | exact .inl rfl | exact .inr rfl) rfl (by repeat' (first | exact trivial | exact rfl | refine And.intro ?_ ?_)) rfl ?_ rfl; first | with_reducible exact rfl)
  · rw [show szT t n = szF t (n - t.length) by unfold szT; rw [if_neg q]]
    generalize hr : szF t (n - t.length) = r
    refine ACon.introW tok (nt := 27) Tryz.func41 rfl rfl rfl (by kernel_rfl) rfl ?_
    repeat' (first | ((with_reducible apply xsim); (first | ((with_reducible apply xlenM); exact rfl; exact rfl) | ((with_reducible apply xo); exact rfl) | with_reducible apply xend)) | ((with_reducible apply xaw); (first | ((with_reducible apply xstepS); refine AW.step tok rfl ?_) | with_reducible (first | refine AW.seq ?_ | refine AW.block ?_ | refine AW.skip ?_) | ((with_reducible apply xcond); exact rfl))) | with_reducible refine xthen ?_ | (with_reducible intro hc; (try simp only [hcL, reduceCtorEq, List.length_map] at hc); (try (exfalso; omega))) | with_reducible (first | exact trivial | refine And.intro ?_ ?_ | exact rfl) | (refine inR_i64.mpr ?_; first | omega | (simp only [List.length_map, List.length_map]; omega)))
    refine AW.loop (S := fun p : Nat × Int => ⟨[(0, .d (.lst (t.map encNode))), (1, .d (.int .i64 p.2)), (5, .d (.int .i64 p.1))], [], 27, .p 0⟩)
      (Pre := fun p => p.1 ≤ t.length ∧ 0 ≤ p.2 ∧ p.2 ≤ 2^20 ∧ szF (t.drop p.1) p.2 = r) (μ := fun p => t.length - p.1) (0, n - t.length) ⟨Nat.zero_le _, by dsimp only; omega, by dsimp only; omega, hr⟩ ?_ ?_
    · (refine xwk (π := []) (by decide) rfl ?_ ?_; (first | exact trivial); repeat' (first | exact renE_n | ((with_reducible apply renE_c); exact rfl; focus (first | (simp -implicitDefEqProofs only [go_sem]; done)))))
    rintro ⟨k, m⟩ ⟨hk, h0, h1, hm⟩
    dsimp only at hk h0 h1 hm ⊢
    by_cases hlt : k < t.length
    · have hrow := at_map (f := encNode) hlt
      have hx := hcs _ (List.getElem_mem hlt)
      have e1 := c_szNode t[k] m ⟨h0, h1⟩ hx.1 hx.2
      rw [List.drop_eq_getElem_cons hlt] at hm
      simp only [szF] at hm
      by_cases q1 : szN t[k] m < 0
      · rw [if_pos q1] at hm
        rw [szN_lt q1] at e1
        subst hm
        repeat' (first | ((with_reducible apply xsim); (first | ((with_reducible apply xlenM); exact rfl; exact rfl) | ((with_reducible apply xo); exact rfl) | with_reducible apply xend | ((with_reducible apply xidxL); exact rfl; exact rfl; exact rfl; (first | exact hrow); omega; first | exact rfl | simp only [hsz]) | ((with_reducible apply xcallIs); exact rfl; exact rfl; exact e1; exact rfl))) | ((with_reducible apply xaw); (first | ((with_reducible apply xstepS); refine AW.step tok rfl ?_) | with_reducible (first | refine AW.seq ?_ | refine AW.block ?_ | refine AW.skip ?_ | refine AW.ret ?_) | ((with_reducible apply xcond); exact rfl))) | with_reducible (first | refine xthen ?_ | refine xthen_r ?_ | refine xblock_r ?_ | refine xround_r ?_) | (with_reducible intro hc; (try simp only [hcL, reduceCtorEq, List.length_map] at hc); (try (exfalso; omega))) | with_reducible (first | exact trivial | refine And.intro ?_ ?_ | exact rfl) | exact Eq.refl true)
        all_goals (refine xfinIs (by first | exact .inl rfl | exact .inr rfl) rfl (by repeat' (first | exact trivial | exact rfl | refine And.intro ?_ ?_)) rfl ?_ rfl; first | with_reducible exact rfl)
      · rw [if_neg q1] at hm
        have hle := szN_le q1
        generalize szN t[k] m = m' at *
        repeat' (first | ((with_reducible apply xsim); (first | ((with_reducible apply xlenM); exact rfl; exact rfl) | ((with_reducible apply xo); exact rfl) | with_reducible apply xend | ((with_reducible apply xidxL); exact rfl; exact rfl; exact rfl; (first | exact hrow); omega; first | exact rfl | simp only [hsz]) | ((with_reducible apply xcallIs); exact rfl; exact rfl; exact e1; exact rfl))) | ((with_reducible apply xaw); (first | ((with_reducible apply xstepS); refine AW.step tok rfl ?_) | ((with_reducible apply xstep); refine AW.region tok rfl ?_) | with_reducible (first | refine AW.seq ?_ | refine AW.block ?_ | refine AW.skip ?_) | ((with_reducible apply xcond); exact rfl))) | with_reducible (first | refine xthen ?_ | refine xblock ?_) | (with_reducible intro hc; (try simp only [hcL, reduceCtorEq, List.length_map] at hc); (try (exfalso; omega))) | with_reducible (first | exact trivial | refine And.intro ?_ ?_ | exact rfl) | exact Eq.refl true | (refine inR_i64.mpr ?_; first | omega | (simp only [List.length_map, List.length_map]; omega)))
        all_goals refine round_end ((k+1, m') : Nat × Int) ⟨by dsimp only; omega, by dsimp only; omega, by dsimp only; omega, hm⟩ (by dsimp only; omega) (by (refine xwk (π := []) (by decide) rfl ?_ ?_; (first | exact trivial); repeat' (first | exact renE_n | ((with_reducible apply renE_c); exact rfl; focus (first | (simp -implicitDefEqProofs only [go_sem]; done))))))
    · have hk' : k = t.length := by omega
      subst hk'
      rw [List.drop_length] at hm
      simp only [szF] at hm
      subst hm
      repeat' (first | ((with_reducible apply xsim); (first | ((with_reducible apply xlenM); exact rfl; exact rfl) | ((with_reducible apply xo); exact rfl) | with_reducible apply xend)) | ((with_reducible apply xaw); (first | ((with_reducible apply xstepS); refine AW.step tok rfl ?_) | with_reducible (first | refine AW.seq ?_ | refine AW.ret ?_ | refine AW.exit ?_) | ((with_reducible apply xcond); exact rfl))) | with_reducible (first | refine xthen ?_ | refine xthen_e ?_ | refine xblock_e ?_ | refine xround_e ?_) | (with_reducible intro hc; (try simp only [hcL, reduceCtorEq, List.length_map] at hc); (try (exfalso; omega))) | with_reducible (first | exact trivial | refine And.intro ?_ ?_ | exact rfl))
      all_goals (refine xfinIs (by first | exact .inl rfl | exact .inr rfl) rfl (by repeat' (first | exact trivial | exact rfl | refine And.intro ?_ ?_)) rfl ?_ rfl; first | with_reducible exact rfl)
theorem c_szTree (t : List Node) (hl : t.length < 2^63) (hc : ∀ x ∈ t, x.cols.length < 2^63 ∧ x.rows.length < 2^63) : ACon Tryz.prog 12 [vTree t, .d (.int .i64 1048576)] [] (Is (.d (.int .i64 (szT t (2^20))))) := by
  have e1 := c_szNodeS t (2^20) (by omega) hl hc
  by_cases q : szT t (2^20) < 0
  · have e : szT t (2^20) = -1 := by
      unfold szT at q ⊢
      split <;> rename_i hcc
      · rfl
      · rw [if_neg hcc] at q
        exact szF_lt q (by omega)
    rw [e] at e1 ⊢
    refine ACon.introW tok (nt := 12) Tryz.func12 rfl rfl rfl (by kernel_rfl) rfl ?_
    repeat' (first | ((with_reducible apply xsim); (first | ((with_reducible apply xo); exact rfl) | with_reducible apply xend | ((with_reducible apply xbox); exact rfl; simp only [bkL, Nat.reduceAdd, Nat.reduceSub]) | ((with_reducible apply xcallIs); exact rfl; exact rfl; exact e1; exact rfl))) | ((with_reducible apply xaw); (first | ((with_reducible apply xstepS); refine AW.step tok rfl ?_) | with_reducible (first | refine AW.seq ?_ | refine AW.ret ?_) | ((with_reducible apply xcond); exact rfl))) | with_reducible refine xthen_r ?_ | (with_reducible intro hc; (try simp only [hcL, reduceCtorEq] at hc); (try (exfalso; omega))) | with_reducible (first | exact trivial | refine And.intro ?_ ?_ | exact rfl))
    all_goals (refine xfinIs (by first | exact .inl rfl | exact .inr rfl) rfl (by repeat' (first | exact trivial | exact rfl | refine And.intro ?_ ?_)) rfl ?_ rfl; first | with_reducible exact rfl)
  · generalize szT t (2^20) = r at *
    refine ACon.introW tok (nt := 12) Tryz.func12 rfl rfl rfl (by kernel_rfl) rfl ?_
    repeat' (first | ((with_reducible apply xsim); (first | ((with_reducible apply xo); exact rfl) | with_reducible apply xend | ((with_reducible apply xbox); exact rfl; simp only [bkL, Nat.reduceAdd, Nat.reduceSub]) | ((with_reducible apply xcallIs); exact rfl; exact rfl; exact e1; exact rfl))) | ((with_reducible apply xaw); (first | ((with_reducible apply xstepS); refine AW.step tok rfl ?_) | with_reducible (first | refine AW.seq ?_ | refine AW.skip ?_ | refine AW.ret ?_) | ((with_reducible apply xcond); exact rfl))) | with_reducible refine xthen ?_ | (with_reducible intro hc; (try simp only [hcL, reduceCtorEq] at hc); (try (exfalso; omega))) | with_reducible (first | exact trivial | refine And.intro ?_ ?_ | exact rfl))
    all_goals (refine xfinIs (by first | exact .inl rfl | exact .inr rfl) rfl (by repeat' (first | exact trivial | exact rfl | refine And.intro ?_ ?_)) rfl ?_ rfl; first | with_reducible exact rfl)

set_option maxRecDepth 8000 in
set_option maxHeartbeats 4000000 in
theorem c_toNode (x : Node) (h1 : x.cols.length ≤ 2^20) (h2 : x.rows.length ≤ 2^20) : ACon Tryz.prog 73 [vNode x] [] (Is (vNode x)) := by
  refine ACon.introW tok (nt := 40) Tryz.func73 rfl rfl rfl (by kernel_rfl) rfl ?_
  repeat' (first | ((with_reducible apply xsim); (first | ((with_reducible apply xo); exact rfl) | ((with_reducible apply xst); exact rfl) | with_reducible apply xend | ((with_reducible apply xalloc); exact rfl; simp only [bkL, Nat.reduceAdd, Nat.reduceSub]) | ((with_reducible apply xbox); exact rfl; simp only [bkL, Nat.reduceAdd, Nat.reduceSub]) | ((with_reducible apply xcallIs); exact rfl; exact rfl; (first | exact c_toLineSd _ h1 | exact c_toLineSd _ h2 | exact c_toPack x.pack | exact c_toCell x.cell | exact c_toPlace x.place); exact rfl))) | ((with_reducible apply xaw); (first | ((with_reducible apply xstepS); refine AW.step tok rfl ?_) | with_reducible refine AW.ret ?_)) | with_reducible (first | exact trivial | refine And.intro ?_ ?_) | exact Eq.refl true)
  all_goals (refine xfinIs (by first | exact .inl rfl | exact .inr rfl) rfl (by repeat' (first | exact trivial | exact rfl | refine And.intro ?_ ?_)) rfl ?_ rfl; first | (simp -implicitDefEqProofs only [go_sem] <;> (first | rfl | omega | exact decide_eq_decide.2 (by omega) | exact decide_eq_false (by omega) | exact decide_eq_true (by omega) | (symm; first | exact decide_eq_false (by omega) | exact decide_eq_true (by omega)) | (rw [Bool.eq_iff_iff]; simp only [boL, reduceCtorEq]; omega))))
def zNode : List D := .int .i64 0 :: .int .i64 0 :: .int .i64 0 :: .bool false :: .int .i64 0 :: .lst [] :: .lst [] :: [
  .int .i64 0, .int .i64 0, .int .i64 0, .bool false, .bool false, .bool false, .int .i64 0, .int .i64 0, .int .i64 0,
  .int .i64 0, .int .i64 0, .int .i64 0, .int .i64 0, .int .i64 0, .int .i64 0, .int .i64 0, .int .i64 0, .int .i64 0,
  .int .i64 0, .int .i64 0, .int .i64 0, .int .i64 0, .int .i64 0, .int .i64 0, .int .i64 0, .int .i64 0, .int .i64 0]
set_option maxRecDepth 8000 in
set_option maxHeartbeats 4000000 in
theorem c_toNodeS (t : List Node) (hl : t.length ≤ 2^20) (hc : ∀ x ∈ t, x.cols.length ≤ 2^20 ∧ x.rows.length ≤ 2^20) : ACon Tryz.prog 46 [.d (.lst (t.map encNode))] [] (Is (.d (.lst (t.map encNode)))) := by
  refine ACon.introW tok (nt := 23) Tryz.func46 rfl rfl rfl (by kernel_rfl) rfl ?_
  repeat' (first | ((with_reducible apply xsim); (first | ((with_reducible apply xlenM); exact rfl; exact rfl) | ((with_reducible apply xo); exact rfl) | with_reducible apply xend | simp -implicitDefEqProofs only [go_sem, List.length_map])) | ((with_reducible apply xaw); (first | ((with_reducible apply xstepS); refine AW.step tok rfl ?_) | with_reducible (first | refine AW.seq ?_ | refine AW.block ?_))) | with_reducible (first | exact trivial | refine And.intro ?_ ?_) | omega)
  refine AW.loop (S := fun k : Nat => ⟨[(0, .d (.lst (t.map encNode))), (3, .msl 0 34 0 t.length), (4, .d (.int .i64 k))], [.arr 34 (fillRows encNode zNode t k)], 23, .p 0⟩)
    (Pre := fun k => k ≤ t.length) (μ := fun k => t.length - k) 0 (Nat.zero_le _) ?_ ?_
  · (refine xwk (π := [0]) (by decide) rfl ?_ ?_; (first | simp -implicitDefEqProofs only [go_sem, fillRows_zero, zNode]); repeat' (first | exact renE_n | ((with_reducible apply renE_c); exact rfl; focus (first | (simp -implicitDefEqProofs only [go_sem, fillRows_zero, zNode]; done)))))
  · intro k hk
    by_cases hlt : k < t.length
    · have hrow := at_map (f := encNode) hlt
      have hz := fillRows_at (enc := encNode) (z := zNode) hlt
      have hset := fillRows_set (enc := encNode) (z := zNode) hlt
      simp only [encNode] at hset
      have hx := hc _ (List.getElem_mem hlt)
      repeat' (first | ((with_reducible apply xsim); (first | ((with_reducible apply xlenM); exact rfl; exact rfl) | ((with_reducible apply xo); exact rfl) | with_reducible apply xend | ((with_reducible apply xidxL); exact rfl; exact rfl; exact rfl; (first | exact hrow | exact hz); omega; first | exact rfl | simp only [hsz]) | ((with_reducible apply xidxM); exact rfl; exact rfl; exact rfl; omega; omega; exact rfl) | ((with_reducible apply xstA); exact rfl; exact rfl; exact rfl; exact rfl; (first | exact hrow | exact hz); exact rfl; exact rfl; exact rfl; exact rfl; (try simp only [List.set_cons_zero, List.set_cons_succ, List.length_map])) | ((with_reducible apply xcallIs); exact rfl; exact rfl; exact c_toNode t[k] hx.1 hx.2; exact rfl))) | ((with_reducible apply xaw); (first | ((with_reducible apply xstepS); refine AW.step tok rfl ?_) | ((with_reducible apply xstep); refine AW.region tok rfl ?_) | with_reducible (first | refine AW.seq ?_ | refine AW.block ?_ | refine AW.skip ?_) | ((with_reducible apply xcond); exact rfl))) | with_reducible (first | refine xthen ?_ | refine xblock ?_) | (with_reducible intro hc; (try simp only [hcL, reduceCtorEq, List.length_map] at hc); (try (exfalso; omega))) | with_reducible (first | exact trivial | refine And.intro ?_ ?_ | exact rfl) | exact Eq.refl true | (refine inR_i64.mpr ?_; first | omega | (simp only [List.length_map, List.length_map]; omega)))
      refine round_end (k+1) hlt (by omega) (by (refine xwk (π := [0]) (by decide) rfl ?_ ?_; (first | simp -implicitDefEqProofs only [go_sem, hset]); repeat' (first | exact renE_n | ((with_reducible apply renE_c); exact rfl; focus (first | (simp -implicitDefEqProofs only [go_sem, hset]; done))))))
    · have hk' : k = t.length := by omega
      subst hk'
      have hfl := fillRows_len (enc := encNode) (z := zNode) (Nat.le_refl t.length)
      repeat' (first | ((with_reducible apply xsim); (first | ((with_reducible apply xlenM); exact rfl; exact rfl) | ((with_reducible apply xo); exact rfl) | with_reducible apply xend)) | ((with_reducible apply xaw); (first | ((with_reducible apply xstepS); refine AW.step tok rfl ?_) | with_reducible (first | refine AW.seq ?_ | refine AW.ret ?_ | refine AW.exit ?_) | ((with_reducible apply xcond); exact rfl))) | with_reducible (first | refine xthen ?_ | refine xthen_e ?_ | refine xblock_e ?_ | refine xround_e ?_) | (with_reducible intro hc; (try simp only [hcL, reduceCtorEq, List.length_map] at hc); (try (exfalso; omega))) | with_reducible (first | exact trivial | refine And.intro ?_ ?_ | exact rfl))
      refine xfinW (Weak.freezeA 2 0 34 rfl rfl (by rw [hfl])) ?_
      (refine xfinIs (by first | exact .inl rfl | exact .inr rfl) rfl (by repeat' (first | exact trivial | exact rfl | refine And.intro ?_ ?_)) rfl ?_ rfl; first | (simp -implicitDefEqProofs only [go_sem, fillRows_all] <;> (first | rfl | omega | exact decide_eq_decide.2 (by omega) | exact decide_eq_false (by omega) | exact decide_eq_true (by omega) | (symm; first | exact decide_eq_false (by omega) | exact decide_eq_true (by omega)) | (rw [Bool.eq_iff_iff]; simp only [boL, reduceCtorEq]; omega))))
theorem c_toTree (t : List Node) (hl : t.length ≤ 2^20) (hc : ∀ x ∈ t, x.cols.length ≤ 2^20 ∧ x.rows.length ≤ 2^20) : ACon Tryz.prog 14 [vTree t] [] (Is (vTree t)) := by
  refine ACon.introW tok (nt := 9) Tryz.func14 rfl rfl rfl (by kernel_rfl) rfl ?_
  repeat' (first | ((with_reducible apply xsim); (first | ((with_reducible apply xo); exact rfl) | ((with_reducible apply xst); exact rfl) | with_reducible apply xend | ((with_reducible apply xalloc); exact rfl; simp only [bkL, Nat.reduceAdd, Nat.reduceSub]) | ((with_reducible apply xbox); exact rfl; simp only [bkL, Nat.reduceAdd, Nat.reduceSub]) | ((with_reducible apply xcallIs); exact rfl; exact rfl; exact c_toNodeS t hl hc; exact rfl))) | ((with_reducible apply xaw); (first | ((with_reducible apply xstepS); refine AW.step tok rfl ?_) | with_reducible refine AW.ret ?_)) | with_reducible (first | exact trivial | refine And.intro ?_ ?_) | exact Eq.refl true)
  all_goals (refine xfinIs (by first | exact .inl rfl | exact .inr rfl) rfl (by repeat' (first | exact trivial | exact rfl | refine And.intro ?_ ?_)) rfl ?_ rfl; first | (simp -implicitDefEqProofs only [go_sem] <;> (first | rfl | omega | exact decide_eq_decide.2 (by omega) | exact decide_eq_false (by omega) | exact decide_eq_true (by omega) | (symm; first | exact decide_eq_false (by omega) | exact decide_eq_true (by omega)) | (rw [Bool.eq_iff_iff]; simp only [boL, reduceCtorEq]; omega))))
set_option maxRecDepth 8000 in
set_option maxHeartbeats 4000000 in
theorem c_eqNode (x : Node) (h1 : x.cols.length < 2^63) (h2 : x.rows.length < 2^63) : ACon Tryz.prog 80 [vNode x, vNode x] [] (Is (.d (.bool true))) := by
  refine ACon.introW tok (nt := 60) Tryz.func80 rfl rfl rfl (by kernel_rfl) rfl ?_
  repeat' (first | ((with_reducible apply xsim); (first | ((with_reducible apply xo); exact rfl) | with_reducible apply xend | ((with_reducible apply xbox); exact rfl; simp only [bkL, Nat.reduceAdd, Nat.reduceSub]) | ((with_reducible apply xcallIs); exact rfl; exact rfl; (first | exact c_eqLineS _ h1 | exact c_eqLineS _ h2 | exact c_eqPack x.pack | exact c_eqCell x.cell | exact c_eqPlace x.place); exact rfl))) | ((with_reducible apply xaw); (first | ((with_reducible apply xstepS); refine AW.step tok rfl ?_) | with_reducible (first | refine AW.seq ?_ | refine AW.skip ?_ | refine AW.ret ?_) | ((with_reducible apply xcond); exact rfl))) | with_reducible refine xthen ?_ | (with_reducible intro hc; (try simp only [hcL, reduceCtorEq, ne_eq, not_true_eq_false, decide_false, bne_self_eq_false] at hc); (try (exfalso; omega))) | with_reducible (first | exact trivial | refine And.intro ?_ ?_ | exact rfl) | exact Eq.refl true)
  all_goals (refine xfinIs (by first | exact .inl rfl | exact .inr rfl) rfl (by repeat' (first | exact trivial | exact rfl | refine And.intro ?_ ?_)) rfl ?_ rfl; first | with_reducible exact rfl)
theorem c_eqNodeS (t : List Node) (hl : t.length < 2^63) (hcs : ∀ x ∈ t, x.cols.length < 2^63 ∧ x.rows.length < 2^63) : ACon Tryz.prog 50 [.d (.lst (t.map encNode)), .d (.lst (t.map encNode))] [] (Is (.d (.bool true))) := by
  refine ACon.introW tok (nt := 27) Tryz.func50 rfl rfl rfl (by kernel_rfl) rfl ?_
  repeat' (first | ((with_reducible apply xsim); (first | ((with_reducible apply xlenM); exact rfl; exact rfl) | ((with_reducible apply xo); exact rfl) | with_reducible apply xend)) | ((with_reducible apply xaw); (first | ((with_reducible apply xstepS); refine AW.step tok rfl ?_) | with_reducible (first | refine AW.seq ?_ | refine AW.block ?_ | refine AW.skip ?_) | ((with_reducible apply xcond); exact rfl))) | with_reducible refine xthen ?_ | (with_reducible intro hc; (try simp only [hcL, reduceCtorEq, List.length_map] at hc); (try (exfalso; omega))) | with_reducible (first | exact trivial | refine And.intro ?_ ?_ | exact rfl))
  refine AW.loop (S := fun k : Nat => ⟨[(0, .d (.lst (t.map encNode))), (1, .d (.lst (t.map encNode))), (5, .d (.int .i64 k))], [], 27, .p 0⟩)
    (Pre := fun k => k ≤ t.length) (μ := fun k => t.length - k) 0 (Nat.zero_le _) ?_ ?_
  · (refine xwk (π := []) (by decide) rfl ?_ ?_; (first | exact trivial); repeat' (first | exact renE_n | ((with_reducible apply renE_c); exact rfl; focus (first | (simp -implicitDefEqProofs only [go_sem]; done)))))
  · intro k hk
    by_cases hlt : k < t.length
    · have hrow := at_map (f := encNode) hlt
      have hx := hcs _ (List.getElem_mem hlt)
      repeat' (first | ((with_reducible apply xsim); (first | ((with_reducible apply xlenM); exact rfl; exact rfl) | ((with_reducible apply xo); exact rfl) | with_reducible apply xend | ((with_reducible apply xidxL); exact rfl; exact rfl; exact rfl; (first | exact hrow); omega; first | exact rfl | simp only [hsz]))) | ((with_reducible apply xaw); (first | ((with_reducible apply xstepS); refine AW.step tok rfl ?_) | ((with_reducible apply xstep); refine AW.region tok rfl ?_) | with_reducible (first | refine AW.seq ?_ | refine AW.block ?_ | refine AW.skip ?_) | ((with_reducible apply xcond); exact rfl) | ((with_reducible apply xdraw (id := 6)); refine AW.draw (id := 6) (.q 0 (.q 1 (.q 2 (.q 3 (.q 4 (.q 5 (.q 6 (.q 7 (.q 8 (.q 9 (.fin))))))))))) tok (by kernel_rfl) rfl (by kernel_rfl) ?_))) | ((with_reducible apply xarun); (first | ((with_reducible apply xrun_q); exact rfl; exact rfl; exact rfl) | ((with_reducible apply xrun_c); exact rfl; exact rfl; exact rfl; exact rfl; exact rfl; exact rfl; exact c_eqNode t[k] hx.1 hx.2; exact rfl) | with_reducible apply xrun_f)) | with_reducible (first | refine xthen ?_ | refine xblock ?_) | (with_reducible intro hc; (try simp only [hcL, reduceCtorEq, List.length_map] at hc); (try (exfalso; omega))) | with_reducible (first | exact trivial | refine And.intro ?_ ?_ | exact rfl) | exact Eq.refl true | (refine inR_i64.mpr ?_; first | omega | (simp only [List.length_map, List.length_map]; omega)))
      refine round_end (k+1) hlt (by omega) (by (refine xwk (π := []) (by decide) rfl ?_ ?_; (first | exact trivial); repeat' (first | exact renE_n | ((with_reducible apply renE_c); exact rfl; focus (first | (simp -implicitDefEqProofs only [go_sem]; done))))))
    · repeat' (first | ((with_reducible apply xsim); (first | ((with_reducible apply xlenM); exact rfl; exact rfl) | ((with_reducible apply xo); exact rfl) | with_reducible apply xend)) | ((with_reducible apply xaw); (first | ((with_reducible apply xstepS); refine AW.step tok rfl ?_) | with_reducible (first | refine AW.seq ?_ | refine AW.ret ?_ | refine AW.exit ?_) | ((with_reducible apply xcond); exact rfl))) | with_reducible (first | refine xthen ?_ | refine xthen_e ?_ | refine xblock_e ?_ | refine xround_e ?_) | (with_reducible intro hc; (try simp only [hcL, reduceCtorEq, List.length_map] at hc); (try (exfalso; omega))) | with_reducible (first | exact trivial | refine And.intro ?_ ?_ | exact rfl))
      (refine xfinIs (by first | exact .inl rfl | exact .inr rfl) rfl (by repeat' (first | exact trivial | exact rfl | refine And.intro ?_ ?_)) rfl ?_ rfl; first | with_reducible exact rfl)
theorem c_eqTree (t : List Node) (hl : t.length < 2^63) (hc : ∀ x ∈ t, x.cols.length < 2^63 ∧ x.rows.length < 2^63) : ACon Tryz.prog 17 [vTree t, vTree t] [] (Is (.d (.bool true))) := by
  refine ACon.introW tok (nt := 11) Tryz.func17 rfl rfl rfl (by kernel_rfl) rfl ?_
  repeat' (first | ((with_reducible apply xsim); (first | ((with_reducible apply xo); exact rfl) | with_reducible apply xend | ((with_reducible apply xbox); exact rfl; simp only [bkL, Nat.reduceAdd, Nat.reduceSub]) | ((with_reducible apply xcallIs); exact rfl; exact rfl; exact c_eqNodeS t hl hc; exact rfl))) | ((with_reducible apply xaw); (first | ((with_reducible apply xstepS); refine AW.step tok rfl ?_) | with_reducible (first | refine AW.seq ?_ | refine AW.skip ?_ | refine AW.ret ?_) | ((with_reducible apply xcond); exact rfl))) | with_reducible refine xthen ?_ | (with_reducible intro hc; (try simp only [hcL, reduceCtorEq] at hc); (try (exfalso; omega))) | with_reducible exact trivial)
  all_goals (refine xfinIs (by first | exact .inl rfl | exact .inr rfl) rfl (by repeat' (first | exact trivial | exact rfl | refine And.intro ?_ ?_)) rfl ?_ rfl; first | with_reducible exact rfl)
end Go.Proofs.YtpfhnhhkfobjnaaGreat

namespace Go.Proofs.YtpfhnhhkfobjnaaGreat
open Go.Fw Go.ChangeShapes Go.WideShapes Go.Deep Go.RowKit Go.ChangeAt
section
variable {H : Type} {enc : TypeId × Value → H} {w : World} {base : Nat} {spare : Nat → Bool} {held : Bool}

theorem decLine (n : Nat) (cs : List Value) (y : DataW H × List MemPlace) (h : DataW.trod enc Tryz.prog w base spare held n 155 cs = some y) : DecR w encLine (fun _ => True) cs := by
  obtain ⟨ys, n', _, _, _, hlen, hf⟩ := DataW.trod_struct Tryz.underlying155 h
  have hlen' : ys.length = 2 := hlen
  obtain ⟨z0, e0⟩ : ∃ z, ys[0]? = some z := ⟨ys[0]'(by omega), List.getElem?_eq_getElem _⟩
  obtain ⟨k0, g0⟩ := fieldI ((hf 0 _ rfl).trans e0)
  obtain ⟨z1, e1⟩ : ∃ z, ys[1]? = some z := ⟨ys[1]'(by omega), List.getElem?_eq_getElem _⟩
  obtain ⟨k1, g1⟩ := fieldI ((hf 1 _ rfl).trans e1)
  refine ⟨⟨k0, k1⟩, trivial, fun j d hd => ?_⟩
  simp only [encLine] at hd
  match j with
  | 0 => cases hd; exact ⟨_, g0, .int⟩
  | 1 => cases hd; exact ⟨_, g1, .int⟩
  | n + 2 => simp at hd

theorem decPack (n : Nat) (cs : List Value) (y : DataW H × List MemPlace) (h : DataW.trod enc Tryz.prog w base spare held n 90 cs = some y) : DecR w encPack (fun _ => True) cs := by
  obtain ⟨ys, n', _, _, _, hlen, hf⟩ := DataW.trod_struct Tryz.underlying90 h
  have hlen' : ys.length = 9 := hlen
  obtain ⟨z0, e0⟩ : ∃ z, ys[0]? = some z := ⟨ys[0]'(by omega), List.getElem?_eq_getElem _⟩
  obtain ⟨k0, g0⟩ := fieldI ((hf 0 _ rfl).trans e0)
  obtain ⟨z1, e1⟩ : ∃ z, ys[1]? = some z := ⟨ys[1]'(by omega), List.getElem?_eq_getElem _⟩
  obtain ⟨k1, g1⟩ := fieldI ((hf 1 _ rfl).trans e1)
  obtain ⟨z2, e2⟩ : ∃ z, ys[2]? = some z := ⟨ys[2]'(by omega), List.getElem?_eq_getElem _⟩
  obtain ⟨k2, g2⟩ := fieldI ((hf 2 _ rfl).trans e2)
  obtain ⟨z3, e3⟩ : ∃ z, ys[3]? = some z := ⟨ys[3]'(by omega), List.getElem?_eq_getElem _⟩
  obtain ⟨k3, g3⟩ := fieldB ((hf 3 _ rfl).trans e3)
  obtain ⟨z4, e4⟩ : ∃ z, ys[4]? = some z := ⟨ys[4]'(by omega), List.getElem?_eq_getElem _⟩
  obtain ⟨k4, g4⟩ := fieldB ((hf 4 _ rfl).trans e4)
  obtain ⟨z5, e5⟩ : ∃ z, ys[5]? = some z := ⟨ys[5]'(by omega), List.getElem?_eq_getElem _⟩
  obtain ⟨k5, g5⟩ := fieldB ((hf 5 _ rfl).trans e5)
  obtain ⟨z6, e6⟩ : ∃ z, ys[6]? = some z := ⟨ys[6]'(by omega), List.getElem?_eq_getElem _⟩
  obtain ⟨k6, g6⟩ := fieldI ((hf 6 _ rfl).trans e6)
  obtain ⟨z7, e7⟩ : ∃ z, ys[7]? = some z := ⟨ys[7]'(by omega), List.getElem?_eq_getElem _⟩
  obtain ⟨k7, g7⟩ := fieldI ((hf 7 _ rfl).trans e7)
  obtain ⟨z8, e8⟩ : ∃ z, ys[8]? = some z := ⟨ys[8]'(by omega), List.getElem?_eq_getElem _⟩
  obtain ⟨k8, g8⟩ := fieldI ((hf 8 _ rfl).trans e8)
  refine ⟨⟨k0, k1, k2, k3, k4, k5, k6, k7, k8⟩, trivial, fun j d hd => ?_⟩
  simp only [encPack] at hd
  match j with
  | 0 => cases hd; exact ⟨_, g0, .int⟩
  | 1 => cases hd; exact ⟨_, g1, .int⟩
  | 2 => cases hd; exact ⟨_, g2, .int⟩
  | 3 => cases hd; exact ⟨_, g3, .bool⟩
  | 4 => cases hd; exact ⟨_, g4, .bool⟩
  | 5 => cases hd; exact ⟨_, g5, .bool⟩
  | 6 => cases hd; exact ⟨_, g6, .int⟩
  | 7 => cases hd; exact ⟨_, g7, .int⟩
  | 8 => cases hd; exact ⟨_, g8, .int⟩
  | n + 9 => simp at hd

theorem decCell (n : Nat) (cs : List Value) (y : DataW H × List MemPlace) (h : DataW.trod enc Tryz.prog w base spare held n 91 cs = some y) : DecR w encCell (fun _ => True) cs := by
  obtain ⟨ys, n', _, _, _, hlen, hf⟩ := DataW.trod_struct Tryz.underlying91 h
  have hlen' : ys.length = 9 := hlen
  obtain ⟨z0, e0⟩ : ∃ z, ys[0]? = some z := ⟨ys[0]'(by omega), List.getElem?_eq_getElem _⟩
  obtain ⟨k0, g0⟩ := fieldI ((hf 0 _ rfl).trans e0)
  obtain ⟨z1, e1⟩ : ∃ z, ys[1]? = some z := ⟨ys[1]'(by omega), List.getElem?_eq_getElem _⟩
  obtain ⟨k1, g1⟩ := fieldI ((hf 1 _ rfl).trans e1)
  obtain ⟨z2, e2⟩ : ∃ z, ys[2]? = some z := ⟨ys[2]'(by omega), List.getElem?_eq_getElem _⟩
  obtain ⟨k2, g2⟩ := fieldI ((hf 2 _ rfl).trans e2)
  obtain ⟨z3, e3⟩ : ∃ z, ys[3]? = some z := ⟨ys[3]'(by omega), List.getElem?_eq_getElem _⟩
  obtain ⟨k3, g3⟩ := fieldI ((hf 3 _ rfl).trans e3)
  obtain ⟨z4, e4⟩ : ∃ z, ys[4]? = some z := ⟨ys[4]'(by omega), List.getElem?_eq_getElem _⟩
  obtain ⟨k4, g4⟩ := fieldI ((hf 4 _ rfl).trans e4)
  obtain ⟨z5, e5⟩ : ∃ z, ys[5]? = some z := ⟨ys[5]'(by omega), List.getElem?_eq_getElem _⟩
  obtain ⟨k5, g5⟩ := fieldI ((hf 5 _ rfl).trans e5)
  obtain ⟨z6, e6⟩ : ∃ z, ys[6]? = some z := ⟨ys[6]'(by omega), List.getElem?_eq_getElem _⟩
  obtain ⟨k6, g6⟩ := fieldI ((hf 6 _ rfl).trans e6)
  obtain ⟨z7, e7⟩ : ∃ z, ys[7]? = some z := ⟨ys[7]'(by omega), List.getElem?_eq_getElem _⟩
  obtain ⟨k7, g7⟩ := fieldI ((hf 7 _ rfl).trans e7)
  obtain ⟨z8, e8⟩ : ∃ z, ys[8]? = some z := ⟨ys[8]'(by omega), List.getElem?_eq_getElem _⟩
  obtain ⟨k8, g8⟩ := fieldI ((hf 8 _ rfl).trans e8)
  refine ⟨⟨k0, k1, k2, k3, k4, k5, k6, k7, k8⟩, trivial, fun j d hd => ?_⟩
  simp only [encCell] at hd
  match j with
  | 0 => cases hd; exact ⟨_, g0, .int⟩
  | 1 => cases hd; exact ⟨_, g1, .int⟩
  | 2 => cases hd; exact ⟨_, g2, .int⟩
  | 3 => cases hd; exact ⟨_, g3, .int⟩
  | 4 => cases hd; exact ⟨_, g4, .int⟩
  | 5 => cases hd; exact ⟨_, g5, .int⟩
  | 6 => cases hd; exact ⟨_, g6, .int⟩
  | 7 => cases hd; exact ⟨_, g7, .int⟩
  | 8 => cases hd; exact ⟨_, g8, .int⟩
  | n + 9 => simp at hd

theorem decPlace (n : Nat) (cs : List Value) (y : DataW H × List MemPlace) (h : DataW.trod enc Tryz.prog w base spare held n 92 cs = some y) : DecR w encPlace (fun _ => True) cs := by
  obtain ⟨ys, n', _, _, _, hlen, hf⟩ := DataW.trod_struct Tryz.underlying92 h
  have hlen' : ys.length = 9 := hlen
  obtain ⟨z0, e0⟩ : ∃ z, ys[0]? = some z := ⟨ys[0]'(by omega), List.getElem?_eq_getElem _⟩
  obtain ⟨k0, g0⟩ := fieldI ((hf 0 _ rfl).trans e0)
  obtain ⟨z1, e1⟩ : ∃ z, ys[1]? = some z := ⟨ys[1]'(by omega), List.getElem?_eq_getElem _⟩
  obtain ⟨k1, g1⟩ := fieldI ((hf 1 _ rfl).trans e1)
  obtain ⟨z2, e2⟩ : ∃ z, ys[2]? = some z := ⟨ys[2]'(by omega), List.getElem?_eq_getElem _⟩
  obtain ⟨k2, g2⟩ := fieldI ((hf 2 _ rfl).trans e2)
  obtain ⟨z3, e3⟩ : ∃ z, ys[3]? = some z := ⟨ys[3]'(by omega), List.getElem?_eq_getElem _⟩
  obtain ⟨k3, g3⟩ := fieldI ((hf 3 _ rfl).trans e3)
  obtain ⟨z4, e4⟩ : ∃ z, ys[4]? = some z := ⟨ys[4]'(by omega), List.getElem?_eq_getElem _⟩
  obtain ⟨k4, g4⟩ := fieldI ((hf 4 _ rfl).trans e4)
  obtain ⟨z5, e5⟩ : ∃ z, ys[5]? = some z := ⟨ys[5]'(by omega), List.getElem?_eq_getElem _⟩
  obtain ⟨k5, g5⟩ := fieldI ((hf 5 _ rfl).trans e5)
  obtain ⟨z6, e6⟩ : ∃ z, ys[6]? = some z := ⟨ys[6]'(by omega), List.getElem?_eq_getElem _⟩
  obtain ⟨k6, g6⟩ := fieldI ((hf 6 _ rfl).trans e6)
  obtain ⟨z7, e7⟩ : ∃ z, ys[7]? = some z := ⟨ys[7]'(by omega), List.getElem?_eq_getElem _⟩
  obtain ⟨k7, g7⟩ := fieldI ((hf 7 _ rfl).trans e7)
  obtain ⟨z8, e8⟩ : ∃ z, ys[8]? = some z := ⟨ys[8]'(by omega), List.getElem?_eq_getElem _⟩
  obtain ⟨k8, g8⟩ := fieldI ((hf 8 _ rfl).trans e8)
  refine ⟨⟨k0, k1, k2, k3, k4, k5, k6, k7, k8⟩, trivial, fun j d hd => ?_⟩
  simp only [encPlace] at hd
  match j with
  | 0 => cases hd; exact ⟨_, g0, .int⟩
  | 1 => cases hd; exact ⟨_, g1, .int⟩
  | 2 => cases hd; exact ⟨_, g2, .int⟩
  | 3 => cases hd; exact ⟨_, g3, .int⟩
  | 4 => cases hd; exact ⟨_, g4, .int⟩
  | 5 => cases hd; exact ⟨_, g5, .int⟩
  | 6 => cases hd; exact ⟨_, g6, .int⟩
  | 7 => cases hd; exact ⟨_, g7, .int⟩
  | 8 => cases hd; exact ⟨_, g8, .int⟩
  | n + 9 => simp at hd

theorem sub_at {cs : List Value} {o m j : Nat} {u : Value} (h : ((cs.drop o).take m)[j]? = some u) : cs[o + j]? = some u := by
  rw [List.getElem?_take] at h
  split at h
  · rwa [List.getElem?_drop] at h
  · cases h
abbrev Tree := List Node
def okNode (n : Node) : Prop := n.cols.length ≤ maxLen ∧ n.rows.length ≤ maxLen
def okTree (t : List Node) : Prop := t.length ≤ maxLen ∧ ∀ n ∈ t, okNode n

set_option maxRecDepth 8000 in
theorem decNode (n : Nat) (cs : List Value) (y : DataW H × List MemPlace) (h : DataW.trod enc Tryz.prog w base spare held n 94 cs = some y) : DecR w encNode okNode cs := by
  obtain ⟨ys, n', _, _, _, hlen, hf⟩ := DataW.trod_struct Tryz.underlying94 h
  have hlen' : ys.length = 10 := hlen
  obtain ⟨z0, e0⟩ : ∃ z, ys[0]? = some z := ⟨ys[0]'(by omega), List.getElem?_eq_getElem _⟩
  obtain ⟨k0, g0⟩ := fieldI ((hf 0 _ rfl).trans e0)
  obtain ⟨z1, e1⟩ : ∃ z, ys[1]? = some z := ⟨ys[1]'(by omega), List.getElem?_eq_getElem _⟩
  obtain ⟨k1, g1⟩ := fieldI ((hf 1 _ rfl).trans e1)
  obtain ⟨z2, e2⟩ : ∃ z, ys[2]? = some z := ⟨ys[2]'(by omega), List.getElem?_eq_getElem _⟩
  obtain ⟨k2, g2⟩ := fieldI ((hf 2 _ rfl).trans e2)
  obtain ⟨z3, e3⟩ : ∃ z, ys[3]? = some z := ⟨ys[3]'(by omega), List.getElem?_eq_getElem _⟩
  obtain ⟨k3, g3⟩ := fieldB ((hf 3 _ rfl).trans e3)
  obtain ⟨z4, e4⟩ : ∃ z, ys[4]? = some z := ⟨ys[4]'(by omega), List.getElem?_eq_getElem _⟩
  obtain ⟨k4, g4⟩ := fieldI ((hf 4 _ rfl).trans e4)
  obtain ⟨z5, e5⟩ : ∃ z, ys[5]? = some z := ⟨ys[5]'(by omega), List.getElem?_eq_getElem _⟩
  obtain ⟨u5, k5, g5, r5, l5⟩ := fieldL (nf := 2) (t := 89) Tryz.underlying89 (by kernel_rfl) (by kernel_rfl) (by omega) (fun _ => rfl) decLine ((hf 5 _ rfl).trans e5)
  obtain ⟨z6, e6⟩ : ∃ z, ys[6]? = some z := ⟨ys[6]'(by omega), List.getElem?_eq_getElem _⟩
  obtain ⟨u6, k6, g6, r6, l6⟩ := fieldL (nf := 2) (t := 89) Tryz.underlying89 (by kernel_rfl) (by kernel_rfl) (by omega) (fun _ => rfl) decLine ((hf 6 _ rfl).trans e6)
  obtain ⟨z7, e7⟩ : ∃ z, ys[7]? = some z := ⟨ys[7]'(by omega), List.getElem?_eq_getElem _⟩
  obtain ⟨p7, _, q7⟩ := decPack _ _ _ ((hf 7 _ rfl).trans e7)
  obtain ⟨z8, e8⟩ : ∃ z, ys[8]? = some z := ⟨ys[8]'(by omega), List.getElem?_eq_getElem _⟩
  obtain ⟨p8, _, q8⟩ := decCell _ _ _ ((hf 8 _ rfl).trans e8)
  obtain ⟨z9, e9⟩ : ∃ z, ys[9]? = some z := ⟨ys[9]'(by omega), List.getElem?_eq_getElem _⟩
  obtain ⟨p9, _, q9⟩ := decPlace _ _ _ ((hf 9 _ rfl).trans e9)
  refine ⟨⟨k0, k1, k2, k3, k4, k5, k6, p7, p8, p9⟩, ⟨l5, l6⟩, fun j d hd => ?_⟩
  simp only [encNode] at hd
  match j with
  | 0 => cases hd; exact ⟨_, g0, .int⟩
  | 1 => cases hd; exact ⟨_, g1, .int⟩
  | 2 => cases hd; exact ⟨_, g2, .int⟩
  | 3 => cases hd; exact ⟨_, g3, .bool⟩
  | 4 => cases hd; exact ⟨_, g4, .int⟩
  | 5 => cases hd; exact ⟨_, g5, r5⟩
  | 6 => cases hd; exact ⟨_, g6, r6⟩
  | 7 => cases hd; obtain ⟨u, a, b⟩ := q7 0 _ rfl; exact ⟨u, sub_at (o := 7) (j := 0) a, b⟩
  | 8 => cases hd; obtain ⟨u, a, b⟩ := q7 1 _ rfl; exact ⟨u, sub_at (o := 7) (j := 1) a, b⟩
  | 9 => cases hd; obtain ⟨u, a, b⟩ := q7 2 _ rfl; exact ⟨u, sub_at (o := 7) (j := 2) a, b⟩
  | 10 => cases hd; obtain ⟨u, a, b⟩ := q7 3 _ rfl; exact ⟨u, sub_at (o := 7) (j := 3) a, b⟩
  | 11 => cases hd; obtain ⟨u, a, b⟩ := q7 4 _ rfl; exact ⟨u, sub_at (o := 7) (j := 4) a, b⟩
  | 12 => cases hd; obtain ⟨u, a, b⟩ := q7 5 _ rfl; exact ⟨u, sub_at (o := 7) (j := 5) a, b⟩
  | 13 => cases hd; obtain ⟨u, a, b⟩ := q7 6 _ rfl; exact ⟨u, sub_at (o := 7) (j := 6) a, b⟩
  | 14 => cases hd; obtain ⟨u, a, b⟩ := q7 7 _ rfl; exact ⟨u, sub_at (o := 7) (j := 7) a, b⟩
  | 15 => cases hd; obtain ⟨u, a, b⟩ := q7 8 _ rfl; exact ⟨u, sub_at (o := 7) (j := 8) a, b⟩
  | 16 => cases hd; obtain ⟨u, a, b⟩ := q8 0 _ rfl; exact ⟨u, sub_at (o := 16) (j := 0) a, b⟩
  | 17 => cases hd; obtain ⟨u, a, b⟩ := q8 1 _ rfl; exact ⟨u, sub_at (o := 16) (j := 1) a, b⟩
  | 18 => cases hd; obtain ⟨u, a, b⟩ := q8 2 _ rfl; exact ⟨u, sub_at (o := 16) (j := 2) a, b⟩
  | 19 => cases hd; obtain ⟨u, a, b⟩ := q8 3 _ rfl; exact ⟨u, sub_at (o := 16) (j := 3) a, b⟩
  | 20 => cases hd; obtain ⟨u, a, b⟩ := q8 4 _ rfl; exact ⟨u, sub_at (o := 16) (j := 4) a, b⟩
  | 21 => cases hd; obtain ⟨u, a, b⟩ := q8 5 _ rfl; exact ⟨u, sub_at (o := 16) (j := 5) a, b⟩
  | 22 => cases hd; obtain ⟨u, a, b⟩ := q8 6 _ rfl; exact ⟨u, sub_at (o := 16) (j := 6) a, b⟩
  | 23 => cases hd; obtain ⟨u, a, b⟩ := q8 7 _ rfl; exact ⟨u, sub_at (o := 16) (j := 7) a, b⟩
  | 24 => cases hd; obtain ⟨u, a, b⟩ := q8 8 _ rfl; exact ⟨u, sub_at (o := 16) (j := 8) a, b⟩
  | 25 => cases hd; obtain ⟨u, a, b⟩ := q9 0 _ rfl; exact ⟨u, sub_at (o := 25) (j := 0) a, b⟩
  | 26 => cases hd; obtain ⟨u, a, b⟩ := q9 1 _ rfl; exact ⟨u, sub_at (o := 25) (j := 1) a, b⟩
  | 27 => cases hd; obtain ⟨u, a, b⟩ := q9 2 _ rfl; exact ⟨u, sub_at (o := 25) (j := 2) a, b⟩
  | 28 => cases hd; obtain ⟨u, a, b⟩ := q9 3 _ rfl; exact ⟨u, sub_at (o := 25) (j := 3) a, b⟩
  | 29 => cases hd; obtain ⟨u, a, b⟩ := q9 4 _ rfl; exact ⟨u, sub_at (o := 25) (j := 4) a, b⟩
  | 30 => cases hd; obtain ⟨u, a, b⟩ := q9 5 _ rfl; exact ⟨u, sub_at (o := 25) (j := 5) a, b⟩
  | 31 => cases hd; obtain ⟨u, a, b⟩ := q9 6 _ rfl; exact ⟨u, sub_at (o := 25) (j := 6) a, b⟩
  | 32 => cases hd; obtain ⟨u, a, b⟩ := q9 7 _ rfl; exact ⟨u, sub_at (o := 25) (j := 7) a, b⟩
  | 33 => cases hd; obtain ⟨u, a, b⟩ := q9 8 _ rfl; exact ⟨u, sub_at (o := 25) (j := 8) a, b⟩
  | n + 34 => simp at hd

/-- A node with slices of a machine's length. -/
def ONode : Type := { n : Node // okNode n }
set_option maxRecDepth 8000 in
theorem decTree (n : Nat) (cs : List Value) (y : DataW H × List MemPlace) (h : DataW.trod enc Tryz.prog w base spare held n 24 cs = some y) : DecR w encTree okTree cs := by
  obtain ⟨ys, n', _, _, _, hlen, hf⟩ := DataW.trod_struct Tryz.underlying24 h
  have hlen' : ys.length = 1 := hlen
  obtain ⟨z0, e0⟩ : ∃ z, ys[0]? = some z := ⟨ys[0]'(by omega), List.getElem?_eq_getElem _⟩
  obtain ⟨u0, k0, g0, r0, l0⟩ := fieldL (α := ONode) (encR := fun p => encNode p.1) (nf := 34) (t := 22) Tryz.underlying22 (by kernel_rfl) (by kernel_rfl) (by omega) (fun _ => rfl) (fun n cs y hy => by
    obtain ⟨p, ho, hp⟩ := decNode n cs y hy
    exact ⟨⟨p, ho⟩, trivial, hp⟩) ((hf 0 _ rfl).trans e0)
  have em : k0.map (fun p : ONode => encNode p.1) = (k0.map fun p : ONode => p.1).map encNode := by rw [List.map_map]; rfl
  rw [em] at r0
  refine ⟨k0.map fun p : ONode => p.1, ⟨by rw [List.length_map]; exact l0, fun x hx => ?_⟩, fun j d hd => ?_⟩
  · obtain ⟨p, _, rfl⟩ := List.mem_map.1 hx
    exact p.2
  simp only [encTree] at hd
  match j with
  | 0 => cases hd; exact ⟨_, g0, r0⟩
  | n + 1 => simp at hd
end
end Go.Proofs.YtpfhnhhkfobjnaaGreat

namespace Go.Proofs.YtpfhnhhkfobjnaaGreat
open Go.Fw
attribute [local irreducible] Go.Fw.aops Go.Fw.arun

theorem c_share (xs : List Pack) (room : Int) (d : Bool) (hr : 0 ≤ room ∧ room ≤ 4194304) (hl : xs.length ≤ 10) (hv : xs.all packB = true) (h0 : ∃ p, xs.head? = some p ∧ p.expand = true ∧ down p = d) :
    ACon Tryz.prog 150 [.d (.lst (xs.map encPack)), .d (.int .i64 room), .d (.bool d)] [] (Is (.d (.int .i64 (share xs room d)))) := by
  have h0' : ∀ p, xs.head? = some p → p.expand = true ∧ down p = d := fun p hp => by
    obtain ⟨q, h1, h2⟩ := h0
    rw [h1] at hp; cases hp; exact h2
  have hinv := fun k hk => shAll_inv hr hv h0' k hk
  refine ACon.introW tok (nt := 67) Tryz.func150 rfl rfl rfl (by kernel_rfl) rfl ?_
  repeat' (first | ((with_reducible apply xsim); (first | ((with_reducible apply xo); exact rfl) | with_reducible apply xend)) | ((with_reducible apply xaw); (first | ((with_reducible apply xstepS); refine AW.step tok rfl ?_) | with_reducible (first | refine AW.seq ?_ | refine AW.block ?_))) | with_reducible exact trivial)
  refine AW.loop (S := fun k : Nat => ⟨[(0, .d (.lst (xs.map encPack))), (1, .d (.int .i64 (shAll d room (xs.take k)).2.2)), (2, .d (.bool d)), (7, .d (.int .i64 (shAll d room (xs.take k)).1)), (8, .d (.int .i64 (shAll d room (xs.take k)).2.1)),
      (9, .d (.int .i64 k))], [], 67, 0⟩)
    (Pre := fun k => k ≤ xs.length) (μ := fun k => xs.length - k) 0 (Nat.zero_le _) ?_ ?_
  · (refine xwk (π := []) (by decide) rfl ?_ ?_; (first | exact trivial); repeat' (first | exact renE_n | ((with_reducible apply renE_c); exact rfl; focus (first | (simp -implicitDefEqProofs only [go_sem, List.length_map, shAll, List.foldl_nil]; done)))))
  · intro k hk
    have i1 := hinv k hk
    by_cases hlt : k < xs.length
    · have hrow := at_map (f := encPack) hlt
      have hn := need_le (d := d) (all_at hv hlt)
      have hst := shAll_take (d := d) (room := room) hlt
      have hdiv := div_bd (a := max ((shAll d room (xs.take k)).2.2 - need xs[k] d) 0) (m := (shAll d room (xs.take k)).2.1) (by omega)
      have hpos : ¬ down xs[k] = d ∨ ¬ xs[k].expand = true → 1 ≤ (shAll d room (xs.take k)).2.1 := by
        intro h
        rcases Nat.eq_zero_or_pos k with e | e
        · subst e
          have := h0' xs[0] (by rw [List.head?_eq_getElem?]; exact List.getElem?_eq_getElem hlt)
          exact absurd this (by rintro ⟨h1, h2⟩; rcases h with h | h; exact h h2; exact h h1)
        · exact i1.2.2.2.2.1 e
      have hdn : decide (xs[k].side = 0 ∨ xs[k].side = 1) = down xs[k] := rfl
      have hneT : d = true → needH xs[k] = need xs[k] d := fun h => by subst h; rfl
      have hneF : d = false → needW xs[k] = need xs[k] d := fun h => by subst h; rfl
      cases d
      · have hne := hneF rfl
        by_cases hd : down xs[k] = false
        · have hd' : (down xs[k] == false) = true := by simp [hd]
          repeat' (first | ((with_reducible apply xsim); (first | ((with_reducible apply xlenM); exact rfl; exact rfl) | ((with_reducible apply xo); exact rfl) | with_reducible apply xend | ((with_reducible apply xidxL); exact rfl; exact rfl; exact rfl; (first | exact hrow); omega; first | exact rfl | simp only [hsz]) | ((with_reducible apply xcallIs); exact rfl; exact rfl; (first | exact c_outer xs[k] (all_at hv hlt) | exact c_upright xs[k].side); exact rfl))) | ((with_reducible apply xaw); (first | ((with_reducible apply xstepS); refine AW.step tok rfl ?_) | ((with_reducible apply xstep); refine AW.region tok rfl ?_) | with_reducible (first | refine AW.seq ?_ | refine AW.block ?_ | refine AW.skip ?_) | ((with_reducible apply xcond); exact rfl))) | with_reducible (first | refine xthen ?_ | refine xblock ?_) | (with_reducible intro hc; (try simp only [hcL, reduceCtorEq, List.length_map, hdn, hd'] at hc); (try (exfalso; omega))) | with_reducible (first | exact trivial | refine And.intro ?_ ?_ | exact rfl) | exact Eq.refl true | (refine inR_i64.mpr ?_; first | omega | (simp only [List.length_map, List.length_map, hdn, hd']; omega)))
          · refine round_end (k+1) hlt (by omega) (by (refine xwk (π := []) (by decide) rfl ?_ ?_; (first | exact trivial); repeat' (first | exact renE_n | ((with_reducible apply renE_c); exact rfl; focus (first | (simp -implicitDefEqProofs only [go_sem, hst, shStep, if_pos hd, if_pos hc, hne]; done))))))
          · refine round_end (k+1) hlt (by omega) (by (refine xwk (π := []) (by decide) rfl ?_ ?_; (first | exact trivial); repeat' (first | exact renE_n | ((with_reducible apply renE_c); exact rfl; focus (first | (simp -implicitDefEqProofs only [go_sem, hst, shStep, if_pos hd, hc, Int.add_zero, hne]; done))))))
        · have hd' : (down xs[k] == false) = false := by simp [hd]
          have hp1 := hpos (.inl hd)
          repeat' (first | ((with_reducible apply xsim); (first | ((with_reducible apply xlenM); exact rfl; exact rfl) | ((with_reducible apply xo); exact rfl) | with_reducible apply xend | ((with_reducible apply xidxL); exact rfl; exact rfl; exact rfl; (first | exact hrow); omega; first | exact rfl | simp only [hsz]) | ((with_reducible apply xcallIs); exact rfl; exact rfl; (first | exact c_outer xs[k] (all_at hv hlt) | exact c_upright xs[k].side | exact c_half _ _ (by omega) (by omega)); exact rfl))) | ((with_reducible apply xaw); (first | ((with_reducible apply xstepS); refine AW.step tok rfl ?_) | ((with_reducible apply xstep); refine AW.region tok rfl ?_) | with_reducible (first | refine AW.seq ?_ | refine AW.block ?_ | refine AW.skip ?_) | ((with_reducible apply xcond); exact rfl))) | with_reducible (first | refine xthen ?_ | refine xblock ?_) | (with_reducible intro hc; (try simp only [hcL, reduceCtorEq, List.length_map, hdn, hd'] at hc); (try (exfalso; omega))) | with_reducible (first | exact trivial | refine And.intro ?_ ?_ | exact rfl) | exact Eq.refl true | (refine inR_i64.mpr ?_; first | omega | (simp only [List.length_map, List.length_map, hdn, hd']; omega)))
          refine round_end (k+1) hlt (by omega) (by (refine xwk (π := []) (by decide) rfl ?_ ?_; (first | exact trivial); repeat' (first | exact renE_n | ((with_reducible apply renE_c); exact rfl; focus (first | (simp -implicitDefEqProofs only [go_sem, hst, shStep, if_neg hd, hne]; done))))))
      · have hne := hneT rfl
        by_cases hd : down xs[k] = true
        · have hd' : (down xs[k] == true) = true := by simp [hd]
          repeat' (first | ((with_reducible apply xsim); (first | ((with_reducible apply xlenM); exact rfl; exact rfl) | ((with_reducible apply xo); exact rfl) | with_reducible apply xend | ((with_reducible apply xidxL); exact rfl; exact rfl; exact rfl; (first | exact hrow); omega; first | exact rfl | simp only [hsz]) | ((with_reducible apply xcallIs); exact rfl; exact rfl; (first | exact c_outer xs[k] (all_at hv hlt) | exact c_upright xs[k].side); exact rfl))) | ((with_reducible apply xaw); (first | ((with_reducible apply xstepS); refine AW.step tok rfl ?_) | ((with_reducible apply xstep); refine AW.region tok rfl ?_) | with_reducible (first | refine AW.seq ?_ | refine AW.block ?_ | refine AW.skip ?_) | ((with_reducible apply xcond); exact rfl))) | with_reducible (first | refine xthen ?_ | refine xblock ?_) | (with_reducible intro hc; (try simp only [hcL, reduceCtorEq, List.length_map, hdn, hd'] at hc); (try (exfalso; omega))) | with_reducible (first | exact trivial | refine And.intro ?_ ?_ | exact rfl) | exact Eq.refl true | (refine inR_i64.mpr ?_; first | omega | (simp only [List.length_map, List.length_map, hdn, hd']; omega)))
          · refine round_end (k+1) hlt (by omega) (by (refine xwk (π := []) (by decide) rfl ?_ ?_; (first | exact trivial); repeat' (first | exact renE_n | ((with_reducible apply renE_c); exact rfl; focus (first | (simp -implicitDefEqProofs only [go_sem, hst, shStep, if_pos hd, if_pos hc, hne]; done))))))
          · refine round_end (k+1) hlt (by omega) (by (refine xwk (π := []) (by decide) rfl ?_ ?_; (first | exact trivial); repeat' (first | exact renE_n | ((with_reducible apply renE_c); exact rfl; focus (first | (simp -implicitDefEqProofs only [go_sem, hst, shStep, if_pos hd, hc, Int.add_zero, hne]; done))))))
        · have hd' : (down xs[k] == true) = false := by simp [hd]
          have hp1 := hpos (.inl hd)
          repeat' (first | ((with_reducible apply xsim); (first | ((with_reducible apply xlenM); exact rfl; exact rfl) | ((with_reducible apply xo); exact rfl) | with_reducible apply xend | ((with_reducible apply xidxL); exact rfl; exact rfl; exact rfl; (first | exact hrow); omega; first | exact rfl | simp only [hsz]) | ((with_reducible apply xcallIs); exact rfl; exact rfl; (first | exact c_outer xs[k] (all_at hv hlt) | exact c_upright xs[k].side | exact c_half _ _ (by omega) (by omega)); exact rfl))) | ((with_reducible apply xaw); (first | ((with_reducible apply xstepS); refine AW.step tok rfl ?_) | ((with_reducible apply xstep); refine AW.region tok rfl ?_) | with_reducible (first | refine AW.seq ?_ | refine AW.block ?_ | refine AW.skip ?_) | ((with_reducible apply xcond); exact rfl))) | with_reducible (first | refine xthen ?_ | refine xblock ?_) | (with_reducible intro hc; (try simp only [hcL, reduceCtorEq, List.length_map, hdn, hd'] at hc); (try (exfalso; omega))) | with_reducible (first | exact trivial | refine And.intro ?_ ?_ | exact rfl) | exact Eq.refl true | (refine inR_i64.mpr ?_; first | omega | (simp only [List.length_map, List.length_map, hdn, hd']; omega)))
          refine round_end (k+1) hlt (by omega) (by (refine xwk (π := []) (by decide) rfl ?_ ?_; (first | exact trivial); repeat' (first | exact renE_n | ((with_reducible apply renE_c); exact rfl; focus (first | (simp -implicitDefEqProofs only [go_sem, hst, shStep, if_neg hd, hne]; done))))))
    · have hk' : xs.take k = xs := List.take_of_length_le (by omega)
      have hpos : 0 < k := by
        obtain ⟨p, h1, _⟩ := h0
        cases xs with
        | nil => cases h1
        | cons => simp at hlt; omega
      have hp1 := i1.2.2.2.2.1 hpos
      have hdiv := div_bd (a := max (shAll d room (xs.take k)).2.2 0) (m := (shAll d room (xs.take k)).2.1) (by omega)
      repeat' (first | ((with_reducible apply xsim); (first | ((with_reducible apply xlenM); exact rfl; exact rfl) | ((with_reducible apply xo); exact rfl) | with_reducible apply xend | ((with_reducible apply xcallIs); exact rfl; exact rfl; exact c_half _ _ (by omega) (by omega); exact rfl))) | ((with_reducible apply xaw); (first | ((with_reducible apply xstepS); refine AW.step tok rfl ?_) | ((with_reducible apply xstep); refine AW.region tok rfl ?_) | with_reducible (first | refine AW.seq ?_ | refine AW.ret ?_ | refine AW.exit ?_) | ((with_reducible apply xcond); exact rfl))) | with_reducible (first | refine xthen ?_ | refine xthen_e ?_ | refine xblock_e ?_ | refine xround_e ?_) | (with_reducible intro hc; (try simp only [hcL, reduceCtorEq, List.length_map] at hc); (try (exfalso; omega))) | with_reducible (first | exact trivial | refine And.intro ?_ ?_ | exact rfl))
      have e : max (min (shAll d room (xs.take k)).1 ((max (shAll d room (xs.take k)).2.2 0).tdiv (shAll d room (xs.take k)).2.1)) 0 = share xs room d := by
        rw [hk'] at hdiv i1 hp1 ⊢
        unfold share
        omega
      (refine xfinIs (by first | exact .inl rfl | exact .inr rfl) rfl (by repeat' (first | exact trivial | exact rfl | refine And.intro ?_ ?_)) rfl ?_ rfl; first | (simp -implicitDefEqProofs only [go_sem, e] <;> (first | rfl | omega | exact decide_eq_decide.2 (by omega) | exact decide_eq_false (by omega) | exact decide_eq_true (by omega) | (symm; first | exact decide_eq_false (by omega) | exact decide_eq_true (by omega)) | (rw [Bool.eq_iff_iff]; simp only [boL, reduceCtorEq]; omega))))
end Go.Proofs.YtpfhnhhkfobjnaaGreat

namespace Go.Proofs.YtpfhnhhkfobjnaaGreat
open Go.Fw

/-- Rows of which the first ones are done. -/
def mix {α : Type} (ys zs : List α) (k : Nat) : List α := ys.take k ++ zs.drop k
theorem mix_len {α : Type} {ys zs : List α} {k : Nat} (h : ys.length = zs.length) (hk : k ≤ ys.length) : (mix ys zs k).length = zs.length := by
  simp [mix]; omega
theorem mix_at {α : Type} {ys zs : List α} {k : Nat} (h : ys.length = zs.length) (hk : k < zs.length) : (mix ys zs k)[k]? = some zs[k] := by
  unfold mix
  rw [List.getElem?_append_right (by simp; omega)]
  simp only [List.length_take]
  rw [show k - min k ys.length = 0 by omega, List.getElem?_drop, Nat.add_zero, List.getElem?_eq_getElem hk]
theorem mix_set {α : Type} {ys zs : List α} {k : Nat} (h : ys.length = zs.length) (hk : k < ys.length) : (mix ys zs k).set k ys[k] = mix ys zs (k + 1) := by
  unfold mix
  rw [List.set_append_right _ _ (by simp; omega)]
  simp only [List.length_take]
  rw [show k - min k ys.length = 0 by omega, List.drop_eq_getElem_cons (show k < zs.length by omega), List.set_cons_zero, List.take_succ_eq_append_getElem hk, List.append_assoc]
  rfl
theorem mixmap_at {α β : Type} {f : α → β} {ys zs : List α} {k : Nat} (h : ys.length = zs.length) (hk : k < zs.length) : ((mix ys zs k).map f)[k]? = some (f zs[k]) := by
  rw [List.getElem?_map, mix_at h hk, Option.map_some]
theorem mixmap_set {α β : Type} {f : α → β} {ys zs : List α} {k : Nat} (h : ys.length = zs.length) (hk : k < ys.length) : ((mix ys zs k).map f).set k (f ys[k]) = (mix ys zs (k + 1)).map f := by
  rw [← List.map_set, mix_set h hk]
theorem mix_all {α : Type} {ys zs : List α} (h : ys.length = zs.length) : mix ys zs ys.length = ys := by unfold mix; rw [List.take_length, h, List.drop_length, List.append_nil]
theorem mix_zero {α : Type} {ys zs : List α} : mix ys zs 0 = zs := by simp [mix]

end Go.Proofs.YtpfhnhhkfobjnaaGreat

namespace Go.Proofs.YtpfhnhhkfobjnaaGreat
open Go.Fw
attribute [local irreducible] Go.Fw.aops Go.Fw.arun

structure Rect where
  x : Int
  y : Int
  w : Int
  h : Int
@[go_sem] def encRect (r : Rect) : List D := [.int .i64 r.x, .int .i64 r.y, .int .i64 r.w, .int .i64 r.h]
@[go_sem] def vRect (r : Rect) : V := .agg ((encRect r).map .d)

/-- The numbers are small. -/
structure RectSm (r : Rect) : Prop where
  x : -2^40 < r.x ∧ r.x < 2^40
  y : -2^40 < r.y ∧ r.y < 2^40
  w : -2^40 < r.w ∧ r.w < 2^40
  h : -2^40 < r.h ∧ r.h < 2^40

/-- A rectangle in the room. -/
structure RectIn (r : Rect) : Prop where
  x : -1048576 ≤ r.x
  y : -1048576 ≤ r.y
  w : 0 ≤ r.w
  h : 0 ≤ r.h
  xw : r.x + r.w ≤ 1048576
  yh : r.y + r.h ≤ 1048576
theorem RectIn.sm {r : Rect} (h : RectIn r) : RectSm r := by
  obtain ⟨h1, h2, h3, h4, h5, h6⟩ := h
  constructor <;> omega

def roomOk (w h : Int) : Bool := decide (0 ≤ w ∧ w ≤ 400 ∧ 0 ≤ h ∧ h ≤ 400)
theorem roomOk_iff {w h : Int} (hr : roomOk w h = true) : 0 ≤ w ∧ w ≤ 400 ∧ 0 ≤ h ∧ h ≤ 400 := by simpa [roomOk] using hr
theorem c_sizeOk (w h : Int) : ACon Tryz.prog 48 [.d (.int .i64 w), .d (.int .i64 h)] [] (Is (.d (.bool (roomOk w h)))) := by
  refine ACon.introW tok (nt := 11) Tryz.func48 rfl rfl rfl (by kernel_rfl) rfl ?_
  repeat' (first | ((with_reducible apply xsim); (first | ((with_reducible apply xo); exact rfl) | with_reducible apply xend | ((with_reducible apply xguardS); exact rfl; exact rfl) | ((with_reducible apply xcallIs); exact rfl; exact rfl; exact c_within _ _ _; exact rfl))) | ((with_reducible apply xaw); (first | ((with_reducible apply xstepS); refine AW.step tok rfl ?_) | with_reducible refine AW.ret ?_)) | (with_reducible intro hc; (try simp only [hcL, reduceCtorEq] at hc); (try (exfalso; omega))) | with_reducible exact trivial)
  all_goals (refine xfinIs (by first | exact .inl rfl | exact .inr rfl) rfl (by repeat' (first | exact trivial | exact rfl | refine And.intro ?_ ?_)) rfl ?_ rfl; first | (simp -implicitDefEqProofs only [go_sem, roomOk] <;> (first | rfl | omega | exact decide_eq_decide.2 (by omega) | exact decide_eq_false (by omega) | exact decide_eq_true (by omega) | (symm; first | exact decide_eq_false (by omega) | exact decide_eq_true (by omega)) | (rw [Bool.eq_iff_iff]; simp only [boL, reduceCtorEq]; omega))))
theorem c_goodRoom (w h : Int) : ACon Tryz.prog 43 [.d (.int .i64 w), .d (.int .i64 h)] [] (Is (.d (.bool (roomOk w h)))) := by
  refine ACon.introW tok (nt := 11) Tryz.func43 rfl rfl rfl (by kernel_rfl) rfl ?_
  repeat' (first | ((with_reducible apply xsim); (first | ((with_reducible apply xo); exact rfl) | with_reducible apply xend | ((with_reducible apply xguardS); exact rfl; exact rfl) | ((with_reducible apply xcallIs); exact rfl; exact rfl; exact c_inRange _ _ _; exact rfl))) | ((with_reducible apply xaw); (first | ((with_reducible apply xstepS); refine AW.step tok rfl ?_) | with_reducible refine AW.ret ?_)) | (with_reducible intro hc; (try simp only [hcL, reduceCtorEq] at hc); (try (exfalso; omega))) | with_reducible exact trivial)
  all_goals (refine xfinIs (by first | exact .inl rfl | exact .inr rfl) rfl (by repeat' (first | exact trivial | exact rfl | refine And.intro ?_ ?_)) rfl ?_ rfl; first | (simp -implicitDefEqProofs only [go_sem, roomOk] <;> (first | rfl | omega | exact decide_eq_decide.2 (by omega) | exact decide_eq_false (by omega) | exact decide_eq_true (by omega) | (symm; first | exact decide_eq_false (by omega) | exact decide_eq_true (by omega)) | (rw [Bool.eq_iff_iff]; simp only [boL, reduceCtorEq]; omega))))

def inset (r : Rect) (px py : Int) : Rect := ⟨r.x + min px (r.w.tdiv 2), r.y + min py (r.h.tdiv 2), max 0 (r.w - 2 * px), max 0 (r.h - 2 * py)⟩
theorem tdiv2 {n : Int} (h : 0 ≤ n) : 2 * n.tdiv 2 ≤ n ∧ n < 2 * n.tdiv 2 + 2 := by
  rw [Int.tdiv_eq_ediv_of_nonneg h]; omega
theorem c_insetI (r : Rect) (px py : Int) (hr : RectSm r) (h3 : 0 ≤ r.w) (h4 : 0 ≤ r.h) (hx : 0 ≤ px ∧ px ≤ 10) (hy : 0 ≤ py ∧ py ≤ 10) :
    ACon Tryz.prog 102 [vRect r, .d (.int .i64 px), .d (.int .i64 py)] [] (Is (vRect (inset r px py))) := by
  have ⟨h1, h2, g3, g4⟩ := hr
  have e1 := tdiv2 h3
  have e2 := tdiv2 h4
  refine ACon.introW tok (nt := 36) Tryz.func102 rfl rfl rfl (by kernel_rfl) rfl ?_
  repeat' (first | ((with_reducible apply xsim); (first | ((with_reducible apply xbld); exact rfl; exact rfl; exact rfl; (try simp only [List.set_cons_zero, List.set_cons_succ])) | ((with_reducible apply xo); exact rfl) | ((with_reducible apply xst); exact rfl) | with_reducible apply xend | ((with_reducible apply xalloc); exact rfl; simp only [bkL, Nat.reduceAdd, Nat.reduceSub]) | ((with_reducible apply xbox); exact rfl; simp only [bkL, Nat.reduceAdd, Nat.reduceSub]))) | ((with_reducible apply xaw); (first | ((with_reducible apply xstepS); refine AW.step tok rfl ?_) | with_reducible refine AW.ret ?_)) | with_reducible (first | exact trivial | refine And.intro ?_ ?_ | exact rfl) | exact Eq.refl true | (refine inR_i64.mpr ?_; first | omega | (simp only [List.length_map]; omega)) | omega)
  all_goals (refine xfinIs (by first | exact .inl rfl | exact .inr rfl) rfl (by repeat' (first | exact trivial | exact rfl | refine And.intro ?_ ?_)) rfl ?_ rfl; first | (simp -implicitDefEqProofs only [go_sem, inset, Int.max_comm] <;> (first | rfl | omega | exact decide_eq_decide.2 (by omega) | exact decide_eq_false (by omega) | exact decide_eq_true (by omega) | (symm; first | exact decide_eq_false (by omega) | exact decide_eq_true (by omega)) | (rw [Bool.eq_iff_iff]; simp only [boL, reduceCtorEq]; omega))))
theorem c_insetS (r : Rect) (px py : Int) (hr : RectSm r) (h3 : 0 ≤ r.w) (h4 : 0 ≤ r.h) (hx : 0 ≤ px ∧ px ≤ 10) (hy : 0 ≤ py ∧ py ≤ 10) :
    ACon Tryz.prog 133 [vRect r, .d (.int .i64 px), .d (.int .i64 py)] [] (Is (vRect (inset r px py))) := by
  have ⟨h1, h2, g3, g4⟩ := hr
  have e1 := tdiv2 h3
  have e2 := tdiv2 h4
  refine ACon.introW tok (nt := 36) Tryz.func133 rfl rfl rfl (by kernel_rfl) rfl ?_
  repeat' (first | ((with_reducible apply xsim); (first | ((with_reducible apply xbld); exact rfl; exact rfl; exact rfl; (try simp only [List.set_cons_zero, List.set_cons_succ])) | ((with_reducible apply xo); exact rfl) | ((with_reducible apply xst); exact rfl) | with_reducible apply xend | ((with_reducible apply xalloc); exact rfl; simp only [bkL, Nat.reduceAdd, Nat.reduceSub]) | ((with_reducible apply xbox); exact rfl; simp only [bkL, Nat.reduceAdd, Nat.reduceSub]))) | ((with_reducible apply xaw); (first | ((with_reducible apply xstepS); refine AW.step tok rfl ?_) | with_reducible refine AW.ret ?_)) | with_reducible (first | exact trivial | refine And.intro ?_ ?_ | exact rfl) | exact Eq.refl true | (refine inR_i64.mpr ?_; first | omega | (simp only [List.length_map]; omega)) | omega)
  all_goals (refine xfinIs (by first | exact .inl rfl | exact .inr rfl) rfl (by repeat' (first | exact trivial | exact rfl | refine And.intro ?_ ?_)) rfl ?_ rfl; first | (simp -implicitDefEqProofs only [go_sem, inset] <;> (first | rfl | omega | exact decide_eq_decide.2 (by omega) | exact decide_eq_false (by omega) | exact decide_eq_true (by omega) | (symm; first | exact decide_eq_false (by omega) | exact decide_eq_true (by omega)) | (rw [Bool.eq_iff_iff]; simp only [boL, reduceCtorEq]; omega))))

theorem c_eqRect (r : Rect) : ACon Tryz.prog 25 [vRect r, vRect r] [] (Is (.d (.bool true))) := by
  refine ACon.introW tok (nt := 25) Tryz.func25 rfl rfl rfl (by kernel_rfl) rfl ?_
  repeat' (first | ((with_reducible apply xsim); (first | ((with_reducible apply xo); exact rfl) | with_reducible apply xend | ((with_reducible apply xbox); exact rfl; simp only [bkL, Nat.reduceAdd, Nat.reduceSub]))) | ((with_reducible apply xaw); (first | ((with_reducible apply xstepS); refine AW.step tok rfl ?_) | with_reducible (first | refine AW.seq ?_ | refine AW.skip ?_ | refine AW.ret ?_) | ((with_reducible apply xcond); exact rfl))) | with_reducible refine xthen ?_ | (with_reducible intro hc; (try simp only [hcL, reduceCtorEq, ne_eq, not_true_eq_false, decide_false] at hc); (try (exfalso; omega))) | with_reducible (first | exact trivial | refine And.intro ?_ ?_ | exact rfl))
  all_goals (refine xfinIs (by first | exact .inl rfl | exact .inr rfl) rfl (by repeat' (first | exact trivial | exact rfl | refine And.intro ?_ ?_)) rfl ?_ rfl; first | with_reducible exact rfl)
theorem c_eqRectS (xs : List Rect) (hl : xs.length < 2^63) : ACon Tryz.prog 32 [.d (.lst (xs.map encRect)), .d (.lst (xs.map encRect))] [] (Is (.d (.bool true))) := by
  refine ACon.introW tok (nt := 27) Tryz.func32 rfl rfl rfl (by kernel_rfl) rfl ?_
  repeat' (first | ((with_reducible apply xsim); (first | ((with_reducible apply xlenM); exact rfl; exact rfl) | ((with_reducible apply xo); exact rfl) | with_reducible apply xend)) | ((with_reducible apply xaw); (first | ((with_reducible apply xstepS); refine AW.step tok rfl ?_) | with_reducible (first | refine AW.seq ?_ | refine AW.block ?_ | refine AW.skip ?_) | ((with_reducible apply xcond); exact rfl))) | with_reducible refine xthen ?_ | (with_reducible intro hc; (try simp only [hcL, reduceCtorEq, List.length_map] at hc); (try (exfalso; omega))) | with_reducible (first | exact trivial | refine And.intro ?_ ?_ | exact rfl))
  refine AW.loop (S := fun k : Nat => ⟨[(0, .d (.lst (xs.map encRect))), (1, .d (.lst (xs.map encRect))), (5, .d (.int .i64 k))], [], 27, .p 0⟩)
    (Pre := fun k => k ≤ xs.length) (μ := fun k => xs.length - k) 0 (Nat.zero_le _) ?_ ?_
  · (refine xwk (π := []) (by decide) rfl ?_ ?_; (first | exact trivial); repeat' (first | exact renE_n | ((with_reducible apply renE_c); exact rfl; focus (first | (simp -implicitDefEqProofs only [go_sem]; done)))))
  · intro k hk
    by_cases hlt : k < xs.length
    · have hrow := at_map (f := encRect) hlt
      repeat' (first | ((with_reducible apply xsim); (first | ((with_reducible apply xlenM); exact rfl; exact rfl) | ((with_reducible apply xo); exact rfl) | with_reducible apply xend | ((with_reducible apply xidxL); exact rfl; exact rfl; exact rfl; (first | exact hrow); omega; first | exact rfl | simp only [hsz]))) | ((with_reducible apply xaw); (first | ((with_reducible apply xstepS); refine AW.step tok rfl ?_) | ((with_reducible apply xstep); refine AW.region tok rfl ?_) | with_reducible (first | refine AW.seq ?_ | refine AW.block ?_ | refine AW.skip ?_) | ((with_reducible apply xcond); exact rfl) | ((with_reducible apply xdraw (id := 6)); refine AW.draw (id := 6) (.q 0 (.q 1 (.q 2 (.q 3 (.q 4 (.q 5 (.q 6 (.q 7 (.q 8 (.q 9 (.fin))))))))))) tok (by kernel_rfl) rfl (by kernel_rfl) ?_))) | ((with_reducible apply xarun); (first | ((with_reducible apply xrun_q); exact rfl; exact rfl; exact rfl) | ((with_reducible apply xrun_c); exact rfl; exact rfl; exact rfl; exact rfl; exact rfl; exact rfl; exact c_eqRect xs[k]; exact rfl) | with_reducible apply xrun_f)) | with_reducible (first | refine xthen ?_ | refine xblock ?_) | (with_reducible intro hc; (try simp only [hcL, reduceCtorEq, List.length_map] at hc); (try (exfalso; omega))) | with_reducible (first | exact trivial | refine And.intro ?_ ?_ | exact rfl) | exact Eq.refl true | (refine inR_i64.mpr ?_; first | omega | (simp only [List.length_map, List.length_map]; omega)))
      refine round_end (k+1) hlt (by omega) (by (refine xwk (π := []) (by decide) rfl ?_ ?_; (first | exact trivial); repeat' (first | exact renE_n | ((with_reducible apply renE_c); exact rfl; focus (first | (simp -implicitDefEqProofs only [go_sem]; done))))))
    · repeat' (first | ((with_reducible apply xsim); (first | ((with_reducible apply xlenM); exact rfl; exact rfl) | ((with_reducible apply xo); exact rfl) | with_reducible apply xend)) | ((with_reducible apply xaw); (first | ((with_reducible apply xstepS); refine AW.step tok rfl ?_) | with_reducible (first | refine AW.seq ?_ | refine AW.ret ?_ | refine AW.exit ?_) | ((with_reducible apply xcond); exact rfl))) | with_reducible (first | refine xthen ?_ | refine xthen_e ?_ | refine xblock_e ?_ | refine xround_e ?_) | (with_reducible intro hc; (try simp only [hcL, reduceCtorEq, List.length_map] at hc); (try (exfalso; omega))) | with_reducible (first | exact trivial | refine And.intro ?_ ?_ | exact rfl))
      (refine xfinIs (by first | exact .inl rfl | exact .inr rfl) rfl (by repeat' (first | exact trivial | exact rfl | refine And.intro ?_ ?_)) rfl ?_ rfl; first | with_reducible exact rfl)

end Go.Proofs.YtpfhnhhkfobjnaaGreat

namespace Go.Proofs.YtpfhnhhkfobjnaaGreat
open Go.Fw
attribute [local irreducible] Go.Fw.aops Go.Fw.arun

def cut (r : Rect) (side n : Int) : Rect × Rect :=
  if side = 0 then (⟨r.x, r.y, r.w, min n r.h⟩, ⟨r.x, r.y + min n r.h, r.w, r.h - min n r.h⟩)
  else if side = 1 then (⟨r.x, r.y + (r.h - min n r.h), r.w, min n r.h⟩, ⟨r.x, r.y, r.w, r.h - min n r.h⟩)
  else if side = 2 then (⟨r.x, r.y, min n r.w, r.h⟩, ⟨r.x + min n r.w, r.y, r.w - min n r.w, r.h⟩)
  else (⟨r.x + (r.w - min n r.w), r.y, min n r.w, r.h⟩, ⟨r.x, r.y, r.w - min n r.w, r.h⟩)

theorem c_cutS (r : Rect) (side n : Int) (hr : RectSm r) (hn : -2^40 < n ∧ n < 2^40) :
    ACon Tryz.prog 151 [vRect r, .d (.int .i64 side), .d (.int .i64 n)] [] (Is (.tup [vRect (cut r side n).1, vRect (cut r side n).2])) := by
  have h1 := hr.x; have h2 := hr.y; have h3 := hr.w; have h4 := hr.h
  refine ACon.introW tok (nt := 89) Tryz.func151 rfl rfl rfl (by kernel_rfl) rfl ?_
  repeat' (first | ((with_reducible apply xsim); (first | ((with_reducible apply xo); exact rfl) | ((with_reducible apply xst); exact rfl) | with_reducible apply xend | ((with_reducible apply xalloc); exact rfl; simp only [bkL, Nat.reduceAdd, Nat.reduceSub]) | ((with_reducible apply xbox); exact rfl; simp only [bkL, Nat.reduceAdd, Nat.reduceSub]))) | ((with_reducible apply xaw); (first | ((with_reducible apply xstepS); refine AW.step tok rfl ?_) | ((with_reducible apply xstep); refine AW.region tok rfl ?_) | with_reducible (first | refine AW.seq ?_ | refine AW.block ?_ | refine AW.ret ?_) | ((with_reducible apply xcond); exact rfl) | ((with_reducible apply xdraw (id := 19)); refine AW.draw (id := 19) (.q 0 (.two 1 (.e 2 (.e 3 (.fin))) 2 (.e 1 (.e 3 (.fin))))) tok (by kernel_rfl) rfl (by kernel_rfl) ?_))) | ((with_reducible apply xarun); (first | ((with_reducible apply xrun_q); exact rfl; exact rfl; exact rfl) | ((with_reducible apply xrun_e); exact rfl) | with_reducible apply xrun_f | ((with_reducible apply xrun_2); exact rfl; exact rfl))) | with_reducible (first | refine xthen ?_ | refine xblock ?_) | (with_reducible intro hc; (try simp only [hcL, reduceCtorEq] at hc); (try (exfalso; omega))) | with_reducible (first | exact trivial | refine And.intro ?_ ?_ | exact rfl) | exact Eq.refl true | (refine inR_i64.mpr ?_; first | omega | (simp only [List.length_map]; omega)))
  all_goals (refine xfinIs (by first | exact .inl rfl | exact .inr rfl) rfl (by repeat' (first | exact trivial | exact rfl | refine And.intro ?_ ?_)) rfl ?_ rfl; first | (simp -implicitDefEqProofs only [go_sem, cut, *] <;> (first | rfl | omega | exact decide_eq_decide.2 (by omega) | exact decide_eq_false (by omega) | exact decide_eq_true (by omega) | (symm; first | exact decide_eq_false (by omega) | exact decide_eq_true (by omega)) | (rw [Bool.eq_iff_iff]; simp only [boL, reduceCtorEq]; omega))))

theorem c_cutI (r : Rect) (side n : Int) (hr : RectSm r) (hn : -2^40 < n ∧ n < 2^40) :
    ACon Tryz.prog 139 [vRect r, .d (.int .i64 side), .d (.int .i64 n)] [] (Is (.tup [vRect (cut r side n).1, vRect (cut r side n).2])) := by
  have h1 := hr.x; have h2 := hr.y; have h3 := hr.w; have h4 := hr.h
  refine ACon.introW tok (nt := 74) Tryz.func139 rfl rfl rfl (by kernel_rfl) rfl ?_
  refine AW.step tok rfl ?_; simp -implicitDefEqProofs only [go_sem]
  refine AW.drawW (id := 1) ⟨[(1, .d (.int .i64 side)), (2, .d (.int .i64 n)), (3, .oref 0 0), (6, .oref 1 0), (7, .oref 2 0), (8, .oref 3 0), (9, .oref 4 0)],
    [.box ((encRect r).map .d), .box [.d (.int .i64 0), .d (.int .i64 0), .d (.int .i64 0), .d (.int .i64 0)], .box [.d (.int .i64 0), .d (.int .i64 0), .d (.int .i64 0), .d (.int .i64 0)], .box ((encRect r).map .d), .box ((encRect r).map .d)], 74, 0⟩
    ((.q 0 (.three 1 (.two 2 (.e 3 (.e 4 (.e 5 (.fin)))) 3 (.e 2 (.e 4 (.e 5 (.fin))))) 2 (.two 1 (.e 3 (.e 4 (.e 5 (.fin)))) 3 (.two 1 (.e 4 (.e 5 (.fin))) 4 (.e 1 (.e 5 (.fin))))) 3 (.two 1 (.e 2 (.e 4 (.e 5 (.fin)))) 2 (.two 1 (.e 4 (.e 5 (.fin))) 4 (.e 1 (.e 5 (.fin)))))))) tok (by kernel_rfl) rfl (by kernel_rfl) ?_ ?_
  · repeat' (first | ((with_reducible apply xsim); (first | ((with_reducible apply xo); exact rfl) | ((with_reducible apply xst); exact rfl) | with_reducible apply xend | ((with_reducible apply xalloc); exact rfl; simp only [bkL, Nat.reduceAdd, Nat.reduceSub]))) | ((with_reducible apply xarun); (first | ((with_reducible apply xrun_q); exact rfl; exact rfl; exact rfl) | ((with_reducible apply xrun_e); exact rfl) | with_reducible apply xrun_f | ((with_reducible apply xrun_2); exact rfl; exact rfl) | ((with_reducible apply xrun_3); exact rfl; exact rfl; exact rfl))) | with_reducible refine And.intro ?_ ?_ | exact Eq.refl true)
    all_goals first | ((refine xwk (π := [0, 1, 2, 3, 4]) (by decide) rfl ?_ ?_; (first | simp -implicitDefEqProofs only [go_sem]); repeat' (first | exact renE_n | ((with_reducible apply renE_c); exact rfl; focus (first | (simp -implicitDefEqProofs only [go_sem]; done))))); done) | ((refine xwk (π := [0, 1, 2, 4, 3]) (by decide) rfl ?_ ?_; (first | simp -implicitDefEqProofs only [go_sem]); repeat' (first | exact renE_n | ((with_reducible apply renE_c); exact rfl; focus (first | (simp -implicitDefEqProofs only [go_sem]; done))))); done)
  repeat' (first | ((with_reducible apply xsim); (first | ((with_reducible apply xo); exact rfl) | ((with_reducible apply xst); exact rfl) | with_reducible apply xend | ((with_reducible apply xguardS); exact rfl; exact rfl))) | ((with_reducible apply xaw); (first | ((with_reducible apply xstepS); refine AW.step tok rfl ?_) | ((with_reducible apply xstep); refine AW.region tok rfl ?_) | with_reducible (first | refine AW.seq ?_ | refine AW.skip ?_ | refine AW.ret ?_) | ((with_reducible apply xcond); exact rfl) | ((with_reducible apply xdraw (id := 4)); refine AW.draw (id := 4) (.q 0 (.q 1 (.q 3 (.q 5 (.two 2 (.q 4 (.e 6 (.q 7 (.e 8 (.fin))))) 6 (.e 2 (.q 4 (.q 7 (.e 8 (.fin)))))))))) tok (by kernel_rfl) rfl (by kernel_rfl) ?_) | ((with_reducible apply xdraw (id := 8)); refine AW.draw (id := 8) (.q 0 (.two 1 (.e 2 (.e 3 (.fin))) 2 (.e 1 (.e 3 (.fin))))) tok (by kernel_rfl) rfl (by kernel_rfl) ?_) | ((with_reducible apply xdraw (id := 10)); refine AW.draw (id := 10) (.q 0 (.q 1 (.q 3 (.q 5 (.two 2 (.q 4 (.e 6 (.q 7 (.e 8 (.fin))))) 6 (.e 2 (.q 4 (.q 7 (.e 8 (.fin)))))))))) tok (by kernel_rfl) rfl (by kernel_rfl) ?_) | ((with_reducible apply xdraw (id := 14)); refine AW.draw (id := 14) (.q 0 (.two 1 (.e 2 (.e 3 (.fin))) 2 (.e 1 (.e 3 (.fin))))) tok (by kernel_rfl) rfl (by kernel_rfl) ?_))) | ((with_reducible apply xarun); (first | ((with_reducible apply xrun_q); exact rfl; exact rfl; exact rfl) | ((with_reducible apply xrun_e); exact rfl) | with_reducible apply xrun_f | ((with_reducible apply xrun_2); exact rfl; exact rfl))) | with_reducible (first | refine xthen ?_ | refine xthen_r ?_) | (with_reducible intro hc; (try simp only [hcL, reduceCtorEq] at hc); (try (exfalso; omega))) | with_reducible (first | exact trivial | refine And.intro ?_ ?_ | exact rfl) | exact Eq.refl true | (refine inR_i64.mpr ?_; first | omega | (simp only [List.length_map]; omega)))
  all_goals (refine xfinIs (by first | exact .inl rfl | exact .inr rfl) rfl (by repeat' (first | exact trivial | exact rfl | refine And.intro ?_ ?_)) rfl ?_ rfl; first | (simp -implicitDefEqProofs only [go_sem, cut, *] <;> (first | rfl | omega | exact decide_eq_decide.2 (by omega) | exact decide_eq_false (by omega) | exact decide_eq_true (by omega) | (symm; first | exact decide_eq_false (by omega) | exact decide_eq_true (by omega)) | (rw [Bool.eq_iff_iff]; simp only [boL, reduceCtorEq]; omega))))

theorem cut_in {r : Rect} {side n : Int} (h : RectIn r) (hn : 0 ≤ n) : RectIn (cut r side n).1 ∧ RectIn (cut r side n).2 := by
  obtain ⟨h1, h2, h3, h4, h5, h6⟩ := h
  unfold cut
  split
  · constructor <;> constructor <;> simp only <;> omega
  · split
    · constructor <;> constructor <;> simp only <;> omega
    · split
      · constructor <;> constructor <;> simp only <;> omega
      · constructor <;> constructor <;> simp only <;> omega

def roomOf (p : Pack) (r : Rect) : Int := if down p then r.h else r.w
def parNeed (xs : List Pack) (k : Nat) (p : Pack) (r : Rect) : Int := need p (down p) + if p.expand then share (xs.drop k) (roomOf p r) (down p) else 0
def parStep (xs : List Pack) (s : List Rect × Rect) (k : Nat) : List Rect × Rect :=
  match xs[k]? with
  | none => s
  | some p => (s.1 ++ [(cut s.2 p.side (parNeed xs k p s.2)).1], (cut s.2 p.side (parNeed xs k p s.2)).2)
def parTo (xs : List Pack) (r : Rect) : Nat → List Rect × Rect
  | 0 => ([], r)
  | k + 1 => parStep xs (parTo xs r k) k
def parcels (xs : List Pack) (r : Rect) : List Rect × Rect := parTo xs r xs.length

theorem share_bd {xs : List Pack} {room : Int} {d : Bool} (hr : 0 ≤ room ∧ room ≤ 4194304) (hl : xs.length ≤ 10) (hv : xs.all packB = true) (h0 : ∃ p, xs.head? = some p ∧ p.expand = true ∧ down p = d) :
    0 ≤ share xs room d ∧ share xs room d ≤ room := by
  have h0' : ∀ p, xs.head? = some p → p.expand = true ∧ down p = d := fun p hp => by
    obtain ⟨q, h1, h2⟩ := h0
    rw [h1] at hp; cases hp; exact h2
  have hpos : 0 < xs.length := by
    obtain ⟨p, h1, _⟩ := h0
    cases xs with
    | nil => cases h1
    | cons => simp
  have hi := shAll_inv hr hv h0' xs.length (Nat.le_refl _)
  rw [List.take_length] at hi
  have hdiv := div_bd (a := max (shAll d room xs).2.2 0) (m := (shAll d room xs).2.1) (by omega)
  have := hi.2.2.2.2.1 hpos
  unfold share
  omega

theorem head_drop {xs : List Pack} {k : Nat} (h : k < xs.length) : (xs.drop k).head? = some xs[k] := by
  rw [List.head?_drop, List.getElem?_eq_getElem h]

theorem all_drop {xs : List Pack} {k : Nat} (h : xs.all packB = true) : (xs.drop k).all packB = true :=
  List.all_eq_true.2 fun x hx => List.all_eq_true.1 h x (List.mem_of_mem_drop hx)

theorem parNeed_bd {xs : List Pack} {k : Nat} {r : Rect} (hl : xs.length ≤ 10) (hv : xs.all packB = true) (hk : k < xs.length) (hr : RectIn r) : 0 ≤ parNeed xs k xs[k] r ∧ parNeed xs k xs[k] r ≤ 4198400 := by
  have hn := need_le (d := down xs[k]) (all_at hv hk)
  unfold parNeed
  obtain ⟨h1, h2, h3, h4, h5, h6⟩ := hr
  by_cases he : xs[k].expand = true
  · rw [if_pos he]
    have := share_bd (xs := xs.drop k) (room := roomOf xs[k] r) (d := down xs[k]) (by unfold roomOf; split <;> omega) (by rw [List.length_drop]; omega) (all_drop hv) ⟨_, head_drop hk, he, rfl⟩
    have : roomOf xs[k] r ≤ 4194304 := by unfold roomOf; split <;> omega
    omega
  · rw [if_neg he]; omega

theorem parTo_succ {xs : List Pack} {r : Rect} {k : Nat} (h : k < xs.length) : parTo xs r (k + 1) =
    ((parTo xs r k).1 ++ [(cut (parTo xs r k).2 xs[k].side (parNeed xs k xs[k] (parTo xs r k).2)).1], (cut (parTo xs r k).2 xs[k].side (parNeed xs k xs[k] (parTo xs r k).2)).2) := by
  simp only [parTo, parStep, List.getElem?_eq_getElem h]

theorem parTo_inv {xs : List Pack} {r : Rect} (hl : xs.length ≤ 10) (hv : xs.all packB = true) (hr : RectIn r) : ∀ k, k ≤ xs.length → (parTo xs r k).1.length = k ∧ RectIn (parTo xs r k).2 ∧ ∀ q ∈ (parTo xs r k).1, RectIn q := by
  intro k
  induction k with
  | zero => intro _; exact ⟨rfl, hr, fun q hq => by cases hq⟩
  | succ k ih =>
    intro hk
    obtain ⟨h1, h2, h3⟩ := ih (by omega)
    have hc := cut_in (side := xs[k].side) h2 (parNeed_bd (k := k) hl hv (by omega) h2).1
    rw [parTo_succ (by omega)]
    refine ⟨by simp [h1], hc.2, fun q hq => ?_⟩
    rcases List.mem_append.1 hq with hq | hq
    · exact h3 q hq
    · rw [List.mem_singleton.1 hq]; exact hc.1

/-- The slice of the rectangles that is handed over, and one value more. -/
def PRects (rs : List Rect) (u : V) : V → List O → Prop := Own (.tup [.msl 0 4 0 rs.length, u]) [.arr 4 (rs.map encRect)]

set_option maxHeartbeats 4000000 in
theorem c_parcelsI (xs : List Pack) (w h : Int) (hw : 0 ≤ w ∧ w ≤ 1048576) (hh : 0 ≤ h ∧ h ≤ 1048576) (hl : xs.length ≤ 10) (hv : xs.all packB = true) :
    ACon Tryz.prog 101 [.d (.lst (xs.map encPack)), .d (.int .i64 w), .d (.int .i64 h)] [] (PRects (parcels xs ⟨0, 0, w, h⟩).1 (vRect (parcels xs ⟨0, 0, w, h⟩).2)) := by
  have hR : RectIn ⟨0, 0, w, h⟩ := by constructor <;> simp only <;> omega
  have hinv := fun k hk => parTo_inv hl hv hR k hk
  refine ACon.introW tok (nt := 61) Tryz.func101 rfl rfl rfl (by kernel_rfl) rfl ?_
  repeat' (first | ((with_reducible apply xsim); (first | ((with_reducible apply xlenM); exact rfl; exact rfl) | ((with_reducible apply xo); exact rfl) | ((with_reducible apply xst); exact rfl) | with_reducible apply xend | ((with_reducible apply xalloc); exact rfl; simp only [bkL, Nat.reduceAdd, Nat.reduceSub]))) | ((with_reducible apply xaw); (first | ((with_reducible apply xstepS); refine AW.step tok rfl ?_) | with_reducible (first | refine AW.seq ?_ | refine AW.block ?_))) | with_reducible (first | exact trivial | refine And.intro ?_ ?_) | exact Eq.refl true)
  refine AW.own 9 4 rfl ?_
  refine AW.loop (S := fun k : Nat => ⟨[(0, .d (.lst (xs.map encPack))), (7, .oref 0 0), (8, .oref 1 0), (9, .msl 2 4 0 k), (18, .d (.lst (xs.map encPack))), (19, .d (.int .i64 xs.length)), (20, .d (.int .i64 k))],
        [.box [.d (.int .i64 0), .d (.int .i64 0), .d (.int .i64 0), .d (.int .i64 0)], .box ((encRect (parTo xs ⟨0, 0, w, h⟩ k).2).map .d), .arr 4 ((parTo xs ⟨0, 0, w, h⟩ k).1.map encRect)], 61, 0⟩)
    (Pre := fun k => k ≤ xs.length) (μ := fun k => xs.length - k) 0 (Nat.zero_le _) ?_ ?_
  · (refine xwk (π := [0, 1, 2]) (by decide) rfl ?_ ?_; (first | simp -implicitDefEqProofs only [go_sem, parTo, List.length_map, encRect]); repeat' (first | exact renE_n | ((with_reducible apply renE_c); exact rfl; focus (first | (simp -implicitDefEqProofs only [go_sem, parTo, List.length_map, encRect]; done)))))
  · intro k hk
    by_cases hlt : k < xs.length
    · have i1 := hinv k hk
      have i2 := hinv (k+1) hlt
      have hb := parNeed_bd hl hv hlt i1.2.1
      have hsu := parTo_succ (r := ⟨0, 0, w, h⟩) hlt
      rw [hsu] at i2
      have hrow := at_map (f := encPack) hlt
      have hn := need_le (d := down xs[k]) (all_at hv hlt)
      generalize hT : parTo xs ⟨0, 0, w, h⟩ k = T at *
      have hcut := c_cutI T.2 xs[k].side (parNeed xs k xs[k] T.2) i1.2.1.sm (by omega)
      have hlen : (T.1.map encRect).length = k := by rw [List.length_map]; exact i1.1
      have hfin : ∀ s' : St, s'.fx = 0 → True := fun _ _ => trivial
      by_cases he : xs[k].expand = true
      · have hroom : 0 ≤ roomOf xs[k] T.2 ∧ roomOf xs[k] T.2 ≤ 4194304 := by
          obtain ⟨h1, h2, h3, h4, h5, h6⟩ := i1.2.1
          unfold roomOf; split <;> omega
        have hdl : (xs.drop k).length ≤ 10 := by rw [List.length_drop]; omega
        have hsh := c_expandShare (xs.drop k) (roomOf xs[k] T.2) (down xs[k]) hroom hdl (all_drop hv) ⟨_, head_drop hlt, he, rfl⟩
        have hsb := share_bd (d := down xs[k]) hroom hdl (all_drop hv) ⟨_, head_drop hlt, he, rfl⟩
        have hne : need xs[k] (down xs[k]) + share (xs.drop k) (roomOf xs[k] T.2) (down xs[k]) = parNeed xs k xs[k] T.2 := by unfold parNeed; rw [if_pos he]
        rw [← hne] at hcut
        cases hdn : down xs[k] with
        | true =>
          have hrm : T.2.h = roomOf xs[k] T.2 := by unfold roomOf; rw [hdn]; rfl
          rw [← hrm] at hsh hsb hne hcut
          have hne2 := hne
          rw [hdn] at hne2
          repeat' (first | ((with_reducible apply xsim); (first | ((with_reducible apply xo); exact rfl) | ((with_reducible apply xst); exact rfl) | with_reducible apply xend | ((with_reducible apply xalloc); exact rfl; simp only [bkL, Nat.reduceAdd, Nat.reduceSub]) | ((with_reducible apply xbuild); exact rfl; exact rfl; exact rfl; exact rfl; exact rfl; simp only [bkL, Nat.reduceAdd, Nat.reduceSub]) | ((with_reducible apply xidxL); exact rfl; exact rfl; exact rfl; (first | exact hrow); omega; first | exact rfl | simp only [hsz]) | ((with_reducible apply xslcLo); exact rfl; exact rfl; exact rfl; exact (fun r hr => by obtain ⟨a, _, rfl⟩ := List.mem_map.1 hr; rfl); first | omega | (simp only [List.length_cons, List.length_nil]; omega)) | ((with_reducible apply xcallIs); exact rfl; exact rfl; (first | exact c_down xs[k] | exact c_need xs[k] _ (all_at hv hlt) | exact hsh | exact hcut); exact rfl) | simp -implicitDefEqProofs only [go_sem, List.length_map, he, hdn])) | ((with_reducible apply xaw); (first | ((with_reducible apply xstepS); refine AW.step tok rfl ?_) | ((with_reducible apply xstep); refine AW.region tok rfl ?_) | with_reducible (first | refine AW.seq ?_ | refine AW.block ?_ | refine AW.skip ?_) | ((with_reducible apply xcond); exact rfl) | ((with_reducible apply xdraw (id := 6)); refine AW.draw (id := 6) (.q 0 (.q 1 (.q 2 (.q 3 (.q 4 (.fin)))))) tok (by kernel_rfl) rfl (by kernel_rfl) ?_) | ((with_reducible apply xdraw (id := 11)); refine AW.draw (id := 11) (.q 0 (.q 1 (.q 2 (.q 3 (.q 4 (.q 5 (.q 6 (.q 7 (.q 8 (.e 9 (.fin))))))))))) tok (by kernel_rfl) rfl (by kernel_rfl) ?_))) | ((with_reducible apply xarun); (first | ((with_reducible apply xrun_q); exact rfl; exact rfl; exact rfl) | ((with_reducible apply xrun_c); exact rfl; exact rfl; exact rfl; exact rfl; exact rfl; exact rfl; (first | exact c_down xs[k] | exact c_need xs[k] _ (all_at hv hlt) | exact hsh | exact hcut); exact rfl) | ((with_reducible apply xrun_e); exact rfl) | with_reducible apply xrun_f)) | with_reducible refine xthen ?_ | (with_reducible intro hc; (try simp only [hcL, reduceCtorEq, List.length_map, he, hdn] at hc); (try (exfalso; omega))) | with_reducible (first | exact trivial | refine And.intro ?_ ?_ | exact rfl) | exact Eq.refl true | (refine inR_i64.mpr ?_; first | omega | (simp only [List.length_map, List.length_map, he, hdn]; omega)) | omega)
          refine round_end (k+1) hlt (by omega) (by (refine xwk (π := [0, 1, 6]) (by decide) rfl ?_ ?_; (first | simp -implicitDefEqProofs only [go_sem, hsu, List.map_append, hne2, i1.1]); repeat' (first | exact renE_n | ((with_reducible apply renE_c); exact rfl; focus (first | (simp -implicitDefEqProofs only [go_sem, hsu, List.map_append, hne2, i1.1]; done))))))
        | false =>
          have hrm : T.2.w = roomOf xs[k] T.2 := by unfold roomOf; rw [hdn]; rfl
          rw [← hrm] at hsh hsb hne hcut
          have hne2 := hne
          rw [hdn] at hne2
          repeat' (first | ((with_reducible apply xsim); (first | ((with_reducible apply xo); exact rfl) | ((with_reducible apply xst); exact rfl) | with_reducible apply xend | ((with_reducible apply xalloc); exact rfl; simp only [bkL, Nat.reduceAdd, Nat.reduceSub]) | ((with_reducible apply xbuild); exact rfl; exact rfl; exact rfl; exact rfl; exact rfl; simp only [bkL, Nat.reduceAdd, Nat.reduceSub]) | ((with_reducible apply xidxL); exact rfl; exact rfl; exact rfl; (first | exact hrow); omega; first | exact rfl | simp only [hsz]) | ((with_reducible apply xslcLo); exact rfl; exact rfl; exact rfl; exact (fun r hr => by obtain ⟨a, _, rfl⟩ := List.mem_map.1 hr; rfl); first | omega | (simp only [List.length_cons, List.length_nil]; omega)) | ((with_reducible apply xcallIs); exact rfl; exact rfl; (first | exact c_down xs[k] | exact c_need xs[k] _ (all_at hv hlt) | exact hsh | exact hcut); exact rfl) | simp -implicitDefEqProofs only [go_sem, List.length_map, he, hdn])) | ((with_reducible apply xaw); (first | ((with_reducible apply xstepS); refine AW.step tok rfl ?_) | ((with_reducible apply xstep); refine AW.region tok rfl ?_) | with_reducible (first | refine AW.seq ?_ | refine AW.block ?_ | refine AW.skip ?_) | ((with_reducible apply xcond); exact rfl) | ((with_reducible apply xdraw (id := 6)); refine AW.draw (id := 6) (.q 0 (.q 1 (.q 2 (.q 3 (.q 4 (.fin)))))) tok (by kernel_rfl) rfl (by kernel_rfl) ?_) | ((with_reducible apply xdraw (id := 11)); refine AW.draw (id := 11) (.q 0 (.q 1 (.q 2 (.q 3 (.q 4 (.q 5 (.q 6 (.q 7 (.q 8 (.e 9 (.fin))))))))))) tok (by kernel_rfl) rfl (by kernel_rfl) ?_))) | ((with_reducible apply xarun); (first | ((with_reducible apply xrun_q); exact rfl; exact rfl; exact rfl) | ((with_reducible apply xrun_c); exact rfl; exact rfl; exact rfl; exact rfl; exact rfl; exact rfl; (first | exact c_down xs[k] | exact c_need xs[k] _ (all_at hv hlt) | exact hsh | exact hcut); exact rfl) | ((with_reducible apply xrun_e); exact rfl) | with_reducible apply xrun_f)) | with_reducible refine xthen ?_ | (with_reducible intro hc; (try simp only [hcL, reduceCtorEq, List.length_map, he, hdn] at hc); (try (exfalso; omega))) | with_reducible (first | exact trivial | refine And.intro ?_ ?_ | exact rfl) | exact Eq.refl true | (refine inR_i64.mpr ?_; first | omega | (simp only [List.length_map, List.length_map, he, hdn]; omega)) | omega)
          refine round_end (k+1) hlt (by omega) (by (refine xwk (π := [0, 1, 6]) (by decide) rfl ?_ ?_; (first | simp -implicitDefEqProofs only [go_sem, hsu, List.map_append, hne2, i1.1]); repeat' (first | exact renE_n | ((with_reducible apply renE_c); exact rfl; focus (first | (simp -implicitDefEqProofs only [go_sem, hsu, List.map_append, hne2, i1.1]; done))))))
      · have he' : xs[k].expand = false := by simpa using he
        have hne : need xs[k] (down xs[k]) = parNeed xs k xs[k] T.2 := by unfold parNeed; rw [if_neg he]; omega
        rw [← hne] at hcut
        repeat' (first | ((with_reducible apply xsim); (first | ((with_reducible apply xo); exact rfl) | ((with_reducible apply xst); exact rfl) | with_reducible apply xend | ((with_reducible apply xalloc); exact rfl; simp only [bkL, Nat.reduceAdd, Nat.reduceSub]) | ((with_reducible apply xbuild); exact rfl; exact rfl; exact rfl; exact rfl; exact rfl; simp only [bkL, Nat.reduceAdd, Nat.reduceSub]) | ((with_reducible apply xidxL); exact rfl; exact rfl; exact rfl; (first | exact hrow); omega; first | exact rfl | simp only [hsz]) | ((with_reducible apply xcallIs); exact rfl; exact rfl; (first | exact c_down xs[k] | exact c_need xs[k] (down xs[k]) (all_at hv hlt) | exact hcut); exact rfl) | simp -implicitDefEqProofs only [go_sem, List.length_map, he', i1.1])) | ((with_reducible apply xaw); (first | ((with_reducible apply xstepS); refine AW.step tok rfl ?_) | ((with_reducible apply xstep); refine AW.region tok rfl ?_) | with_reducible (first | refine AW.seq ?_ | refine AW.block ?_ | refine AW.skip ?_) | ((with_reducible apply xcond); exact rfl) | ((with_reducible apply xdraw (id := 6)); refine AW.draw (id := 6) (.q 0 (.q 1 (.q 2 (.q 3 (.q 4 (.fin)))))) tok (by kernel_rfl) rfl (by kernel_rfl) ?_))) | ((with_reducible apply xarun); (first | ((with_reducible apply xrun_q); exact rfl; exact rfl; exact rfl) | ((with_reducible apply xrun_c); exact rfl; exact rfl; exact rfl; exact rfl; exact rfl; exact rfl; (first | exact c_down xs[k] | exact c_need xs[k] (down xs[k]) (all_at hv hlt) | exact hcut); exact rfl) | with_reducible apply xrun_f)) | with_reducible refine xthen ?_ | (with_reducible intro hc; (try simp only [hcL, reduceCtorEq, List.length_map, he', i1.1] at hc); (try (exfalso; omega))) | with_reducible (first | exact trivial | refine And.intro ?_ ?_ | exact rfl) | exact Eq.refl true | (refine inR_i64.mpr ?_; first | omega | (simp only [List.length_map, List.length_map, he', i1.1]; omega)) | omega)
        refine round_end (k+1) hlt (by omega) (by (refine xwk (π := [0, 1, 6]) (by decide) rfl ?_ ?_; (first | simp -implicitDefEqProofs only [go_sem, hsu, List.map_append, hne, i1.1]); repeat' (first | exact renE_n | ((with_reducible apply renE_c); exact rfl; focus (first | (simp -implicitDefEqProofs only [go_sem, hsu, List.map_append, hne, i1.1]; done))))))
    · have hk' : k = xs.length := by omega
      have i1 := (hinv k hk).1
      subst hk'
      repeat' (first | ((with_reducible apply xsim); (first | ((with_reducible apply xo); exact rfl) | ((with_reducible apply xst); exact rfl) | with_reducible apply xend)) | ((with_reducible apply xaw); (first | ((with_reducible apply xstepS); refine AW.step tok rfl ?_) | with_reducible (first | refine AW.seq ?_ | refine AW.ret ?_ | refine AW.exit ?_) | ((with_reducible apply xcond); exact rfl) | ((with_reducible apply xdraw (id := 16)); refine AW.draw (id := 16) (.q 0 (.q 1 (.q 2 (.e 3 (.fin))))) tok (by kernel_rfl) rfl (by kernel_rfl) ?_))) | ((with_reducible apply xarun); (first | ((with_reducible apply xrun_q); exact rfl; exact rfl; exact rfl) | ((with_reducible apply xrun_e); exact rfl) | with_reducible apply xrun_f)) | with_reducible (first | refine xthen ?_ | refine xthen_e ?_ | refine xblock_e ?_ | refine xround_e ?_) | (with_reducible intro hc; (try simp only [hcL, reduceCtorEq, List.length_map] at hc); (try (exfalso; omega))) | with_reducible (first | exact trivial | refine And.intro ?_ ?_ | exact rfl) | exact Eq.refl true)
      (refine xfinOwn [2] (by first | exact .inl rfl | exact .inr rfl) rfl (by repeat' (first | exact trivial | exact rfl | refine And.intro ?_ ?_)) (by decide) rfl ?_ ?_ <;> simp -implicitDefEqProofs only [go_sem, parcels, i1])
end Go.Proofs.YtpfhnhhkfobjnaaGreat

namespace Go.Proofs.YtpfhnhhkfobjnaaGreat
open Go.Fw
attribute [local irreducible] Go.Fw.aops Go.Fw.arun

set_option maxHeartbeats 4000000 in
theorem c_parcelsS (xs : List Pack) (r : Rect) (hR : RectIn r) (hl : xs.length ≤ 10) (hv : xs.all packB = true) :
    ACon Tryz.prog 130 [.d (.lst (xs.map encPack)), vRect r] [] (PRects (parcels xs r).1 (vRect (parcels xs r).2)) := by
  have hinv := fun k hk => parTo_inv hl hv hR k hk
  refine ACon.introW tok (nt := 72) Tryz.func130 rfl rfl rfl (by kernel_rfl) rfl ?_
  repeat' (first | ((with_reducible apply xsim); (first | ((with_reducible apply xo); exact rfl) | with_reducible apply xend | ((with_reducible apply xalloc); exact rfl; simp only [bkL, Nat.reduceAdd, Nat.reduceSub]) | ((with_reducible apply xbox); exact rfl; simp only [bkL, Nat.reduceAdd, Nat.reduceSub]) | ((with_reducible apply xbuild); exact rfl; exact rfl; exact rfl; exact rfl; exact rfl; simp only [bkL, Nat.reduceAdd, Nat.reduceSub]))) | ((with_reducible apply xaw); (first | ((with_reducible apply xstepS); refine AW.step tok rfl ?_) | with_reducible (first | refine AW.seq ?_ | refine AW.block ?_))) | with_reducible exact trivial)
  refine AW.loop (S := fun k : Nat => ⟨[(0, .d (.lst (xs.map encPack))), (3, .oref 0 0), (5, .oref 1 0), (6, .msl 2 4 0 k), (7, .d (.int .i64 k))],
        [.box ((encRect (parTo xs r k).2).map .d), .box [.d (.int .i64 0), .d (.int .i64 0), .d (.int .i64 0), .d (.int .i64 0)], .arr 4 ((parTo xs r k).1.map encRect)], 72, 0⟩)
    (Pre := fun k => k ≤ xs.length) (μ := fun k => xs.length - k) 0 (Nat.zero_le _) ?_ ?_
  · (refine xwk (π := [0, 1, 2]) (by decide) rfl ?_ ?_; (first | simp -implicitDefEqProofs only [go_sem, parTo, List.length_map, encRect]); repeat' (first | exact renE_n | ((with_reducible apply renE_c); exact rfl; focus (first | (simp -implicitDefEqProofs only [go_sem, parTo, List.length_map, encRect]; done)))))
  · intro k hk
    by_cases hlt : k < xs.length
    · have i1 := hinv k hk
      have i2 := hinv (k+1) hlt
      have hb := parNeed_bd hl hv hlt i1.2.1
      have hsu := parTo_succ (r := r) hlt
      rw [hsu] at i2
      have hrow := at_map (f := encPack) hlt
      have hn := need_le (d := down xs[k]) (all_at hv hlt)
      generalize hT : parTo xs r k = T at *
      have hcut := c_cutS T.2 xs[k].side (parNeed xs k xs[k] T.2) i1.2.1.sm (by omega)
      have hdn : decide (xs[k].side = 0 ∨ xs[k].side = 1) = down xs[k] := rfl
      have hneT : down xs[k] = true → needH xs[k] = need xs[k] (down xs[k]) := fun h => by rw [h]; rfl
      have hneF : down xs[k] = false → needW xs[k] = need xs[k] (down xs[k]) := fun h => by rw [h]; rfl
      by_cases he : xs[k].expand = true
      · have hroom : 0 ≤ roomOf xs[k] T.2 ∧ roomOf xs[k] T.2 ≤ 4194304 := by
          obtain ⟨h1, h2, h3, h4, h5, h6⟩ := i1.2.1
          unfold roomOf; split <;> omega
        have hdl : (xs.drop k).length ≤ 10 := by rw [List.length_drop]; omega
        have hsh := c_share (xs.drop k) (roomOf xs[k] T.2) (down xs[k]) hroom hdl (all_drop hv) ⟨_, head_drop hlt, he, rfl⟩
        have hsb := share_bd (d := down xs[k]) hroom hdl (all_drop hv) ⟨_, head_drop hlt, he, rfl⟩
        have hne : need xs[k] (down xs[k]) + share (xs.drop k) (roomOf xs[k] T.2) (down xs[k]) = parNeed xs k xs[k] T.2 := by unfold parNeed; rw [if_pos he]
        rw [← hne] at hcut
        cases hd : down xs[k] with
        | true =>
          have hrm : T.2.h = roomOf xs[k] T.2 := by unfold roomOf; rw [hd]; rfl
          have hne1 := hneT hd
          rw [← hrm] at hsh hsb hne hcut
          rw [← hne1] at hcut hne hn
          have hne2 := hne
          rw [hd] at hne2
          repeat' (first | ((with_reducible apply xsim); (first | ((with_reducible apply xlenM); exact rfl; exact rfl) | ((with_reducible apply xo); exact rfl) | ((with_reducible apply xst); exact rfl) | with_reducible apply xend | ((with_reducible apply xalloc); exact rfl; simp only [bkL, Nat.reduceAdd, Nat.reduceSub]) | ((with_reducible apply xbuild); exact rfl; exact rfl; exact rfl; exact rfl; exact rfl; simp only [bkL, Nat.reduceAdd, Nat.reduceSub]) | ((with_reducible apply xidxL); exact rfl; exact rfl; exact rfl; (first | exact hrow); omega; first | exact rfl | simp only [hsz]) | ((with_reducible apply xslcLo); exact rfl; exact rfl; exact rfl; exact (fun r hr => by obtain ⟨a, _, rfl⟩ := List.mem_map.1 hr; rfl); first | omega | (simp only [List.length_cons, List.length_nil]; omega)) | ((with_reducible apply xcallIs); exact rfl; exact rfl; (first | exact c_outer xs[k] (all_at hv hlt) | exact c_upright xs[k].side | exact hsh | exact hcut); exact rfl) | simp -implicitDefEqProofs only [go_sem, List.length_map, he, hdn, hd])) | ((with_reducible apply xaw); (first | ((with_reducible apply xstepS); refine AW.step tok rfl ?_) | ((with_reducible apply xstep); refine AW.region tok rfl ?_) | with_reducible (first | refine AW.seq ?_ | refine AW.block ?_ | refine AW.skip ?_) | ((with_reducible apply xcond); exact rfl) | ((with_reducible apply xdraw (id := 13)); refine AW.draw (id := 13) (.q 0 (.q 1 (.q 2 (.q 3 (.q 4 (.q 5 (.q 6 (.q 7 (.q 8 (.q 9 (.q 10 (.two 11 (.e 12 (.e 13 (.e 14 (.fin)))) 12 (.e 11 (.e 13 (.e 14 (.fin)))))))))))))))) tok (by kernel_rfl) rfl (by kernel_rfl) ?_))) | ((with_reducible apply xarun); (first | ((with_reducible apply xrun_q); exact rfl; exact rfl; exact rfl) | ((with_reducible apply xrun_c); exact rfl; exact rfl; exact rfl; exact rfl; exact rfl; exact rfl; (first | exact c_outer xs[k] (all_at hv hlt) | exact c_upright xs[k].side | exact hsh | exact hcut); exact rfl) | ((with_reducible apply xrun_e); exact rfl) | with_reducible apply xrun_f | ((with_reducible apply xrun_2); exact rfl; exact rfl))) | with_reducible (first | refine xthen ?_ | refine xblock ?_) | (with_reducible intro hc; (try simp only [hcL, reduceCtorEq, List.length_map, he, hdn, hd] at hc); (try (exfalso; omega))) | with_reducible (first | exact trivial | refine And.intro ?_ ?_ | exact rfl) | exact Eq.refl true | (refine inR_i64.mpr ?_; first | omega | (simp only [List.length_map, List.length_map, he, hdn, hd]; omega)) | omega)
          all_goals refine round_end (k+1) hlt (by omega) (by (refine xwk (π := [0, 1, 6]) (by decide) rfl ?_ ?_; (first | simp -implicitDefEqProofs only [go_sem, hsu, List.map_append, hne2, i1.1]); repeat' (first | exact renE_n | ((with_reducible apply renE_c); exact rfl; focus (first | (simp -implicitDefEqProofs only [go_sem, hsu, List.map_append, hne2, i1.1]; done))))))
        | false =>
          have hrm : T.2.w = roomOf xs[k] T.2 := by unfold roomOf; rw [hd]; rfl
          have hne1 := hneF hd
          rw [← hrm] at hsh hsb hne hcut
          rw [← hne1] at hcut hne hn
          have hne2 := hne
          rw [hd] at hne2
          repeat' (first | ((with_reducible apply xsim); (first | ((with_reducible apply xlenM); exact rfl; exact rfl) | ((with_reducible apply xo); exact rfl) | ((with_reducible apply xst); exact rfl) | with_reducible apply xend | ((with_reducible apply xalloc); exact rfl; simp only [bkL, Nat.reduceAdd, Nat.reduceSub]) | ((with_reducible apply xbuild); exact rfl; exact rfl; exact rfl; exact rfl; exact rfl; simp only [bkL, Nat.reduceAdd, Nat.reduceSub]) | ((with_reducible apply xidxL); exact rfl; exact rfl; exact rfl; (first | exact hrow); omega; first | exact rfl | simp only [hsz]) | ((with_reducible apply xslcLo); exact rfl; exact rfl; exact rfl; exact (fun r hr => by obtain ⟨a, _, rfl⟩ := List.mem_map.1 hr; rfl); first | omega | (simp only [List.length_cons, List.length_nil]; omega)) | ((with_reducible apply xcallIs); exact rfl; exact rfl; (first | exact c_outer xs[k] (all_at hv hlt) | exact c_upright xs[k].side | exact hsh | exact hcut); exact rfl) | simp -implicitDefEqProofs only [go_sem, List.length_map, he, hdn, hd])) | ((with_reducible apply xaw); (first | ((with_reducible apply xstepS); refine AW.step tok rfl ?_) | ((with_reducible apply xstep); refine AW.region tok rfl ?_) | with_reducible (first | refine AW.seq ?_ | refine AW.block ?_ | refine AW.skip ?_) | ((with_reducible apply xcond); exact rfl) | ((with_reducible apply xdraw (id := 13)); refine AW.draw (id := 13) (.q 0 (.q 1 (.q 2 (.q 3 (.q 4 (.q 5 (.q 6 (.q 7 (.q 8 (.q 9 (.q 10 (.two 11 (.e 12 (.e 13 (.e 14 (.fin)))) 12 (.e 11 (.e 13 (.e 14 (.fin)))))))))))))))) tok (by kernel_rfl) rfl (by kernel_rfl) ?_))) | ((with_reducible apply xarun); (first | ((with_reducible apply xrun_q); exact rfl; exact rfl; exact rfl) | ((with_reducible apply xrun_c); exact rfl; exact rfl; exact rfl; exact rfl; exact rfl; exact rfl; (first | exact c_outer xs[k] (all_at hv hlt) | exact c_upright xs[k].side | exact hsh | exact hcut); exact rfl) | ((with_reducible apply xrun_e); exact rfl) | with_reducible apply xrun_f | ((with_reducible apply xrun_2); exact rfl; exact rfl))) | with_reducible (first | refine xthen ?_ | refine xblock ?_) | (with_reducible intro hc; (try simp only [hcL, reduceCtorEq, List.length_map, he, hdn, hd] at hc); (try (exfalso; omega))) | with_reducible (first | exact trivial | refine And.intro ?_ ?_ | exact rfl) | exact Eq.refl true | (refine inR_i64.mpr ?_; first | omega | (simp only [List.length_map, List.length_map, he, hdn, hd]; omega)) | omega)
          all_goals refine round_end (k+1) hlt (by omega) (by (refine xwk (π := [0, 1, 6]) (by decide) rfl ?_ ?_; (first | simp -implicitDefEqProofs only [go_sem, hsu, List.map_append, hne2, i1.1]); repeat' (first | exact renE_n | ((with_reducible apply renE_c); exact rfl; focus (first | (simp -implicitDefEqProofs only [go_sem, hsu, List.map_append, hne2, i1.1]; done))))))
      · have he' : xs[k].expand = false := by simpa using he
        have hne : need xs[k] (down xs[k]) = parNeed xs k xs[k] T.2 := by unfold parNeed; rw [if_neg he]; omega
        cases hd : down xs[k] with
        | true =>
          have hne2 := (hneT hd).trans hne
          rw [← hne2] at hcut
          repeat' (first | ((with_reducible apply xsim); (first | ((with_reducible apply xlenM); exact rfl; exact rfl) | ((with_reducible apply xo); exact rfl) | ((with_reducible apply xst); exact rfl) | with_reducible apply xend | ((with_reducible apply xalloc); exact rfl; simp only [bkL, Nat.reduceAdd, Nat.reduceSub]) | ((with_reducible apply xbuild); exact rfl; exact rfl; exact rfl; exact rfl; exact rfl; simp only [bkL, Nat.reduceAdd, Nat.reduceSub]) | ((with_reducible apply xidxL); exact rfl; exact rfl; exact rfl; (first | exact hrow); omega; first | exact rfl | simp only [hsz]) | ((with_reducible apply xcallIs); exact rfl; exact rfl; (first | exact c_outer xs[k] (all_at hv hlt) | exact c_upright xs[k].side | exact hcut); exact rfl) | simp -implicitDefEqProofs only [go_sem, List.length_map, he', i1.1, hdn, hd])) | ((with_reducible apply xaw); (first | ((with_reducible apply xstepS); refine AW.step tok rfl ?_) | ((with_reducible apply xstep); refine AW.region tok rfl ?_) | with_reducible (first | refine AW.seq ?_ | refine AW.block ?_ | refine AW.skip ?_) | ((with_reducible apply xcond); exact rfl) | ((with_reducible apply xdraw (id := 13)); refine AW.draw (id := 13) (.q 0 (.q 1 (.q 2 (.q 3 (.q 4 (.q 5 (.q 6 (.q 7 (.q 8 (.q 9 (.q 10 (.two 11 (.e 12 (.e 13 (.e 14 (.fin)))) 12 (.e 11 (.e 13 (.e 14 (.fin)))))))))))))))) tok (by kernel_rfl) rfl (by kernel_rfl) ?_))) | ((with_reducible apply xarun); (first | ((with_reducible apply xrun_q); exact rfl; exact rfl; exact rfl) | ((with_reducible apply xrun_c); exact rfl; exact rfl; exact rfl; exact rfl; exact rfl; exact rfl; (first | exact c_outer xs[k] (all_at hv hlt) | exact c_upright xs[k].side | exact hcut); exact rfl) | ((with_reducible apply xrun_e); exact rfl) | with_reducible apply xrun_f | ((with_reducible apply xrun_2); exact rfl; exact rfl))) | with_reducible (first | refine xthen ?_ | refine xblock ?_) | (with_reducible intro hc; (try simp only [hcL, reduceCtorEq, List.length_map, he', i1.1, hdn, hd] at hc); (try (exfalso; omega))) | with_reducible (first | exact trivial | refine And.intro ?_ ?_ | exact rfl) | exact Eq.refl true | (refine inR_i64.mpr ?_; first | omega | (simp only [List.length_map, List.length_map, he', i1.1, hdn, hd]; omega)) | omega)
          all_goals refine round_end (k+1) hlt (by omega) (by (refine xwk (π := [0, 1, 6]) (by decide) rfl ?_ ?_; (first | simp -implicitDefEqProofs only [go_sem, hsu, List.map_append, hne2, i1.1]); repeat' (first | exact renE_n | ((with_reducible apply renE_c); exact rfl; focus (first | (simp -implicitDefEqProofs only [go_sem, hsu, List.map_append, hne2, i1.1]; done))))))
        | false =>
          have hne2 := (hneF hd).trans hne
          rw [← hne2] at hcut
          repeat' (first | ((with_reducible apply xsim); (first | ((with_reducible apply xlenM); exact rfl; exact rfl) | ((with_reducible apply xo); exact rfl) | ((with_reducible apply xst); exact rfl) | with_reducible apply xend | ((with_reducible apply xalloc); exact rfl; simp only [bkL, Nat.reduceAdd, Nat.reduceSub]) | ((with_reducible apply xbuild); exact rfl; exact rfl; exact rfl; exact rfl; exact rfl; simp only [bkL, Nat.reduceAdd, Nat.reduceSub]) | ((with_reducible apply xidxL); exact rfl; exact rfl; exact rfl; (first | exact hrow); omega; first | exact rfl | simp only [hsz]) | ((with_reducible apply xcallIs); exact rfl; exact rfl; (first | exact c_outer xs[k] (all_at hv hlt) | exact c_upright xs[k].side | exact hcut); exact rfl) | simp -implicitDefEqProofs only [go_sem, List.length_map, he', i1.1, hdn, hd])) | ((with_reducible apply xaw); (first | ((with_reducible apply xstepS); refine AW.step tok rfl ?_) | ((with_reducible apply xstep); refine AW.region tok rfl ?_) | with_reducible (first | refine AW.seq ?_ | refine AW.block ?_ | refine AW.skip ?_) | ((with_reducible apply xcond); exact rfl) | ((with_reducible apply xdraw (id := 13)); refine AW.draw (id := 13) (.q 0 (.q 1 (.q 2 (.q 3 (.q 4 (.q 5 (.q 6 (.q 7 (.q 8 (.q 9 (.q 10 (.two 11 (.e 12 (.e 13 (.e 14 (.fin)))) 12 (.e 11 (.e 13 (.e 14 (.fin)))))))))))))))) tok (by kernel_rfl) rfl (by kernel_rfl) ?_))) | ((with_reducible apply xarun); (first | ((with_reducible apply xrun_q); exact rfl; exact rfl; exact rfl) | ((with_reducible apply xrun_c); exact rfl; exact rfl; exact rfl; exact rfl; exact rfl; exact rfl; (first | exact c_outer xs[k] (all_at hv hlt) | exact c_upright xs[k].side | exact hcut); exact rfl) | ((with_reducible apply xrun_e); exact rfl) | with_reducible apply xrun_f | ((with_reducible apply xrun_2); exact rfl; exact rfl))) | with_reducible (first | refine xthen ?_ | refine xblock ?_) | (with_reducible intro hc; (try simp only [hcL, reduceCtorEq, List.length_map, he', i1.1, hdn, hd] at hc); (try (exfalso; omega))) | with_reducible (first | exact trivial | refine And.intro ?_ ?_ | exact rfl) | exact Eq.refl true | (refine inR_i64.mpr ?_; first | omega | (simp only [List.length_map, List.length_map, he', i1.1, hdn, hd]; omega)) | omega)
          all_goals refine round_end (k+1) hlt (by omega) (by (refine xwk (π := [0, 1, 6]) (by decide) rfl ?_ ?_; (first | simp -implicitDefEqProofs only [go_sem, hsu, List.map_append, hne2, i1.1]); repeat' (first | exact renE_n | ((with_reducible apply renE_c); exact rfl; focus (first | (simp -implicitDefEqProofs only [go_sem, hsu, List.map_append, hne2, i1.1]; done))))))
    · have hk' : k = xs.length := by omega
      have i1 := (hinv k hk).1
      subst hk'
      repeat' (first | ((with_reducible apply xsim); (first | ((with_reducible apply xlenM); exact rfl; exact rfl) | ((with_reducible apply xo); exact rfl) | ((with_reducible apply xst); exact rfl) | with_reducible apply xend)) | ((with_reducible apply xaw); (first | ((with_reducible apply xstepS); refine AW.step tok rfl ?_) | with_reducible (first | refine AW.seq ?_ | refine AW.ret ?_ | refine AW.exit ?_) | ((with_reducible apply xcond); exact rfl) | ((with_reducible apply xdraw (id := 16)); refine AW.draw (id := 16) (.q 0 (.q 1 (.q 2 (.e 3 (.fin))))) tok (by kernel_rfl) rfl (by kernel_rfl) ?_))) | ((with_reducible apply xarun); (first | ((with_reducible apply xrun_q); exact rfl; exact rfl; exact rfl) | ((with_reducible apply xrun_e); exact rfl) | with_reducible apply xrun_f)) | with_reducible (first | refine xthen ?_ | refine xthen_e ?_ | refine xblock_e ?_ | refine xround_e ?_) | (with_reducible intro hc; (try simp only [hcL, reduceCtorEq, List.length_map] at hc); (try (exfalso; omega))) | with_reducible (first | exact trivial | refine And.intro ?_ ?_ | exact rfl) | exact Eq.refl true)
      all_goals (refine xfinOwn [2] (by first | exact .inl rfl | exact .inr rfl) rfl (by repeat' (first | exact trivial | exact rfl | refine And.intro ?_ ?_)) (by decide) rfl ?_ ?_ <;> simp -implicitDefEqProofs only [go_sem, parcels, i1])
end Go.Proofs.YtpfhnhhkfobjnaaGreat

namespace Go.Proofs.YtpfhnhhkfobjnaaGreat
open Go.Fw
attribute [local irreducible] Go.Fw.aops Go.Fw.arun

def anchored (r : Rect) (w h a : Int) : Rect := ⟨r.x + ((r.w - min w r.w) * (a.tmod 3)).tdiv 2, r.y + ((r.h - min h r.h) * (a.tdiv 3)).tdiv 2, min w r.w, min h r.h⟩
def settled (p : Pack) (q : Rect) : Rect := anchored (inset q p.padX p.padY) (if p.fillX then (inset q p.padX p.padY).w else p.w) (if p.fillY then (inset q p.padX p.padY).h else p.h) p.anchor

theorem anchor_bd {a : Int} (h : 0 ≤ a ∧ a ≤ 8) : 0 ≤ a.tmod 3 ∧ a.tmod 3 ≤ 2 ∧ 0 ≤ a.tdiv 3 ∧ a.tdiv 3 ≤ 2 := by
  rw [Int.tmod_eq_emod_of_nonneg h.1, Int.tdiv_eq_ediv_of_nonneg h.1]; omega
theorem mul02 {a b : Int} (ha : 0 ≤ a) (hb : 0 ≤ b ∧ b ≤ 2) : 0 ≤ a * b ∧ a * b ≤ 2 * a := by
  have h1 := Int.mul_nonneg ha hb.1
  have h2 := Int.mul_le_mul_of_nonneg_left hb.2 ha
  omega

theorem inset_in {r : Rect} {px py : Int} (h : RectIn r) (hx : 0 ≤ px) (hy : 0 ≤ py) : RectIn (inset r px py) ∧ r.x ≤ (inset r px py).x ∧ r.y ≤ (inset r px py).y ∧
    (inset r px py).x + (inset r px py).w ≤ r.x + r.w ∧ (inset r px py).y + (inset r px py).h ≤ r.y + r.h := by
  obtain ⟨h1, h2, h3, h4, h5, h6⟩ := h
  have e1 := tdiv2 h3
  have e2 := tdiv2 h4
  unfold inset
  refine ⟨⟨?_, ?_, ?_, ?_, ?_, ?_⟩, ?_⟩ <;> simp only <;> omega

theorem c_part (n a : Int) (h : 0 ≤ n * a ∧ n * a ≤ 2^40) : ACon Tryz.prog 108 [.d (.int .i64 n), .d (.int .i64 a)] [] (Is (.d (.int .i64 ((n * a).tdiv 2)))) := by
  have e := tdiv2 h.1
  refine ACon.introW tok (nt := 9) Tryz.func108 rfl rfl rfl (by kernel_rfl) rfl ?_
  repeat' (first | ((with_reducible apply xsim); (first | ((with_reducible apply xo); exact rfl) | with_reducible apply xend)) | ((with_reducible apply xaw); (first | ((with_reducible apply xstepS); refine AW.step tok rfl ?_) | with_reducible refine AW.ret ?_)) | with_reducible (first | exact trivial | refine And.intro ?_ ?_ | exact rfl) | (refine inR_i64.mpr ?_; first | omega | (simp only [List.length_map]; omega)) | omega)
  all_goals (refine xfinIs (by first | exact .inl rfl | exact .inr rfl) rfl (by repeat' (first | exact trivial | exact rfl | refine And.intro ?_ ?_)) rfl ?_ rfl; first | with_reducible exact rfl)

theorem c_anchoredI (r : Rect) (w h a : Int) (hr : RectIn r) (hw : 0 ≤ w ∧ w ≤ 4194304) (hh : 0 ≤ h ∧ h ≤ 4194304) (ha : 0 ≤ a ∧ a ≤ 8) :
    ACon Tryz.prog 103 [vRect r, .d (.int .i64 w), .d (.int .i64 h), .d (.int .i64 a)] [] (Is (vRect (anchored r w h a))) := by
  have ⟨h1, h2, h3, h4, h5, h6⟩ := hr
  have hb := anchor_bd ha
  have m1 := mul02 (a := r.w - min w r.w) (b := a.tmod 3) (by omega) (by omega)
  have m2 := mul02 (a := r.h - min h r.h) (b := a.tdiv 3) (by omega) (by omega)
  have e1 := tdiv2 m1.1
  have e2 := tdiv2 m2.1
  refine ACon.introW tok (nt := 40) Tryz.func103 rfl rfl rfl (by kernel_rfl) rfl ?_
  repeat' (first | ((with_reducible apply xsim); (first | ((with_reducible apply xbld); exact rfl; exact rfl; exact rfl; (try simp only [List.set_cons_zero, List.set_cons_succ])) | ((with_reducible apply xo); exact rfl) | ((with_reducible apply xst); exact rfl) | with_reducible apply xend | ((with_reducible apply xalloc); exact rfl; simp only [bkL, Nat.reduceAdd, Nat.reduceSub]) | ((with_reducible apply xbox); exact rfl; simp only [bkL, Nat.reduceAdd, Nat.reduceSub]))) | ((with_reducible apply xaw); (first | ((with_reducible apply xstepS); refine AW.step tok rfl ?_) | with_reducible (first | refine AW.seq ?_ | refine AW.ret ?_) | ((with_reducible apply xdraw (id := 1)); refine AW.draw (id := 1) (.q 0 (.q 1 (.q 2 (.q 3 (.q 4 (.q 5 (.q 6 (.q 7 (.e 8 (.e 9 (.fin))))))))))) tok (by kernel_rfl) rfl (by kernel_rfl) ?_) | ((with_reducible apply xdraw (id := 2)); refine AW.draw (id := 2) (.q 0 (.q 1 (.q 2 (.q 3 (.q 4 (.q 5 (.q 6 (.q 7 (.q 8 (.q 9 (.q 10 (.q 11 (.q 12 (.q 13 (.q 14 (.q 15 (.q 16 (.q 17 (.q 18 (.q 19 (.q 20 (.q 21 (.q 22 (.e 23 (.fin))))))))))))))))))))))))) tok (by kernel_rfl) rfl (by kernel_rfl) ?_))) | ((with_reducible apply xarun); (first | ((with_reducible apply xrun_q); exact rfl; exact rfl; exact rfl) | ((with_reducible apply xrun_c); exact rfl; exact rfl; exact rfl; exact rfl; exact rfl; exact rfl; exact c_part _ _ (by omega); exact rfl) | ((with_reducible apply xrun_e); exact rfl) | with_reducible apply xrun_f)) | with_reducible refine xthen ?_ | with_reducible (first | exact trivial | refine And.intro ?_ ?_ | exact rfl) | exact Eq.refl true | (refine inR_i64.mpr ?_; first | omega | (simp only [List.length_map]; omega)) | omega)
  all_goals (refine xfinIs (by first | exact .inl rfl | exact .inr rfl) rfl (by repeat' (first | exact trivial | exact rfl | refine And.intro ?_ ?_)) rfl ?_ rfl; first | (simp -implicitDefEqProofs only [go_sem, anchored] <;> (first | rfl | omega | exact decide_eq_decide.2 (by omega) | exact decide_eq_false (by omega) | exact decide_eq_true (by omega) | (symm; first | exact decide_eq_false (by omega) | exact decide_eq_true (by omega)) | (rw [Bool.eq_iff_iff]; simp only [boL, reduceCtorEq]; omega))))

theorem c_anchoredS (r : Rect) (w h a : Int) (hr : RectIn r) (hw : 0 ≤ w ∧ w ≤ 4194304) (hh : 0 ≤ h ∧ h ≤ 4194304) (ha : 0 ≤ a ∧ a ≤ 8) :
    ACon Tryz.prog 152 [vRect r, .d (.int .i64 w), .d (.int .i64 h), .d (.int .i64 a)] [] (Is (vRect (anchored r w h a))) := by
  have ⟨h1, h2, h3, h4, h5, h6⟩ := hr
  have hb := anchor_bd ha
  have m1 := mul02 (a := r.w - min w r.w) (b := a.tmod 3) (by omega) (by omega)
  have m2 := mul02 (a := r.h - min h r.h) (b := a.tdiv 3) (by omega) (by omega)
  have e1 := tdiv2 m1.1
  have e2 := tdiv2 m2.1
  refine ACon.introW tok (nt := 42) Tryz.func152 rfl rfl rfl (by kernel_rfl) rfl ?_
  repeat' (first | ((with_reducible apply xsim); (first | ((with_reducible apply xbld); exact rfl; exact rfl; exact rfl; (try simp only [List.set_cons_zero, List.set_cons_succ])) | ((with_reducible apply xo); exact rfl) | ((with_reducible apply xst); exact rfl) | with_reducible apply xend | ((with_reducible apply xalloc); exact rfl; simp only [bkL, Nat.reduceAdd, Nat.reduceSub]) | ((with_reducible apply xbox); exact rfl; simp only [bkL, Nat.reduceAdd, Nat.reduceSub]))) | ((with_reducible apply xaw); (first | ((with_reducible apply xstepS); refine AW.step tok rfl ?_) | with_reducible refine AW.ret ?_)) | with_reducible (first | exact trivial | refine And.intro ?_ ?_ | exact rfl) | exact Eq.refl true | (refine inR_i64.mpr ?_; first | omega | (simp only [List.length_map]; omega)) | omega)
  all_goals (refine xfinIs (by first | exact .inl rfl | exact .inr rfl) rfl (by repeat' (first | exact trivial | exact rfl | refine And.intro ?_ ?_)) rfl ?_ rfl; first | (simp -implicitDefEqProofs only [go_sem, anchored] <;> (first | rfl | omega | exact decide_eq_decide.2 (by omega) | exact decide_eq_false (by omega) | exact decide_eq_true (by omega) | (symm; first | exact decide_eq_false (by omega) | exact decide_eq_true (by omega)) | (rw [Bool.eq_iff_iff]; simp only [boL, reduceCtorEq]; omega))))

theorem c_settled (p : Pack) (q : Rect) (hp : packB p = true) (hq : RectIn q) : ACon Tryz.prog 131 [vPack p, vRect q] [] (Is (vRect (settled p q))) := by
  have hv := packB_iff.1 hp
  have hi := (inset_in (px := p.padX) (py := p.padY) hq (by omega) (by omega)).1
  have ⟨h1, h2, h3, h4, h5, h6⟩ := hi
  refine ACon.introW tok (nt := 32) Tryz.func131 rfl rfl rfl (by kernel_rfl) rfl ?_
  cases hx : p.fillX <;> cases hy : p.fillY
  all_goals repeat' (first | ((with_reducible apply xsim); (first | ((with_reducible apply xo); exact rfl) | ((with_reducible apply xst); exact rfl) | with_reducible apply xend | ((with_reducible apply xalloc); exact rfl; simp only [bkL, Nat.reduceAdd, Nat.reduceSub]) | ((with_reducible apply xbox); exact rfl; simp only [bkL, Nat.reduceAdd, Nat.reduceSub]) | ((with_reducible apply xcallIs); exact rfl; exact rfl; (first | exact c_insetS q p.padX p.padY hq.sm hq.w hq.h (by omega) (by omega) | exact c_anchoredS _ _ _ _ hi (by omega) (by omega) (by omega)); exact rfl))) | ((with_reducible apply xaw); (first | ((with_reducible apply xstepS); refine AW.step tok rfl ?_) | ((with_reducible apply xstep); refine AW.region tok rfl ?_) | with_reducible (first | refine AW.seq ?_ | refine AW.skip ?_ | refine AW.ret ?_) | ((with_reducible apply xcond); exact rfl))) | with_reducible refine xthen ?_ | (with_reducible intro hc; (try simp only [hcL, reduceCtorEq, hx, hy] at hc); (try (exfalso; omega))) | with_reducible (first | exact trivial | refine And.intro ?_ ?_) | exact Eq.refl true)
  all_goals (refine xfinIs (by first | exact .inl rfl | exact .inr rfl) rfl (by repeat' (first | exact trivial | exact rfl | refine And.intro ?_ ?_)) rfl ?_ rfl; first | (simp -implicitDefEqProofs only [go_sem, settled, hx, hy] <;> (first | rfl | omega | exact decide_eq_decide.2 (by omega) | exact decide_eq_false (by omega) | exact decide_eq_true (by omega) | (symm; first | exact decide_eq_false (by omega) | exact decide_eq_true (by omega)) | (rw [Bool.eq_iff_iff]; simp only [boL, reduceCtorEq]; omega))))
end Go.Proofs.YtpfhnhhkfobjnaaGreat

namespace Go.Proofs.YtpfhnhhkfobjnaaGreat
open Go.Fw
attribute [local irreducible] Go.Fw.aops Go.Fw.arun

def packed (xs : List Pack) (r : Rect) : List Rect := List.zipWith settled xs (parcels xs r).1

theorem parcels_inv {xs : List Pack} {r : Rect} (hl : xs.length ≤ 10) (hv : xs.all packB = true) (hr : RectIn r) : (parcels xs r).1.length = xs.length ∧ RectIn (parcels xs r).2 ∧ ∀ q ∈ (parcels xs r).1, RectIn q :=
  parTo_inv hl hv hr xs.length (Nat.le_refl _)

theorem packed_len {xs : List Pack} {r : Rect} (h : (parcels xs r).1.length = xs.length) : (packed xs r).length = xs.length := by simp [packed, h]
theorem packed_at {xs : List Pack} {r : Rect} {k : Nat} (h : k < xs.length) (h1 : k < (parcels xs r).1.length) (h2 : k < (packed xs r).length) : (packed xs r)[k] = settled xs[k] (parcels xs r).1[k] := by
  simp [packed]

theorem c_packed (xs : List Pack) (r : Rect) (hR : RectIn r) (hl : xs.length ≤ 10) (hv : xs.all packB = true) :
    ACon Tryz.prog 93 [.d (.lst (xs.map encPack)), vRect r] [] (ORows encRect 4 (packed xs r)) := by
  have ⟨g1, g2, g3⟩ := parcels_inv hl hv hR
  have hpl := packed_len g1
  have hat := fun k h h1 h2 => packed_at (xs := xs) (r := r) (k := k) h h1 h2
  have hcall := c_parcelsS xs r hR hl hv
  generalize hps : (parcels xs r).1 = ps at *
  generalize hys : packed xs r = ys at *
  refine ACon.introW tok (nt := 33) Tryz.func93 rfl rfl rfl (by kernel_rfl) rfl ?_
  repeat' (first | ((with_reducible apply xsim); (first | ((with_reducible apply xo); exact rfl) | ((with_reducible apply xst); exact rfl) | with_reducible apply xend | ((with_reducible apply xalloc); exact rfl; simp only [bkL, Nat.reduceAdd, Nat.reduceSub]) | ((with_reducible apply xbox); exact rfl; simp only [bkL, Nat.reduceAdd, Nat.reduceSub]) | ((with_reducible apply xcallOwn); exact rfl; exact rfl; exact hcall; simp only [bkL, Nat.reduceAdd, Nat.reduceSub]))) | ((with_reducible apply xaw); (first | ((with_reducible apply xstepS); refine AW.step tok rfl ?_) | with_reducible (first | refine AW.seq ?_ | refine AW.block ?_))) | with_reducible (first | exact trivial | refine And.intro ?_ ?_) | exact Eq.refl true)
  all_goals
    refine AW.loop (S := fun k : Nat => ⟨[(0, .d (.lst (xs.map encPack))), (5, .msl 0 4 0 ps.length), (7, .d (.int .i64 k))], [.arr 4 ((mix ys ps k).map encRect)], 33, .p 0⟩)
      (Pre := fun k => k ≤ xs.length) (μ := fun k => xs.length - k) 0 (Nat.zero_le _) ?_ ?_
    · (refine xwk (π := [1]) (by decide) rfl ?_ ?_; (first | simp -implicitDefEqProofs only [go_sem, mix_zero]); repeat' (first | exact renE_n | ((with_reducible apply renE_c); exact rfl; focus (first | (simp -implicitDefEqProofs only [go_sem, mix_zero]; done)))))
    · intro k hk
      by_cases hlt : k < xs.length
      · have hrow := at_map (f := encPack) hlt
        have hmx := mixmap_at (f := encRect) (ys := ys) (zs := ps) (k := k) (by omega) (by omega)
        have hset := mixmap_set (f := encRect) (ys := ys) (zs := ps) (k := k) (by omega) (by omega)
        rw [hat k hlt (by omega) (by omega)] at hset
        simp only [encRect] at hset
        repeat' (first | ((with_reducible apply xsim); (first | ((with_reducible apply xo); exact rfl) | with_reducible apply xend | ((with_reducible apply xidxL); exact rfl; exact rfl; exact rfl; (first | exact hrow | exact hmx); omega; first | exact rfl | simp only [hsz]) | ((with_reducible apply xidxM); exact rfl; exact rfl; exact rfl; omega; omega; exact rfl) | ((with_reducible apply xldA); exact rfl; exact rfl; exact rfl; (first | exact hrow | exact hmx); exact rfl) | ((with_reducible apply xstA); exact rfl; exact rfl; exact rfl; exact rfl; (first | exact hrow | exact hmx); exact rfl; exact rfl; exact rfl; exact rfl; (try simp only [List.set_cons_zero, List.set_cons_succ])))) | ((with_reducible apply xaw); (first | ((with_reducible apply xstepS); refine AW.step tok rfl ?_) | ((with_reducible apply xstep); refine AW.region tok rfl ?_) | with_reducible (first | refine AW.seq ?_ | refine AW.block ?_ | refine AW.skip ?_) | ((with_reducible apply xcond); exact rfl) | ((with_reducible apply xdraw (id := 5)); refine AW.draw (id := 5) (.q 0 (.q 1 (.q 2 (.q 3 (.q 4 (.q 5 (.q 6 (.q 7 (.q 8 (.q 9 (.q 10 (.q 11 (.e 12 (.fin)))))))))))))) tok (by kernel_rfl) rfl (by kernel_rfl) ?_))) | ((with_reducible apply xarun); (first | ((with_reducible apply xrun_q); exact rfl; exact rfl; exact rfl) | ((with_reducible apply xrun_c); exact rfl; exact rfl; exact rfl; exact rfl; exact rfl; exact rfl; exact c_settled xs[k] ps[k] (all_at hv hlt) (g3 _ (List.getElem_mem _)); exact rfl) | ((with_reducible apply xrun_e); exact rfl) | with_reducible apply xrun_f)) | with_reducible (first | refine xthen ?_ | refine xblock ?_) | (with_reducible intro hc; (try simp only [hcL, reduceCtorEq] at hc); (try (exfalso; omega))) | with_reducible (first | exact trivial | refine And.intro ?_ ?_ | exact rfl) | exact Eq.refl true | (refine inR_i64.mpr ?_; first | omega | (simp only [List.length_map]; omega)))
        all_goals refine round_end (k+1) hlt (by omega) (by (refine xwk (π := [0]) (by decide) rfl ?_ ?_; (first | simp -implicitDefEqProofs only [go_sem, hset]); repeat' (first | exact renE_n | ((with_reducible apply renE_c); exact rfl; focus (first | (simp -implicitDefEqProofs only [go_sem, hset]; done))))))
      · have hk' : k = xs.length := by omega
        subst hk'
        have hall := mix_all (ys := ys) (zs := ps) (by omega)
        rw [hpl] at hall
        repeat' (first | ((with_reducible apply xsim); (first | ((with_reducible apply xo); exact rfl) | with_reducible apply xend)) | ((with_reducible apply xaw); (first | ((with_reducible apply xstepS); refine AW.step tok rfl ?_) | with_reducible (first | refine AW.seq ?_ | refine AW.ret ?_ | refine AW.exit ?_) | ((with_reducible apply xcond); exact rfl))) | with_reducible (first | refine xthen ?_ | refine xthen_e ?_ | refine xblock_e ?_ | refine xround_e ?_) | (with_reducible intro hc; (try simp only [hcL, reduceCtorEq] at hc); (try (exfalso; omega))) | with_reducible (first | exact trivial | refine And.intro ?_ ?_ | exact rfl) | exact Eq.refl true)
        (refine xfinOwn [0] (by first | exact .inl rfl | exact .inr rfl) rfl (by repeat' (first | exact trivial | exact rfl | refine And.intro ?_ ?_)) (by decide) rfl ?_ ?_ <;> simp -implicitDefEqProofs only [go_sem, hall, hpl, g1])

theorem c_packRects (xs : List Pack) (w h : Int) (hw : 0 ≤ w ∧ w ≤ 1048576) (hh : 0 ≤ h ∧ h ≤ 1048576) (hl : xs.length ≤ 10) (hv : xs.all packB = true) :
    ACon Tryz.prog 75 [.d (.lst (xs.map encPack)), .d (.int .i64 w), .d (.int .i64 h)] [] (ORows encRect 4 (packed xs ⟨0, 0, w, h⟩)) := by
  have hR : RectIn ⟨0, 0, w, h⟩ := by constructor <;> simp only <;> omega
  have ⟨g1, g2, g3⟩ := parcels_inv hl hv hR
  have hpl := packed_len g1
  have hat := fun k h1 h2 h3 => packed_at (xs := xs) (r := ⟨0, 0, w, h⟩) (k := k) h1 h2 h3
  have hcall := c_parcelsI xs w h hw hh hl hv
  generalize hps : (parcels xs ⟨0, 0, w, h⟩).1 = ps at *
  generalize hys : packed xs ⟨0, 0, w, h⟩ = ys at *
  refine ACon.introW tok (nt := 60) Tryz.func75 rfl rfl rfl (by kernel_rfl) rfl ?_
  repeat' (first | ((with_reducible apply xsim); (first | ((with_reducible apply xlenM); exact rfl; exact rfl) | ((with_reducible apply xo); exact rfl) | ((with_reducible apply xst); exact rfl) | with_reducible apply xend | ((with_reducible apply xalloc); exact rfl; simp only [bkL, Nat.reduceAdd, Nat.reduceSub]) | ((with_reducible apply xcallOwn); exact rfl; exact rfl; exact hcall; simp only [bkL, Nat.reduceAdd, Nat.reduceSub]))) | ((with_reducible apply xaw); (first | ((with_reducible apply xstepS); refine AW.step tok rfl ?_) | with_reducible (first | refine AW.seq ?_ | refine AW.block ?_))) | with_reducible (first | exact trivial | refine And.intro ?_ ?_) | exact Eq.refl true)
  all_goals
    refine AW.loop (S := fun k : Nat => ⟨[(7, .msl 0 4 0 ps.length), (21, .d (.lst (xs.map encPack))), (22, .d (.int .i64 xs.length)), (23, .d (.int .i64 k))], [.arr 4 ((mix ys ps k).map encRect)], 60, .p 0⟩)
      (Pre := fun k => k ≤ xs.length) (μ := fun k => xs.length - k) 0 (Nat.zero_le _) ?_ ?_
    · (refine xwk (π := [0]) (by decide) rfl ?_ ?_; (first | simp -implicitDefEqProofs only [go_sem, mix_zero]); repeat' (first | exact renE_n | ((with_reducible apply renE_c); exact rfl; focus (first | (simp -implicitDefEqProofs only [go_sem, mix_zero]; done)))))
    · intro k hk
      by_cases hlt : k < xs.length
      · have hrow := at_map (f := encPack) hlt
        have hmx := mixmap_at (f := encRect) (ys := ys) (zs := ps) (k := k) (by omega) (by omega)
        have hset := mixmap_set (f := encRect) (ys := ys) (zs := ps) (k := k) (by omega) (by omega)
        rw [hat k hlt (by omega) (by omega)] at hset
        have hq := g3 ps[k] (List.getElem_mem _)
        have hp := all_at hv hlt
        have hvp := packB_iff.1 hp
        have hi := (inset_in (px := xs[k].padX) (py := xs[k].padY) hq (by omega) (by omega)).1
        have ⟨h1, h2, h3, h4, h5, h6⟩ := hi
        cases hx : xs[k].fillX <;> cases hy : xs[k].fillY
        all_goals
          simp only [encRect, settled, hx, hy, if_true, Bool.false_eq_true, if_false] at hset
          repeat' (first | ((with_reducible apply xsim); (first | ((with_reducible apply xo); exact rfl) | ((with_reducible apply xst); exact rfl) | with_reducible apply xend | ((with_reducible apply xalloc); exact rfl; simp only [bkL, Nat.reduceAdd, Nat.reduceSub]) | ((with_reducible apply xidxL); exact rfl; exact rfl; exact rfl; (first | exact hrow | exact hmx); omega; first | exact rfl | simp only [hsz]) | ((with_reducible apply xidxM); exact rfl; exact rfl; exact rfl; omega; omega; exact rfl) | ((with_reducible apply xldA); exact rfl; exact rfl; exact rfl; (first | exact hrow | exact hmx); exact rfl) | ((with_reducible apply xstA); exact rfl; exact rfl; exact rfl; exact rfl; (first | exact hrow | exact hmx); exact rfl; exact rfl; exact rfl; exact rfl; (try simp only [List.set_cons_zero, List.set_cons_succ, hx, hy])) | ((with_reducible apply xcallIs); exact rfl; exact rfl; (first | exact c_insetI ps[k] xs[k].padX xs[k].padY hq.sm hq.w hq.h (by omega) (by omega) | exact c_anchoredI _ _ _ _ hi (by omega) (by omega) (by omega)); exact rfl))) | ((with_reducible apply xaw); (first | ((with_reducible apply xstepS); refine AW.step tok rfl ?_) | ((with_reducible apply xstep); refine AW.region tok rfl ?_) | with_reducible (first | refine AW.seq ?_ | refine AW.block ?_ | refine AW.skip ?_) | ((with_reducible apply xcond); exact rfl) | ((with_reducible apply xdraw (id := 5)); refine AW.draw (id := 5) (.q 0 (.q 1 (.q 2 (.q 3 (.q 4 (.q 5 (.q 6 (.q 7 (.q 8 (.e 9 (.e 10 (.fin)))))))))))) tok (by kernel_rfl) rfl (by kernel_rfl) ?_) | ((with_reducible apply xdraw (id := 6)); refine AW.draw (id := 6) (.q 0 (.q 1 (.q 2 (.q 3 (.q 4 (.q 5 (.fin))))))) tok (by kernel_rfl) rfl (by kernel_rfl) ?_))) | ((with_reducible apply xarun); (first | ((with_reducible apply xrun_q); exact rfl; exact rfl; exact rfl) | ((with_reducible apply xrun_c); exact rfl; exact rfl; exact rfl; exact rfl; exact rfl; exact rfl; (first | exact c_insetI ps[k] xs[k].padX xs[k].padY hq.sm hq.w hq.h (by omega) (by omega) | exact c_anchoredI _ _ _ _ hi (by omega) (by omega) (by omega)); exact rfl) | ((with_reducible apply xrun_e); exact rfl) | with_reducible apply xrun_f)) | with_reducible (first | refine xthen ?_ | refine xblock ?_) | (with_reducible intro hc; (try simp only [hcL, reduceCtorEq, hx, hy] at hc); (try (exfalso; omega))) | with_reducible (first | exact trivial | refine And.intro ?_ ?_ | exact rfl) | exact Eq.refl true | (refine inR_i64.mpr ?_; first | omega | (simp only [List.length_map, hx, hy]; omega)))
          all_goals refine round_end (k+1) hlt (by omega) (by (refine xwk (π := [0]) (by decide) rfl ?_ ?_; (first | simp -implicitDefEqProofs only [go_sem, hset]); repeat' (first | exact renE_n | ((with_reducible apply renE_c); exact rfl; focus (first | (simp -implicitDefEqProofs only [go_sem, hset]; done))))))
      · have hk' : k = xs.length := by omega
        subst hk'
        have hall := mix_all (ys := ys) (zs := ps) (by omega)
        rw [hpl] at hall
        repeat' (first | ((with_reducible apply xsim); (first | ((with_reducible apply xo); exact rfl) | with_reducible apply xend)) | ((with_reducible apply xaw); (first | ((with_reducible apply xstepS); refine AW.step tok rfl ?_) | with_reducible (first | refine AW.seq ?_ | refine AW.ret ?_ | refine AW.exit ?_) | ((with_reducible apply xcond); exact rfl))) | with_reducible (first | refine xthen ?_ | refine xthen_e ?_ | refine xblock_e ?_ | refine xround_e ?_) | (with_reducible intro hc; (try simp only [hcL, reduceCtorEq] at hc); (try (exfalso; omega))) | with_reducible (first | exact trivial | refine And.intro ?_ ?_ | exact rfl))
        (refine xfinOwn [0] (by first | exact .inl rfl | exact .inr rfl) rfl (by repeat' (first | exact trivial | exact rfl | refine And.intro ?_ ?_)) (by decide) rfl ?_ ?_ <;> simp -implicitDefEqProofs only [go_sem, hall, hpl, g1])
end Go.Proofs.YtpfhnhhkfobjnaaGreat

namespace Go.Proofs.YtpfhnhhkfobjnaaGreat
open Go.Fw
attribute [local irreducible] Go.Fw.aops Go.Fw.arun

@[go_sem] def encN (n : Int) : List D := [.int .i64 n]
def sumI : List Int → Int
  | [] => 0
  | x :: xs => x + sumI xs
theorem sumI_app (a b : List Int) : sumI (a ++ b) = sumI a + sumI b := by
  induction a with
  | nil => simp [sumI]
  | cons x a ih => simp only [List.cons_append, sumI, ih]; omega
theorem sumI_take {xs : List Int} {k : Nat} (h : k < xs.length) : sumI (xs.take (k + 1)) = sumI (xs.take k) + xs[k] := by
  rw [List.take_succ_eq_append_getElem h, sumI_app]; simp [sumI]
/-- Small numbers, not too many. -/
def NumsOk (xs : List Int) : Prop := xs.length ≤ 2^20 ∧ ∀ x ∈ xs, 0 ≤ x ∧ x ≤ 2^30
theorem NumsOk.at {xs : List Int} (h : NumsOk xs) {k : Nat} (hk : k < xs.length) : 0 ≤ xs[k] ∧ xs[k] ≤ 2^30 := h.2 _ (List.getElem_mem hk)
theorem NumsOk.sum {xs : List Int} (h : NumsOk xs) : ∀ k, k ≤ xs.length → 0 ≤ sumI (xs.take k) ∧ sumI (xs.take k) ≤ 2^30 * k := by
  intro k
  induction k with
  | zero => intro _; simp [sumI]
  | succ k ih =>
    intro hk
    have := h.at (show k < xs.length by omega)
    rw [sumI_take (by omega)]
    have := ih (by omega)
    omega

theorem c_sum (xs : List Int) (h : NumsOk xs) : ACon Tryz.prog 106 [.d (.lst (xs.map encN))] [] (Is (.d (.int .i64 (sumI xs)))) := by
  have hl := h.1
  refine ACon.introW tok (nt := 17) Tryz.func106 rfl rfl rfl (by kernel_rfl) rfl ?_
  repeat' (first | ((with_reducible apply xsim); (first | ((with_reducible apply xlenM); exact rfl; exact rfl) | ((with_reducible apply xo); exact rfl) | with_reducible apply xend)) | ((with_reducible apply xaw); (first | ((with_reducible apply xstepS); refine AW.step tok rfl ?_) | with_reducible (first | refine AW.seq ?_ | refine AW.block ?_))) | with_reducible exact trivial)
  refine AW.loop (S := fun k : Nat => ⟨[(3, .d (.int .i64 (sumI (xs.take k)))), (6, .d (.lst (xs.map encN))), (7, .d (.int .i64 xs.length)), (8, .d (.int .i64 k))], [], 17, .p 0⟩)
    (Pre := fun k => k ≤ xs.length) (μ := fun k => xs.length - k) 0 (Nat.zero_le _) ?_ ?_
  · (refine xwk (π := []) (by decide) rfl ?_ ?_; (first | exact trivial); repeat' (first | exact renE_n | ((with_reducible apply renE_c); exact rfl; focus (first | (simp -implicitDefEqProofs only [go_sem, List.take_zero, sumI]; done)))))
  · intro k hk
    have hs := h.sum k hk
    by_cases hlt : k < xs.length
    · have hrow := at_map (f := encN) hlt
      have hx := h.at hlt
      repeat' (first | ((with_reducible apply xsim); (first | ((with_reducible apply xo); exact rfl) | with_reducible apply xend | ((with_reducible apply xidxL); exact rfl; exact rfl; exact rfl; (first | exact hrow); omega; first | exact rfl | simp only [hsz]))) | ((with_reducible apply xaw); (first | ((with_reducible apply xstepS); refine AW.step tok rfl ?_) | ((with_reducible apply xstep); refine AW.region tok rfl ?_) | with_reducible (first | refine AW.seq ?_ | refine AW.block ?_ | refine AW.skip ?_) | ((with_reducible apply xcond); exact rfl))) | with_reducible (first | refine xthen ?_ | refine xblock ?_) | (with_reducible intro hc; (try simp only [hcL, reduceCtorEq, List.length_map] at hc); (try (exfalso; omega))) | with_reducible (first | exact trivial | refine And.intro ?_ ?_ | exact rfl) | (refine inR_i64.mpr ?_; first | omega | (simp only [List.length_map, List.length_map]; omega)))
      refine round_end (k+1) hlt (by omega) (by (refine xwk (π := []) (by decide) rfl ?_ ?_; (first | exact trivial); repeat' (first | exact renE_n | ((with_reducible apply renE_c); exact rfl; focus (first | (simp -implicitDefEqProofs only [go_sem, sumI_take hlt]; done))))))
    · have hk' : k = xs.length := by omega
      subst hk'
      repeat' (first | ((with_reducible apply xsim); (first | ((with_reducible apply xo); exact rfl) | with_reducible apply xend)) | ((with_reducible apply xaw); (first | ((with_reducible apply xstepS); refine AW.step tok rfl ?_) | with_reducible (first | refine AW.seq ?_ | refine AW.ret ?_ | refine AW.exit ?_) | ((with_reducible apply xcond); exact rfl))) | with_reducible (first | refine xthen ?_ | refine xthen_e ?_ | refine xblock_e ?_ | refine xround_e ?_) | (with_reducible intro hc; (try simp only [hcL, reduceCtorEq, List.length_map] at hc); (try (exfalso; omega))) | with_reducible (first | exact trivial | refine And.intro ?_ ?_ | exact rfl))
      (refine xfinIs (by first | exact .inl rfl | exact .inr rfl) rfl (by repeat' (first | exact trivial | exact rfl | refine And.intro ?_ ?_)) rfl ?_ rfl; first | (simp -implicitDefEqProofs only [go_sem, List.take_length] <;> (first | rfl | omega | exact decide_eq_decide.2 (by omega) | exact decide_eq_false (by omega) | exact decide_eq_true (by omega) | (symm; first | exact decide_eq_false (by omega) | exact decide_eq_true (by omega)) | (rw [Bool.eq_iff_iff]; simp only [boL, reduceCtorEq]; omega))))

theorem c_total (xs : List Int) (h : NumsOk xs) : ACon Tryz.prog 126 [.d (.lst (xs.map encN))] [] (Is (.d (.int .i64 (sumI xs)))) := by
  have hl := h.1
  refine ACon.introW tok (nt := 18) Tryz.func126 rfl rfl rfl (by kernel_rfl) rfl ?_
  repeat' (first | ((with_reducible apply xsim); (first | ((with_reducible apply xo); exact rfl) | with_reducible apply xend)) | ((with_reducible apply xaw); (first | ((with_reducible apply xstepS); refine AW.step tok rfl ?_) | with_reducible (first | refine AW.seq ?_ | refine AW.block ?_))) | with_reducible exact trivial)
  refine AW.loop (S := fun k : Nat => ⟨[(0, .d (.lst (xs.map encN))), (3, .d (.int .i64 (sumI (xs.take k)))), (4, .d (.int .i64 k))], [], 18, .p 0⟩)
    (Pre := fun k => k ≤ xs.length) (μ := fun k => xs.length - k) 0 (Nat.zero_le _) ?_ ?_
  · (refine xwk (π := []) (by decide) rfl ?_ ?_; (first | exact trivial); repeat' (first | exact renE_n | ((with_reducible apply renE_c); exact rfl; focus (first | (simp -implicitDefEqProofs only [go_sem, List.take_zero, sumI]; done)))))
  · intro k hk
    have hs := h.sum k hk
    by_cases hlt : k < xs.length
    · have hrow := at_map (f := encN) hlt
      have hx := h.at hlt
      repeat' (first | ((with_reducible apply xsim); (first | ((with_reducible apply xlenM); exact rfl; exact rfl) | ((with_reducible apply xo); exact rfl) | with_reducible apply xend | ((with_reducible apply xidxL); exact rfl; exact rfl; exact rfl; (first | exact hrow); omega; first | exact rfl | simp only [hsz]))) | ((with_reducible apply xaw); (first | ((with_reducible apply xstepS); refine AW.step tok rfl ?_) | ((with_reducible apply xstep); refine AW.region tok rfl ?_) | with_reducible (first | refine AW.seq ?_ | refine AW.block ?_ | refine AW.skip ?_) | ((with_reducible apply xcond); exact rfl))) | with_reducible (first | refine xthen ?_ | refine xblock ?_) | (with_reducible intro hc; (try simp only [hcL, reduceCtorEq, List.length_map] at hc); (try (exfalso; omega))) | with_reducible (first | exact trivial | refine And.intro ?_ ?_ | exact rfl) | (refine inR_i64.mpr ?_; first | omega | (simp only [List.length_map, List.length_map]; omega)))
      refine round_end (k+1) hlt (by omega) (by (refine xwk (π := []) (by decide) rfl ?_ ?_; (first | exact trivial); repeat' (first | exact renE_n | ((with_reducible apply renE_c); exact rfl; focus (first | (simp -implicitDefEqProofs only [go_sem, sumI_take hlt]; done))))))
    · have hk' : k = xs.length := by omega
      subst hk'
      repeat' (first | ((with_reducible apply xsim); (first | ((with_reducible apply xlenM); exact rfl; exact rfl) | ((with_reducible apply xo); exact rfl) | with_reducible apply xend)) | ((with_reducible apply xaw); (first | ((with_reducible apply xstepS); refine AW.step tok rfl ?_) | with_reducible (first | refine AW.seq ?_ | refine AW.ret ?_ | refine AW.exit ?_) | ((with_reducible apply xcond); exact rfl))) | with_reducible (first | refine xthen ?_ | refine xthen_e ?_ | refine xblock_e ?_ | refine xround_e ?_) | (with_reducible intro hc; (try simp only [hcL, reduceCtorEq, List.length_map] at hc); (try (exfalso; omega))) | with_reducible (first | exact trivial | refine And.intro ?_ ?_ | exact rfl))
      (refine xfinIs (by first | exact .inl rfl | exact .inr rfl) rfl (by repeat' (first | exact trivial | exact rfl | refine And.intro ?_ ?_)) rfl ?_ rfl; first | (simp -implicitDefEqProofs only [go_sem, List.take_length] <;> (first | rfl | omega | exact decide_eq_decide.2 (by omega) | exact decide_eq_false (by omega) | exact decide_eq_true (by omega) | (symm; first | exact decide_eq_false (by omega) | exact decide_eq_true (by omega)) | (rw [Bool.eq_iff_iff]; simp only [boL, reduceCtorEq]; omega))))
end Go.Proofs.YtpfhnhhkfobjnaaGreat

namespace Go.Proofs.YtpfhnhhkfobjnaaGreat
open Go.Fw

def floors (n : Int) (ws : List Int) : List Int := ws.map fun w => (n * w).tdiv (sumI ws)
/-- The first ones whose weight is not 0 have one more: after k weights. -/
def bumpTo (ws bs : List Int) (m : Int) : Nat → List Int × Int
  | 0 => (bs, m)
  | k + 1 =>
    let s := bumpTo ws bs m k
    if (ws[k]?).getD 0 ≠ 0 ∧ 0 < s.2 then (s.1.set k ((s.1[k]?).getD 0 + 1), s.2 - 1) else s
def spread (n : Int) (ws : List Int) : List Int :=
  if sumI ws = 0 then (ws.map fun _ => (0 : Int)).set (ws.length - 1) n
  else (bumpTo ws (floors n ws) (n - sumI (floors n ws)) ws.length).1

theorem bumpTo_len {ws bs : List Int} {m : Int} : ∀ k, (bumpTo ws bs m k).1.length = bs.length := by
  intro k
  induction k with
  | zero => rfl
  | succ k ih => simp only [bumpTo]; split <;> simp [ih]
theorem bumpTo_done {ws bs : List Int} {m : Int} {k : Nat} (h : (bumpTo ws bs m k).2 ≤ 0) : ∀ j, k ≤ j → bumpTo ws bs m j = bumpTo ws bs m k := by
  intro j hj
  induction j with
  | zero => obtain rfl : k = 0 := by omega
            rfl
  | succ j ih =>
    by_cases e : k = j + 1
    · rw [e]
    · have := ih (by omega)
      simp only [bumpTo]
      rw [this, if_neg (by omega)]
end Go.Proofs.YtpfhnhhkfobjnaaGreat

