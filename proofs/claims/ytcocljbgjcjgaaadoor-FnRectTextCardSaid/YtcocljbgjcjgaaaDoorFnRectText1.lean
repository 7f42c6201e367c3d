/- Contracts of the functions and the plain law behind them, as far as FnRectText needs them; joined out of the texts Q1 R9 R2 S1 S2 D1 S5 S6. -/
import Derived.Deep.Slices
import Derived.Deep.Fields
import Derived.ChangeSame
import Derived.Below
import Derived.ProofKit
import Derived.Lib.ItoaNum
import Derived.Test.YtcocljbgjcjgaaaDoorShelf
import Derived.Test.YtcocljbgjcjgaaaDoorTt
set_option linter.unusedSimpArgs false
set_option linter.unusedVariables false
namespace Go.Proofs.YtcocljbgjcjgaaaDoor
open Go.Fw
attribute [local irreducible] Go.Fw.aops Go.Fw.arun

theorem c_within (n lo hi : Int) : ACon Tryd.prog 20 [.d (.int .i64 n), .d (.int .i64 lo), .d (.int .i64 hi)] [] (Is (.d (.bool (decide (lo ≤ n ∧ n ≤ hi))))) := by
  refine ACon.introW tok (nt := 15) Tryd.func20 rfl rfl rfl (by kernel_rfl) rfl ?_
  repeat' (first | ((with_reducible apply xsim); (first | ((with_reducible apply xo); exact rfl) | with_reducible apply xend | ((with_reducible apply xguardTS); exact rfl; exact rfl) | ((with_reducible apply xguardS); exact rfl; exact rfl) | simp -implicitDefEqProofs only [go_sem, Int.reduceEq, Int.reduceLT, Int.reduceLE, Nat.reduceAdd, Nat.reduceSub, Nat.reduceMul, Nat.reduceEqDiff, Nat.reduceLeDiff, Nat.reducePow, ↓reduceIte, reduceCtorEq])) | ((with_reducible apply xaw); (first | ((with_reducible apply xstepS); refine AW.step tok rfl ?_) | ((with_reducible apply xstep); refine AW.region tok rfl ?_) | with_reducible (first | refine AW.seq ?_ | refine AW.block ?_ | refine AW.skip ?_ | refine AW.ret ?_ | refine AW.exit ?_) | ((with_reducible apply xcond); exact rfl))) | with_reducible (first | refine xthen ?_ | refine xthen_r ?_ | refine xthen_e ?_ | refine xblock ?_ | refine xblock_r ?_ | refine xblock_e ?_ | refine xblock_n rfl ?_ | refine xround_r ?_ | refine xround_e ?_) | (with_reducible intro hc; (try simp only [decide_eq_true_eq, decide_eq_false_iff_not, Bool.not_true, Bool.not_false, Bool.not_eq_true', Bool.not_eq_false', ne_eq, not_true, reduceCtorEq] at hc); (try (exfalso; omega))) | with_reducible (first | exact trivial | refine And.intro ?_ ?_ | exact rfl | exact Nat.le_refl _) | exact Eq.refl true | exact (rfl : (_ : List Nat) = _) | exact Nat.le_of_ble_eq_true rfl | (refine inR_i64.mpr ?_; first | omega | (simp only [List.length_map]; omega)) | omega)
  all_goals (refine xfinIs (by first | exact .inl rfl | exact .inr rfl) rfl (by repeat' (first | exact trivial | exact rfl | refine And.intro ?_ ?_)) rfl ?_ rfl; first | with_reducible exact rfl | (simp -implicitDefEqProofs only [go_sem, Int.reduceEq, Int.reduceLT, Int.reduceLE, Nat.reduceAdd, Nat.reduceSub, Nat.reduceMul, Nat.reduceEqDiff, Nat.reduceLeDiff, Nat.reducePow, ↓reduceIte, reduceCtorEq] <;> (first | rfl | omega | exact decide_eq_decide.2 (by omega) | exact decide_eq_false (by omega) | exact decide_eq_true (by omega) | (symm; first | exact decide_eq_false (by omega) | exact decide_eq_true (by omega)) | (rw [Bool.eq_iff_iff]; simp only [Bool.not_eq_true', Bool.not_eq_false', Bool.and_eq_true, Bool.or_eq_true, decide_eq_true_eq, decide_eq_false_iff_not, reduceCtorEq, true_iff, iff_true, false_iff, iff_false]; omega))))

theorem c_inRange (n lo hi : Int) : ACon Tryd.prog 25 [.d (.int .i64 n), .d (.int .i64 lo), .d (.int .i64 hi)] [] (Is (.d (.bool (decide (lo ≤ n ∧ n ≤ hi))))) := by
  refine ACon.introW tok (nt := 15) Tryd.func25 rfl rfl rfl (by kernel_rfl) rfl ?_
  repeat' (first | ((with_reducible apply xsim); (first | ((with_reducible apply xo); exact rfl) | with_reducible apply xend | ((with_reducible apply xguardTS); exact rfl; exact rfl) | ((with_reducible apply xguardS); exact rfl; exact rfl) | simp -implicitDefEqProofs only [go_sem, Int.reduceEq, Int.reduceLT, Int.reduceLE, Nat.reduceAdd, Nat.reduceSub, Nat.reduceMul, Nat.reduceEqDiff, Nat.reduceLeDiff, Nat.reducePow, ↓reduceIte, reduceCtorEq])) | ((with_reducible apply xaw); (first | ((with_reducible apply xstepS); refine AW.step tok rfl ?_) | ((with_reducible apply xstep); refine AW.region tok rfl ?_) | with_reducible (first | refine AW.seq ?_ | refine AW.block ?_ | refine AW.skip ?_ | refine AW.ret ?_ | refine AW.exit ?_) | ((with_reducible apply xcond); exact rfl))) | with_reducible (first | refine xthen ?_ | refine xthen_r ?_ | refine xthen_e ?_ | refine xblock ?_ | refine xblock_r ?_ | refine xblock_e ?_ | refine xblock_n rfl ?_ | refine xround_r ?_ | refine xround_e ?_) | (with_reducible intro hc; (try simp only [decide_eq_true_eq, decide_eq_false_iff_not, Bool.not_true, Bool.not_false, Bool.not_eq_true', Bool.not_eq_false', ne_eq, not_true, reduceCtorEq] at hc); (try (exfalso; omega))) | with_reducible (first | exact trivial | refine And.intro ?_ ?_ | exact rfl | exact Nat.le_refl _) | exact Eq.refl true | exact (rfl : (_ : List Nat) = _) | exact Nat.le_of_ble_eq_true rfl | (refine inR_i64.mpr ?_; first | omega | (simp only [List.length_map]; omega)) | omega)
  all_goals (refine xfinIs (by first | exact .inl rfl | exact .inr rfl) rfl (by repeat' (first | exact trivial | exact rfl | refine And.intro ?_ ?_)) rfl ?_ rfl; first | with_reducible exact rfl | (simp -implicitDefEqProofs only [go_sem, Int.reduceEq, Int.reduceLT, Int.reduceLE, Nat.reduceAdd, Nat.reduceSub, Nat.reduceMul, Nat.reduceEqDiff, Nat.reduceLeDiff, Nat.reducePow, ↓reduceIte, reduceCtorEq] <;> (first | rfl | omega | exact decide_eq_decide.2 (by omega) | exact decide_eq_false (by omega) | exact decide_eq_true (by omega) | (symm; first | exact decide_eq_false (by omega) | exact decide_eq_true (by omega)) | (rw [Bool.eq_iff_iff]; simp only [Bool.not_eq_true', Bool.not_eq_false', Bool.and_eq_true, Bool.or_eq_true, decide_eq_true_eq, decide_eq_false_iff_not, reduceCtorEq, true_iff, iff_true, false_iff, iff_false]; omega))))

end Go.Proofs.YtcocljbgjcjgaaaDoor

namespace Go.Proofs.YtcocljbgjcjgaaaDoor
open Go.Fw Go.ChangeShapes Go.WideShapes Go.Deep Go.RowKit Go.ChangeAt

section
variable {H : Type} {enc : TypeId × Value → H} {P : Program} {w : World} {base : Nat} {spare : Nat → Bool} {held : Bool}

theorem list_of {α : Type} {R : Nat → α → Prop} : ∀ n : Nat, (∀ i, i < n → ∃ p, R i p) → ∃ xs : List α, xs.length = n ∧ ∀ (i : Nat) (p : α), xs[i]? = some p → R i p := by
  intro n
  induction n with
  | zero => intro _; exact ⟨[], rfl, fun i p h => by simp at h⟩
  | succ n ih =>
    intro h
    obtain ⟨xs, h1, h2⟩ := ih fun i hi => h i (by omega)
    obtain ⟨p, hp⟩ := h n (by omega)
    refine ⟨xs ++ [p], by simp [h1], fun i q hq => ?_⟩
    rcases Nat.lt_or_ge i xs.length with hl | hl
    · rw [List.getElem?_append_left hl] at hq; exact h2 i q hq
    · rw [List.getElem?_append_right hl] at hq
      have : i - xs.length = 0 := by
        rcases Nat.eq_zero_or_pos (i - xs.length) with e | e
        · exact e
        · rw [List.getElem?_eq_none (by simp; omega)] at hq; cases hq
      rw [this] at hq
      simp only [List.getElem?_cons_zero, Option.some.injEq] at hq
      subst hq
      rw [show i = n by omega]
      exact hp

/-- A slice of records that the input brings. -/
theorem open_recs {α : Type} {encR : α → List D} {nf : Nat} {t e : TypeId} {fuel : Nat} {v : Value} {x : DataW H × List MemPlace} (ht : P.underlying t = some (.slice e)) (hC : P.cellsOf e = nf) (hnf : 0 < nf)
    (hlen : ∀ p, (encR p).length = nf)
    (hdec : ∀ (n : Nat) (cs : List Value) (y : DataW H × List MemPlace), DataW.trod enc P w base spare held n e cs = some y → ∃ p : α, ∀ (j : Nat) (d : D), (encR p)[j]? = some d → ∃ u : Value, cs[j]? = some u ∧ DRep w (· < w.heap.size) d u)
    (h : DataW.trod enc P w base spare held fuel t [v] = some x) : ∃ xs : List α, DRep w (· < w.heap.size) (.lst (xs.map encR)) v ∧ xs.length ≤ maxLen := by
  rcases open_slice ht h with ⟨h0, _⟩ | ⟨a, len, cap, m, n, D0, Pl, hcs, hb, hl, hm, hmm, hx, hi⟩
  · obtain rfl : v = .slice none 0 0 := by simpa using h0
    exact ⟨[], .nil, Nat.zero_le _⟩
  · obtain rfl : v = .slice (some a) len cap := by simpa using hcs
    have hlm : len ≤ m := by rw [hmm]; split <;> omega
    obtain ⟨xs, h1, h2⟩ := list_of (R := fun i (p : α) => ∀ (j : Nat) (d : D), (encR p)[j]? = some d → ∃ u : Value, w.cell? (a.add (i * nf + j)) = some u ∧ DRep w (· < w.heap.size) d u) len fun i hil => by
      obtain ⟨cs', hc, htr⟩ := hi i (by omega)
      obtain ⟨p, hp⟩ := hdec _ _ _ htr
      rw [hC] at hc
      obtain ⟨_, hcl, hat⟩ := World.cells?_some hc
      refine ⟨p, fun j d hd => ?_⟩
      obtain ⟨u, hu, hr⟩ := hp j d hd
      have hj : j < nf := by rw [← hlen p]; exact (List.getElem?_eq_some_iff.1 hd).1
      refine ⟨u, ?_, hr⟩
      rw [← Go.Deep.add_add, hat j hj, hu]
    refine ⟨xs, ?_, by omega⟩
    subst h1
    cases xs with
    | nil => exact .nil
    | cons p0 xs =>
      have hfirst : ∃ u, w.cell? (a.add 0) = some u := by
        have hd : (encR p0)[0]? = some ((encR p0)[0]'(by rw [hlen]; exact hnf)) := List.getElem?_eq_getElem _
        obtain ⟨u, hu, _⟩ := h2 0 p0 rfl 0 _ hd
        exact ⟨u, by simpa using hu⟩
      obtain ⟨u, hu⟩ := hfirst
      obtain ⟨b, off, spot⟩ := a
      have hs : spot = none ∧ b < w.heap.size := by
        unfold World.cell? Addr.add at hu
        simp only at hu
        split at hu
        · rename_i c _ _ hb
          refine ⟨?_, (Array.getElem?_eq_some_iff.1 hb).1⟩
          cases spot with
          | none => rfl
          | some q => simp at hu
        · cases hu
      obtain ⟨rfl, hbl⟩ := hs
      have := DRep.lst (w := w) (ok := (· < w.heap.size)) (rows := (p0 :: xs).map encR) (sz := nf) (b := b) (off := off) (cap := cap)
        (vs := fun i j => (w.cell? ⟨b, off + (i * nf + j), none⟩).getD undef) hbl
        (fun r hr => by obtain ⟨p, _, rfl⟩ := List.mem_map.1 hr; exact hlen p) (by rw [List.length_map]; exact hl)
        (fun i j r d hi hj => by
          rw [List.getElem?_map, Option.map_eq_some_iff] at hi
          obtain ⟨p, hp, rfl⟩ := hi
          obtain ⟨u, hu, _⟩ := h2 i p hp j d hj
          have hu : w.cell? ⟨b, off + (i * nf + j), none⟩ = some u := by rw [addr_add] at hu; exact hu
          rw [hu]; rfl)
        (fun i j r d hi hj => by
          rw [List.getElem?_map, Option.map_eq_some_iff] at hi
          obtain ⟨p, hp, rfl⟩ := hi
          obtain ⟨u, hu, hr⟩ := h2 i p hp j d hj
          have hu : w.cell? ⟨b, off + (i * nf + j), none⟩ = some u := by rw [addr_add] at hu; exact hu
          rw [hu]; exact hr)
      rwa [List.length_map] at this

end

/-- A law that is proved on the abstract machine, as the row asks for it. -/
theorem bridge {P : Program} {f : Nat} {args : List V} {vs : Array Value} {W : World} (hc : ACon P f args [] (Is (.d (.bool true)))) (hG : GlobG W (· < W.heap.size)) (hs : vs.size = args.length)
    (hv : ∀ (i : Nat) x, args[i]? = some x → VRep W (· < W.heap.size) [] x (vs.getD i undef)) : Calls P f vs W fun e W' => e = .returned (.bool true) ∧ Below W.heap.size W W' := by
  refine (hc.run W (· < W.heap.size) [] vs ⟨rfl, fun _ h => h, fun id o h => by simp at h, fun i j oi oj b h => by simp at h, fun i o b h => by simp at h, hG⟩ hs hv).mono ?_
  rintro e W' ⟨v, r, os, ok', ρ', rfl, ⟨rfl, rfl⟩, hI, hV, hF⟩
  cases hV with
  | d h =>
    cases h
    exact ⟨rfl, hF.os, hF.tape, hF.output, hF.size, fun k hk => hF.block k hk (fun id o h => by simp at h)⟩

section
variable {H : Type} {enc : TypeId × Value → H} {w : World} {base : Nat} {spare : Nat → Bool} {held : Bool}

/-- What a record's cells hold. -/
def DecR {α : Type} (w : World) (encR : α → List D) (ok : α → Prop) (cs : List Value) : Prop :=
  ∃ p : α, ok p ∧ ∀ (j : Nat) (d : D), (encR p)[j]? = some d → ∃ u : Value, cs[j]? = some u ∧ DRep w (· < w.heap.size) d u

theorem decByte (n : Nat) (cs : List Value) (y : DataW H × List MemPlace) (h : DataW.trod enc Tryd.prog w base spare held n 5 cs = some y) :
    DecR w encByte (fun _ => True) cs := by
  obtain ⟨k, rfl, _, hw⟩ := DataW.trod_int Tryd.underlying5 h
  have hb : 0 ≤ k ∧ k < 256 := by
    simp only [Lit.wf, Bool.and_eq_true, decide_eq_true_eq] at hw
    have h1 : IntKind.u8.min = 0 := by decide
    have h2 : IntKind.u8.max = 255 := by decide
    omega
  refine ⟨⟨k, hb⟩, trivial, fun j d hd => ?_⟩
  match j with
  | 0 => cases hd; exact ⟨_, rfl, .int⟩
  | n + 1 => simp [encByte] at hd

end
end Go.Proofs.YtcocljbgjcjgaaaDoor

namespace Go.Proofs.YtcocljbgjcjgaaaDoor
open Go.Fw

structure Rect where
  x : Int
  y : Int
  w : Int
  h : Int
@[go_sem] def encRect (r : Rect) : List D := [.int .i64 r.x, .int .i64 r.y, .int .i64 r.w, .int .i64 r.h]
@[go_sem] def vRect (r : Rect) : V := .agg ((encRect r).map .d)

end Go.Proofs.YtcocljbgjcjgaaaDoor

namespace Go.Proofs.YtcocljbgjcjgaaaDoor
open Go.Fw
attribute [local irreducible] Go.Fw.aops Go.Fw.arun

/-! Numbers in decimal. -/
theorem nDigits_le : ∀ (k u : Nat), u < 10 ^ (k + 1) → Lib.nDigits u ≤ k + 1
  | 0, u, h => by rw [Lib.nDigits_small (by simpa using h)]; omega
  | k + 1, u, h => by
    by_cases hu : u < 10
    · rw [Lib.nDigits_small hu]; omega
    · rw [Lib.nDigits_big hu]
      have := nDigits_le k (u / 10) (by rw [Nat.pow_succ] at h; omega)
      omega
theorem itoa_len {n : Int} (h : -2^63 ≤ n ∧ n < 2^63) : (Lib.itoa n).length ≤ 20 := by
  have e : (10 : Nat) ^ 19 = 10000000000000000000 := by decide
  unfold Lib.itoa
  split
  · simp only [List.length_cons, Lib.decDigits_length]
    have := nDigits_le 18 n.natAbs (by rw [e]; omega)
    omega
  · rw [Lib.decDigits_length]
    have := nDigits_le 18 n.toNat (by rw [e]; omega)
    omega
theorem itoa_neg {n : Int} (h : n < 0) : Lib.itoa n = 45 :: Lib.itoa (0 - n) := by
  unfold Lib.itoa
  rw [if_pos h, if_neg (by omega)]
  rw [show n.natAbs = (0 - n).toNat by omega]
theorem itoa_big {n : Int} (h : ¬ n < 10) : Lib.itoa n = Lib.itoa (n.tdiv 10) ++ Lib.itoa (n.tmod 10) := by
  have e1 : n.tdiv 10 = n / 10 := Int.tdiv_eq_ediv_of_nonneg (by omega)
  have e2 : n.tmod 10 = n % 10 := Int.tmod_eq_emod_of_nonneg (by omega)
  rw [e1, e2]
  unfold Lib.itoa
  rw [if_neg (by omega), if_neg (by omega), if_neg (by omega)]
  rw [Lib.decDigits, dif_neg (by omega), show (n / 10).toNat = n.toNat / 10 by omega, show (n % 10).toNat = n.toNat % 10 by omega, Lib.decDigits_one (i := n.toNat % 10) (by omega)]

theorem below_grow (w : World) (k : Nat) (os : Array Obj) : Go.RowKit.Below w.heap.size w (Go.Sort.grow (w.drewN k) os) :=
  ⟨rfl, rfl, rfl, by show w.heap.size ≤ (w.heap ++ os).size; rw [Array.size_append]; omega, fun j hj => by show (w.heap ++ os)[j]? = _; rw [Array.getElem?_append_left hj]⟩
theorem arg_int {w : World} {ok : Nat → Prop} {vs : Array Value} {n : Int} (hs : vs.size = [V.d (.int .i64 n)].length) (hv : ∀ (i : Nat) x, [V.d (.int .i64 n)][i]? = some x → VRep w ok [] x (vs.getD i undef)) : vs = #[.int .i64 n] := by
  have h0 := hv 0 _ rfl
  obtain ⟨l⟩ := vs
  match l, hs with
  | [v], _ =>
    have h0 : VRep w ok [] (.d (.int .i64 n)) v := h0
    cases h0 with | d h0 => cases h0; rfl
theorem c_Itoa (n : Int) (h : -2^63 ≤ n ∧ n < 2^63) : ACon Tryd.prog 27 [.d (.int .i64 n)] [] (Is (.d (.str (Lib.itoa n)))) := by
  refine ACon.libF (by kernel_rfl) rfl fun w ok vs hG hs hv => ?_
  rw [arg_int hs hv]
  refine (Tryd.strconv_Itoa n (by omega) (by omega) w (tabPow hG)).mono ?_
  rintro e w' ⟨rfl, k, os, rfl⟩
  exact ⟨below_grow w k os, _, rfl, fun _ _ => .d .str⟩
theorem c_numberP : ∀ (k : Nat) (n : Int), n.natAbs < k → 0 ≤ n ∧ n < 2^60 → ACon Tryd.prog 26 [.d (.int .i64 n)] [] (Is (.d (.str (Lib.itoa n)))) := by
  intro k
  induction k with
  | zero => intro n hk; omega
  | succ k ih =>
    intro n hk hn
    by_cases h1 : n < 10
    · have hc : n = 0 ∨ n = 1 ∨ n = 2 ∨ n = 3 ∨ n = 4 ∨ n = 5 ∨ n = 6 ∨ n = 7 ∨ n = 8 ∨ n = 9 := by omega
      have e : ∀ i : Nat, i < 10 → Lib.itoa (i : Int) = [UInt8.ofNat (48 + i)] := fun i hi => by
        unfold Lib.itoa
        rw [if_neg (by omega), Int.toNat_natCast, Lib.decDigits_one hi]
      have e0 := e 0 (by decide)
      have e1 := e 1 (by decide)
      have e2 := e 2 (by decide)
      have e3 := e 3 (by decide)
      have e4 := e 4 (by decide)
      have e5 := e 5 (by decide)
      have e6 := e 6 (by decide)
      have e7 := e 7 (by decide)
      have e8 := e 8 (by decide)
      have e9 := e 9 (by decide)
      clear e
      rcases hc with rfl | rfl | rfl | rfl | rfl | rfl | rfl | rfl | rfl | rfl
      all_goals first | rw [show Lib.itoa 0 = [48] from e0] | rw [show Lib.itoa 1 = [49] from e1] | rw [show Lib.itoa 2 = [50] from e2] | rw [show Lib.itoa 3 = [51] from e3] | rw [show Lib.itoa 4 = [52] from e4] | rw [show Lib.itoa 5 = [53] from e5] | rw [show Lib.itoa 6 = [54] from e6] | rw [show Lib.itoa 7 = [55] from e7] | rw [show Lib.itoa 8 = [56] from e8] | rw [show Lib.itoa 9 = [57] from e9]
      all_goals
        refine ACon.introW tok (nt := 22) Tryd.func26 rfl rfl rfl (by kernel_rfl) rfl ?_
        repeat' (first | ((with_reducible apply xsim); (first | ((with_reducible apply xo); exact rfl) | with_reducible apply xend | simp -implicitDefEqProofs only [go_sem, Int.reduceEq, Int.reduceLT, Int.reduceLE, Nat.reduceAdd, Nat.reduceSub, Nat.reduceMul, Nat.reduceEqDiff, Nat.reduceLeDiff, Nat.reducePow, ↓reduceIte, reduceCtorEq, Int.reduceToNat, Int.reduceAdd, List.take_succ_cons, List.take_zero, List.drop_zero, List.drop_succ_cons])) | ((with_reducible apply xaw); (first | ((with_reducible apply xstepS); refine AW.step tok rfl ?_) | with_reducible (first | refine AW.seq ?_ | refine AW.skip ?_ | refine AW.ret ?_) | ((with_reducible apply xcond); exact rfl))) | with_reducible (first | refine xthen ?_ | refine xthen_r ?_) | (with_reducible intro hc; (try simp only [decide_eq_true_eq, decide_eq_false_iff_not, Bool.not_true, Bool.not_false, Bool.not_eq_true', Bool.not_eq_false', ne_eq, not_true, reduceCtorEq, Int.reduceToNat, Int.reduceAdd, List.take_succ_cons, List.take_zero, List.drop_zero, List.drop_succ_cons] at hc); (try (exfalso; omega))) | with_reducible (first | exact trivial | refine And.intro ?_ ?_ | exact rfl) | (refine inR_i64.mpr ?_; first | omega | (simp only [List.length_map, Int.reduceToNat, Int.reduceAdd, List.take_succ_cons, List.take_zero, List.drop_zero, List.drop_succ_cons]; omega)))
      all_goals (refine xfinIs (by first | exact .inl rfl | exact .inr rfl) rfl (by repeat' (first | exact trivial | exact rfl | refine And.intro ?_ ?_)) rfl ?_ rfl; first | with_reducible exact rfl)
    · have q : 0 ≤ n.tdiv 10 ∧ n.tdiv 10 < n := by
        rw [Int.tdiv_eq_ediv_of_nonneg (by omega)]; omega
      have q2 : 0 ≤ n.tmod 10 ∧ n.tmod 10 < 10 := by
        rw [Int.tmod_eq_emod_of_nonneg (by omega)]; omega
      have c1 := ih (n.tdiv 10) (by omega) (by omega)
      have c2 := ih (n.tmod 10) (by omega) (by omega)
      have l1 := itoa_len (n := n.tdiv 10) (by omega)
      have l2 := itoa_len (n := n.tmod 10) (by omega)
      rw [itoa_big h1]
      refine ACon.introW tok (nt := 22) Tryd.func26 rfl rfl rfl (by kernel_rfl) rfl ?_
      repeat' (first | ((with_reducible apply xsim); (first | ((with_reducible apply xo); exact rfl) | with_reducible apply xend | ((with_reducible apply xcallIs); exact rfl; exact rfl; (first | exact c1 | exact c2); exact rfl))) | ((with_reducible apply xaw); (first | ((with_reducible apply xstepS); refine AW.step tok rfl ?_) | with_reducible (first | refine AW.seq ?_ | refine AW.skip ?_ | refine AW.ret ?_) | ((with_reducible apply xcond); exact rfl))) | with_reducible refine xthen ?_ | (with_reducible intro hc; (try simp only [decide_eq_true_eq, decide_eq_false_iff_not, Bool.not_true, Bool.not_false, Bool.not_eq_true', Bool.not_eq_false', ne_eq, not_true, reduceCtorEq] at hc); (try (exfalso; omega))) | with_reducible (first | exact trivial | refine And.intro ?_ ?_ | exact rfl) | (refine inR_i64.mpr ?_; first | omega | (simp only [List.length_map]; omega)) | omega)
      all_goals (refine xfinIs (by first | exact .inl rfl | exact .inr rfl) rfl (by repeat' (first | exact trivial | exact rfl | refine And.intro ?_ ?_)) rfl ?_ rfl; first | with_reducible exact rfl)
theorem c_number (n : Int) (hn : -2^60 < n ∧ n < 2^60) : ACon Tryd.prog 26 [.d (.int .i64 n)] [] (Is (.d (.str (Lib.itoa n)))) := by
  by_cases h0 : n < 0
  · have c1 := c_numberP ((0 - n).natAbs + 1) (0 - n) (by omega) (by omega)
    have l1 := itoa_len (n := 0 - n) (by omega)
    rw [itoa_neg h0]
    refine ACon.introW tok (nt := 22) Tryd.func26 rfl rfl rfl (by kernel_rfl) rfl ?_
    repeat' (first | ((with_reducible apply xsim); (first | ((with_reducible apply xo); exact rfl) | with_reducible apply xend | ((with_reducible apply xcallIs); exact rfl; exact rfl; exact c1; exact rfl))) | ((with_reducible apply xaw); (first | ((with_reducible apply xstepS); refine AW.step tok rfl ?_) | with_reducible (first | refine AW.seq ?_ | refine AW.ret ?_) | ((with_reducible apply xcond); exact rfl))) | with_reducible refine xthen_r ?_ | (with_reducible intro hc; (try simp only [decide_eq_true_eq, decide_eq_false_iff_not, Bool.not_true, Bool.not_false, Bool.not_eq_true', Bool.not_eq_false', ne_eq, not_true, reduceCtorEq] at hc); (try (exfalso; omega))) | with_reducible (first | exact trivial | refine And.intro ?_ ?_ | exact rfl) | (refine inR_i64.mpr ?_; first | omega | (simp only [List.length_map]; omega)) | (simp only [List.length_cons, List.length_nil]; omega))
    all_goals (refine xfinIs (by first | exact .inl rfl | exact .inr rfl) rfl (by repeat' (first | exact trivial | exact rfl | refine And.intro ?_ ?_)) rfl ?_ rfl; first | (simp -implicitDefEqProofs only [go_sem, Int.reduceEq, Int.reduceLT, Int.reduceLE, Nat.reduceAdd, Nat.reduceSub, Nat.reduceMul, Nat.reduceEqDiff, Nat.reduceLeDiff, Nat.reducePow, ↓reduceIte, reduceCtorEq] <;> (first | rfl | omega | exact decide_eq_decide.2 (by omega) | exact decide_eq_false (by omega) | exact decide_eq_true (by omega) | (symm; first | exact decide_eq_false (by omega) | exact decide_eq_true (by omega)) | (rw [Bool.eq_iff_iff]; simp only [Bool.not_eq_true', Bool.not_eq_false', Bool.and_eq_true, Bool.or_eq_true, decide_eq_true_eq, decide_eq_false_iff_not, reduceCtorEq, true_iff, iff_true, false_iff, iff_false]; omega))))
  · exact c_numberP (n.natAbs + 1) n (by omega) (by omega)
end Go.Proofs.YtcocljbgjcjgaaaDoor

namespace Go.Proofs.YtcocljbgjcjgaaaDoor
open Go.Fw
attribute [local irreducible] Go.Fw.aops Go.Fw.arun

/-! Rectangles' texts. -/
def rectOk (r : Rect) : Bool := decide (0 ≤ r.w ∧ r.w ≤ 400 ∧ 0 ≤ r.h ∧ r.h ≤ 400 ∧ -1000 ≤ r.x ∧ r.x ≤ 1000 - r.w ∧ -1000 ≤ r.y ∧ r.y ≤ 1000 - r.h)
theorem c_validRect (r : Rect) : ACon Tryd.prog 14 [vRect r] [] (Is (.d (.bool (rectOk r)))) := by
  refine ACon.introW tok (nt := 27) Tryd.func14 rfl rfl rfl (by kernel_rfl) rfl ?_
  repeat' (first | ((with_reducible apply xsim); (first | ((with_reducible apply xo); exact rfl) | with_reducible apply xend | ((with_reducible apply xguardS); exact rfl; exact rfl) | ((with_reducible apply xbox); exact rfl; simp only [backV, backVs, backVs_mapd, backId, backO, List.map_cons, List.map_nil, List.getElem?_nil, List.length_cons, List.length_nil, Nat.reduceAdd, Nat.reduceSub, List.cons_append, List.nil_append, List.append_nil]) | ((with_reducible apply xcallIs); exact rfl; exact rfl; exact c_inRange _ _ _; exact rfl))) | ((with_reducible apply xaw); (first | ((with_reducible apply xstepS); refine AW.step tok rfl ?_) | with_reducible refine AW.ret ?_)) | (with_reducible intro hc; (try simp only [decide_eq_true_eq, decide_eq_false_iff_not, Bool.not_true, Bool.not_false, Bool.not_eq_true', Bool.not_eq_false', ne_eq, not_true, reduceCtorEq] at hc); (try (exfalso; omega))) | with_reducible (first | exact trivial | refine And.intro ?_ ?_ | exact rfl) | (refine inR_i64.mpr ?_; first | omega | (simp only [List.length_map]; omega)))
  all_goals (refine xfinIs (by first | exact .inl rfl | exact .inr rfl) rfl (by repeat' (first | exact trivial | exact rfl | refine And.intro ?_ ?_)) rfl ?_ rfl; first | (simp -implicitDefEqProofs only [go_sem, Int.reduceEq, Int.reduceLT, Int.reduceLE, Nat.reduceAdd, Nat.reduceSub, Nat.reduceMul, Nat.reduceEqDiff, Nat.reduceLeDiff, Nat.reducePow, ↓reduceIte, reduceCtorEq, rectOk] <;> (first | rfl | omega | exact decide_eq_decide.2 (by omega) | exact decide_eq_false (by omega) | exact decide_eq_true (by omega) | (symm; first | exact decide_eq_false (by omega) | exact decide_eq_true (by omega)) | (rw [Bool.eq_iff_iff]; simp only [Bool.not_eq_true', Bool.not_eq_false', Bool.and_eq_true, Bool.or_eq_true, decide_eq_true_eq, decide_eq_false_iff_not, reduceCtorEq, true_iff, iff_true, false_iff, iff_false]; omega))))
theorem c_ValidRectE (r : Rect) : ACon Tryd.prog 16 [vRect r] [] (Is (.d (.bool (rectOk r)))) := by
  refine ACon.introW tok (nt := 27) Tryd.func16 rfl rfl rfl (by kernel_rfl) rfl ?_
  repeat' (first | ((with_reducible apply xsim); (first | ((with_reducible apply xo); exact rfl) | with_reducible apply xend | ((with_reducible apply xguardS); exact rfl; exact rfl) | ((with_reducible apply xbox); exact rfl; simp only [backV, backVs, backVs_mapd, backId, backO, List.map_cons, List.map_nil, List.getElem?_nil, List.length_cons, List.length_nil, Nat.reduceAdd, Nat.reduceSub, List.cons_append, List.nil_append, List.append_nil]) | ((with_reducible apply xcallIs); exact rfl; exact rfl; exact c_within _ _ _; exact rfl))) | ((with_reducible apply xaw); (first | ((with_reducible apply xstepS); refine AW.step tok rfl ?_) | with_reducible refine AW.ret ?_)) | (with_reducible intro hc; (try simp only [decide_eq_true_eq, decide_eq_false_iff_not, Bool.not_true, Bool.not_false, Bool.not_eq_true', Bool.not_eq_false', ne_eq, not_true, reduceCtorEq] at hc); (try (exfalso; omega))) | with_reducible (first | exact trivial | refine And.intro ?_ ?_ | exact rfl) | (refine inR_i64.mpr ?_; first | omega | (simp only [List.length_map]; omega)))
  all_goals (refine xfinIs (by first | exact .inl rfl | exact .inr rfl) rfl (by repeat' (first | exact trivial | exact rfl | refine And.intro ?_ ?_)) rfl ?_ rfl; first | (simp -implicitDefEqProofs only [go_sem, Int.reduceEq, Int.reduceLT, Int.reduceLE, Nat.reduceAdd, Nat.reduceSub, Nat.reduceMul, Nat.reduceEqDiff, Nat.reduceLeDiff, Nat.reducePow, ↓reduceIte, reduceCtorEq, rectOk] <;> (first | rfl | omega | exact decide_eq_decide.2 (by omega) | exact decide_eq_false (by omega) | exact decide_eq_true (by omega) | (symm; first | exact decide_eq_false (by omega) | exact decide_eq_true (by omega)) | (rw [Bool.eq_iff_iff]; simp only [Bool.not_eq_true', Bool.not_eq_false', Bool.and_eq_true, Bool.or_eq_true, decide_eq_true_eq, decide_eq_false_iff_not, reduceCtorEq, true_iff, iff_true, false_iff, iff_false]; omega))))
def rtext (r : Rect) : List UInt8 := ((((((Lib.itoa r.x ++ [44]) ++ Lib.itoa r.y) ++ [43]) ++ Lib.itoa r.w) ++ [120]) ++ Lib.itoa r.h)
theorem c_rectText (r : Rect) (h : rectOk r = true) : ACon Tryd.prog 15 [vRect r] [] (Is (.d (.str (rtext r)))) := by
  have h := of_decide_eq_true h
  have l1 := itoa_len (n := r.x) (by omega)
  have l2 := itoa_len (n := r.y) (by omega)
  have l3 := itoa_len (n := r.w) (by omega)
  have l4 := itoa_len (n := r.h) (by omega)
  refine ACon.introW tok (nt := 21) Tryd.func15 rfl rfl rfl (by kernel_rfl) rfl ?_
  repeat' (first | ((with_reducible apply xsim); (first | ((with_reducible apply xo); exact rfl) | with_reducible apply xend | ((with_reducible apply xbox); exact rfl; simp only [backV, backVs, backVs_mapd, backId, backO, List.map_cons, List.map_nil, List.getElem?_nil, List.length_cons, List.length_nil, Nat.reduceAdd, Nat.reduceSub, List.cons_append, List.nil_append, List.append_nil]))) | ((with_reducible apply xaw); (first | ((with_reducible apply xstepS); refine AW.step tok rfl ?_) | with_reducible (first | refine AW.seq ?_ | refine AW.ret ?_) | ((with_reducible apply xdraw (id := 1)); refine AW.draw (id := 1) (.q 0 (.q 1 (.q 2 (.q 3 (.q 4 (.q 5 (.q 6 (.q 7 (.q 8 (.q 9 (.q 10 (.q 11 (.q 12 (.q 13 (.q 14 (.q 15 (.q 16 (.q 17 (.q 18 (.fin)))))))))))))))))))) tok (by kernel_rfl) rfl (by kernel_rfl) ?_))) | ((with_reducible apply xarun); (first | ((with_reducible apply xrun_q); exact rfl; exact rfl; exact rfl) | ((with_reducible apply xrun_c); exact rfl; exact rfl; exact rfl; exact rfl; exact rfl; exact rfl; (first | exact c_number r.x (by omega) | exact c_number r.y (by omega) | exact c_number r.w (by omega) | exact c_number r.h (by omega)); exact rfl) | with_reducible apply xrun_f)) | with_reducible refine xthen ?_ | with_reducible exact trivial | (simp only [List.length_append, List.length_cons, List.length_nil]; omega))
  all_goals (refine xfinIs (by first | exact .inl rfl | exact .inr rfl) rfl (by repeat' (first | exact trivial | exact rfl | refine And.intro ?_ ?_)) rfl ?_ rfl; first | (simp -implicitDefEqProofs only [go_sem, Int.reduceEq, Int.reduceLT, Int.reduceLE, Nat.reduceAdd, Nat.reduceSub, Nat.reduceMul, Nat.reduceEqDiff, Nat.reduceLeDiff, Nat.reducePow, ↓reduceIte, reduceCtorEq, rtext] <;> (first | rfl | omega | exact decide_eq_decide.2 (by omega) | exact decide_eq_false (by omega) | exact decide_eq_true (by omega) | (symm; first | exact decide_eq_false (by omega) | exact decide_eq_true (by omega)) | (rw [Bool.eq_iff_iff]; simp only [Bool.not_eq_true', Bool.not_eq_false', Bool.and_eq_true, Bool.or_eq_true, decide_eq_true_eq, decide_eq_false_iff_not, reduceCtorEq, true_iff, iff_true, false_iff, iff_false]; omega))))
theorem c_rText (r : Rect) (h : rectOk r = true) : ACon Tryd.prog 17 [vRect r] [] (Is (.d (.str (rtext r)))) := by
  have h := of_decide_eq_true h
  have l1 := itoa_len (n := r.x) (by omega)
  have l2 := itoa_len (n := r.y) (by omega)
  have l3 := itoa_len (n := r.w) (by omega)
  have l4 := itoa_len (n := r.h) (by omega)
  refine ACon.introW tok (nt := 21) Tryd.func17 rfl rfl rfl (by kernel_rfl) rfl ?_
  repeat' (first | ((with_reducible apply xsim); (first | ((with_reducible apply xo); exact rfl) | with_reducible apply xend | ((with_reducible apply xbox); exact rfl; simp only [backV, backVs, backVs_mapd, backId, backO, List.map_cons, List.map_nil, List.getElem?_nil, List.length_cons, List.length_nil, Nat.reduceAdd, Nat.reduceSub, List.cons_append, List.nil_append, List.append_nil]))) | ((with_reducible apply xaw); (first | ((with_reducible apply xstepS); refine AW.step tok rfl ?_) | with_reducible (first | refine AW.seq ?_ | refine AW.ret ?_) | ((with_reducible apply xdraw (id := 1)); refine AW.draw (id := 1) (.q 0 (.q 1 (.q 2 (.q 3 (.q 4 (.q 5 (.q 6 (.q 7 (.q 8 (.q 9 (.q 10 (.q 11 (.q 12 (.q 13 (.q 14 (.q 15 (.q 16 (.q 17 (.q 18 (.fin)))))))))))))))))))) tok (by kernel_rfl) rfl (by kernel_rfl) ?_))) | ((with_reducible apply xarun); (first | ((with_reducible apply xrun_q); exact rfl; exact rfl; exact rfl) | ((with_reducible apply xrun_c); exact rfl; exact rfl; exact rfl; exact rfl; exact rfl; exact rfl; (first | exact c_Itoa r.x (by omega) | exact c_Itoa r.y (by omega) | exact c_Itoa r.w (by omega) | exact c_Itoa r.h (by omega)); exact rfl) | with_reducible apply xrun_f)) | with_reducible refine xthen ?_ | with_reducible exact trivial | (simp only [List.length_append, List.length_cons, List.length_nil]; omega))
  all_goals (refine xfinIs (by first | exact .inl rfl | exact .inr rfl) rfl (by repeat' (first | exact trivial | exact rfl | refine And.intro ?_ ?_)) rfl ?_ rfl; first | (simp -implicitDefEqProofs only [go_sem, Int.reduceEq, Int.reduceLT, Int.reduceLE, Nat.reduceAdd, Nat.reduceSub, Nat.reduceMul, Nat.reduceEqDiff, Nat.reduceLeDiff, Nat.reducePow, ↓reduceIte, reduceCtorEq, rtext] <;> (first | rfl | omega | exact decide_eq_decide.2 (by omega) | exact decide_eq_false (by omega) | exact decide_eq_true (by omega) | (symm; first | exact decide_eq_false (by omega) | exact decide_eq_true (by omega)) | (rw [Bool.eq_iff_iff]; simp only [Bool.not_eq_true', Bool.not_eq_false', Bool.and_eq_true, Bool.or_eq_true, decide_eq_true_eq, decide_eq_false_iff_not, reduceCtorEq, true_iff, iff_true, false_iff, iff_false]; omega))))
def rectText (r : Rect) : List UInt8 := if rectOk r = true then rtext r else []
theorem c_RectTextS (r : Rect) : ACon Tryd.prog 6 [vRect r] [] (Is (.d (.str (rectText r)))) := by
  have c1 := c_validRect r
  cases h : rectOk r
  · rw [h] at c1
    rw [show rectText r = [] by unfold rectText; rw [h]; rfl]
    refine ACon.introW tok (nt := 8) Tryd.func6 rfl rfl rfl (by kernel_rfl) rfl ?_
    repeat' (first | ((with_reducible apply xsim); (first | ((with_reducible apply xo); exact rfl) | with_reducible apply xend | ((with_reducible apply xbox); exact rfl; simp only [backV, backVs, backVs_mapd, backId, backO, List.map_cons, List.map_nil, List.getElem?_nil, List.length_cons, List.length_nil, Nat.reduceAdd, Nat.reduceSub, List.cons_append, List.nil_append, List.append_nil]) | ((with_reducible apply xcallIs); exact rfl; exact rfl; exact c1; exact rfl))) | ((with_reducible apply xaw); (first | ((with_reducible apply xstepS); refine AW.step tok rfl ?_) | with_reducible (first | refine AW.seq ?_ | refine AW.ret ?_) | ((with_reducible apply xcond); exact rfl))) | with_reducible refine xthen_r ?_ | (with_reducible intro hc; (try simp only [decide_eq_true_eq, decide_eq_false_iff_not, Bool.not_true, Bool.not_false, Bool.not_eq_true', Bool.not_eq_false', ne_eq, not_true, reduceCtorEq] at hc); (try (exfalso; omega))) | with_reducible exact trivial | exact Eq.refl true)
    all_goals (refine xfinIs (by first | exact .inl rfl | exact .inr rfl) rfl (by repeat' (first | exact trivial | exact rfl | refine And.intro ?_ ?_)) rfl ?_ rfl; first | with_reducible exact rfl)
  · rw [h] at c1
    rw [show rectText r = rtext r by unfold rectText; rw [h]; rfl]
    have c2 := c_rectText r h
    refine ACon.introW tok (nt := 8) Tryd.func6 rfl rfl rfl (by kernel_rfl) rfl ?_
    repeat' (first | ((with_reducible apply xsim); (first | ((with_reducible apply xo); exact rfl) | with_reducible apply xend | ((with_reducible apply xbox); exact rfl; simp only [backV, backVs, backVs_mapd, backId, backO, List.map_cons, List.map_nil, List.getElem?_nil, List.length_cons, List.length_nil, Nat.reduceAdd, Nat.reduceSub, List.cons_append, List.nil_append, List.append_nil]) | ((with_reducible apply xcallIs); exact rfl; exact rfl; (first | exact c1 | exact c2); exact rfl))) | ((with_reducible apply xaw); (first | ((with_reducible apply xstepS); refine AW.step tok rfl ?_) | with_reducible (first | refine AW.seq ?_ | refine AW.skip ?_ | refine AW.ret ?_) | ((with_reducible apply xcond); exact rfl))) | with_reducible refine xthen ?_ | (with_reducible intro hc; (try simp only [decide_eq_true_eq, decide_eq_false_iff_not, Bool.not_true, Bool.not_false, Bool.not_eq_true', Bool.not_eq_false', ne_eq, not_true, reduceCtorEq] at hc); (try (exfalso; omega))) | with_reducible exact trivial | exact Eq.refl true)
    all_goals (refine xfinIs (by first | exact .inl rfl | exact .inr rfl) rfl (by repeat' (first | exact trivial | exact rfl | refine And.intro ?_ ?_)) rfl ?_ rfl; first | with_reducible exact rfl)
theorem c_RectTextI (r : Rect) : ACon Tryd.prog 8 [vRect r] [] (Is (.d (.str (rectText r)))) := by
  have c1 := c_ValidRectE r
  cases h : rectOk r
  · rw [h] at c1
    rw [show rectText r = [] by unfold rectText; rw [h]; rfl]
    refine ACon.introW tok (nt := 8) Tryd.func8 rfl rfl rfl (by kernel_rfl) rfl ?_
    repeat' (first | ((with_reducible apply xsim); (first | ((with_reducible apply xo); exact rfl) | with_reducible apply xend | ((with_reducible apply xbox); exact rfl; simp only [backV, backVs, backVs_mapd, backId, backO, List.map_cons, List.map_nil, List.getElem?_nil, List.length_cons, List.length_nil, Nat.reduceAdd, Nat.reduceSub, List.cons_append, List.nil_append, List.append_nil]) | ((with_reducible apply xcallIs); exact rfl; exact rfl; exact c1; exact rfl))) | ((with_reducible apply xaw); (first | ((with_reducible apply xstepS); refine AW.step tok rfl ?_) | with_reducible (first | refine AW.seq ?_ | refine AW.ret ?_) | ((with_reducible apply xcond); exact rfl))) | with_reducible refine xthen_r ?_ | (with_reducible intro hc; (try simp only [decide_eq_true_eq, decide_eq_false_iff_not, Bool.not_true, Bool.not_false, Bool.not_eq_true', Bool.not_eq_false', ne_eq, not_true, reduceCtorEq] at hc); (try (exfalso; omega))) | with_reducible exact trivial | exact Eq.refl true)
    all_goals (refine xfinIs (by first | exact .inl rfl | exact .inr rfl) rfl (by repeat' (first | exact trivial | exact rfl | refine And.intro ?_ ?_)) rfl ?_ rfl; first | with_reducible exact rfl)
  · rw [h] at c1
    rw [show rectText r = rtext r by unfold rectText; rw [h]; rfl]
    have c2 := c_rText r h
    refine ACon.introW tok (nt := 8) Tryd.func8 rfl rfl rfl (by kernel_rfl) rfl ?_
    repeat' (first | ((with_reducible apply xsim); (first | ((with_reducible apply xo); exact rfl) | with_reducible apply xend | ((with_reducible apply xbox); exact rfl; simp only [backV, backVs, backVs_mapd, backId, backO, List.map_cons, List.map_nil, List.getElem?_nil, List.length_cons, List.length_nil, Nat.reduceAdd, Nat.reduceSub, List.cons_append, List.nil_append, List.append_nil]) | ((with_reducible apply xcallIs); exact rfl; exact rfl; (first | exact c1 | exact c2); exact rfl))) | ((with_reducible apply xaw); (first | ((with_reducible apply xstepS); refine AW.step tok rfl ?_) | with_reducible (first | refine AW.seq ?_ | refine AW.skip ?_ | refine AW.ret ?_) | ((with_reducible apply xcond); exact rfl))) | with_reducible refine xthen ?_ | (with_reducible intro hc; (try simp only [decide_eq_true_eq, decide_eq_false_iff_not, Bool.not_true, Bool.not_false, Bool.not_eq_true', Bool.not_eq_false', ne_eq, not_true, reduceCtorEq] at hc); (try (exfalso; omega))) | with_reducible exact trivial | exact Eq.refl true)
    all_goals (refine xfinIs (by first | exact .inl rfl | exact .inr rfl) rfl (by repeat' (first | exact trivial | exact rfl | refine And.intro ?_ ?_)) rfl ?_ rfl; first | with_reducible exact rfl)
end Go.Proofs.YtcocljbgjcjgaaaDoor

namespace Go.Proofs.YtcocljbgjcjgaaaDoor
open Go.Fw
attribute [local irreducible] Go.Fw.aops Go.Fw.arun

theorem tmod_bd {a m : Int} (ha : 0 ≤ a) (hm : 0 < m) : 0 ≤ a.tmod m ∧ a.tmod m < m := ⟨Int.tmod_nonneg m ha, Int.tmod_lt_of_pos a hm⟩
theorem tdiv_bd {a m : Int} (ha : 0 ≤ a) (hm : 0 < m) : 0 ≤ a.tdiv m ∧ a.tdiv m ≤ a := ⟨Int.tdiv_nonneg ha (Int.le_of_lt hm), Int.tdiv_le_self _ ha⟩

theorem xor_bd {a b : Int} (ha : 0 ≤ a ∧ a < 2^60) (hb : 0 ≤ b ∧ b < 2^60) : 0 ≤ ibits .xor .i64 a b := by
  obtain ⟨m, rfl⟩ := Int.eq_ofNat_of_zero_le ha.1
  obtain ⟨n, rfl⟩ := Int.eq_ofNat_of_zero_le hb.1
  have hm : m < 2^60 := by omega
  have hn : n < 2^60 := by omega
  have hx := Nat.xor_lt_two_pow hm hn
  have e : ((BitVec.ofInt 64 (m : Int)) ^^^ (BitVec.ofInt 64 (n : Int))).toNat = m ^^^ n := by
    rw [BitVec.toNat_xor]
    simp only [BitVec.ofInt_natCast, BitVec.toNat_ofNat]
    rw [Nat.mod_eq_of_lt (by omega), Nat.mod_eq_of_lt (by omega)]
  have hr : inR .i64 ((m ^^^ n : Nat) : Int) := inR_i64.mpr (by omega)
  show 0 ≤ IntKind.i64.wrap (((BitVec.ofInt 64 (m : Int)) ^^^ (BitVec.ofInt 64 (n : Int))).toNat : Int)
  rw [e]
  rw [show IntKind.i64.wrap ((m ^^^ n : Nat) : Int) = ((m ^^^ n : Nat) : Int) from hr]
  omega

theorem c_newReader (xs : List Byte) (hl : xs.length < 2^63) : ACon Tryd.prog 19 [.d (.lst (xs.map encByte))] [] (Own (.oref 0 0) [.box [.d (.lst ((xs.take 2000).map encByte)), .d (.int .i64 0)]]) := by
  refine ACon.introW tok (nt := 11) Tryd.func19 rfl rfl rfl (by kernel_rfl) rfl ?_
  repeat' (first | ((with_reducible apply xsim); (first | ((with_reducible apply xlenM); exact rfl; exact rfl) | ((with_reducible apply xo); exact rfl) | with_reducible apply xend | ((with_reducible apply xbox); exact rfl; simp only [backV, backVs, backVs_mapd, backId, backO, List.map_cons, List.map_nil, List.getElem?_nil, List.length_cons, List.length_nil, Nat.reduceAdd, Nat.reduceSub, List.cons_append, List.nil_append, List.append_nil]) | ((with_reducible apply xslcLo); exact rfl; exact rfl; exact rfl; exact (fun r hr => by obtain ⟨a, _, rfl⟩ := List.mem_map.1 hr; rfl); first | omega | (simp only [List.length_cons, List.length_nil]; omega)) | ((with_reducible apply xslcHi); exact rfl; exact rfl; exact rfl; exact (fun r hr => by obtain ⟨a, _, rfl⟩ := List.mem_map.1 hr; rfl); first | omega | (simp only [List.length_cons, List.length_nil]; omega)) | ((with_reducible apply xslcB); exact rfl; exact rfl; exact rfl; exact rfl; exact (fun r hr => by obtain ⟨a, _, rfl⟩ := List.mem_map.1 hr; rfl); first | omega | (simp only [List.length_cons, List.length_nil]; omega)) | ((with_reducible apply xslcMHi); exact rfl; exact rfl; exact rfl; (first | omega | (simp only [List.length_cons, List.length_nil]; omega))) | ((with_reducible apply xslcMLo); exact rfl; exact rfl; exact rfl; (first | omega | (simp only [List.length_cons, List.length_nil]; omega))) | ((with_reducible apply xslcMB); exact rfl; exact rfl; exact rfl; exact rfl; (first | omega | (simp only [List.length_cons, List.length_nil]; omega))) | simp -implicitDefEqProofs only [go_sem, Int.reduceEq, Int.reduceLT, Int.reduceLE, Nat.reduceAdd, Nat.reduceSub, Nat.reduceMul, Nat.reduceEqDiff, Nat.reduceLeDiff, Nat.reducePow, ↓reduceIte, reduceCtorEq])) | ((with_reducible apply xaw); (first | ((with_reducible apply xstepS); refine AW.step tok rfl ?_) | ((with_reducible apply xstep); refine AW.region tok rfl ?_) | with_reducible (first | refine AW.seq ?_ | refine AW.block ?_ | refine AW.skip ?_ | refine AW.ret ?_ | refine AW.exit ?_) | ((with_reducible apply xcond); exact rfl))) | with_reducible (first | refine xthen ?_ | refine xthen_r ?_ | refine xthen_e ?_ | refine xblock ?_ | refine xblock_r ?_ | refine xblock_e ?_ | refine xblock_n rfl ?_ | refine xround_r ?_ | refine xround_e ?_) | (with_reducible intro hc; (try simp only [decide_eq_true_eq, decide_eq_false_iff_not, Bool.not_true, Bool.not_false, Bool.not_eq_true', Bool.not_eq_false', ne_eq, not_true, reduceCtorEq] at hc); (try (exfalso; omega))) | with_reducible (first | exact trivial | refine And.intro ?_ ?_ | exact rfl | exact Nat.le_refl _) | exact Eq.refl true | exact (rfl : (_ : List Nat) = _) | exact Nat.le_of_ble_eq_true rfl | (refine inR_i64.mpr ?_; first | omega | (simp only [List.length_map]; omega)) | omega)
  · (refine xfinOwn [0] (by first | exact .inl rfl | exact .inr rfl) rfl (by repeat' (first | exact trivial | exact rfl | refine And.intro ?_ ?_)) (by decide) rfl ?_ ?_ <;> simp -implicitDefEqProofs only [go_sem, Int.reduceEq, Int.reduceLT, Int.reduceLE, Nat.reduceAdd, Nat.reduceSub, Nat.reduceMul, Nat.reduceEqDiff, Nat.reduceLeDiff, Nat.reducePow, ↓reduceIte, reduceCtorEq, Int.reduceToNat])
  · rw [List.take_of_length_le (by omega)]
    (refine xfinOwn [0] (by first | exact .inl rfl | exact .inr rfl) rfl (by repeat' (first | exact trivial | exact rfl | refine And.intro ?_ ?_)) (by decide) rfl ?_ ?_ <;> simp -implicitDefEqProofs only [go_sem, Int.reduceEq, Int.reduceLT, Int.reduceLE, Nat.reduceAdd, Nat.reduceSub, Nat.reduceMul, Nat.reduceEqDiff, Nat.reduceLeDiff, Nat.reducePow, ↓reduceIte, reduceCtorEq])

/-- A number that is drawn below n. -/
def Below (n : Int) (r : V) : Prop := ∃ v, r = .d (.int .i64 v) ∧ 0 ≤ v ∧ (1 ≤ n → v < n) ∧ (n < 1 → v = 0)

theorem c_pick (bs : List Byte) (p n : Int) (hb : bs.length ≤ 2000) (hp : 0 ≤ p ∧ p < 2^40) (hn : n < 2^40) :
    ACon Tryd.prog 29 [.oref 0 0, .d (.int .i64 n)] [.box [.d (.lst (bs.map encByte)), .d (.int .i64 p)]] (Rd (.lst (bs.map encByte)) (p + 1) (p + 1) (Below n)) := by
  by_cases h1 : n < 1
  · refine ACon.introW tok (nt := 99) Tryd.func29 rfl rfl rfl (by kernel_rfl) rfl ?_
    repeat' (first | ((with_reducible apply xsim); (first | ((with_reducible apply xlenM); exact rfl; exact rfl) | ((with_reducible apply xo); exact rfl) | ((with_reducible apply xst); exact rfl) | with_reducible apply xend | ((with_reducible apply xguardTS); exact rfl; exact rfl) | ((with_reducible apply xguardS); exact rfl; exact rfl) | ((with_reducible apply xidxL); exact rfl; exact rfl; exact rfl; exact rfl; omega; first | exact rfl | simp only [hsz]) | ((with_reducible apply xidxM); exact rfl; exact rfl; exact rfl; omega; omega; exact rfl) | ((with_reducible apply xldA); exact rfl; exact rfl; exact rfl; exact rfl; exact rfl) | ((with_reducible apply xstA); exact rfl; exact rfl; exact rfl; exact rfl; exact rfl; exact rfl; exact rfl; exact rfl; exact rfl; (try simp only [List.set_cons_zero, List.set_cons_succ])) | simp -implicitDefEqProofs only [go_sem, Int.reduceEq, Int.reduceLT, Int.reduceLE, Nat.reduceAdd, Nat.reduceSub, Nat.reduceMul, Nat.reduceEqDiff, Nat.reduceLeDiff, Nat.reducePow, ↓reduceIte, reduceCtorEq])) | ((with_reducible apply xaw); (first | ((with_reducible apply xstepS); refine AW.step tok rfl ?_) | ((with_reducible apply xstep); refine AW.region tok rfl ?_) | with_reducible (first | refine AW.seq ?_ | refine AW.block ?_ | refine AW.skip ?_ | refine AW.ret ?_ | refine AW.exit ?_) | ((with_reducible apply xcond); exact rfl) | ((with_reducible apply xdrawS (id := 7)); refine AW.drawS (id := 7) (.q 0 (.q 1 (.q 2 (.q 3 (.q 4 (.q 5 (.q 6 (.q 7 (.q 8 (.q 9 (.q 10 (.q 11 (.q 12 (.q 13 (.q 14 (.q 15 (.q 16 (.q 17 (.q 18 (.q 19 (.q 20 (.q 21 (.q 22 (.q 23 (.q 24 (.q 25 (.q 26 (.q 27 (.q 28 (.q 29 (.q 30 (.q 31 (.q 32 (.q 33 (.q 34 (.q 35 (.q 36 (.q 37 (.q 38 (.q 39 (.q 40 (.q 41 (.q 42 (.q 43 (.q 44 (.q 45 (.fin))))))))))))))))))))))))))))))))))))))))))))))) tok (by kernel_rfl) rfl (by kernel_rfl) ?_) | ((with_reducible apply xdraw (id := 7)); refine AW.draw (id := 7) (.q 0 (.q 1 (.q 2 (.q 3 (.q 4 (.q 5 (.q 6 (.q 7 (.q 8 (.q 9 (.q 10 (.q 11 (.q 12 (.q 13 (.q 14 (.q 15 (.q 16 (.q 17 (.q 18 (.q 19 (.q 20 (.q 21 (.q 22 (.q 23 (.q 24 (.q 25 (.q 26 (.q 27 (.q 28 (.q 29 (.q 30 (.q 31 (.q 32 (.q 33 (.q 34 (.q 35 (.q 36 (.q 37 (.q 38 (.q 39 (.q 40 (.q 41 (.q 42 (.q 43 (.q 44 (.q 45 (.fin))))))))))))))))))))))))))))))))))))))))))))))) tok (by kernel_rfl) rfl (by kernel_rfl) ?_))) | ((with_reducible apply xarun); (first | ((with_reducible apply xrun_q); exact rfl; exact rfl; exact rfl) | ((with_reducible apply xrun_e); exact rfl) | with_reducible apply xrun_f)) | with_reducible (first | refine xthen ?_ | refine xthen_r ?_ | refine xthen_e ?_ | refine xblock ?_ | refine xblock_r ?_ | refine xblock_e ?_ | refine xblock_n rfl ?_ | refine xround_r ?_ | refine xround_e ?_) | (with_reducible intro hc; (try simp only [decide_eq_true_eq, decide_eq_false_iff_not, Bool.not_true, Bool.not_false, Bool.not_eq_true', Bool.not_eq_false', ne_eq, not_true, reduceCtorEq] at hc); (try (exfalso; omega))) | with_reducible (first | exact trivial | refine And.intro ?_ ?_ | exact rfl | exact Nat.le_refl _) | exact Eq.refl true | exact (rfl : (_ : List Nat) = _) | exact Nat.le_of_ble_eq_true rfl | (refine inR_i64.mpr ?_; first | omega | (simp only [List.length_map]; omega)) | omega)
    exact xfinRd (.inr rfl) rfl trivial rfl (by omega) (by omega) ⟨0, rfl, by omega, by omega, by omega⟩
  by_cases h0 : bs.length = 0
  · refine ACon.introW tok (nt := 99) Tryd.func29 rfl rfl rfl (by kernel_rfl) rfl ?_
    repeat' (first | ((with_reducible apply xsim); (first | ((with_reducible apply xlenM); exact rfl; exact rfl) | ((with_reducible apply xo); exact rfl) | ((with_reducible apply xst); exact rfl) | with_reducible apply xend | ((with_reducible apply xguardTS); exact rfl; exact rfl) | ((with_reducible apply xguardS); exact rfl; exact rfl) | ((with_reducible apply xidxL); exact rfl; exact rfl; exact rfl; exact rfl; omega; first | exact rfl | simp only [hsz]) | ((with_reducible apply xidxM); exact rfl; exact rfl; exact rfl; omega; omega; exact rfl) | ((with_reducible apply xldA); exact rfl; exact rfl; exact rfl; exact rfl; exact rfl) | ((with_reducible apply xstA); exact rfl; exact rfl; exact rfl; exact rfl; exact rfl; exact rfl; exact rfl; exact rfl; exact rfl; (try simp only [List.set_cons_zero, List.set_cons_succ])) | simp -implicitDefEqProofs only [go_sem, Int.reduceEq, Int.reduceLT, Int.reduceLE, Nat.reduceAdd, Nat.reduceSub, Nat.reduceMul, Nat.reduceEqDiff, Nat.reduceLeDiff, Nat.reducePow, ↓reduceIte, reduceCtorEq])) | ((with_reducible apply xaw); (first | ((with_reducible apply xstepS); refine AW.step tok rfl ?_) | ((with_reducible apply xstep); refine AW.region tok rfl ?_) | with_reducible (first | refine AW.seq ?_ | refine AW.block ?_ | refine AW.skip ?_ | refine AW.ret ?_ | refine AW.exit ?_) | ((with_reducible apply xcond); exact rfl) | ((with_reducible apply xdrawS (id := 7)); refine AW.drawS (id := 7) (.q 0 (.q 1 (.q 2 (.q 3 (.q 4 (.q 5 (.q 6 (.q 7 (.q 8 (.q 9 (.q 10 (.q 11 (.q 12 (.q 13 (.q 14 (.q 15 (.q 16 (.q 17 (.q 18 (.q 19 (.q 20 (.q 21 (.q 22 (.q 23 (.q 24 (.q 25 (.q 26 (.q 27 (.q 28 (.q 29 (.q 30 (.q 31 (.q 32 (.q 33 (.q 34 (.q 35 (.q 36 (.q 37 (.q 38 (.q 39 (.q 40 (.q 41 (.q 42 (.q 43 (.q 44 (.q 45 (.fin))))))))))))))))))))))))))))))))))))))))))))))) tok (by kernel_rfl) rfl (by kernel_rfl) ?_) | ((with_reducible apply xdraw (id := 7)); refine AW.draw (id := 7) (.q 0 (.q 1 (.q 2 (.q 3 (.q 4 (.q 5 (.q 6 (.q 7 (.q 8 (.q 9 (.q 10 (.q 11 (.q 12 (.q 13 (.q 14 (.q 15 (.q 16 (.q 17 (.q 18 (.q 19 (.q 20 (.q 21 (.q 22 (.q 23 (.q 24 (.q 25 (.q 26 (.q 27 (.q 28 (.q 29 (.q 30 (.q 31 (.q 32 (.q 33 (.q 34 (.q 35 (.q 36 (.q 37 (.q 38 (.q 39 (.q 40 (.q 41 (.q 42 (.q 43 (.q 44 (.q 45 (.fin))))))))))))))))))))))))))))))))))))))))))))))) tok (by kernel_rfl) rfl (by kernel_rfl) ?_))) | ((with_reducible apply xarun); (first | ((with_reducible apply xrun_q); exact rfl; exact rfl; exact rfl) | ((with_reducible apply xrun_e); exact rfl) | with_reducible apply xrun_f)) | with_reducible (first | refine xthen ?_ | refine xthen_r ?_ | refine xthen_e ?_ | refine xblock ?_ | refine xblock_r ?_ | refine xblock_e ?_ | refine xblock_n rfl ?_ | refine xround_r ?_ | refine xround_e ?_) | (with_reducible intro hc; (try simp only [decide_eq_true_eq, decide_eq_false_iff_not, Bool.not_true, Bool.not_false, Bool.not_eq_true', Bool.not_eq_false', ne_eq, not_true, reduceCtorEq] at hc); (try (exfalso; omega))) | with_reducible (first | exact trivial | refine And.intro ?_ ?_ | exact rfl | exact Nat.le_refl _) | exact Eq.refl true | exact (rfl : (_ : List Nat) = _) | exact Nat.le_of_ble_eq_true rfl | (refine inR_i64.mpr ?_; first | omega | (simp only [List.length_map]; omega)) | omega)
    all_goals exact xfinRd (.inr rfl) rfl trivial rfl (by omega) (by omega) ⟨0, rfl, by omega, by omega, by omega⟩
  have hpos : (0 : Int) < bs.length := by omega
  have m1 := tmod_bd (a := p + 1 - 1) (by omega) hpos
  have m2 := tmod_bd (a := (p + 1 - 1) * 7 + 3) (by omega) hpos
  have b1 := (bs[((p + 1 - 1).tmod bs.length).toNat]'(by omega)).h
  have b2 := (bs[(((p + 1 - 1) * 7 + 3).tmod bs.length).toNat]'(by omega)).h
  have d1 := tdiv_bd (a := p + 1 - 1) (by omega) hpos
  by_cases h2 : p + 1 - 1 < bs.length
  · have b3 := (bs[(p + 1 - 1).toNat]'(by omega)).h
    have m3 := tmod_bd (m := n) b3.1 (by omega)
    refine ACon.introW tok (nt := 99) Tryd.func29 rfl rfl rfl (by kernel_rfl) rfl ?_
    repeat' (first | ((with_reducible apply xsim); (first | ((with_reducible apply xlenM); exact rfl; exact rfl) | ((with_reducible apply xo); exact rfl) | ((with_reducible apply xst); exact rfl) | with_reducible apply xend | ((with_reducible apply xguardTS); exact rfl; exact rfl) | ((with_reducible apply xguardS); exact rfl; exact rfl) | ((with_reducible apply xidxL); exact rfl; exact rfl; exact rfl; (first | exact (atI (by omega))); omega; first | exact rfl | simp only [hsz]) | ((with_reducible apply xidxM); exact rfl; exact rfl; exact rfl; omega; omega; exact rfl) | ((with_reducible apply xldA); exact rfl; exact rfl; exact rfl; (first | exact (atI (by omega))); exact rfl) | ((with_reducible apply xstA); exact rfl; exact rfl; exact rfl; exact rfl; (first | exact (atI (by omega))); exact rfl; exact rfl; exact rfl; exact rfl; (try simp only [List.set_cons_zero, List.set_cons_succ])) | simp -implicitDefEqProofs only [go_sem, Int.reduceEq, Int.reduceLT, Int.reduceLE, Nat.reduceAdd, Nat.reduceSub, Nat.reduceMul, Nat.reduceEqDiff, Nat.reduceLeDiff, Nat.reducePow, ↓reduceIte, reduceCtorEq])) | ((with_reducible apply xaw); (first | ((with_reducible apply xstepS); refine AW.step tok rfl ?_) | ((with_reducible apply xstep); refine AW.region tok rfl ?_) | with_reducible (first | refine AW.seq ?_ | refine AW.block ?_ | refine AW.skip ?_ | refine AW.ret ?_ | refine AW.exit ?_) | ((with_reducible apply xcond); exact rfl) | ((with_reducible apply xdrawS (id := 7)); refine AW.drawS (id := 7) (.q 0 (.q 1 (.q 2 (.q 3 (.q 4 (.q 5 (.q 6 (.q 7 (.q 8 (.q 9 (.q 10 (.q 11 (.q 12 (.q 13 (.q 14 (.q 15 (.q 16 (.q 17 (.q 18 (.q 19 (.q 20 (.q 21 (.q 22 (.q 23 (.q 24 (.q 25 (.q 26 (.q 27 (.q 28 (.q 29 (.q 30 (.q 31 (.q 32 (.q 33 (.q 34 (.q 35 (.q 36 (.q 37 (.q 38 (.q 39 (.q 40 (.q 41 (.q 42 (.q 43 (.q 44 (.q 45 (.fin))))))))))))))))))))))))))))))))))))))))))))))) tok (by kernel_rfl) rfl (by kernel_rfl) ?_) | ((with_reducible apply xdraw (id := 7)); refine AW.draw (id := 7) (.q 0 (.q 1 (.q 2 (.q 3 (.q 4 (.q 5 (.q 6 (.q 7 (.q 8 (.q 9 (.q 10 (.q 11 (.q 12 (.q 13 (.q 14 (.q 15 (.q 16 (.q 17 (.q 18 (.q 19 (.q 20 (.q 21 (.q 22 (.q 23 (.q 24 (.q 25 (.q 26 (.q 27 (.q 28 (.q 29 (.q 30 (.q 31 (.q 32 (.q 33 (.q 34 (.q 35 (.q 36 (.q 37 (.q 38 (.q 39 (.q 40 (.q 41 (.q 42 (.q 43 (.q 44 (.q 45 (.fin))))))))))))))))))))))))))))))))))))))))))))))) tok (by kernel_rfl) rfl (by kernel_rfl) ?_))) | ((with_reducible apply xarun); (first | ((with_reducible apply xrun_q); exact rfl; exact rfl; exact rfl) | ((with_reducible apply xrun_e); exact rfl) | with_reducible apply xrun_f)) | with_reducible (first | refine xthen ?_ | refine xthen_r ?_ | refine xthen_e ?_ | refine xblock ?_ | refine xblock_r ?_ | refine xblock_e ?_ | refine xblock_n rfl ?_ | refine xround_r ?_ | refine xround_e ?_) | (with_reducible intro hc; (try simp only [decide_eq_true_eq, decide_eq_false_iff_not, Bool.not_true, Bool.not_false, Bool.not_eq_true', Bool.not_eq_false', ne_eq, not_true, reduceCtorEq] at hc); (try (exfalso; omega))) | with_reducible (first | exact trivial | refine And.intro ?_ ?_ | exact rfl | exact Nat.le_refl _) | exact Eq.refl true | exact (rfl : (_ : List Nat) = _) | exact Nat.le_of_ble_eq_true rfl | (refine inR_i64.mpr ?_; first | omega | (simp only [List.length_map]; omega)) | omega)
    all_goals exact xfinRd (.inr rfl) rfl trivial rfl (by omega) (by omega) ⟨_, rfl, m3.1, fun _ => m3.2, by omega⟩
  · have d2 := tdiv_bd (a := (bs[((p + 1 - 1).tmod bs.length).toNat]'(by omega)).v * 131 + (bs[(((p + 1 - 1) * 7 + 3).tmod bs.length).toNat]'(by omega)).v * 1117 + (p + 1 - 1) * 29 + (p + 1 - 1).tdiv bs.length * 53) (m := 64) (by omega) (by omega)
    have x1 := xor_bd (a := (bs[((p + 1 - 1).tmod bs.length).toNat]'(by omega)).v * 131 + (bs[(((p + 1 - 1) * 7 + 3).tmod bs.length).toNat]'(by omega)).v * 1117 + (p + 1 - 1) * 29 + (p + 1 - 1).tdiv bs.length * 53) (b := ((bs[((p + 1 - 1).tmod bs.length).toNat]'(by omega)).v * 131 + (bs[(((p + 1 - 1) * 7 + 3).tmod bs.length).toNat]'(by omega)).v * 1117 + (p + 1 - 1) * 29 + (p + 1 - 1).tdiv bs.length * 53).tdiv 64) (by omega) (by omega)
    have m3 := tmod_bd (m := n) x1 (by omega)
    refine ACon.introW tok (nt := 99) Tryd.func29 rfl rfl rfl (by kernel_rfl) rfl ?_
    repeat' (first | ((with_reducible apply xsim); (first | ((with_reducible apply xlenM); exact rfl; exact rfl) | ((with_reducible apply xo); exact rfl) | ((with_reducible apply xst); exact rfl) | with_reducible apply xend | ((with_reducible apply xguardTS); exact rfl; exact rfl) | ((with_reducible apply xguardS); exact rfl; exact rfl) | ((with_reducible apply xidxL); exact rfl; exact rfl; exact rfl; (first | exact (atI (by omega))); omega; first | exact rfl | simp only [hsz]) | ((with_reducible apply xidxM); exact rfl; exact rfl; exact rfl; omega; omega; exact rfl) | ((with_reducible apply xldA); exact rfl; exact rfl; exact rfl; (first | exact (atI (by omega))); exact rfl) | ((with_reducible apply xstA); exact rfl; exact rfl; exact rfl; exact rfl; (first | exact (atI (by omega))); exact rfl; exact rfl; exact rfl; exact rfl; (try simp only [List.set_cons_zero, List.set_cons_succ])) | simp -implicitDefEqProofs only [go_sem, Int.reduceEq, Int.reduceLT, Int.reduceLE, Nat.reduceAdd, Nat.reduceSub, Nat.reduceMul, Nat.reduceEqDiff, Nat.reduceLeDiff, Nat.reducePow, ↓reduceIte, reduceCtorEq])) | ((with_reducible apply xaw); (first | ((with_reducible apply xstepS); refine AW.step tok rfl ?_) | ((with_reducible apply xstep); refine AW.region tok rfl ?_) | with_reducible (first | refine AW.seq ?_ | refine AW.block ?_ | refine AW.skip ?_ | refine AW.ret ?_ | refine AW.exit ?_) | ((with_reducible apply xcond); exact rfl) | ((with_reducible apply xdrawS (id := 7)); refine AW.drawS (id := 7) (.q 0 (.q 1 (.q 2 (.q 3 (.q 4 (.q 5 (.q 6 (.q 7 (.q 8 (.q 9 (.q 10 (.q 11 (.q 12 (.q 13 (.q 14 (.q 15 (.q 16 (.q 17 (.q 18 (.q 19 (.q 20 (.q 21 (.q 22 (.q 23 (.q 24 (.q 25 (.q 26 (.q 27 (.q 28 (.q 29 (.q 30 (.q 31 (.q 32 (.q 33 (.q 34 (.q 35 (.q 36 (.q 37 (.q 38 (.q 39 (.q 40 (.q 41 (.q 42 (.q 43 (.q 44 (.q 45 (.fin))))))))))))))))))))))))))))))))))))))))))))))) tok (by kernel_rfl) rfl (by kernel_rfl) ?_) | ((with_reducible apply xdraw (id := 7)); refine AW.draw (id := 7) (.q 0 (.q 1 (.q 2 (.q 3 (.q 4 (.q 5 (.q 6 (.q 7 (.q 8 (.q 9 (.q 10 (.q 11 (.q 12 (.q 13 (.q 14 (.q 15 (.q 16 (.q 17 (.q 18 (.q 19 (.q 20 (.q 21 (.q 22 (.q 23 (.q 24 (.q 25 (.q 26 (.q 27 (.q 28 (.q 29 (.q 30 (.q 31 (.q 32 (.q 33 (.q 34 (.q 35 (.q 36 (.q 37 (.q 38 (.q 39 (.q 40 (.q 41 (.q 42 (.q 43 (.q 44 (.q 45 (.fin))))))))))))))))))))))))))))))))))))))))))))))) tok (by kernel_rfl) rfl (by kernel_rfl) ?_))) | ((with_reducible apply xarun); (first | ((with_reducible apply xrun_q); exact rfl; exact rfl; exact rfl) | ((with_reducible apply xrun_e); exact rfl) | with_reducible apply xrun_f)) | with_reducible (first | refine xthen ?_ | refine xthen_r ?_ | refine xthen_e ?_ | refine xblock ?_ | refine xblock_r ?_ | refine xblock_e ?_ | refine xblock_n rfl ?_ | refine xround_r ?_ | refine xround_e ?_) | (with_reducible intro hc; (try simp only [decide_eq_true_eq, decide_eq_false_iff_not, Bool.not_true, Bool.not_false, Bool.not_eq_true', Bool.not_eq_false', ne_eq, not_true, reduceCtorEq] at hc); (try (exfalso; omega))) | with_reducible (first | exact trivial | refine And.intro ?_ ?_ | exact rfl | exact Nat.le_refl _) | exact Eq.refl true | exact (rfl : (_ : List Nat) = _) | exact Nat.le_of_ble_eq_true rfl | (refine inR_i64.mpr ?_; first | omega | (simp only [List.length_map]; omega)) | omega)
    all_goals exact xfinRd (.inr rfl) rfl trivial rfl (by omega) (by omega) ⟨_, rfl, m3.1, fun _ => m3.2, by omega⟩

/-- One of the numbers. -/
def OneOf (zs : List Int) (r : V) : Prop := ∃ v, r = .d (.int .i64 v) ∧ v ∈ zs

theorem c_one {zs : List Int} {rows : List (List D)} {bs : List Byte} {p : Int} {len : Nat} (hz : unInts rows some none = some zs) (hlen : Nat.beq len zs.length = true) (hb : bs.length ≤ 2000) (hp : 0 ≤ p ∧ p < 2^40) (hn : Nat.ble 1 zs.length = true) (hs : Nat.ble zs.length 100 = true) :
    ACon Tryd.prog 30 [.oref 0 0, .msl 1 1 0 len] [.box [.d (.lst (bs.map encByte)), .d (.int .i64 p)], .arr 1 rows] (Rd2 (.lst (bs.map encByte)) (p + 1) (p + 1) (OneOf zs)) := by
  have hn := Nat.le_of_ble_eq_true hn
  have hs := Nat.le_of_ble_eq_true hs
  obtain rfl := Nat.eq_of_beq_eq_true hlen
  obtain rfl := unInts_some hz
  refine ACon.introW tok (nt := 12) Tryd.func30 rfl rfl rfl (by kernel_rfl) rfl ?_
  repeat' (first | ((with_reducible apply xsim); (first | ((with_reducible apply xlenM); exact rfl; exact rfl) | ((with_reducible apply xo); exact rfl) | with_reducible apply xend | ((with_reducible apply xidxL); exact rfl; exact rfl; exact rfl; (first | exact (atI (by omega))); omega; first | exact rfl | simp only [hsz]) | ((with_reducible apply xidxM); exact rfl; exact rfl; exact rfl; omega; omega; exact rfl) | ((with_reducible apply xldA); exact rfl; exact rfl; exact rfl; (first | exact (atI (by omega))); exact rfl) | ((with_reducible apply xcallRd); exact rfl; exact rfl; exact rfl; exact c_pick bs p zs.length hb hp (by omega); rintro _ p' _ _ ⟨v, rfl, h1, h2, h3⟩; (try simp only [List.set_cons_zero, List.set_cons_succ])) | simp -implicitDefEqProofs only [go_sem, Int.reduceEq, Int.reduceLT, Int.reduceLE, Nat.reduceAdd, Nat.reduceSub, Nat.reduceMul, Nat.reduceEqDiff, Nat.reduceLeDiff, Nat.reducePow, ↓reduceIte, reduceCtorEq])) | ((with_reducible apply xaw); (first | ((with_reducible apply xstepS); refine AW.step tok rfl ?_) | ((with_reducible apply xstep); refine AW.region tok rfl ?_) | with_reducible (first | refine AW.seq ?_ | refine AW.block ?_ | refine AW.skip ?_ | refine AW.ret ?_ | refine AW.exit ?_) | ((with_reducible apply xcond); exact rfl))) | with_reducible (first | refine xthen ?_ | refine xthen_r ?_ | refine xthen_e ?_ | refine xblock ?_ | refine xblock_r ?_ | refine xblock_e ?_ | refine xblock_n rfl ?_ | refine xround_r ?_ | refine xround_e ?_) | (with_reducible intro hc; (try simp only [decide_eq_true_eq, decide_eq_false_iff_not, Bool.not_true, Bool.not_false, Bool.not_eq_true', Bool.not_eq_false', ne_eq, not_true, reduceCtorEq] at hc); (try (exfalso; omega))) | with_reducible (first | exact trivial | refine And.intro ?_ ?_ | exact rfl | exact Nat.le_refl _) | exact Eq.refl true | exact (rfl : (_ : List Nat) = _) | exact Nat.le_of_ble_eq_true rfl | (refine inR_i64.mpr ?_; first | omega | (simp only [List.length_map]; omega)) | omega)
  exact xfinRd2 (.inr rfl) rfl trivial rfl (by omega) (by omega) ⟨_, rfl, List.getElem_mem _⟩

end Go.Proofs.YtcocljbgjcjgaaaDoor

namespace Go.Proofs.YtcocljbgjcjgaaaDoor
open Go.Fw
attribute [local irreducible] Go.Fw.aops Go.Fw.arun

/-! Rectangles are told apart. -/
def decVal (l : List UInt8) : Nat := l.foldl (fun a c => 10 * a + (c.toNat - 48)) 0
theorem decVal_dig (u : Nat) : decVal (Lib.decDigits u) = u := by
  induction u using Nat.strongRecOn with
  | _ u ih =>
    have hd : ∀ i : Nat, i < 10 → (UInt8.ofNat (48 + i)).toNat - 48 = i := fun i hi => by
      rw [UInt8.toNat_ofNat']; omega
    rw [Lib.decDigits]
    split
    · rename_i h
      simp only [decVal, List.foldl_cons, List.foldl_nil]
      rw [hd u h]; omega
    · rename_i h
      have := ih (u / 10) (by omega)
      unfold decVal at this ⊢
      rw [List.foldl_append, this]
      simp only [List.foldl_cons, List.foldl_nil]
      rw [hd (u % 10) (by omega)]; omega
theorem dig_head (u : Nat) : ∀ l, Lib.decDigits u ≠ 45 :: l := by
  induction u using Nat.strongRecOn with
  | _ u ih =>
    intro l h
    rw [Lib.decDigits] at h
    split at h
    · rename_i hu
      have h1 : UInt8.ofNat (48 + u) = 45 := (List.cons.inj h).1
      have := congrArg UInt8.toNat h1
      rw [UInt8.toNat_ofNat'] at this
      simp at this
      omega
    · rename_i hu
      cases hd : Lib.decDigits (u / 10) with
      | nil =>
        have := congrArg List.length hd
        rw [Lib.decDigits_length] at this
        have h2 := Lib.nDigits_pos (u / 10)
        simp at this; omega
      | cons c r =>
        rw [hd] at h
        simp only [List.cons_append, List.cons.injEq] at h
        exact ih (u / 10) (by omega) r (by rw [hd, h.1])
theorem itoa_inj {a b : Int} (h : Lib.itoa a = Lib.itoa b) : a = b := by
  unfold Lib.itoa at h
  split at h <;> split at h
  · have := congrArg decVal (List.cons.inj h).2
    rw [decVal_dig, decVal_dig] at this; omega
  · exact absurd h.symm (dig_head _ _)
  · exact absurd h (dig_head _ _)
  · have := congrArg decVal h
    rw [decVal_dig, decVal_dig] at this; omega
theorem rtext_ne {r : Rect} : rtext r ≠ [] := by
  unfold rtext
  intro h
  have := congrArg List.length h
  simp only [List.length_append, List.length_cons, List.length_nil] at this
  omega
theorem rtext_x {x x' y w h : Int} (e : rtext ⟨x, y, w, h⟩ = rtext ⟨x', y, w, h⟩) : x = x' := by
  unfold rtext at e
  simp only [List.append_assoc] at e
  exact itoa_inj (List.append_cancel_right e)
theorem rtext_w {x y w w' h : Int} (e : rtext ⟨x, y, w, h⟩ = rtext ⟨x, y, w', h⟩) : w = w' := by
  unfold rtext at e
  simp only [List.append_assoc] at e
  have e := List.append_cancel_left (List.append_cancel_left (List.append_cancel_left (List.append_cancel_left e)))
  exact itoa_inj (List.append_cancel_right e)
def ARect (r : V) : Prop := ∃ x : Rect, r = vRect x
theorem arect (a b c d : Int) : ARect (.agg [.d (.int .i64 a), .d (.int .i64 b), .d (.int .i64 c), .d (.int .i64 d)]) := ⟨⟨a, b, c, d⟩, rfl⟩
theorem c_goodRectD (bs : List Byte) (p : Int) (hb : bs.length ≤ 2000) (hp : 0 ≤ p ∧ p < 2^30) :
    ACon Tryd.prog 28 [.oref 0 0] [.box [.d (.lst (bs.map encByte)), .d (.int .i64 p)]] (Rd (.lst (bs.map encByte)) p (p + 20) ARect) := by
  refine ACon.introW tok (nt := 24) Tryd.func28 rfl rfl rfl (by kernel_rfl) rfl ?_
  repeat' (first | ((with_reducible apply xsim); (first | ((with_reducible apply xbld); exact rfl; exact rfl; exact rfl; (try simp only [List.set_cons_zero, List.set_cons_succ])) | ((with_reducible apply xo); exact rfl) | ((with_reducible apply xst); exact rfl) | with_reducible apply xend | ((with_reducible apply xalloc); exact rfl; simp only [backV, backVs, backVs_mapd, backId, backO, List.map_cons, List.map_nil, List.getElem?_nil, List.length_cons, List.length_nil, Nat.reduceAdd, Nat.reduceSub, List.cons_append, List.nil_append, List.append_nil]) | ((with_reducible apply xbuild); exact rfl; exact rfl; exact rfl; exact rfl; exact rfl; simp only [backV, backVs, backVs_mapd, backId, backO, List.map_cons, List.map_nil, List.getElem?_nil, List.length_cons, List.length_nil, Nat.reduceAdd, Nat.reduceSub, List.cons_append, List.nil_append, List.append_nil]) | ((with_reducible apply xcallRd); exact rfl; exact rfl; exact rfl; exact c_pick bs _ _ hb (by omega) (by omega); rintro _ p' _ _ ⟨v, rfl, h1, h2, h3⟩; (try simp only [List.set_cons_zero, List.set_cons_succ])) | ((with_reducible apply xcallOne); exact rfl; exact rfl; exact rfl; exact rfl; exact c_one rfl rfl hb (by omega) rfl rfl; rintro _ p' _ _ ⟨v, rfl, h1⟩; (try simp only [List.set_cons_zero, List.set_cons_succ])) | simp -implicitDefEqProofs only [go_sem, Int.reduceEq, Int.reduceLT, Int.reduceLE, Nat.reduceAdd, Nat.reduceSub, Nat.reduceMul, Nat.reduceEqDiff, Nat.reduceLeDiff, Nat.reducePow, ↓reduceIte, reduceCtorEq])) | ((with_reducible apply xaw); (first | ((with_reducible apply xstepS); refine AW.step tok rfl ?_) | ((with_reducible apply xstep); refine AW.region tok rfl ?_) | with_reducible (first | refine AW.seq ?_ | refine AW.block ?_ | refine AW.skip ?_ | refine AW.ret ?_ | refine AW.exit ?_) | ((with_reducible apply xcond); exact rfl))) | with_reducible (first | refine xthen ?_ | refine xthen_r ?_ | refine xthen_e ?_ | refine xblock ?_ | refine xblock_r ?_ | refine xblock_e ?_ | refine xblock_n rfl ?_ | refine xround_r ?_ | refine xround_e ?_) | (with_reducible intro hc; (try simp only [decide_eq_true_eq, decide_eq_false_iff_not, Bool.not_true, Bool.not_false, Bool.not_eq_true', Bool.not_eq_false', ne_eq, not_true, reduceCtorEq] at hc); (try (exfalso; omega))) | with_reducible (first | exact trivial | refine And.intro ?_ ?_ | exact rfl | exact Nat.le_refl _) | exact Eq.refl true | exact (rfl : (_ : List Nat) = _) | exact Nat.le_of_ble_eq_true rfl | (refine inR_i64.mpr ?_; first | omega | (simp only [List.length_map]; omega)) | omega)
  all_goals refine xfinRd (by first | exact .inl rfl | exact .inr rfl) rfl (by repeat' (first | exact trivial | exact rfl | refine And.intro ?_ ?_)) rfl (by omega) (by omega) ?_
  all_goals exact arect _ _ _ _
theorem c_someRectD (bs : List Byte) (p : Int) (hb : bs.length ≤ 2000) (hp : 0 ≤ p ∧ p < 2^30) :
    ACon Tryd.prog 18 [.oref 0 0] [.box [.d (.lst (bs.map encByte)), .d (.int .i64 p)]] (Rd (.lst (bs.map encByte)) p (p + 30) ARect) := by
  refine ACon.introW tok (nt := 27) Tryd.func18 rfl rfl rfl (by kernel_rfl) rfl ?_
  repeat' (first | ((with_reducible apply xsim); (first | ((with_reducible apply xo); exact rfl) | ((with_reducible apply xst); exact rfl) | with_reducible apply xend | ((with_reducible apply xalloc); exact rfl; simp only [backV, backVs, backVs_mapd, backId, backO, List.map_cons, List.map_nil, List.getElem?_nil, List.length_cons, List.length_nil, Nat.reduceAdd, Nat.reduceSub, List.cons_append, List.nil_append, List.append_nil]) | ((with_reducible apply xbuild); exact rfl; exact rfl; exact rfl; exact rfl; exact rfl; simp only [backV, backVs, backVs_mapd, backId, backO, List.map_cons, List.map_nil, List.getElem?_nil, List.length_cons, List.length_nil, Nat.reduceAdd, Nat.reduceSub, List.cons_append, List.nil_append, List.append_nil]) | ((with_reducible apply xcallRd); exact rfl; exact rfl; exact rfl; exact c_goodRectD bs _ hb (by omega); rintro _ p' _ _ ⟨q, rfl⟩; (try simp only [List.set_cons_zero, List.set_cons_succ])) | ((with_reducible apply xcallRd); exact rfl; exact rfl; exact rfl; exact c_pick bs _ _ hb (by omega) (by omega); rintro _ p' _ _ ⟨v, rfl, h1, h2, h3⟩; (try simp only [List.set_cons_zero, List.set_cons_succ])) | ((with_reducible apply xcallOne); exact rfl; exact rfl; exact rfl; exact rfl; exact c_one rfl rfl hb (by omega) rfl rfl; rintro _ p' _ _ ⟨v, rfl, h1⟩; (try simp only [List.set_cons_zero, List.set_cons_succ])) | simp -implicitDefEqProofs only [go_sem, Int.reduceEq, Int.reduceLT, Int.reduceLE, Nat.reduceAdd, Nat.reduceSub, Nat.reduceMul, Nat.reduceEqDiff, Nat.reduceLeDiff, Nat.reducePow, ↓reduceIte, reduceCtorEq])) | ((with_reducible apply xaw); (first | ((with_reducible apply xstepS); refine AW.step tok rfl ?_) | ((with_reducible apply xstep); refine AW.region tok rfl ?_) | with_reducible (first | refine AW.seq ?_ | refine AW.block ?_ | refine AW.skip ?_ | refine AW.ret ?_ | refine AW.exit ?_) | ((with_reducible apply xcond); exact rfl))) | with_reducible (first | refine xthen ?_ | refine xthen_r ?_ | refine xthen_e ?_ | refine xblock ?_ | refine xblock_r ?_ | refine xblock_e ?_ | refine xblock_n rfl ?_ | refine xround_r ?_ | refine xround_e ?_) | (with_reducible intro hc; (try simp only [decide_eq_true_eq, decide_eq_false_iff_not, Bool.not_true, Bool.not_false, Bool.not_eq_true', Bool.not_eq_false', ne_eq, not_true, reduceCtorEq] at hc); (try (exfalso; omega))) | with_reducible (first | exact trivial | refine And.intro ?_ ?_ | exact rfl | exact Nat.le_refl _) | exact Eq.refl true | exact (rfl : (_ : List Nat) = _) | exact Nat.le_of_ble_eq_true rfl | (refine inR_i64.mpr ?_; first | omega | (simp only [List.length_map]; omega)) | omega)
  all_goals refine xfinRd (by first | exact .inl rfl | exact .inr rfl) rfl (by repeat' (first | exact trivial | exact rfl | refine And.intro ?_ ?_)) rfl (by omega) (by omega) ?_
  all_goals exact arect _ _ _ _
theorem c_DrawRectText (cs : List Byte) (hl : cs.length < 2^63) : ACon Tryd.prog 9 [.d (.lst (cs.map encByte))] [] (Sm ARect) := by
  have hb : (cs.take 2000).length ≤ 2000 := by rw [List.length_take]; omega
  refine ACon.introW tok (nt := 6) Tryd.func9 rfl rfl rfl (by kernel_rfl) rfl ?_
  repeat' (first | ((with_reducible apply xsim); (first | ((with_reducible apply xo); exact rfl) | ((with_reducible apply xst); exact rfl) | with_reducible apply xend | ((with_reducible apply xalloc); exact rfl; simp only [backV, backVs, backVs_mapd, backId, backO, List.map_cons, List.map_nil, List.getElem?_nil, List.length_cons, List.length_nil, Nat.reduceAdd, Nat.reduceSub, List.cons_append, List.nil_append, List.append_nil]) | ((with_reducible apply xcallOwn); exact rfl; exact rfl; exact c_newReader cs hl; simp only [backV, backVs, backVs_mapd, backId, backO, List.map_cons, List.map_nil, List.getElem?_nil, List.length_cons, List.length_nil, Nat.reduceAdd, Nat.reduceSub, List.cons_append, List.nil_append, List.append_nil]) | ((with_reducible apply xcallRd); exact rfl; exact rfl; exact rfl; exact c_someRectD _ _ hb (by omega); rintro _ p' _ _ ⟨v, rfl⟩; (try simp only [List.set_cons_zero, List.set_cons_succ])) | simp -implicitDefEqProofs only [go_sem, Int.reduceEq, Int.reduceLT, Int.reduceLE, Nat.reduceAdd, Nat.reduceSub, Nat.reduceMul, Nat.reduceEqDiff, Nat.reduceLeDiff, Nat.reducePow, ↓reduceIte, reduceCtorEq, List.length_map])) | ((with_reducible apply xaw); (first | ((with_reducible apply xstepS); refine AW.step tok rfl ?_) | ((with_reducible apply xstep); refine AW.region tok rfl ?_) | with_reducible (first | refine AW.seq ?_ | refine AW.block ?_ | refine AW.skip ?_ | refine AW.ret ?_ | refine AW.exit ?_) | ((with_reducible apply xcond); exact rfl))) | with_reducible (first | refine xthen ?_ | refine xthen_r ?_ | refine xthen_e ?_ | refine xblock ?_ | refine xblock_r ?_ | refine xblock_e ?_ | refine xblock_n rfl ?_ | refine xround_r ?_ | refine xround_e ?_) | (with_reducible intro hc; (try simp only [decide_eq_true_eq, decide_eq_false_iff_not, Bool.not_true, Bool.not_false, Bool.not_eq_true', Bool.not_eq_false', ne_eq, not_true, reduceCtorEq, List.length_map] at hc); (try (exfalso; omega))) | with_reducible (first | exact trivial | refine And.intro ?_ ?_ | exact rfl | exact Nat.le_refl _) | exact Eq.refl true | exact (rfl : (_ : List Nat) = _) | exact Nat.le_of_ble_eq_true rfl | (refine inR_i64.mpr ?_; first | omega | (simp only [List.length_map, List.length_map]; omega)) | omega)
  refine xfinSm (by first | exact .inl rfl | exact .inr rfl) rfl (by repeat' (first | exact trivial | exact rfl | refine And.intro ?_ ?_)) rfl ?_
  exact ⟨_, rfl⟩
def moveR (r : Rect) : Rect × Bool := if rectOk ⟨r.x + 1, r.y, r.w, r.h⟩ = true then (⟨r.x + 1, r.y, r.w, r.h⟩, true) else (⟨0, 0, 0, 0⟩, false)
theorem c_MoveRect1 (r : Rect) (h : rectOk r = true) : ACon Tryd.prog 10 [vRect r, .d (.int .i64 1), .d (.int .i64 0)] [] (Is (.tup [vRect (moveR r).1, .d (.bool (moveR r).2)])) := by
  have c1 := c_ValidRectE r
  have c2 := c_ValidRectE ⟨r.x + 1, r.y + 0, r.w, r.h⟩
  rw [show rectOk ⟨r.x + 1, r.y + 0, r.w, r.h⟩ = rectOk ⟨r.x + 1, r.y, r.w, r.h⟩ by rw [Int.add_zero]] at c2
  rw [h] at c1
  have hh := of_decide_eq_true h
  have w1 := c_within 1 (-1000) 1000
  have w2 := c_within 0 (-1000) 1000
  rw [show (decide ((-1000 : Int) ≤ 1 ∧ (1 : Int) ≤ 1000)) = true by decide] at w1
  rw [show (decide ((-1000 : Int) ≤ 0 ∧ (0 : Int) ≤ 1000)) = true by decide] at w2
  cases h2 : rectOk ⟨r.x + 1, r.y, r.w, r.h⟩
  · rw [h2] at c2
    rw [show moveR r = (⟨0, 0, 0, 0⟩, false) by unfold moveR; rw [h2]; rfl]
    refine ACon.introW tok (nt := 37) Tryd.func10 rfl rfl rfl (by kernel_rfl) rfl ?_
    repeat' (first | ((with_reducible apply xsim); (first | ((with_reducible apply xo); exact rfl) | ((with_reducible apply xst); exact rfl) | with_reducible apply xend | ((with_reducible apply xguardTS); exact rfl; exact rfl) | ((with_reducible apply xguardS); exact rfl; exact rfl) | ((with_reducible apply xalloc); exact rfl; simp only [backV, backVs, backVs_mapd, backId, backO, List.map_cons, List.map_nil, List.getElem?_nil, List.length_cons, List.length_nil, Nat.reduceAdd, Nat.reduceSub, List.cons_append, List.nil_append, List.append_nil]) | ((with_reducible apply xbox); exact rfl; simp only [backV, backVs, backVs_mapd, backId, backO, List.map_cons, List.map_nil, List.getElem?_nil, List.length_cons, List.length_nil, Nat.reduceAdd, Nat.reduceSub, List.cons_append, List.nil_append, List.append_nil]) | ((with_reducible apply xcallIs); exact rfl; exact rfl; (first | exact c1 | exact c2 | exact w1 | exact w2); exact rfl) | simp -implicitDefEqProofs only [go_sem, Int.reduceEq, Int.reduceLT, Int.reduceLE, Nat.reduceAdd, Nat.reduceSub, Nat.reduceMul, Nat.reduceEqDiff, Nat.reduceLeDiff, Nat.reducePow, ↓reduceIte, reduceCtorEq, Bool.not_true])) | ((with_reducible apply xaw); (first | ((with_reducible apply xstepS); refine AW.step tok rfl ?_) | ((with_reducible apply xstep); refine AW.region tok rfl ?_) | with_reducible (first | refine AW.seq ?_ | refine AW.block ?_ | refine AW.skip ?_ | refine AW.ret ?_ | refine AW.exit ?_) | ((with_reducible apply xcond); exact rfl))) | with_reducible (first | refine xthen ?_ | refine xthen_r ?_ | refine xthen_e ?_ | refine xblock ?_ | refine xblock_r ?_ | refine xblock_e ?_ | refine xblock_n rfl ?_ | refine xround_r ?_ | refine xround_e ?_) | (with_reducible intro hc; (try simp only [decide_eq_true_eq, decide_eq_false_iff_not, Bool.not_true, Bool.not_false, Bool.not_eq_true', Bool.not_eq_false', ne_eq, not_true, reduceCtorEq, Bool.not_true] at hc); (try (exfalso; omega))) | with_reducible (first | exact trivial | refine And.intro ?_ ?_ | exact rfl | exact Nat.le_refl _) | exact Eq.refl true | exact (rfl : (_ : List Nat) = _) | exact Nat.le_of_ble_eq_true rfl | (refine inR_i64.mpr ?_; first | omega | (simp only [List.length_map, Bool.not_true]; omega)) | omega)
    all_goals (refine xfinIs (by first | exact .inl rfl | exact .inr rfl) rfl (by repeat' (first | exact trivial | exact rfl | refine And.intro ?_ ?_)) rfl ?_ rfl; first | with_reducible exact rfl | (simp -implicitDefEqProofs only [go_sem, Int.reduceEq, Int.reduceLT, Int.reduceLE, Nat.reduceAdd, Nat.reduceSub, Nat.reduceMul, Nat.reduceEqDiff, Nat.reduceLeDiff, Nat.reducePow, ↓reduceIte, reduceCtorEq, Int.add_zero] <;> (first | rfl | omega | exact decide_eq_decide.2 (by omega) | exact decide_eq_false (by omega) | exact decide_eq_true (by omega) | (symm; first | exact decide_eq_false (by omega) | exact decide_eq_true (by omega)) | (rw [Bool.eq_iff_iff]; simp only [Bool.not_eq_true', Bool.not_eq_false', Bool.and_eq_true, Bool.or_eq_true, decide_eq_true_eq, decide_eq_false_iff_not, reduceCtorEq, true_iff, iff_true, false_iff, iff_false]; omega))))
  · rw [h2] at c2
    rw [show moveR r = (⟨r.x + 1, r.y, r.w, r.h⟩, true) by unfold moveR; rw [h2]; rfl]
    refine ACon.introW tok (nt := 37) Tryd.func10 rfl rfl rfl (by kernel_rfl) rfl ?_
    repeat' (first | ((with_reducible apply xsim); (first | ((with_reducible apply xo); exact rfl) | ((with_reducible apply xst); exact rfl) | with_reducible apply xend | ((with_reducible apply xguardTS); exact rfl; exact rfl) | ((with_reducible apply xguardS); exact rfl; exact rfl) | ((with_reducible apply xalloc); exact rfl; simp only [backV, backVs, backVs_mapd, backId, backO, List.map_cons, List.map_nil, List.getElem?_nil, List.length_cons, List.length_nil, Nat.reduceAdd, Nat.reduceSub, List.cons_append, List.nil_append, List.append_nil]) | ((with_reducible apply xbox); exact rfl; simp only [backV, backVs, backVs_mapd, backId, backO, List.map_cons, List.map_nil, List.getElem?_nil, List.length_cons, List.length_nil, Nat.reduceAdd, Nat.reduceSub, List.cons_append, List.nil_append, List.append_nil]) | ((with_reducible apply xcallIs); exact rfl; exact rfl; (first | exact c1 | exact c2 | exact w1 | exact w2); exact rfl) | simp -implicitDefEqProofs only [go_sem, Int.reduceEq, Int.reduceLT, Int.reduceLE, Nat.reduceAdd, Nat.reduceSub, Nat.reduceMul, Nat.reduceEqDiff, Nat.reduceLeDiff, Nat.reducePow, ↓reduceIte, reduceCtorEq, Bool.not_true])) | ((with_reducible apply xaw); (first | ((with_reducible apply xstepS); refine AW.step tok rfl ?_) | ((with_reducible apply xstep); refine AW.region tok rfl ?_) | with_reducible (first | refine AW.seq ?_ | refine AW.block ?_ | refine AW.skip ?_ | refine AW.ret ?_ | refine AW.exit ?_) | ((with_reducible apply xcond); exact rfl))) | with_reducible (first | refine xthen ?_ | refine xthen_r ?_ | refine xthen_e ?_ | refine xblock ?_ | refine xblock_r ?_ | refine xblock_e ?_ | refine xblock_n rfl ?_ | refine xround_r ?_ | refine xround_e ?_) | (with_reducible intro hc; (try simp only [decide_eq_true_eq, decide_eq_false_iff_not, Bool.not_true, Bool.not_false, Bool.not_eq_true', Bool.not_eq_false', ne_eq, not_true, reduceCtorEq, Bool.not_true] at hc); (try (exfalso; omega))) | with_reducible (first | exact trivial | refine And.intro ?_ ?_ | exact rfl | exact Nat.le_refl _) | exact Eq.refl true | exact (rfl : (_ : List Nat) = _) | exact Nat.le_of_ble_eq_true rfl | (refine inR_i64.mpr ?_; first | omega | (simp only [List.length_map, Bool.not_true]; omega)) | omega)
    all_goals (refine xfinIs (by first | exact .inl rfl | exact .inr rfl) rfl (by repeat' (first | exact trivial | exact rfl | refine And.intro ?_ ?_)) rfl ?_ rfl; first | with_reducible exact rfl | (simp -implicitDefEqProofs only [go_sem, Int.reduceEq, Int.reduceLT, Int.reduceLE, Nat.reduceAdd, Nat.reduceSub, Nat.reduceMul, Nat.reduceEqDiff, Nat.reduceLeDiff, Nat.reducePow, ↓reduceIte, reduceCtorEq, Int.add_zero] <;> (first | rfl | omega | exact decide_eq_decide.2 (by omega) | exact decide_eq_false (by omega) | exact decide_eq_true (by omega) | (symm; first | exact decide_eq_false (by omega) | exact decide_eq_true (by omega)) | (rw [Bool.eq_iff_iff]; simp only [Bool.not_eq_true', Bool.not_eq_false', Bool.and_eq_true, Bool.or_eq_true, decide_eq_true_eq, decide_eq_false_iff_not, reduceCtorEq, true_iff, iff_true, false_iff, iff_false]; omega))))
end Go.Proofs.YtcocljbgjcjgaaaDoor

namespace Go.Proofs.YtcocljbgjcjgaaaDoor
open Go.Fw
attribute [local irreducible] Go.Fw.aops Go.Fw.arun

theorem rectText_ok {r : Rect} (h : ¬ rectText r = []) : rectOk r = true := by
  unfold rectText at h
  split at h
  · assumption
  · exact absurd rfl h
theorem rectText_eq {r : Rect} (h : rectOk r = true) : rectText r = rtext r := by unfold rectText; rw [h]; rfl
theorem wide_ne {r : Rect} (h : rectOk r = true) : ¬ rectText ⟨r.x, r.y, r.w + 1, r.h⟩ = rectText r := by
  rw [rectText_eq h]
  unfold rectText
  split
  · obtain ⟨x, y, w, hh⟩ := r
    intro e
    have : w + 1 = w := rtext_w e
    omega
  · exact fun e => rtext_ne e.symm
theorem next_ne {r : Rect} (h : rectOk r = true) : ¬ rectText ⟨r.x + 1, r.y, r.w, r.h⟩ = rectText r := by
  rw [rectText_eq h]
  unfold rectText
  split
  · obtain ⟨x, y, w, hh⟩ := r
    intro e
    have : x + 1 = x := rtext_x e
    omega
  · exact fun e => rtext_ne e.symm
theorem c_FnRectText (cs : List Byte) (hl : cs.length < 2^63) : ACon Tryd.prog 4 [.d (.lst (cs.map encByte))] [] (Is (.d (.bool true))) := by
  refine ACon.introW tok (nt := 51) Tryd.func4 rfl rfl rfl (by kernel_rfl) rfl ?_
  repeat' (first | ((with_reducible apply xsim); (first | ((with_reducible apply xlenM); exact rfl; exact rfl) | ((with_reducible apply xo); exact rfl) | ((with_reducible apply xst); exact rfl) | with_reducible apply xend | ((with_reducible apply xguardTS); exact rfl; exact rfl) | ((with_reducible apply xguardS); exact rfl; exact rfl) | ((with_reducible apply xalloc); exact rfl; simp only [backV, backVs, backVs_mapd, backId, backO, List.map_cons, List.map_nil, List.getElem?_nil, List.length_cons, List.length_nil, Nat.reduceAdd, Nat.reduceSub, List.cons_append, List.nil_append, List.append_nil]) | ((with_reducible apply xcallIs); exact rfl; exact rfl; (first | exact c_RectTextI _ | exact c_RectTextS _); exact rfl) | ((with_reducible apply xcallSm); exact rfl; exact rfl; exact c_DrawRectText cs hl; rintro _ ⟨r, rfl⟩))) | ((with_reducible apply xaw); (first | ((with_reducible apply xstepS); refine AW.step tok rfl ?_) | ((with_reducible apply xstep); refine AW.region tok rfl ?_) | with_reducible (first | refine AW.seq ?_ | refine AW.block ?_ | refine AW.skip ?_ | refine AW.ret ?_ | refine AW.exit ?_) | ((with_reducible apply xcond); exact rfl))) | with_reducible (first | refine xthen ?_ | refine xthen_r ?_ | refine xthen_e ?_ | refine xblock ?_ | refine xblock_r ?_ | refine xblock_e ?_ | refine xblock_n rfl ?_ | refine xround_r ?_ | refine xround_e ?_) | (with_reducible intro hc; (try simp only [decide_eq_true_eq, decide_eq_false_iff_not, Bool.not_true, Bool.not_false, Bool.not_eq_true', Bool.not_eq_false', ne_eq, not_true, reduceCtorEq, List.length_map] at hc); (try (exfalso; omega))) | with_reducible (first | exact trivial | refine And.intro ?_ ?_ | exact rfl | exact Nat.le_refl _) | exact Eq.refl true | exact (rfl : (_ : List Nat) = _) | exact Nat.le_of_ble_eq_true rfl | (refine inR_i64.mpr ?_; first | omega | (simp only [List.length_map, List.length_map]; omega)) | omega)
  · (refine xfinIs (by first | exact .inl rfl | exact .inr rfl) rfl (by repeat' (first | exact trivial | exact rfl | refine And.intro ?_ ?_)) rfl ?_ rfl; first | with_reducible exact rfl | (simp -implicitDefEqProofs only [go_sem, Int.reduceEq, Int.reduceLT, Int.reduceLE, Nat.reduceAdd, Nat.reduceSub, Nat.reduceMul, Nat.reduceEqDiff, Nat.reduceLeDiff, Nat.reducePow, ↓reduceIte, reduceCtorEq] <;> (first | rfl | omega | exact decide_eq_decide.2 (by omega) | exact decide_eq_false (by omega) | exact decide_eq_true (by omega) | (symm; first | exact decide_eq_false (by omega) | exact decide_eq_true (by omega)) | (rw [Bool.eq_iff_iff]; simp only [Bool.not_eq_true', Bool.not_eq_false', Bool.and_eq_true, Bool.or_eq_true, decide_eq_true_eq, decide_eq_false_iff_not, reduceCtorEq, true_iff, iff_true, false_iff, iff_false]; omega))))
  · (refine xfinIs (by first | exact .inl rfl | exact .inr rfl) rfl (by repeat' (first | exact trivial | exact rfl | refine And.intro ?_ ?_)) rfl ?_ rfl; first | with_reducible exact rfl | (simp -implicitDefEqProofs only [go_sem, Int.reduceEq, Int.reduceLT, Int.reduceLE, Nat.reduceAdd, Nat.reduceSub, Nat.reduceMul, Nat.reduceEqDiff, Nat.reduceLeDiff, Nat.reducePow, ↓reduceIte, reduceCtorEq, decide_true] <;> (first | rfl | omega | exact decide_eq_decide.2 (by omega) | exact decide_eq_false (by omega) | exact decide_eq_true (by omega) | (symm; first | exact decide_eq_false (by omega) | exact decide_eq_true (by omega)) | (rw [Bool.eq_iff_iff]; simp only [Bool.not_eq_true', Bool.not_eq_false', Bool.and_eq_true, Bool.or_eq_true, decide_eq_true_eq, decide_eq_false_iff_not, reduceCtorEq, true_iff, iff_true, false_iff, iff_false]; omega))))
  rename_i hne
  have hr := rectText_ok hc
  have n1 := next_ne hr
  have n2 := wide_ne hr
  have c1 := c_MoveRect1 r hr
  have hh := of_decide_eq_true hr
  cases h2 : rectOk ⟨r.x + 1, r.y, r.w, r.h⟩
  · rw [show moveR r = (⟨0, 0, 0, 0⟩, false) by unfold moveR; rw [h2]; rfl] at c1
    repeat' (first | ((with_reducible apply xsim); (first | ((with_reducible apply xlenM); exact rfl; exact rfl) | ((with_reducible apply xo); exact rfl) | ((with_reducible apply xst); exact rfl) | with_reducible apply xend | ((with_reducible apply xguardTS); exact rfl; exact rfl) | ((with_reducible apply xguardS); exact rfl; exact rfl) | ((with_reducible apply xalloc); exact rfl; simp only [backV, backVs, backVs_mapd, backId, backO, List.map_cons, List.map_nil, List.getElem?_nil, List.length_cons, List.length_nil, Nat.reduceAdd, Nat.reduceSub, List.cons_append, List.nil_append, List.append_nil]) | ((with_reducible apply xcallIs); exact rfl; exact rfl; (first | exact c1 | exact c_RectTextI ⟨r.x, r.y, r.w + 1, r.h⟩); exact rfl) | simp -implicitDefEqProofs only [go_sem, Int.reduceEq, Int.reduceLT, Int.reduceLE, Nat.reduceAdd, Nat.reduceSub, Nat.reduceMul, Nat.reduceEqDiff, Nat.reduceLeDiff, Nat.reducePow, ↓reduceIte, reduceCtorEq, Bool.not_false])) | ((with_reducible apply xaw); (first | ((with_reducible apply xstepS); refine AW.step tok rfl ?_) | ((with_reducible apply xstep); refine AW.region tok rfl ?_) | with_reducible (first | refine AW.seq ?_ | refine AW.block ?_ | refine AW.skip ?_ | refine AW.ret ?_ | refine AW.exit ?_) | ((with_reducible apply xcond); exact rfl))) | with_reducible (first | refine xthen ?_ | refine xthen_r ?_ | refine xthen_e ?_ | refine xblock ?_ | refine xblock_r ?_ | refine xblock_e ?_ | refine xblock_n rfl ?_ | refine xround_r ?_ | refine xround_e ?_) | (with_reducible intro hc; (try simp only [decide_eq_true_eq, decide_eq_false_iff_not, Bool.not_true, Bool.not_false, Bool.not_eq_true', Bool.not_eq_false', ne_eq, not_true, reduceCtorEq, Bool.not_false] at hc); (try (exfalso; omega))) | with_reducible (first | exact trivial | refine And.intro ?_ ?_ | exact rfl | exact Nat.le_refl _) | exact Eq.refl true | exact (rfl : (_ : List Nat) = _) | exact Nat.le_of_ble_eq_true rfl | (refine inR_i64.mpr ?_; first | omega | (simp only [List.length_map, Bool.not_false]; omega)) | omega)
    all_goals (refine xfinIs (by first | exact .inl rfl | exact .inr rfl) rfl (by repeat' (first | exact trivial | exact rfl | refine And.intro ?_ ?_)) rfl ?_ rfl; first | with_reducible exact rfl | (simp -implicitDefEqProofs only [go_sem, Int.reduceEq, Int.reduceLT, Int.reduceLE, Nat.reduceAdd, Nat.reduceSub, Nat.reduceMul, Nat.reduceEqDiff, Nat.reduceLeDiff, Nat.reducePow, ↓reduceIte, reduceCtorEq, n1, n2, decide_true, ne_eq, not_false_eq_true] <;> (first | rfl | omega | exact decide_eq_decide.2 (by omega) | exact decide_eq_false (by omega) | exact decide_eq_true (by omega) | (symm; first | exact decide_eq_false (by omega) | exact decide_eq_true (by omega)) | (rw [Bool.eq_iff_iff]; simp only [Bool.not_eq_true', Bool.not_eq_false', Bool.and_eq_true, Bool.or_eq_true, decide_eq_true_eq, decide_eq_false_iff_not, reduceCtorEq, true_iff, iff_true, false_iff, iff_false]; omega))))
  · rw [show moveR r = (⟨r.x + 1, r.y, r.w, r.h⟩, true) by unfold moveR; rw [h2]; rfl] at c1
    repeat' (first | ((with_reducible apply xsim); (first | ((with_reducible apply xlenM); exact rfl; exact rfl) | ((with_reducible apply xo); exact rfl) | ((with_reducible apply xst); exact rfl) | with_reducible apply xend | ((with_reducible apply xguardTS); exact rfl; exact rfl) | ((with_reducible apply xguardS); exact rfl; exact rfl) | ((with_reducible apply xalloc); exact rfl; simp only [backV, backVs, backVs_mapd, backId, backO, List.map_cons, List.map_nil, List.getElem?_nil, List.length_cons, List.length_nil, Nat.reduceAdd, Nat.reduceSub, List.cons_append, List.nil_append, List.append_nil]) | ((with_reducible apply xcallIs); exact rfl; exact rfl; (first | exact c1 | exact c_RectTextI ⟨r.x, r.y, r.w + 1, r.h⟩ | exact c_RectTextI ⟨r.x + 1, r.y, r.w, r.h⟩); exact rfl) | simp -implicitDefEqProofs only [go_sem, Int.reduceEq, Int.reduceLT, Int.reduceLE, Nat.reduceAdd, Nat.reduceSub, Nat.reduceMul, Nat.reduceEqDiff, Nat.reduceLeDiff, Nat.reducePow, ↓reduceIte, reduceCtorEq, Bool.not_true])) | ((with_reducible apply xaw); (first | ((with_reducible apply xstepS); refine AW.step tok rfl ?_) | ((with_reducible apply xstep); refine AW.region tok rfl ?_) | with_reducible (first | refine AW.seq ?_ | refine AW.block ?_ | refine AW.skip ?_ | refine AW.ret ?_ | refine AW.exit ?_) | ((with_reducible apply xcond); exact rfl))) | with_reducible (first | refine xthen ?_ | refine xthen_r ?_ | refine xthen_e ?_ | refine xblock ?_ | refine xblock_r ?_ | refine xblock_e ?_ | refine xblock_n rfl ?_ | refine xround_r ?_ | refine xround_e ?_) | (with_reducible intro hc; (try simp only [decide_eq_true_eq, decide_eq_false_iff_not, Bool.not_true, Bool.not_false, Bool.not_eq_true', Bool.not_eq_false', ne_eq, not_true, reduceCtorEq, Bool.not_true] at hc); (try (exfalso; omega))) | with_reducible (first | exact trivial | refine And.intro ?_ ?_ | exact rfl | exact Nat.le_refl _) | exact Eq.refl true | exact (rfl : (_ : List Nat) = _) | exact Nat.le_of_ble_eq_true rfl | (refine inR_i64.mpr ?_; first | omega | (simp only [List.length_map, Bool.not_true]; omega)) | omega)
    all_goals first | exact absurd (by assumption) n1 | exact absurd n1 (by assumption) | (refine xfinIs (by first | exact .inl rfl | exact .inr rfl) rfl (by repeat' (first | exact trivial | exact rfl | refine And.intro ?_ ?_)) rfl ?_ rfl; first | with_reducible exact rfl | (simp -implicitDefEqProofs only [go_sem, Int.reduceEq, Int.reduceLT, Int.reduceLE, Nat.reduceAdd, Nat.reduceSub, Nat.reduceMul, Nat.reduceEqDiff, Nat.reduceLeDiff, Nat.reducePow, ↓reduceIte, reduceCtorEq, n1, n2, decide_true, ne_eq, not_false_eq_true] <;> (first | rfl | omega | exact decide_eq_decide.2 (by omega) | exact decide_eq_false (by omega) | exact decide_eq_true (by omega) | (symm; first | exact decide_eq_false (by omega) | exact decide_eq_true (by omega)) | (rw [Bool.eq_iff_iff]; simp only [Bool.not_eq_true', Bool.not_eq_false', Bool.and_eq_true, Bool.or_eq_true, decide_eq_true_eq, decide_eq_false_iff_not, reduceCtorEq, true_iff, iff_true, false_iff, iff_false]; omega))))
end Go.Proofs.YtcocljbgjcjgaaaDoor

