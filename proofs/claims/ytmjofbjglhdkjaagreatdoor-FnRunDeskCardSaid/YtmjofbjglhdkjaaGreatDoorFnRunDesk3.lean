/- Contracts of the functions and the plain law behind them, as far as FnRunDesk needs them; joined out of the texts S25 S26 S27 S28 S29 S30 D1 S20 S24. -/
import Derived.Deep.Slices
import Derived.Deep.Fields
import Derived.ChangeSame
import Derived.Below
import Derived.ProofKit
import Derived.Lib.ItoaNum
import Derived.Lib.SplitLaws
import Derived.Lib.Split
import Derived.Lib.AtoiAllCases
import Derived.WalkKit
import Derived.BigCall
import Derived.Lib.AtoiErrMem
import Derived.Laws.NewBlocks
import Derived.Lib.Join
import Derived.Test.YtmjofbjglhdkjaaGreatDoorFnRunDesk2
set_option linter.unusedSimpArgs false
set_option linter.unusedVariables false
namespace Go.Proofs.YtmjofbjglhdkjaaGreatDoor
open Go.Fw

/-! Answers (no program). -/
def cmdS (line : List UInt8) : Option (List UInt8 × Int × Int) := match splitL 32 line with
  | [word, room] => (match splitL 120 room with
    | [a, b] => if roomOk (rnum a) (rnum b) = true then some (word, rnum a, rnum b) else none
    | _ => none)
  | _ => none
def cutA (line : List UInt8) : List UInt8 × List UInt8 × Bool := Lib.cut (Lib.cut line [32]).2.1 [120]
def cmdI (line : List UInt8) : Option (List UInt8 × Int × Int) :=
  if (Lib.cut line [32]).2.2 = true ∧ (cutA line).2.2 = true ∧ (numI (cutA line).1).2 = true ∧ (numI (cutA line).2.1).2 = true ∧ roomOk (numI (cutA line).1).1 (numI (cutA line).2.1).1 = true
  then some ((Lib.cut line [32]).1, (numI (cutA line).1).1, (numI (cutA line).2.1).1) else none
theorem splitL_single {c : UInt8} {s x : List UInt8} (h : splitL c s = [x]) : x = s := by
  have := joinL_splitL c s
  rw [h, joinL] at this
  exact this
theorem split_eq {c : UInt8} {s a b : List UInt8} (h : splitL c s = a :: splitL c b) : s = a ++ c :: b := by
  have h1 := joinL_splitL c s
  have h2 := joinL_splitL c b
  cases e : splitL c b with
  | nil => exact absurd e (splitL_ne c b)
  | cons x xs =>
    rw [h, e, joinL] at h1
    rw [e] at h2
    rw [h2] at h1
    exact h1.symm
theorem dig_not {n : Int} (h : 0 ≤ n) {c : UInt8} (hc : c.toNat < 48 ∨ 57 < c.toNat) : c ∉ Lib.itoa n := fun e => by
  have := itoa_dig h c e
  omega
theorem cmd_eq (line : List UInt8) : cmdI line = cmdS line := by
  rcases cut_cases 32 line with ⟨e1, e2⟩ | ⟨word, rest, e1, e2, _⟩
  · unfold cmdI cmdS
    rw [e1, e2]
    simp
  · have ec : cutA line = Lib.cut rest [120] := by unfold cutA; rw [e1]
    rcases cut_cases 120 rest with ⟨f1, f2⟩ | ⟨a, b, f1, f2, _⟩
    · have hI : cmdI line = none := by unfold cmdI; rw [ec, f1]; simp
      rw [hI]
      unfold cmdS
      rw [e2]
      cases e : splitL 32 rest with
      | nil => exact absurd e (splitL_ne 32 rest)
      | cons x xs =>
        cases xs with
        | nil =>
          obtain rfl := splitL_single e
          simp only [f2]
        | cons y ys => rfl
    · have hr := split_eq f2
      by_cases hC : (numI a).2 = true ∧ (numI b).2 = true ∧ roomOk (numI a).1 (numI b).1 = true
      · obtain ⟨h1, h2, h3⟩ := hC
        have hI : cmdI line = some (word, (numI a).1, (numI b).1) := by
          unfold cmdI
          rw [ec, f1, e1]
          simp [h1, h2, h3]
        obtain ⟨ha, ha0⟩ := numI_true h1
        obtain ⟨hb, hb0⟩ := numI_true h2
        have hrm := roomOk_iff h3
        generalize (numI a).1 = w at *
        generalize (numI b).1 = h at *
        subst ha
        subst hb
        have n1 : (32 : UInt8) ∉ rest := by
          rw [hr, List.mem_append, List.mem_cons]
          rintro (e | e | e)
          · exact dig_not ha0 (.inl (by decide)) e
          · cases e
          · exact dig_not hb0 (.inl (by decide)) e
        have n2 : (120 : UInt8) ∉ Lib.itoa h := dig_not hb0 (.inr (by decide))
        rw [hI]
        unfold cmdS
        rw [e2, splitL_one n1]
        simp only [f2, splitL_one n2, rnum_itoa (n := w) (by omega), rnum_itoa (n := h) (by omega), h3, if_true]
      · have hI : cmdI line = none := by
          unfold cmdI
          rw [ec, f1, e1]
          rw [if_neg]
          rintro ⟨_, _, h3⟩
          exact hC h3
        rw [hI]
        unfold cmdS
        rw [e2]
        cases e : splitL 32 rest with
        | nil => exact absurd e (splitL_ne 32 rest)
        | cons x xs =>
          cases xs with
          | cons y ys => rfl
          | nil =>
            obtain rfl := splitL_single e
            simp only [f2]
            cases g : splitL 120 b with
            | nil => exact absurd g (splitL_ne 120 b)
            | cons y ys =>
              cases ys with
              | cons z zs => rfl
              | nil =>
                obtain rfl := splitL_single g
                simp only
                split
                · rename_i hq
                  exfalso
                  have hrm := roomOk_iff hq
                  have h1 := rnum_eq hrm.1
                  have h2 := rnum_eq hrm.2.2.1
                  have k1 : numI a = (rnum a, true) := by
                    have := numI_itoa (n := rnum a) (by omega)
                    rw [← h1] at this
                    exact this
                  have k2 : numI y = (rnum y, true) := by
                    have := numI_itoa (n := rnum y) (by omega)
                    rw [← h2] at this
                    exact this
                  exact hC ⟨by rw [k1], by rw [k2], by rw [k1, k2]; exact hq⟩
                · rfl
/-! Rectangles' texts. -/
def rsText (rs : List Rect) : List UInt8 := Lib.join (rs.map rtext) [32]
theorem join_snoc (xs : List (List UInt8)) (x sep : List UInt8) (h : xs ≠ []) : Lib.join (xs ++ [x]) sep = Lib.join xs sep ++ sep ++ x := by
  cases xs with
  | nil => exact absurd rfl h
  | cons y r =>
    rw [List.cons_append, Lib.join_cons, Lib.join_cons]
    simp [Lib.joinTail]
theorem rtext_len {r : Rect} (h : RectSm r) : (rtext r).length ≤ 83 := by
  obtain ⟨h1, h2, h3, h4⟩ := h
  have l1 := itoa_len (n := r.x) (by omega)
  have l2 := itoa_len (n := r.y) (by omega)
  have l3 := itoa_len (n := r.w) (by omega)
  have l4 := itoa_len (n := r.h) (by omega)
  unfold rtext
  simp only [List.length_append, List.length_cons, List.length_nil]
  omega
theorem join_len {sep : List UInt8} (hs : sep.length = 1) : ∀ (xs : List (List UInt8)), (∀ x ∈ xs, x.length ≤ 83) → (Lib.join xs sep).length ≤ 84 * xs.length
  | [], _ => by simp [Lib.join_nil]
  | x :: r, h => by
    have hx := h x (by simp)
    have ht : (Lib.joinTail sep r).length ≤ 84 * r.length := by
      clear hx
      unfold Lib.joinTail
      induction r with
      | nil => simp
      | cons y r ih =>
        have hy := h y (by simp)
        have := ih (fun z hz => h z (by rcases List.mem_cons.1 hz with rfl | hz <;> simp [*]))
        simp only [List.map_cons, List.flatten_cons, List.length_append, List.length_cons]
        omega
    rw [Lib.join_cons]
    simp only [List.length_append, List.length_cons]
    omega
theorem rsText_len {rs : List Rect} (h : ∀ r ∈ rs, RectSm r) : (rsText rs).length ≤ 84 * rs.length := by
  have := join_len (sep := [32]) rfl (rs.map rtext) fun x hx => by
    obtain ⟨r, hr, rfl⟩ := List.mem_map.1 hx
    exact rtext_len (h r hr)
  rwa [List.length_map] at this
theorem itoa_nl (n : Int) : (10 : UInt8) ∉ Lib.itoa n := by
  unfold Lib.itoa
  split
  · rw [List.mem_cons]
    rintro (e | e)
    · cases e
    · have := decDigits_dig _ _ e; simp at this
  · intro e
    have := decDigits_dig _ _ e; simp at this
theorem rtext_nl (r : Rect) : (10 : UInt8) ∉ rtext r := by
  unfold rtext
  simp only [List.mem_append, List.mem_cons, List.not_mem_nil, or_false, itoa_nl]
  decide
theorem rsText_nl (rs : List Rect) : (10 : UInt8) ∉ rsText rs := by
  unfold rsText
  cases rs with
  | nil => simp [Lib.join_nil]
  | cons r rs =>
    rw [List.map_cons, Lib.join_cons, List.mem_append]
    rintro (e | e)
    · exact rtext_nl r e
    · unfold Lib.joinTail at e
      simp only [List.map_map, List.mem_flatten, List.mem_map] at e
      obtain ⟨l, ⟨q, _, rfl⟩, e⟩ := e
      simp at e
      exact rtext_nl q e
/-! Answers. -/
def good (p : Pack) (r : Rect) : Bool := decide (p.w ≤ r.w ∧ p.h ≤ r.h)
def fits (xs : List Pack) (rs : List Rect) : Bool := (List.zipWith good xs rs).all id
def reqs : List Pack → Int × Int
  | [] => (0, 0)
  | p :: ps => if down p then (max (needW p) (reqs ps).1, needH p + (reqs ps).2) else (needW p + (reqs ps).1, max (needH p) (reqs ps).2)
def whatT : List UInt8 := [119, 104, 97, 116]
def sizeT : List UInt8 := [115, 105, 122, 101]
def rectsT : List UInt8 := [114, 101, 99, 116, 115]
def parcelsT : List UInt8 := [112, 97, 114, 99, 101, 108, 115]
def leftT : List UInt8 := [108, 101, 102, 116]
def fitsT : List UInt8 := [102, 105, 116, 115]
def answerB (xs : List Pack) (word : List UInt8) (w h : Int) : List UInt8 :=
  if word = rectsT then rsText (packed xs ⟨0, 0, w, h⟩)
  else if word = parcelsT then rsText (parcels xs ⟨0, 0, w, h⟩).1
  else if word = leftT then rtext (parcels xs ⟨0, 0, w, h⟩).2
  else if word = fitsT then (if fits xs (packed xs ⟨0, 0, w, h⟩) = true then [121, 101, 115] else [110, 111])
  else whatT
def answerT (xs : List Pack) (line : List UInt8) : List UInt8 :=
  if line = sizeT then Lib.itoa (reqs xs).1 ++ [120] ++ Lib.itoa (reqs xs).2
  else match cmdS line with
    | none => whatT
    | some (word, w, h) => answerB xs word w h
theorem cmdS_room {line word : List UInt8} {w h : Int} (e : cmdS line = some (word, w, h)) : roomOk w h = true := by
  unfold cmdS at e
  split at e
  · split at e
    · split at e
      · cases e; assumption
      · cases e
    · cases e
  · cases e
theorem answerT_nl (xs : List Pack) (line : List UInt8) : (10 : UInt8) ∉ answerT xs line := by
  unfold answerT
  split
  · simp only [List.mem_append, itoa_nl, List.mem_cons, List.not_mem_nil, or_false]
    decide
  · split
    · decide
    · unfold answerB
      split
      · exact rsText_nl _
      split
      · exact rsText_nl _
      split
      · exact rtext_nl _
      split
      · split <;> decide
      · decide
theorem all_packB {xs : List Pack} (h : xs.all validPack = true) : xs.all packB = true := List.all_eq_true.2 fun p hp => by
  have := validPack_iff.1 (List.all_eq_true.1 h p hp)
  exact packB_iff.2 (by omega)
theorem room_in {w h : Int} (hr : roomOk w h = true) : RectIn ⟨0, 0, w, h⟩ := by
  have := roomOk_iff hr
  constructor <;> simp only <;> omega
theorem packed_in {xs : List Pack} {r : Rect} (hl : xs.length ≤ 7) (hv : xs.all validPack = true) (hr : RectIn r) : (packed xs r).length = xs.length ∧ ∀ q ∈ packed xs r, RectIn q := by
  have hp := all_packB hv
  have ⟨g1, g2, g3⟩ := parcels_inv (Nat.le_trans hl (by decide)) hp hr
  have hpl := packed_len g1
  refine ⟨hpl, fun q hq => ?_⟩
  obtain ⟨k, hk, rfl⟩ := List.mem_iff_getElem.1 hq
  rw [packed_at (by omega) (by omega) hk]
  exact settled_in (all_at hp (by omega)) (g3 _ (List.getElem_mem _))
theorem needWH {p : Pack} (h : validPack p = true) : 0 ≤ needW p ∧ needW p ≤ 50 ∧ 0 ≤ needH p ∧ needH p ≤ 50 := by
  have := validPack_iff.1 h
  unfold needW needH
  omega
theorem reqs_bd : ∀ {xs : List Pack}, xs.all validPack = true → 0 ≤ (reqs xs).1 ∧ (reqs xs).1 ≤ 50 * xs.length ∧ 0 ≤ (reqs xs).2 ∧ (reqs xs).2 ≤ 50 * xs.length
  | [], _ => by simp [reqs]
  | p :: ps, h => by
    simp only [List.all_cons, Bool.and_eq_true] at h
    have h1 := needWH h.1
    have h2 := reqs_bd h.2
    simp only [reqs, List.length_cons]
    split <;> dsimp only <;> omega
theorem answerT_len {xs : List Pack} (hl : xs.length ≤ 7) (hv : xs.all validPack = true) (line : List UInt8) : (answerT xs line).length ≤ 600 := by
  unfold answerT
  split
  · have hb := reqs_bd hv
    have l1 := itoa_len (n := (reqs xs).1) (by omega)
    have l2 := itoa_len (n := (reqs xs).2) (by omega)
    simp only [List.length_append, List.length_cons, List.length_nil]
    omega
  · split
    · decide
    · rename_i word w h e
      have hr := room_in (cmdS_room e)
      obtain ⟨p1, p2⟩ := packed_in hl hv hr
      have ⟨g1, g2, g3⟩ := parcels_inv (Nat.le_trans hl (by decide)) (all_packB hv) hr
      have t1 := rsText_len fun q hq => (p2 q hq).sm
      have t2 := rsText_len fun q hq => (g3 q hq).sm
      have t3 := rtext_len g2.sm
      unfold answerB
      split
      · omega
      split
      · omega
      split
      · omega
      split
      · split <;> simp
      · decide
end Go.Proofs.YtmjofbjglhdkjaaGreatDoor

namespace Go.Proofs.YtmjofbjglhdkjaaGreatDoor
open Go.Fw Go.Shelf Go.RowKit

theorem c_Join (xs : List (List UInt8)) (sep : List UInt8) (hn : xs.length ≤ 1000) (hlen : (Lib.join xs sep).length ≤ 1000000) : ACon Tryz.prog 67 [.d (.lst (xs.map encStr)), .d (.str sep)] [] (Is (.d (.str (Lib.join xs sep)))) := by
  refine ACon.lib (by kernel_rfl) fun w ok vs hG hok hs hv => ?_
  have h0 := hv 0 _ rfl
  have h1 := hv 1 _ rfl
  obtain ⟨l⟩ := vs
  match l, hs with
  | [v, u], _ =>
    have h0 : VRep w ok [] (.d (.lst (xs.map encStr))) v := h0
    have h1 : VRep w ok [] (.d (.str sep)) u := h1
    cases h1 with | d h1 =>
    cases h1
    cases h0 with | d h0 =>
    generalize hrs : xs.map encStr = rs at h0
    cases h0 with
    | nil =>
      obtain rfl : xs = [] := by simpa using hrs
      refine (Tryz.strings_Join_none _ _ (bytesOf sep) w).mono ?_
      rintro e w' ⟨rfl, rfl⟩
      exact ⟨Below.refl _ _, _, rfl, .d .str⟩
    | @lst rows sz b off cap vs' hokb hsz hcap hc hd =>
      subst hrs
      have hcells : ∀ (j : Nat) x, (xs.map bytesOf)[j]? = some x → w.cell? ⟨b, off + j, none⟩ = some (.string x) := by
        intro j x hj
        rw [List.getElem?_map, Option.map_eq_some_iff] at hj
        obtain ⟨y, hy, rfl⟩ := hj
        have hr : (xs.map encStr)[j]? = some (encStr y) := by rw [List.getElem?_map, hy]; rfl
        have hsz1 : 1 = sz := hsz _ (List.mem_of_getElem? hr)
        have a := hc j 0 _ _ hr rfl
        have d := hd j 0 _ _ hr rfl
        generalize vs' j 0 = z at a d
        cases d
        subst hsz1
        rw [show off + j = off + (j * 1 + 0) by omega]
        exact a
      have hl : (xs.map encStr).length = (xs.map bytesOf).length := by simp
      have hj : (xs.map bytesOf).map (·.data.toList) = xs := by simp [bytesOf, Function.comp_def]
      rw [List.length_map] at hcap
      rw [hl]
      refine (Tryz.strings_Join b off cap (xs.map bytesOf) (bytesOf sep) w hcells (hok b hokb) (by simp; omega) (by simpa using hcap) (by rw [hj]; exact Nat.le_trans hlen (by decide))).mono ?_
      rintro e w' ⟨rfl, hb⟩
      refine ⟨hb, _, rfl, ?_⟩
      rw [hj]
      exact .d .str

theorem c_rectsTextI (rs : List Rect) (h : ∀ r ∈ rs, RectSm r) (hl : rs.length ≤ 10) : ACon Tryz.prog 39 [.d (.lst (rs.map encRect))] [] (Is (.d (.str (rsText rs)))) := by
  have hj := rsText_len h
  refine ACon.introW tok (nt := 21) Tryz.func39 rfl rfl rfl (by kernel_rfl) rfl ?_
  repeat' (first | ((with_reducible apply xsim); (first | ((with_reducible apply xlenM); exact rfl; exact rfl) | ((with_reducible apply xo); exact rfl) | ((with_reducible apply xst); exact rfl) | with_reducible apply xend | ((with_reducible apply xalloc); exact rfl; simp only [backV, backVs, backVs_mapd, backId, backO, List.map_cons, List.map_nil, List.getElem?_nil, List.length_cons, List.length_nil, Nat.reduceAdd, Nat.reduceSub, List.cons_append, List.nil_append, List.append_nil]) | ((with_reducible apply xbuild); exact rfl; exact rfl; exact rfl; exact rfl; exact rfl; simp only [backV, backVs, backVs_mapd, backId, backO, List.map_cons, List.map_nil, List.getElem?_nil, List.length_cons, List.length_nil, Nat.reduceAdd, Nat.reduceSub, List.cons_append, List.nil_append, List.append_nil]) | ((with_reducible apply xidxL); exact rfl; exact rfl; exact rfl; exact rfl; omega; first | exact rfl | simp only [hsz]) | ((with_reducible apply xidxM); exact rfl; exact rfl; exact rfl; omega; omega; exact rfl) | ((with_reducible apply xldA); exact rfl; exact rfl; exact rfl; exact rfl; exact rfl) | ((with_reducible apply xstA); exact rfl; exact rfl; exact rfl; exact rfl; exact rfl; exact rfl; exact rfl; exact rfl; exact rfl; (try simp only [List.set_cons_zero, List.set_cons_succ, List.length_map])) | simp -implicitDefEqProofs only [go_sem, Int.reduceEq, Int.reduceLT, Int.reduceLE, Nat.reduceAdd, Nat.reduceSub, Nat.reduceMul, Nat.reduceEqDiff, Nat.reduceLeDiff, Nat.reducePow, ↓reduceIte, reduceCtorEq, List.length_map])) | ((with_reducible apply xaw); (first | ((with_reducible apply xstepS); refine AW.step tok rfl ?_) | ((with_reducible apply xstep); refine AW.region tok rfl ?_) | with_reducible (first | refine AW.seq ?_ | refine AW.block ?_ | refine AW.skip ?_ | refine AW.ret ?_ | refine AW.exit ?_) | ((with_reducible apply xcond); exact rfl))) | with_reducible (first | refine xthen ?_ | refine xthen_r ?_ | refine xthen_e ?_ | refine xblock ?_ | refine xblock_r ?_ | refine xblock_e ?_ | refine xblock_n rfl ?_ | refine xround_r ?_ | refine xround_e ?_) | (with_reducible intro hc; (try simp only [decide_eq_true_eq, decide_eq_false_iff_not, Bool.not_true, Bool.not_false, Bool.not_eq_true', Bool.not_eq_false', ne_eq, not_true, reduceCtorEq, List.length_map] at hc); (try (exfalso; omega))) | with_reducible (first | exact trivial | refine And.intro ?_ ?_ | exact rfl | exact Nat.le_refl _) | exact Eq.refl true | exact (rfl : (_ : List Nat) = _) | exact Nat.le_of_ble_eq_true rfl | (refine inR_i64.mpr ?_; first | omega | (simp only [List.length_map, List.length_map]; omega)) | omega)
  refine AW.loop (S := fun k : Nat => ⟨[(3, .msl 0 1 0 k), (7, .d (.lst (rs.map encRect))), (8, .d (.int .i64 rs.length)), (9, .d (.int .i64 k))], [.arr 1 (((rs.take k).map rtext).map encStr)], 21, 0⟩)
    (Pre := fun k => k ≤ rs.length) (μ := fun k => rs.length - k) 0 (Nat.zero_le _) ?_ ?_
  · (refine xwk (π := [0]) (by decide) rfl ?_ ?_; (first | exact trivial | simp -implicitDefEqProofs only [go_sem, Int.reduceEq, Int.reduceLT, Int.reduceLE, Nat.reduceAdd, Nat.reduceSub, Nat.reduceMul, Nat.reduceEqDiff, Nat.reduceLeDiff, Nat.reducePow, ↓reduceIte, reduceCtorEq, List.take_zero, List.map_nil]); repeat' (first | exact renE_n | ((with_reducible apply renE_c); exact rfl; focus (first | with_reducible exact rfl | (simp -implicitDefEqProofs only [go_sem, Int.reduceEq, Int.reduceLT, Int.reduceLE, Nat.reduceAdd, Nat.reduceSub, Nat.reduceMul, Nat.reduceEqDiff, Nat.reduceLeDiff, Nat.reducePow, ↓reduceIte, reduceCtorEq, List.take_zero, List.map_nil]; done) | (simp -implicitDefEqProofs only [go_sem, Int.reduceEq, Int.reduceLT, Int.reduceLE, Nat.reduceAdd, Nat.reduceSub, Nat.reduceMul, Nat.reduceEqDiff, Nat.reduceLeDiff, Nat.reducePow, ↓reduceIte, reduceCtorEq, List.take_zero, List.map_nil]; omega)))))
  · intro k hk
    by_cases hlt : k < rs.length
    · have hrow := at_map (f := encRect) hlt
      have e : rs.take (k + 1) = rs.take k ++ [rs[k]] := List.take_succ_eq_append_getElem hlt
      have hlk : (((rs.take k).map rtext).map encStr).length = k := by simp; omega
      repeat' (first | ((with_reducible apply xsim); (first | ((with_reducible apply xlenM); exact rfl; exact rfl) | ((with_reducible apply xo); exact rfl) | ((with_reducible apply xst); exact rfl) | with_reducible apply xend | ((with_reducible apply xalloc); exact rfl; simp only [backV, backVs, backVs_mapd, backId, backO, List.map_cons, List.map_nil, List.getElem?_nil, List.length_cons, List.length_nil, Nat.reduceAdd, Nat.reduceSub, List.cons_append, List.nil_append, List.append_nil]) | ((with_reducible apply xbuild); exact rfl; exact rfl; exact rfl; exact rfl; exact rfl; simp only [backV, backVs, backVs_mapd, backId, backO, List.map_cons, List.map_nil, List.getElem?_nil, List.length_cons, List.length_nil, Nat.reduceAdd, Nat.reduceSub, List.cons_append, List.nil_append, List.append_nil]) | ((with_reducible apply xidxL); exact rfl; exact rfl; exact rfl; (first | exact hrow); omega; first | exact rfl | simp only [hsz]) | ((with_reducible apply xidxM); exact rfl; exact rfl; exact rfl; omega; omega; exact rfl) | ((with_reducible apply xldA); exact rfl; exact rfl; exact rfl; (first | exact hrow); exact rfl) | ((with_reducible apply xstA); exact rfl; exact rfl; exact rfl; exact rfl; (first | exact hrow); exact rfl; exact rfl; exact rfl; exact rfl; (try simp only [List.set_cons_zero, List.set_cons_succ, hlk])) | ((with_reducible apply xcallIs); exact rfl; exact rfl; exact c_rText rs[k] (h _ (List.getElem_mem hlt)); exact rfl) | simp -implicitDefEqProofs only [go_sem, Int.reduceEq, Int.reduceLT, Int.reduceLE, Nat.reduceAdd, Nat.reduceSub, Nat.reduceMul, Nat.reduceEqDiff, Nat.reduceLeDiff, Nat.reducePow, ↓reduceIte, reduceCtorEq, hlk])) | ((with_reducible apply xaw); (first | ((with_reducible apply xstepS); refine AW.step tok rfl ?_) | ((with_reducible apply xstep); refine AW.region tok rfl ?_) | with_reducible (first | refine AW.seq ?_ | refine AW.block ?_ | refine AW.skip ?_ | refine AW.ret ?_ | refine AW.exit ?_) | ((with_reducible apply xcond); exact rfl))) | with_reducible (first | refine xthen ?_ | refine xthen_r ?_ | refine xthen_e ?_ | refine xblock ?_ | refine xblock_r ?_ | refine xblock_e ?_ | refine xblock_n rfl ?_ | refine xround_r ?_ | refine xround_e ?_) | (with_reducible intro hc; (try simp only [decide_eq_true_eq, decide_eq_false_iff_not, Bool.not_true, Bool.not_false, Bool.not_eq_true', Bool.not_eq_false', ne_eq, not_true, reduceCtorEq, hlk] at hc); (try (exfalso; omega))) | with_reducible (first | exact trivial | refine And.intro ?_ ?_ | exact rfl | exact Nat.le_refl _) | exact Eq.refl true | exact (rfl : (_ : List Nat) = _) | exact Nat.le_of_ble_eq_true rfl | (refine inR_i64.mpr ?_; first | omega | (simp only [List.length_map, hlk]; omega)) | omega)
      refine round_end (k+1) hlt (by omega) (by (refine xwk (π := [3]) (by decide) rfl ?_ ?_; (first | exact trivial | simp -implicitDefEqProofs only [go_sem, Int.reduceEq, Int.reduceLT, Int.reduceLE, Nat.reduceAdd, Nat.reduceSub, Nat.reduceMul, Nat.reduceEqDiff, Nat.reduceLeDiff, Nat.reducePow, ↓reduceIte, reduceCtorEq, e, List.map_append, List.map_cons, List.map_nil, encStr]); repeat' (first | exact renE_n | ((with_reducible apply renE_c); exact rfl; focus (first | with_reducible exact rfl | (simp -implicitDefEqProofs only [go_sem, Int.reduceEq, Int.reduceLT, Int.reduceLE, Nat.reduceAdd, Nat.reduceSub, Nat.reduceMul, Nat.reduceEqDiff, Nat.reduceLeDiff, Nat.reducePow, ↓reduceIte, reduceCtorEq, e, List.map_append, List.map_cons, List.map_nil, encStr]; done) | (simp -implicitDefEqProofs only [go_sem, Int.reduceEq, Int.reduceLT, Int.reduceLE, Nat.reduceAdd, Nat.reduceSub, Nat.reduceMul, Nat.reduceEqDiff, Nat.reduceLeDiff, Nat.reducePow, ↓reduceIte, reduceCtorEq, e, List.map_append, List.map_cons, List.map_nil, encStr]; omega))))))
    · have hk' : k = rs.length := by omega
      subst hk'
      rw [List.take_of_length_le (Nat.le_refl _)]
      have c1 := c_Join (rs.map rtext) [32] (by rw [List.length_map]; omega) (Nat.le_trans hj (by omega))
      have htk : List.take rs.length ((rs.map rtext).map encStr) = (rs.map rtext).map encStr := List.take_of_length_le (by simp)
      repeat' (first | ((with_reducible apply xsim); (first | ((with_reducible apply xlenM); exact rfl; exact rfl) | ((with_reducible apply xo); exact rfl) | ((with_reducible apply xst); exact rfl) | with_reducible apply xend | ((with_reducible apply xalloc); exact rfl; simp only [backV, backVs, backVs_mapd, backId, backO, List.map_cons, List.map_nil, List.getElem?_nil, List.length_cons, List.length_nil, Nat.reduceAdd, Nat.reduceSub, List.cons_append, List.nil_append, List.append_nil]) | ((with_reducible apply xbuild); exact rfl; exact rfl; exact rfl; exact rfl; exact rfl; simp only [backV, backVs, backVs_mapd, backId, backO, List.map_cons, List.map_nil, List.getElem?_nil, List.length_cons, List.length_nil, Nat.reduceAdd, Nat.reduceSub, List.cons_append, List.nil_append, List.append_nil]) | ((with_reducible apply xidxL); exact rfl; exact rfl; exact rfl; exact rfl; omega; first | exact rfl | simp only [hsz]) | ((with_reducible apply xidxM); exact rfl; exact rfl; exact rfl; omega; omega; exact rfl) | ((with_reducible apply xldA); exact rfl; exact rfl; exact rfl; exact rfl; exact rfl) | ((with_reducible apply xstA); exact rfl; exact rfl; exact rfl; exact rfl; exact rfl; exact rfl; exact rfl; exact rfl; exact rfl; (try simp only [List.set_cons_zero, List.set_cons_succ, htk, List.length_map])) | ((with_reducible apply xcallLend [0]); exact rfl; exact c1; (focus (first | exact rfl | (simp -implicitDefEqProofs only [go_sem, ↓reduceIte, Nat.reduceEqDiff, htk, List.length_map]; done))); exact rfl; exact rfl) | simp -implicitDefEqProofs only [go_sem, Int.reduceEq, Int.reduceLT, Int.reduceLE, Nat.reduceAdd, Nat.reduceSub, Nat.reduceMul, Nat.reduceEqDiff, Nat.reduceLeDiff, Nat.reducePow, ↓reduceIte, reduceCtorEq, htk, List.length_map])) | ((with_reducible apply xaw); (first | ((with_reducible apply xstepS); refine AW.step tok rfl ?_) | ((with_reducible apply xstep); refine AW.region tok rfl ?_) | with_reducible (first | refine AW.seq ?_ | refine AW.block ?_ | refine AW.skip ?_ | refine AW.ret ?_ | refine AW.exit ?_) | ((with_reducible apply xcond); exact rfl))) | with_reducible (first | refine xthen ?_ | refine xthen_r ?_ | refine xthen_e ?_ | refine xblock ?_ | refine xblock_r ?_ | refine xblock_e ?_ | refine xblock_n rfl ?_ | refine xround_r ?_ | refine xround_e ?_) | (with_reducible intro hc; (try simp only [decide_eq_true_eq, decide_eq_false_iff_not, Bool.not_true, Bool.not_false, Bool.not_eq_true', Bool.not_eq_false', ne_eq, not_true, reduceCtorEq, htk, List.length_map] at hc); (try (exfalso; omega))) | with_reducible (first | exact trivial | refine And.intro ?_ ?_ | exact rfl | exact Nat.le_refl _) | exact Eq.refl true | exact (rfl : (_ : List Nat) = _) | exact Nat.le_of_ble_eq_true rfl | (refine inR_i64.mpr ?_; first | omega | (simp only [List.length_map, htk, List.length_map]; omega)) | omega)
      all_goals (refine xfinIs (by first | exact .inl rfl | exact .inr rfl) rfl (by repeat' (first | exact trivial | exact rfl | refine And.intro ?_ ?_)) rfl ?_ rfl; first | with_reducible exact rfl | (simp -implicitDefEqProofs only [go_sem, Int.reduceEq, Int.reduceLT, Int.reduceLE, Nat.reduceAdd, Nat.reduceSub, Nat.reduceMul, Nat.reduceEqDiff, Nat.reduceLeDiff, Nat.reducePow, ↓reduceIte, reduceCtorEq, rsText] <;> (first | rfl | omega | exact decide_eq_decide.2 (by omega) | exact decide_eq_false (by omega) | exact decide_eq_true (by omega) | (symm; first | exact decide_eq_false (by omega) | exact decide_eq_true (by omega)) | (rw [Bool.eq_iff_iff]; simp only [Bool.not_eq_true', Bool.not_eq_false', Bool.and_eq_true, Bool.or_eq_true, decide_eq_true_eq, decide_eq_false_iff_not, reduceCtorEq, true_iff, iff_true, false_iff, iff_false]; omega))))

theorem c_rectsTextS (rs : List Rect) (h : ∀ r ∈ rs, RectSm r) (hl : rs.length ≤ 10) : ACon Tryz.prog 27 [.d (.lst (rs.map encRect))] [] (Is (.d (.str (rsText rs)))) := by
  refine ACon.introW tok (nt := 23) Tryz.func27 rfl rfl rfl (by kernel_rfl) rfl ?_
  repeat' (first | ((with_reducible apply xsim); (first | ((with_reducible apply xlenM); exact rfl; exact rfl) | ((with_reducible apply xo); exact rfl) | with_reducible apply xend | ((with_reducible apply xidxL); exact rfl; exact rfl; exact rfl; exact rfl; omega; first | exact rfl | simp only [hsz]) | ((with_reducible apply xidxM); exact rfl; exact rfl; exact rfl; omega; omega; exact rfl) | ((with_reducible apply xldA); exact rfl; exact rfl; exact rfl; exact rfl; exact rfl) | simp -implicitDefEqProofs only [go_sem, Int.reduceEq, Int.reduceLT, Int.reduceLE, Nat.reduceAdd, Nat.reduceSub, Nat.reduceMul, Nat.reduceEqDiff, Nat.reduceLeDiff, Nat.reducePow, ↓reduceIte, reduceCtorEq])) | ((with_reducible apply xaw); (first | ((with_reducible apply xstepS); refine AW.step tok rfl ?_) | ((with_reducible apply xstep); refine AW.region tok rfl ?_) | with_reducible (first | refine AW.seq ?_ | refine AW.block ?_ | refine AW.skip ?_ | refine AW.ret ?_ | refine AW.exit ?_) | ((with_reducible apply xcond); exact rfl))) | with_reducible (first | refine xthen ?_ | refine xthen_r ?_ | refine xthen_e ?_ | refine xblock ?_ | refine xblock_r ?_ | refine xblock_e ?_ | refine xblock_n rfl ?_ | refine xround_r ?_ | refine xround_e ?_) | (with_reducible intro hc; (try simp only [decide_eq_true_eq, decide_eq_false_iff_not, Bool.not_true, Bool.not_false, Bool.not_eq_true', Bool.not_eq_false', ne_eq, not_true, reduceCtorEq] at hc); (try (exfalso; omega))) | with_reducible (first | exact trivial | refine And.intro ?_ ?_ | exact rfl | exact Nat.le_refl _) | exact Eq.refl true | exact (rfl : (_ : List Nat) = _) | exact Nat.le_of_ble_eq_true rfl | (refine inR_i64.mpr ?_; first | omega | (simp only [List.length_map]; omega)) | omega)
  refine AW.loop (S := fun k : Nat => ⟨[(0, .d (.lst (rs.map encRect))), (3, .d (.str (rsText (rs.take k)))), (4, .d (.int .i64 k))], [], 23, 0⟩)
    (Pre := fun k => k ≤ rs.length) (μ := fun k => rs.length - k) 0 (Nat.zero_le _) ?_ ?_
  · (refine xwk (π := []) (by decide) rfl ?_ ?_; (first | exact trivial | simp -implicitDefEqProofs only [go_sem, Int.reduceEq, Int.reduceLT, Int.reduceLE, Nat.reduceAdd, Nat.reduceSub, Nat.reduceMul, Nat.reduceEqDiff, Nat.reduceLeDiff, Nat.reducePow, ↓reduceIte, reduceCtorEq, List.take_zero, show rsText [] = [] from rfl]); repeat' (first | exact renE_n | ((with_reducible apply renE_c); exact rfl; focus (first | with_reducible exact rfl | (simp -implicitDefEqProofs only [go_sem, Int.reduceEq, Int.reduceLT, Int.reduceLE, Nat.reduceAdd, Nat.reduceSub, Nat.reduceMul, Nat.reduceEqDiff, Nat.reduceLeDiff, Nat.reducePow, ↓reduceIte, reduceCtorEq, List.take_zero, show rsText [] = [] from rfl]; done) | (simp -implicitDefEqProofs only [go_sem, Int.reduceEq, Int.reduceLT, Int.reduceLE, Nat.reduceAdd, Nat.reduceSub, Nat.reduceMul, Nat.reduceEqDiff, Nat.reduceLeDiff, Nat.reducePow, ↓reduceIte, reduceCtorEq, List.take_zero, show rsText [] = [] from rfl]; omega)))))
  · intro k hk
    by_cases hlt : k < rs.length
    · have hrow := at_map (f := encRect) hlt
      have e : rs.take (k + 1) = rs.take k ++ [rs[k]] := List.take_succ_eq_append_getElem hlt
      have hr := h _ (List.getElem_mem hlt)
      have hlr := rtext_len hr
      have hlk := rsText_len (rs := rs.take k) fun q hq => h q (List.mem_of_mem_take hq)
      have hlt2 : (rs.take k).length ≤ 10 := by rw [List.length_take]; omega
      by_cases h0 : k = 0
      · have e1 : rsText (rs.take (k + 1)) = rsText (rs.take k) ++ rtext rs[k] := by
          subst h0
          rw [e]
          simp [rsText, Lib.join_one, Lib.join_nil]
        repeat' (first | ((with_reducible apply xsim); (first | ((with_reducible apply xlenM); exact rfl; exact rfl) | ((with_reducible apply xo); exact rfl) | with_reducible apply xend | ((with_reducible apply xidxL); exact rfl; exact rfl; exact rfl; (first | exact hrow); omega; first | exact rfl | simp only [hsz]) | ((with_reducible apply xidxM); exact rfl; exact rfl; exact rfl; omega; omega; exact rfl) | ((with_reducible apply xldA); exact rfl; exact rfl; exact rfl; (first | exact hrow); exact rfl) | ((with_reducible apply xcallIs); exact rfl; exact rfl; exact c_rectText rs[k] hr; exact rfl) | simp -implicitDefEqProofs only [go_sem, Int.reduceEq, Int.reduceLT, Int.reduceLE, Nat.reduceAdd, Nat.reduceSub, Nat.reduceMul, Nat.reduceEqDiff, Nat.reduceLeDiff, Nat.reducePow, ↓reduceIte, reduceCtorEq, List.length_map])) | ((with_reducible apply xaw); (first | ((with_reducible apply xstepS); refine AW.step tok rfl ?_) | ((with_reducible apply xstep); refine AW.region tok rfl ?_) | with_reducible (first | refine AW.seq ?_ | refine AW.block ?_ | refine AW.skip ?_ | refine AW.ret ?_ | refine AW.exit ?_) | ((with_reducible apply xcond); exact rfl))) | with_reducible (first | refine xthen ?_ | refine xthen_r ?_ | refine xthen_e ?_ | refine xblock ?_ | refine xblock_r ?_ | refine xblock_e ?_ | refine xblock_n rfl ?_ | refine xround_r ?_ | refine xround_e ?_) | (with_reducible intro hc; (try simp only [decide_eq_true_eq, decide_eq_false_iff_not, Bool.not_true, Bool.not_false, Bool.not_eq_true', Bool.not_eq_false', ne_eq, not_true, reduceCtorEq, List.length_map] at hc); (try (exfalso; omega))) | with_reducible (first | exact trivial | refine And.intro ?_ ?_ | exact rfl | exact Nat.le_refl _) | exact Eq.refl true | exact (rfl : (_ : List Nat) = _) | exact Nat.le_of_ble_eq_true rfl | (refine inR_i64.mpr ?_; first | omega | (simp only [List.length_map, List.length_map]; omega)) | omega | ((try simp only [List.length_append, List.length_cons, List.length_nil]); omega))
        refine round_end (k+1) hlt (by omega) (by (refine xwk (π := []) (by decide) rfl ?_ ?_; (first | exact trivial | simp -implicitDefEqProofs only [go_sem, Int.reduceEq, Int.reduceLT, Int.reduceLE, Nat.reduceAdd, Nat.reduceSub, Nat.reduceMul, Nat.reduceEqDiff, Nat.reduceLeDiff, Nat.reducePow, ↓reduceIte, reduceCtorEq, e1]); repeat' (first | exact renE_n | ((with_reducible apply renE_c); exact rfl; focus (first | with_reducible exact rfl | (simp -implicitDefEqProofs only [go_sem, Int.reduceEq, Int.reduceLT, Int.reduceLE, Nat.reduceAdd, Nat.reduceSub, Nat.reduceMul, Nat.reduceEqDiff, Nat.reduceLeDiff, Nat.reducePow, ↓reduceIte, reduceCtorEq, e1]; done) | (simp -implicitDefEqProofs only [go_sem, Int.reduceEq, Int.reduceLT, Int.reduceLE, Nat.reduceAdd, Nat.reduceSub, Nat.reduceMul, Nat.reduceEqDiff, Nat.reduceLeDiff, Nat.reducePow, ↓reduceIte, reduceCtorEq, e1]; omega))))))
      · have e1 : rsText (rs.take (k + 1)) = rsText (rs.take k) ++ [32] ++ rtext rs[k] := by
          rw [e]
          unfold rsText
          rw [List.map_append, List.map_cons, List.map_nil]
          exact join_snoc _ _ _ (by
            intro hh
            have : ((rs.take k).map rtext).length = 0 := by rw [hh]; rfl
            rw [List.length_map, List.length_take] at this
            omega)
        repeat' (first | ((with_reducible apply xsim); (first | ((with_reducible apply xlenM); exact rfl; exact rfl) | ((with_reducible apply xo); exact rfl) | with_reducible apply xend | ((with_reducible apply xidxL); exact rfl; exact rfl; exact rfl; (first | exact hrow); omega; first | exact rfl | simp only [hsz]) | ((with_reducible apply xidxM); exact rfl; exact rfl; exact rfl; omega; omega; exact rfl) | ((with_reducible apply xldA); exact rfl; exact rfl; exact rfl; (first | exact hrow); exact rfl) | ((with_reducible apply xcallIs); exact rfl; exact rfl; exact c_rectText rs[k] hr; exact rfl) | simp -implicitDefEqProofs only [go_sem, Int.reduceEq, Int.reduceLT, Int.reduceLE, Nat.reduceAdd, Nat.reduceSub, Nat.reduceMul, Nat.reduceEqDiff, Nat.reduceLeDiff, Nat.reducePow, ↓reduceIte, reduceCtorEq, List.length_map])) | ((with_reducible apply xaw); (first | ((with_reducible apply xstepS); refine AW.step tok rfl ?_) | ((with_reducible apply xstep); refine AW.region tok rfl ?_) | with_reducible (first | refine AW.seq ?_ | refine AW.block ?_ | refine AW.skip ?_ | refine AW.ret ?_ | refine AW.exit ?_) | ((with_reducible apply xcond); exact rfl))) | with_reducible (first | refine xthen ?_ | refine xthen_r ?_ | refine xthen_e ?_ | refine xblock ?_ | refine xblock_r ?_ | refine xblock_e ?_ | refine xblock_n rfl ?_ | refine xround_r ?_ | refine xround_e ?_) | (with_reducible intro hc; (try simp only [decide_eq_true_eq, decide_eq_false_iff_not, Bool.not_true, Bool.not_false, Bool.not_eq_true', Bool.not_eq_false', ne_eq, not_true, reduceCtorEq, List.length_map] at hc); (try (exfalso; omega))) | with_reducible (first | exact trivial | refine And.intro ?_ ?_ | exact rfl | exact Nat.le_refl _) | exact Eq.refl true | exact (rfl : (_ : List Nat) = _) | exact Nat.le_of_ble_eq_true rfl | (refine inR_i64.mpr ?_; first | omega | (simp only [List.length_map, List.length_map]; omega)) | omega | ((try simp only [List.length_append, List.length_cons, List.length_nil]); omega))
        refine round_end (k+1) hlt (by omega) (by (refine xwk (π := []) (by decide) rfl ?_ ?_; (first | exact trivial | simp -implicitDefEqProofs only [go_sem, Int.reduceEq, Int.reduceLT, Int.reduceLE, Nat.reduceAdd, Nat.reduceSub, Nat.reduceMul, Nat.reduceEqDiff, Nat.reduceLeDiff, Nat.reducePow, ↓reduceIte, reduceCtorEq, e1]); repeat' (first | exact renE_n | ((with_reducible apply renE_c); exact rfl; focus (first | with_reducible exact rfl | (simp -implicitDefEqProofs only [go_sem, Int.reduceEq, Int.reduceLT, Int.reduceLE, Nat.reduceAdd, Nat.reduceSub, Nat.reduceMul, Nat.reduceEqDiff, Nat.reduceLeDiff, Nat.reducePow, ↓reduceIte, reduceCtorEq, e1]; done) | (simp -implicitDefEqProofs only [go_sem, Int.reduceEq, Int.reduceLT, Int.reduceLE, Nat.reduceAdd, Nat.reduceSub, Nat.reduceMul, Nat.reduceEqDiff, Nat.reduceLeDiff, Nat.reducePow, ↓reduceIte, reduceCtorEq, e1]; omega))))))
    · have hk' : k = rs.length := by omega
      subst hk'
      rw [List.take_of_length_le (Nat.le_refl _)]
      repeat' (first | ((with_reducible apply xsim); (first | ((with_reducible apply xlenM); exact rfl; exact rfl) | ((with_reducible apply xo); exact rfl) | with_reducible apply xend | ((with_reducible apply xidxL); exact rfl; exact rfl; exact rfl; exact rfl; omega; first | exact rfl | simp only [hsz]) | ((with_reducible apply xidxM); exact rfl; exact rfl; exact rfl; omega; omega; exact rfl) | ((with_reducible apply xldA); exact rfl; exact rfl; exact rfl; exact rfl; exact rfl) | simp -implicitDefEqProofs only [go_sem, Int.reduceEq, Int.reduceLT, Int.reduceLE, Nat.reduceAdd, Nat.reduceSub, Nat.reduceMul, Nat.reduceEqDiff, Nat.reduceLeDiff, Nat.reducePow, ↓reduceIte, reduceCtorEq, List.length_map])) | ((with_reducible apply xaw); (first | ((with_reducible apply xstepS); refine AW.step tok rfl ?_) | ((with_reducible apply xstep); refine AW.region tok rfl ?_) | with_reducible (first | refine AW.seq ?_ | refine AW.block ?_ | refine AW.skip ?_ | refine AW.ret ?_ | refine AW.exit ?_) | ((with_reducible apply xcond); exact rfl))) | with_reducible (first | refine xthen ?_ | refine xthen_r ?_ | refine xthen_e ?_ | refine xblock ?_ | refine xblock_r ?_ | refine xblock_e ?_ | refine xblock_n rfl ?_ | refine xround_r ?_ | refine xround_e ?_) | (with_reducible intro hc; (try simp only [decide_eq_true_eq, decide_eq_false_iff_not, Bool.not_true, Bool.not_false, Bool.not_eq_true', Bool.not_eq_false', ne_eq, not_true, reduceCtorEq, List.length_map] at hc); (try (exfalso; omega))) | with_reducible (first | exact trivial | refine And.intro ?_ ?_ | exact rfl | exact Nat.le_refl _) | exact Eq.refl true | exact (rfl : (_ : List Nat) = _) | exact Nat.le_of_ble_eq_true rfl | (refine inR_i64.mpr ?_; first | omega | (simp only [List.length_map, List.length_map]; omega)) | omega)
      (refine xfinIs (by first | exact .inl rfl | exact .inr rfl) rfl (by repeat' (first | exact trivial | exact rfl | refine And.intro ?_ ?_)) rfl ?_ rfl; first | with_reducible exact rfl | (simp -implicitDefEqProofs only [go_sem, Int.reduceEq, Int.reduceLT, Int.reduceLE, Nat.reduceAdd, Nat.reduceSub, Nat.reduceMul, Nat.reduceEqDiff, Nat.reduceLeDiff, Nat.reducePow, ↓reduceIte, reduceCtorEq] <;> (first | rfl | omega | exact decide_eq_decide.2 (by omega) | exact decide_eq_false (by omega) | exact decide_eq_true (by omega) | (symm; first | exact decide_eq_false (by omega) | exact decide_eq_true (by omega)) | (rw [Bool.eq_iff_iff]; simp only [Bool.not_eq_true', Bool.not_eq_false', Bool.and_eq_true, Bool.or_eq_true, decide_eq_true_eq, decide_eq_false_iff_not, reduceCtorEq, true_iff, iff_true, false_iff, iff_false]; omega))))
end Go.Proofs.YtmjofbjglhdkjaaGreatDoor

namespace Go.Proofs.YtmjofbjglhdkjaaGreatDoor
open Go.Fw
attribute [local irreducible] Go.Fw.aops Go.Fw.arun

theorem reqs_drop {xs : List Pack} {k : Nat} (h : k < xs.length) : reqs (xs.drop k) = if down xs[k] then (max (needW xs[k]) (reqs (xs.drop (k + 1))).1, needH xs[k] + (reqs (xs.drop (k + 1))).2) else (needW xs[k] + (reqs (xs.drop (k + 1))).1, max (needH xs[k]) (reqs (xs.drop (k + 1))).2) := by
  rw [List.drop_eq_getElem_cons h]; rfl
theorem allV_drop {xs : List Pack} {k : Nat} (h : xs.all validPack = true) : (xs.drop k).all validPack = true :=
  List.all_eq_true.2 fun x hx => List.all_eq_true.1 h x (List.mem_of_mem_drop hx)
theorem allV_at {xs : List Pack} {k : Nat} (h : xs.all validPack = true) (hk : k < xs.length) : validPack xs[k] = true := List.all_eq_true.1 h _ (List.getElem_mem hk)

theorem c_reqS (xs : List Pack) (hl : xs.length ≤ 7) (hv : xs.all validPack = true) : ACon Tryz.prog 24 [.d (.lst (xs.map encPack))] [] (Is (.tup [.d (.int .i64 (reqs xs).1), .d (.int .i64 (reqs xs).2)])) := by
  refine ACon.introW tok (nt := 44) Tryz.func24 rfl rfl rfl (by kernel_rfl) rfl ?_
  repeat' (first | ((with_reducible apply xsim); (first | ((with_reducible apply xlenM); exact rfl; exact rfl) | ((with_reducible apply xo); exact rfl) | with_reducible apply xend | ((with_reducible apply xidxL); exact rfl; exact rfl; exact rfl; exact rfl; omega; first | exact rfl | simp only [hsz]) | ((with_reducible apply xidxM); exact rfl; exact rfl; exact rfl; omega; omega; exact rfl) | ((with_reducible apply xldA); exact rfl; exact rfl; exact rfl; exact rfl; exact rfl) | simp -implicitDefEqProofs only [go_sem, Int.reduceEq, Int.reduceLT, Int.reduceLE, Nat.reduceAdd, Nat.reduceSub, Nat.reduceMul, Nat.reduceEqDiff, Nat.reduceLeDiff, Nat.reducePow, ↓reduceIte, reduceCtorEq])) | ((with_reducible apply xaw); (first | ((with_reducible apply xstepS); refine AW.step tok rfl ?_) | ((with_reducible apply xstep); refine AW.region tok rfl ?_) | with_reducible (first | refine AW.seq ?_ | refine AW.block ?_ | refine AW.skip ?_ | refine AW.ret ?_ | refine AW.exit ?_) | ((with_reducible apply xcond); exact rfl))) | with_reducible (first | refine xthen ?_ | refine xthen_r ?_ | refine xthen_e ?_ | refine xblock ?_ | refine xblock_r ?_ | refine xblock_e ?_ | refine xblock_n rfl ?_ | refine xround_r ?_ | refine xround_e ?_) | (with_reducible intro hc; (try simp only [decide_eq_true_eq, decide_eq_false_iff_not, Bool.not_true, Bool.not_false, Bool.not_eq_true', Bool.not_eq_false', ne_eq, not_true, reduceCtorEq] at hc); (try (exfalso; omega))) | with_reducible (first | exact trivial | refine And.intro ?_ ?_ | exact rfl | exact Nat.le_refl _) | exact Eq.refl true | exact (rfl : (_ : List Nat) = _) | exact Nat.le_of_ble_eq_true rfl | (refine inR_i64.mpr ?_; first | omega | (simp only [List.length_map]; omega)) | omega)
  refine AW.loop (S := fun k : Nat => ⟨[(0, .d (.lst (xs.map encPack))), (4, .d (.int .i64 (reqs (xs.drop k)).1)), (5, .d (.int .i64 (reqs (xs.drop k)).2)), (6, .d (.int .i64 ((k : Int) - 1)))], [], 44, 0⟩)
    (Pre := fun k => k ≤ xs.length) (μ := fun k => k) xs.length (Nat.le_refl _) ?_ ?_
  · (refine xwk (π := []) (by decide) rfl ?_ ?_; (first | exact trivial | simp -implicitDefEqProofs only [go_sem, Int.reduceEq, Int.reduceLT, Int.reduceLE, Nat.reduceAdd, Nat.reduceSub, Nat.reduceMul, Nat.reduceEqDiff, Nat.reduceLeDiff, Nat.reducePow, ↓reduceIte, reduceCtorEq, List.drop_length, reqs]); repeat' (first | exact renE_n | ((with_reducible apply renE_c); exact rfl; focus (first | with_reducible exact rfl | (simp -implicitDefEqProofs only [go_sem, Int.reduceEq, Int.reduceLT, Int.reduceLE, Nat.reduceAdd, Nat.reduceSub, Nat.reduceMul, Nat.reduceEqDiff, Nat.reduceLeDiff, Nat.reducePow, ↓reduceIte, reduceCtorEq, List.drop_length, reqs]; done) | (simp -implicitDefEqProofs only [go_sem, Int.reduceEq, Int.reduceLT, Int.reduceLE, Nat.reduceAdd, Nat.reduceSub, Nat.reduceMul, Nat.reduceEqDiff, Nat.reduceLeDiff, Nat.reducePow, ↓reduceIte, reduceCtorEq, List.drop_length, reqs]; omega)))))
  · intro k hk
    have b1 := reqs_bd (allV_drop (k := k) hv)
    rw [List.length_drop] at b1
    by_cases h0 : k = 0
    · subst h0
      repeat' (first | ((with_reducible apply xsim); (first | ((with_reducible apply xlenM); exact rfl; exact rfl) | ((with_reducible apply xo); exact rfl) | with_reducible apply xend | ((with_reducible apply xidxL); exact rfl; exact rfl; exact rfl; exact rfl; omega; first | exact rfl | simp only [hsz]) | ((with_reducible apply xidxM); exact rfl; exact rfl; exact rfl; omega; omega; exact rfl) | ((with_reducible apply xldA); exact rfl; exact rfl; exact rfl; exact rfl; exact rfl) | simp -implicitDefEqProofs only [go_sem, Int.reduceEq, Int.reduceLT, Int.reduceLE, Nat.reduceAdd, Nat.reduceSub, Nat.reduceMul, Nat.reduceEqDiff, Nat.reduceLeDiff, Nat.reducePow, ↓reduceIte, reduceCtorEq])) | ((with_reducible apply xaw); (first | ((with_reducible apply xstepS); refine AW.step tok rfl ?_) | ((with_reducible apply xstep); refine AW.region tok rfl ?_) | with_reducible (first | refine AW.seq ?_ | refine AW.block ?_ | refine AW.skip ?_ | refine AW.ret ?_ | refine AW.exit ?_) | ((with_reducible apply xcond); exact rfl))) | with_reducible (first | refine xthen ?_ | refine xthen_r ?_ | refine xthen_e ?_ | refine xblock ?_ | refine xblock_r ?_ | refine xblock_e ?_ | refine xblock_n rfl ?_ | refine xround_r ?_ | refine xround_e ?_) | (with_reducible intro hc; (try simp only [decide_eq_true_eq, decide_eq_false_iff_not, Bool.not_true, Bool.not_false, Bool.not_eq_true', Bool.not_eq_false', ne_eq, not_true, reduceCtorEq] at hc); (try (exfalso; omega))) | with_reducible (first | exact trivial | refine And.intro ?_ ?_ | exact rfl | exact Nat.le_refl _) | exact Eq.refl true | exact (rfl : (_ : List Nat) = _) | exact Nat.le_of_ble_eq_true rfl | (refine inR_i64.mpr ?_; first | omega | (simp only [List.length_map]; omega)) | omega)
      (refine xfinIs (by first | exact .inl rfl | exact .inr rfl) rfl (by repeat' (first | exact trivial | exact rfl | refine And.intro ?_ ?_)) rfl ?_ rfl; first | with_reducible exact rfl | (simp -implicitDefEqProofs only [go_sem, Int.reduceEq, Int.reduceLT, Int.reduceLE, Nat.reduceAdd, Nat.reduceSub, Nat.reduceMul, Nat.reduceEqDiff, Nat.reduceLeDiff, Nat.reducePow, ↓reduceIte, reduceCtorEq, List.drop_zero] <;> (first | rfl | omega | exact decide_eq_decide.2 (by omega) | exact decide_eq_false (by omega) | exact decide_eq_true (by omega) | (symm; first | exact decide_eq_false (by omega) | exact decide_eq_true (by omega)) | (rw [Bool.eq_iff_iff]; simp only [Bool.not_eq_true', Bool.not_eq_false', Bool.and_eq_true, Bool.or_eq_true, decide_eq_true_eq, decide_eq_false_iff_not, reduceCtorEq, true_iff, iff_true, false_iff, iff_false]; omega))))
    · obtain ⟨j, rfl⟩ : ∃ j, k = j + 1 := ⟨k - 1, by omega⟩
      have hj : j < xs.length := by omega
      have hrow := at_map (f := encPack) hj
      have hv1 := allV_at hv hj
      have hn := needWH hv1
      have hd := reqs_drop hj
      have hdn : decide (xs[j].side = 0 ∨ xs[j].side = 1) = down xs[j] := rfl
      have hrow2 : (List.map encPack xs)[(((j + 1 : Nat) : Int) - 1).toNat]? = some (encPack xs[j]) := by rw [show (((j + 1 : Nat) : Int) - 1).toNat = j by omega]; exact hrow
      cases hdd : down xs[j]
      all_goals
        rw [hdd] at hd
        simp only [Bool.false_eq_true, if_false, if_true] at hd
        repeat' (first | ((with_reducible apply xsim); (first | ((with_reducible apply xlenM); exact rfl; exact rfl) | ((with_reducible apply xo); exact rfl) | with_reducible apply xend | ((with_reducible apply xidxL); exact rfl; exact rfl; exact rfl; (first | exact hrow2); omega; first | exact rfl | simp only [hsz]) | ((with_reducible apply xidxM); exact rfl; exact rfl; exact rfl; omega; omega; exact rfl) | ((with_reducible apply xldA); exact rfl; exact rfl; exact rfl; (first | exact hrow2); exact rfl) | ((with_reducible apply xcallIs); exact rfl; exact rfl; (first | exact c_outer xs[j] (all_at (all_packB hv) hj) | exact c_upright xs[j].side); exact rfl) | simp -implicitDefEqProofs only [go_sem, Int.reduceEq, Int.reduceLT, Int.reduceLE, Nat.reduceAdd, Nat.reduceSub, Nat.reduceMul, Nat.reduceEqDiff, Nat.reduceLeDiff, Nat.reducePow, ↓reduceIte, reduceCtorEq, hdn, hdd])) | ((with_reducible apply xaw); (first | ((with_reducible apply xstepS); refine AW.step tok rfl ?_) | ((with_reducible apply xstep); refine AW.region tok rfl ?_) | with_reducible (first | refine AW.seq ?_ | refine AW.block ?_ | refine AW.skip ?_ | refine AW.ret ?_ | refine AW.exit ?_) | ((with_reducible apply xcond); exact rfl))) | with_reducible (first | refine xthen ?_ | refine xthen_r ?_ | refine xthen_e ?_ | refine xblock ?_ | refine xblock_r ?_ | refine xblock_e ?_ | refine xblock_n rfl ?_ | refine xround_r ?_ | refine xround_e ?_) | (with_reducible intro hc; (try simp only [decide_eq_true_eq, decide_eq_false_iff_not, Bool.not_true, Bool.not_false, Bool.not_eq_true', Bool.not_eq_false', ne_eq, not_true, reduceCtorEq, hdn, hdd] at hc); (try (exfalso; omega))) | with_reducible (first | exact trivial | refine And.intro ?_ ?_ | exact rfl | exact Nat.le_refl _) | exact Eq.refl true | exact (rfl : (_ : List Nat) = _) | exact Nat.le_of_ble_eq_true rfl | (refine inR_i64.mpr ?_; first | omega | (simp only [List.length_map, hdn, hdd]; omega)) | omega)
        refine round_end j (by omega) (by omega) (by (refine xwk (π := []) (by decide) rfl ?_ ?_; (first | exact trivial | simp -implicitDefEqProofs only [go_sem, Int.reduceEq, Int.reduceLT, Int.reduceLE, Nat.reduceAdd, Nat.reduceSub, Nat.reduceMul, Nat.reduceEqDiff, Nat.reduceLeDiff, Nat.reducePow, ↓reduceIte, reduceCtorEq, hd]); repeat' (first | exact renE_n | ((with_reducible apply renE_c); exact rfl; focus (first | with_reducible exact rfl | (simp -implicitDefEqProofs only [go_sem, Int.reduceEq, Int.reduceLT, Int.reduceLE, Nat.reduceAdd, Nat.reduceSub, Nat.reduceMul, Nat.reduceEqDiff, Nat.reduceLeDiff, Nat.reducePow, ↓reduceIte, reduceCtorEq, hd]; done) | (simp -implicitDefEqProofs only [go_sem, Int.reduceEq, Int.reduceLT, Int.reduceLE, Nat.reduceAdd, Nat.reduceSub, Nat.reduceMul, Nat.reduceEqDiff, Nat.reduceLeDiff, Nat.reducePow, ↓reduceIte, reduceCtorEq, hd]; omega))))))
theorem c_reqI : ∀ (xs : List Pack) (hl : xs.length ≤ 7) (hv : xs.all validPack = true), ACon Tryz.prog 35 [.d (.lst (xs.map encPack))] [] (Is (.tup [.d (.int .i64 (reqs xs).1), .d (.int .i64 (reqs xs).2)]))
  | [], hl, hv => by
    refine ACon.introW tok (nt := 40) Tryz.func35 rfl rfl rfl (by kernel_rfl) rfl ?_
    repeat' (first | ((with_reducible apply xsim); (first | ((with_reducible apply xlenM); exact rfl; exact rfl) | ((with_reducible apply xo); exact rfl) | with_reducible apply xend | ((with_reducible apply xidxL); exact rfl; exact rfl; exact rfl; exact rfl; omega; first | exact rfl | simp only [hsz]) | ((with_reducible apply xidxM); exact rfl; exact rfl; exact rfl; omega; omega; exact rfl) | ((with_reducible apply xldA); exact rfl; exact rfl; exact rfl; exact rfl; exact rfl) | ((with_reducible apply xslcSLo); exact rfl; exact rfl; exact rfl; (first | omega | (simp only [List.length_append, List.length_cons, List.length_nil]; omega))) | ((with_reducible apply xslcSHi); exact rfl; exact rfl; exact rfl; (first | omega | (simp only [List.length_append, List.length_cons, List.length_nil]; omega))) | ((with_reducible apply xslcSB); exact rfl; exact rfl; exact rfl; exact rfl; (first | omega | (simp only [List.length_append, List.length_cons, List.length_nil]; omega))) | ((with_reducible apply xslcLo); exact rfl; exact rfl; exact rfl; exact (fun r hr => by obtain ⟨a, _, rfl⟩ := List.mem_map.1 hr; rfl); first | omega | (simp only [List.length_cons, List.length_nil]; omega)) | ((with_reducible apply xslcHi); exact rfl; exact rfl; exact rfl; exact (fun r hr => by obtain ⟨a, _, rfl⟩ := List.mem_map.1 hr; rfl); first | omega | (simp only [List.length_cons, List.length_nil]; omega)) | ((with_reducible apply xslcB); exact rfl; exact rfl; exact rfl; exact rfl; exact (fun r hr => by obtain ⟨a, _, rfl⟩ := List.mem_map.1 hr; rfl); first | omega | (simp only [List.length_cons, List.length_nil]; omega)) | ((with_reducible apply xslcMHi); exact rfl; exact rfl; exact rfl; (first | omega | (simp only [List.length_cons, List.length_nil]; omega))) | ((with_reducible apply xslcMLo); exact rfl; exact rfl; exact rfl; (first | omega | (simp only [List.length_cons, List.length_nil]; omega))) | ((with_reducible apply xslcMB); exact rfl; exact rfl; exact rfl; exact rfl; (first | omega | (simp only [List.length_cons, List.length_nil]; omega))) | simp -implicitDefEqProofs only [go_sem, Int.reduceEq, Int.reduceLT, Int.reduceLE, Nat.reduceAdd, Nat.reduceSub, Nat.reduceMul, Nat.reduceEqDiff, Nat.reduceLeDiff, Nat.reducePow, ↓reduceIte, reduceCtorEq, List.length_nil, Int.natCast_zero])) | ((with_reducible apply xaw); (first | ((with_reducible apply xstepS); refine AW.step tok rfl ?_) | ((with_reducible apply xstep); refine AW.region tok rfl ?_) | with_reducible (first | refine AW.seq ?_ | refine AW.block ?_ | refine AW.skip ?_ | refine AW.ret ?_ | refine AW.exit ?_) | ((with_reducible apply xcond); exact rfl))) | with_reducible (first | refine xthen ?_ | refine xthen_r ?_ | refine xthen_e ?_ | refine xblock ?_ | refine xblock_r ?_ | refine xblock_e ?_ | refine xblock_n rfl ?_ | refine xround_r ?_ | refine xround_e ?_) | (with_reducible intro hc; (try simp only [decide_eq_true_eq, decide_eq_false_iff_not, Bool.not_true, Bool.not_false, Bool.not_eq_true', Bool.not_eq_false', ne_eq, not_true, reduceCtorEq, List.length_nil, Int.natCast_zero] at hc); (try (exfalso; omega))) | with_reducible (first | exact trivial | refine And.intro ?_ ?_ | exact rfl | exact Nat.le_refl _) | exact Eq.refl true | exact (rfl : (_ : List Nat) = _) | exact Nat.le_of_ble_eq_true rfl | (refine inR_i64.mpr ?_; first | omega | (simp only [List.length_map, List.length_nil, Int.natCast_zero]; omega)) | omega)
    (refine xfinIs (by first | exact .inl rfl | exact .inr rfl) rfl (by repeat' (first | exact trivial | exact rfl | refine And.intro ?_ ?_)) rfl ?_ rfl; first | with_reducible exact rfl | (simp -implicitDefEqProofs only [go_sem, Int.reduceEq, Int.reduceLT, Int.reduceLE, Nat.reduceAdd, Nat.reduceSub, Nat.reduceMul, Nat.reduceEqDiff, Nat.reduceLeDiff, Nat.reducePow, ↓reduceIte, reduceCtorEq, reqs] <;> (first | rfl | omega | exact decide_eq_decide.2 (by omega) | exact decide_eq_false (by omega) | exact decide_eq_true (by omega) | (symm; first | exact decide_eq_false (by omega) | exact decide_eq_true (by omega)) | (rw [Bool.eq_iff_iff]; simp only [Bool.not_eq_true', Bool.not_eq_false', Bool.and_eq_true, Bool.or_eq_true, decide_eq_true_eq, decide_eq_false_iff_not, reduceCtorEq, true_iff, iff_true, false_iff, iff_false]; omega))))
  | p :: ps, hl, hv => by
    have hp : packB p = true := by
      have := all_packB hv
      simp only [List.all_cons, Bool.and_eq_true] at this
      exact this.1
    have hv2 := hv
    simp only [List.all_cons, Bool.and_eq_true] at hv2
    simp only [List.length_cons] at hl
    have ih := c_reqI ps (by omega) hv2.2
    have b1 := reqs_bd hv2.2
    have hn := needWH hv2.1
    cases hd : down p
    all_goals
      refine ACon.introW tok (nt := 40) Tryz.func35 rfl rfl rfl (by kernel_rfl) rfl ?_
      repeat' (first | ((with_reducible apply xsim); (first | ((with_reducible apply xlenM); exact rfl; exact rfl) | ((with_reducible apply xo); exact rfl) | with_reducible apply xend | ((with_reducible apply xidxL); exact rfl; exact rfl; exact rfl; exact rfl; omega; first | exact rfl | simp only [hsz]) | ((with_reducible apply xidxM); exact rfl; exact rfl; exact rfl; omega; omega; exact rfl) | ((with_reducible apply xldA); exact rfl; exact rfl; exact rfl; exact rfl; exact rfl) | ((with_reducible apply xslcSLo); exact rfl; exact rfl; exact rfl; (first | omega | (simp only [List.length_append, List.length_cons, List.length_nil]; omega))) | ((with_reducible apply xslcSHi); exact rfl; exact rfl; exact rfl; (first | omega | (simp only [List.length_append, List.length_cons, List.length_nil]; omega))) | ((with_reducible apply xslcSB); exact rfl; exact rfl; exact rfl; exact rfl; (first | omega | (simp only [List.length_append, List.length_cons, List.length_nil]; omega))) | ((with_reducible apply xslcLo); exact rfl; exact rfl; exact rfl; exact (fun r hr => by obtain ⟨a, _, rfl⟩ := List.mem_map.1 hr; rfl); first | omega | (simp only [List.length_cons, List.length_nil]; omega)) | ((with_reducible apply xslcHi); exact rfl; exact rfl; exact rfl; exact (fun r hr => by obtain ⟨a, _, rfl⟩ := List.mem_map.1 hr; rfl); first | omega | (simp only [List.length_cons, List.length_nil]; omega)) | ((with_reducible apply xslcB); exact rfl; exact rfl; exact rfl; exact rfl; exact (fun r hr => by obtain ⟨a, _, rfl⟩ := List.mem_map.1 hr; rfl); first | omega | (simp only [List.length_cons, List.length_nil]; omega)) | ((with_reducible apply xslcMHi); exact rfl; exact rfl; exact rfl; (first | omega | (simp only [List.length_cons, List.length_nil]; omega))) | ((with_reducible apply xslcMLo); exact rfl; exact rfl; exact rfl; (first | omega | (simp only [List.length_cons, List.length_nil]; omega))) | ((with_reducible apply xslcMB); exact rfl; exact rfl; exact rfl; exact rfl; (first | omega | (simp only [List.length_cons, List.length_nil]; omega))) | ((with_reducible apply xcallIs); exact rfl; exact rfl; (first | exact ih | exact c_needs p hp | exact c_down p); exact rfl) | simp -implicitDefEqProofs only [go_sem, Int.reduceEq, Int.reduceLT, Int.reduceLE, Nat.reduceAdd, Nat.reduceSub, Nat.reduceMul, Nat.reduceEqDiff, Nat.reduceLeDiff, Nat.reducePow, ↓reduceIte, reduceCtorEq, List.length_cons, hd])) | ((with_reducible apply xaw); (first | ((with_reducible apply xstepS); refine AW.step tok rfl ?_) | ((with_reducible apply xstep); refine AW.region tok rfl ?_) | with_reducible (first | refine AW.seq ?_ | refine AW.block ?_ | refine AW.skip ?_ | refine AW.ret ?_ | refine AW.exit ?_) | ((with_reducible apply xcond); exact rfl))) | with_reducible (first | refine xthen ?_ | refine xthen_r ?_ | refine xthen_e ?_ | refine xblock ?_ | refine xblock_r ?_ | refine xblock_e ?_ | refine xblock_n rfl ?_ | refine xround_r ?_ | refine xround_e ?_) | (with_reducible intro hc; (try simp only [decide_eq_true_eq, decide_eq_false_iff_not, Bool.not_true, Bool.not_false, Bool.not_eq_true', Bool.not_eq_false', ne_eq, not_true, reduceCtorEq, List.length_cons, hd] at hc); (try (exfalso; omega))) | with_reducible (first | exact trivial | refine And.intro ?_ ?_ | exact rfl | exact Nat.le_refl _) | exact Eq.refl true | exact (rfl : (_ : List Nat) = _) | exact Nat.le_of_ble_eq_true rfl | (refine inR_i64.mpr ?_; first | omega | (simp only [List.length_map, List.length_cons, hd]; omega)) | omega)
      all_goals (refine xfinIs (by first | exact .inl rfl | exact .inr rfl) rfl (by repeat' (first | exact trivial | exact rfl | refine And.intro ?_ ?_)) rfl ?_ rfl; first | with_reducible exact rfl | (simp -implicitDefEqProofs only [go_sem, Int.reduceEq, Int.reduceLT, Int.reduceLE, Nat.reduceAdd, Nat.reduceSub, Nat.reduceMul, Nat.reduceEqDiff, Nat.reduceLeDiff, Nat.reducePow, ↓reduceIte, reduceCtorEq, reqs, hd, Bool.false_eq_true] <;> (first | rfl | omega | exact decide_eq_decide.2 (by omega) | exact decide_eq_false (by omega) | exact decide_eq_true (by omega) | (symm; first | exact decide_eq_false (by omega) | exact decide_eq_true (by omega)) | (rw [Bool.eq_iff_iff]; simp only [Bool.not_eq_true', Bool.not_eq_false', Bool.and_eq_true, Bool.or_eq_true, decide_eq_true_eq, decide_eq_false_iff_not, reduceCtorEq, true_iff, iff_true, false_iff, iff_false]; omega))))

theorem packsV {xs : List Pack} (hl : xs.length ≤ 7) (hv : xs.all validPack = true) : (decide (xs.length ≤ 7) && xs.all validPack) = true := by simp [hl, hv]
theorem fits_true {xs : List Pack} {rs : List Rect} (hl : rs.length = xs.length) (h : ∀ k (h1 : k < xs.length) (h2 : k < rs.length), good xs[k] rs[k] = true) : fits xs rs = true := by
  refine List.all_eq_true.2 fun b hb => ?_
  obtain ⟨k, hk, rfl⟩ := List.mem_iff_getElem.1 hb
  simp only [List.length_zipWith] at hk
  simp only [List.getElem_zipWith, id]
  exact h k (by omega) (by omega)
theorem fits_false {xs : List Pack} {rs : List Rect} {k : Nat} (h1 : k < xs.length) (h2 : k < rs.length) (h : good xs[k] rs[k] = false) : fits xs rs = false := by
  refine List.all_eq_false.2 ⟨good xs[k] rs[k], ?_, by simp [h]⟩
  rw [List.mem_iff_getElem]
  exact ⟨k, by simp; omega, by simp⟩

theorem c_PackRectsS (xs : List Pack) (w h : Int) (hl : xs.length ≤ 7) (hv : xs.all validPack = true) (hr : roomOk w h = true) : ACon Tryz.prog 28 [.d (.lst (xs.map encPack)), .d (.int .i64 w), .d (.int .i64 h)] [] (ORows encRect 4 (packed xs ⟨0, 0, w, h⟩)) := by
  have c1 := c_validPacks xs (by omega)
  rw [packsV hl hv] at c1
  have c2 := c_goodRoom w h
  rw [hr] at c2
  have c3 := c_packed xs ⟨0, 0, w, h⟩ (room_in hr) (Nat.le_trans hl (by decide)) (all_packB hv)
  refine ACon.introW tok (nt := 21) Tryz.func28 rfl rfl rfl (by kernel_rfl) rfl ?_
  repeat' (first | ((with_reducible apply xsim); (first | ((with_reducible apply xo); exact rfl) | with_reducible apply xend | ((with_reducible apply xguardTS); exact rfl; exact rfl) | ((with_reducible apply xguardS); exact rfl; exact rfl) | ((with_reducible apply xcallIs); exact rfl; exact rfl; (first | exact c1 | exact c2); exact rfl) | ((with_reducible apply xcallOwn); exact rfl; exact rfl; exact c3; simp only [backV, backVs, backVs_mapd, backId, backO, List.map_cons, List.map_nil, List.getElem?_nil, List.length_cons, List.length_nil, Nat.reduceAdd, Nat.reduceSub, List.cons_append, List.nil_append, List.append_nil]) | simp -implicitDefEqProofs only [go_sem, Int.reduceEq, Int.reduceLT, Int.reduceLE, Nat.reduceAdd, Nat.reduceSub, Nat.reduceMul, Nat.reduceEqDiff, Nat.reduceLeDiff, Nat.reducePow, ↓reduceIte, reduceCtorEq])) | ((with_reducible apply xaw); (first | ((with_reducible apply xstepS); refine AW.step tok rfl ?_) | ((with_reducible apply xstep); refine AW.region tok rfl ?_) | with_reducible (first | refine AW.seq ?_ | refine AW.block ?_ | refine AW.skip ?_ | refine AW.ret ?_ | refine AW.exit ?_) | ((with_reducible apply xcond); exact rfl))) | with_reducible (first | refine xthen ?_ | refine xthen_r ?_ | refine xthen_e ?_ | refine xblock ?_ | refine xblock_r ?_ | refine xblock_e ?_ | refine xblock_n rfl ?_ | refine xround_r ?_ | refine xround_e ?_) | (with_reducible intro hc; (try simp only [decide_eq_true_eq, decide_eq_false_iff_not, Bool.not_true, Bool.not_false, Bool.not_eq_true', Bool.not_eq_false', ne_eq, not_true, reduceCtorEq] at hc); (try (exfalso; omega))) | with_reducible (first | exact trivial | refine And.intro ?_ ?_ | exact rfl | exact Nat.le_refl _) | exact Eq.refl true | exact (rfl : (_ : List Nat) = _) | exact Nat.le_of_ble_eq_true rfl | (refine inR_i64.mpr ?_; first | omega | (simp only [List.length_map]; omega)) | omega)
  all_goals (refine xfinOwn [0] (by first | exact .inl rfl | exact .inr rfl) rfl (by repeat' (first | exact trivial | exact rfl | refine And.intro ?_ ?_)) (by decide) rfl ?_ ?_ <;> simp -implicitDefEqProofs only [go_sem, Int.reduceEq, Int.reduceLT, Int.reduceLE, Nat.reduceAdd, Nat.reduceSub, Nat.reduceMul, Nat.reduceEqDiff, Nat.reduceLeDiff, Nat.reducePow, ↓reduceIte, reduceCtorEq])
theorem c_PackParcelsS (xs : List Pack) (w h : Int) (hl : xs.length ≤ 7) (hv : xs.all validPack = true) (hr : roomOk w h = true) : ACon Tryz.prog 29 [.d (.lst (xs.map encPack)), .d (.int .i64 w), .d (.int .i64 h)] [] (ORows encRect 4 (parcels xs ⟨0, 0, w, h⟩).1) := by
  have c1 := c_validPacks xs (by omega)
  rw [packsV hl hv] at c1
  have c2 := c_goodRoom w h
  rw [hr] at c2
  have c3 := c_parcelsS xs ⟨0, 0, w, h⟩ (room_in hr) (Nat.le_trans hl (by decide)) (all_packB hv)
  refine ACon.introW tok (nt := 27) Tryz.func29 rfl rfl rfl (by kernel_rfl) rfl ?_
  repeat' (first | ((with_reducible apply xsim); (first | ((with_reducible apply xo); exact rfl) | ((with_reducible apply xst); exact rfl) | with_reducible apply xend | ((with_reducible apply xguardTS); exact rfl; exact rfl) | ((with_reducible apply xguardS); exact rfl; exact rfl) | ((with_reducible apply xalloc); exact rfl; simp only [backV, backVs, backVs_mapd, backId, backO, List.map_cons, List.map_nil, List.getElem?_nil, List.length_cons, List.length_nil, Nat.reduceAdd, Nat.reduceSub, List.cons_append, List.nil_append, List.append_nil]) | ((with_reducible apply xcallIs); exact rfl; exact rfl; (first | exact c1 | exact c2); exact rfl) | ((with_reducible apply xcallOwn); exact rfl; exact rfl; exact c3; simp only [backV, backVs, backVs_mapd, backId, backO, List.map_cons, List.map_nil, List.getElem?_nil, List.length_cons, List.length_nil, Nat.reduceAdd, Nat.reduceSub, List.cons_append, List.nil_append, List.append_nil]) | simp -implicitDefEqProofs only [go_sem, Int.reduceEq, Int.reduceLT, Int.reduceLE, Nat.reduceAdd, Nat.reduceSub, Nat.reduceMul, Nat.reduceEqDiff, Nat.reduceLeDiff, Nat.reducePow, ↓reduceIte, reduceCtorEq])) | ((with_reducible apply xaw); (first | ((with_reducible apply xstepS); refine AW.step tok rfl ?_) | ((with_reducible apply xstep); refine AW.region tok rfl ?_) | with_reducible (first | refine AW.seq ?_ | refine AW.block ?_ | refine AW.skip ?_ | refine AW.ret ?_ | refine AW.exit ?_) | ((with_reducible apply xcond); exact rfl))) | with_reducible (first | refine xthen ?_ | refine xthen_r ?_ | refine xthen_e ?_ | refine xblock ?_ | refine xblock_r ?_ | refine xblock_e ?_ | refine xblock_n rfl ?_ | refine xround_r ?_ | refine xround_e ?_) | (with_reducible intro hc; (try simp only [decide_eq_true_eq, decide_eq_false_iff_not, Bool.not_true, Bool.not_false, Bool.not_eq_true', Bool.not_eq_false', ne_eq, not_true, reduceCtorEq] at hc); (try (exfalso; omega))) | with_reducible (first | exact trivial | refine And.intro ?_ ?_ | exact rfl | exact Nat.le_refl _) | exact Eq.refl true | exact (rfl : (_ : List Nat) = _) | exact Nat.le_of_ble_eq_true rfl | (refine inR_i64.mpr ?_; first | omega | (simp only [List.length_map]; omega)) | omega)
  all_goals (refine xfinOwn [0] (by first | exact .inl rfl | exact .inr rfl) rfl (by repeat' (first | exact trivial | exact rfl | refine And.intro ?_ ?_)) (by decide) rfl ?_ ?_ <;> simp -implicitDefEqProofs only [go_sem, Int.reduceEq, Int.reduceLT, Int.reduceLE, Nat.reduceAdd, Nat.reduceSub, Nat.reduceMul, Nat.reduceEqDiff, Nat.reduceLeDiff, Nat.reducePow, ↓reduceIte, reduceCtorEq])
theorem c_PackLeftS (xs : List Pack) (w h : Int) (hl : xs.length ≤ 7) (hv : xs.all validPack = true) (hr : roomOk w h = true) : ACon Tryz.prog 31 [.d (.lst (xs.map encPack)), .d (.int .i64 w), .d (.int .i64 h)] [] (Is (vRect (parcels xs ⟨0, 0, w, h⟩).2)) := by
  have c1 := c_validPacks xs (by omega)
  rw [packsV hl hv] at c1
  have c2 := c_goodRoom w h
  rw [hr] at c2
  have c3 := c_parcelsS xs ⟨0, 0, w, h⟩ (room_in hr) (Nat.le_trans hl (by decide)) (all_packB hv)
  refine ACon.introW tok (nt := 28) Tryz.func31 rfl rfl rfl (by kernel_rfl) rfl ?_
  repeat' (first | ((with_reducible apply xsim); (first | ((with_reducible apply xo); exact rfl) | ((with_reducible apply xst); exact rfl) | with_reducible apply xend | ((with_reducible apply xguardTS); exact rfl; exact rfl) | ((with_reducible apply xguardS); exact rfl; exact rfl) | ((with_reducible apply xalloc); exact rfl; simp only [backV, backVs, backVs_mapd, backId, backO, List.map_cons, List.map_nil, List.getElem?_nil, List.length_cons, List.length_nil, Nat.reduceAdd, Nat.reduceSub, List.cons_append, List.nil_append, List.append_nil]) | ((with_reducible apply xcallIs); exact rfl; exact rfl; (first | exact c1 | exact c2); exact rfl) | ((with_reducible apply xcallOwn); exact rfl; exact rfl; exact c3; simp only [backV, backVs, backVs_mapd, backId, backO, List.map_cons, List.map_nil, List.getElem?_nil, List.length_cons, List.length_nil, Nat.reduceAdd, Nat.reduceSub, List.cons_append, List.nil_append, List.append_nil]) | simp -implicitDefEqProofs only [go_sem, Int.reduceEq, Int.reduceLT, Int.reduceLE, Nat.reduceAdd, Nat.reduceSub, Nat.reduceMul, Nat.reduceEqDiff, Nat.reduceLeDiff, Nat.reducePow, ↓reduceIte, reduceCtorEq])) | ((with_reducible apply xaw); (first | ((with_reducible apply xstepS); refine AW.step tok rfl ?_) | ((with_reducible apply xstep); refine AW.region tok rfl ?_) | with_reducible (first | refine AW.seq ?_ | refine AW.block ?_ | refine AW.skip ?_ | refine AW.ret ?_ | refine AW.exit ?_) | ((with_reducible apply xcond); exact rfl))) | with_reducible (first | refine xthen ?_ | refine xthen_r ?_ | refine xthen_e ?_ | refine xblock ?_ | refine xblock_r ?_ | refine xblock_e ?_ | refine xblock_n rfl ?_ | refine xround_r ?_ | refine xround_e ?_) | (with_reducible intro hc; (try simp only [decide_eq_true_eq, decide_eq_false_iff_not, Bool.not_true, Bool.not_false, Bool.not_eq_true', Bool.not_eq_false', ne_eq, not_true, reduceCtorEq] at hc); (try (exfalso; omega))) | with_reducible (first | exact trivial | refine And.intro ?_ ?_ | exact rfl | exact Nat.le_refl _) | exact Eq.refl true | exact (rfl : (_ : List Nat) = _) | exact Nat.le_of_ble_eq_true rfl | (refine inR_i64.mpr ?_; first | omega | (simp only [List.length_map]; omega)) | omega)
  all_goals (refine xfinIs (by first | exact .inl rfl | exact .inr rfl) rfl (by repeat' (first | exact trivial | exact rfl | refine And.intro ?_ ?_)) rfl ?_ rfl; first | with_reducible exact rfl | (simp -implicitDefEqProofs only [go_sem, Int.reduceEq, Int.reduceLT, Int.reduceLE, Nat.reduceAdd, Nat.reduceSub, Nat.reduceMul, Nat.reduceEqDiff, Nat.reduceLeDiff, Nat.reducePow, ↓reduceIte, reduceCtorEq] <;> (first | rfl | omega | exact decide_eq_decide.2 (by omega) | exact decide_eq_false (by omega) | exact decide_eq_true (by omega) | (symm; first | exact decide_eq_false (by omega) | exact decide_eq_true (by omega)) | (rw [Bool.eq_iff_iff]; simp only [Bool.not_eq_true', Bool.not_eq_false', Bool.and_eq_true, Bool.or_eq_true, decide_eq_true_eq, decide_eq_false_iff_not, reduceCtorEq, true_iff, iff_true, false_iff, iff_false]; omega))))
theorem c_packFitsI (xs : List Pack) (w h : Int) (hl : xs.length ≤ 7) (hv : xs.all validPack = true) (hr : roomOk w h = true) : ACon Tryz.prog 43 [.d (.lst (xs.map encPack)), .d (.int .i64 w), .d (.int .i64 h)] [] (Is (.d (.bool (fits xs (packed xs ⟨0, 0, w, h⟩))))) := by
  have c1 := c_packsOk xs (by omega)
  rw [packsV hl hv] at c1
  have c2 := c_sizeOk w h
  rw [hr] at c2
  have h5 := roomOk_iff hr
  have hpl := (packed_in hl hv (room_in hr)).1
  have hcall := c_packRects xs w h (by omega) (by omega) (Nat.le_trans hl (by decide)) (all_packB hv)
  generalize hys : packed xs ⟨0, 0, w, h⟩ = ys at *
  refine ACon.introW tok (nt := 47) Tryz.func43 rfl rfl rfl (by kernel_rfl) rfl ?_
  repeat' (first | ((with_reducible apply xsim); (first | ((with_reducible apply xlenM); exact rfl; exact rfl) | ((with_reducible apply xo); exact rfl) | ((with_reducible apply xst); exact rfl) | with_reducible apply xend | ((with_reducible apply xguardTS); exact rfl; exact rfl) | ((with_reducible apply xguardS); exact rfl; exact rfl) | ((with_reducible apply xalloc); exact rfl; simp only [backV, backVs, backVs_mapd, backId, backO, List.map_cons, List.map_nil, List.getElem?_nil, List.length_cons, List.length_nil, Nat.reduceAdd, Nat.reduceSub, List.cons_append, List.nil_append, List.append_nil]) | ((with_reducible apply xidxL); exact rfl; exact rfl; exact rfl; exact rfl; omega; first | exact rfl | simp only [hsz]) | ((with_reducible apply xidxM); exact rfl; exact rfl; exact rfl; omega; omega; exact rfl) | ((with_reducible apply xldA); exact rfl; exact rfl; exact rfl; exact rfl; exact rfl) | ((with_reducible apply xstA); exact rfl; exact rfl; exact rfl; exact rfl; exact rfl; exact rfl; exact rfl; exact rfl; exact rfl; (try simp only [List.set_cons_zero, List.set_cons_succ])) | ((with_reducible apply xcallIs); exact rfl; exact rfl; (first | exact c1 | exact c2); exact rfl) | ((with_reducible apply xcallOwn); exact rfl; exact rfl; exact hcall; simp only [backV, backVs, backVs_mapd, backId, backO, List.map_cons, List.map_nil, List.getElem?_nil, List.length_cons, List.length_nil, Nat.reduceAdd, Nat.reduceSub, List.cons_append, List.nil_append, List.append_nil]) | simp -implicitDefEqProofs only [go_sem, Int.reduceEq, Int.reduceLT, Int.reduceLE, Nat.reduceAdd, Nat.reduceSub, Nat.reduceMul, Nat.reduceEqDiff, Nat.reduceLeDiff, Nat.reducePow, ↓reduceIte, reduceCtorEq])) | ((with_reducible apply xaw); (first | ((with_reducible apply xstepS); refine AW.step tok rfl ?_) | ((with_reducible apply xstep); refine AW.region tok rfl ?_) | with_reducible (first | refine AW.seq ?_ | refine AW.block ?_ | refine AW.skip ?_ | refine AW.ret ?_ | refine AW.exit ?_) | ((with_reducible apply xcond); exact rfl) | ((with_reducible apply xdrawS (id := 6)); refine AW.drawS (id := 6) (.q 0 (.q 1 (.q 2 (.q 3 (.q 4 (.q 5 (.q 6 (.q 7 (.q 8 (.q 9 (.q 10 (.q 11 (.q 12 (.q 13 (.q 14 (.q 15 (.q 16 (.q 17 (.fin))))))))))))))))))) tok (by kernel_rfl) rfl (by kernel_rfl) ?_) | ((with_reducible apply xdraw (id := 6)); refine AW.draw (id := 6) (.q 0 (.q 1 (.q 2 (.q 3 (.q 4 (.q 5 (.q 6 (.q 7 (.q 8 (.q 9 (.q 10 (.q 11 (.q 12 (.q 13 (.q 14 (.q 15 (.q 16 (.q 17 (.fin))))))))))))))))))) tok (by kernel_rfl) rfl (by kernel_rfl) ?_))) | ((with_reducible apply xarun); (first | ((with_reducible apply xrun_q); exact rfl; exact rfl; exact rfl) | ((with_reducible apply xrun_c); exact rfl; exact rfl; exact rfl; exact rfl; exact rfl; exact rfl; (first | exact c1 | exact c2); exact rfl) | ((with_reducible apply xrun_g); exact rfl; exact rfl; exact rfl; exact rfl; exact rfl; exact rfl) | ((with_reducible apply xrun_e); exact rfl) | with_reducible apply xrun_f)) | ((with_reducible apply xcallQ); exact rfl; exact rfl; (first | exact c1 | exact c2); exact rfl) | with_reducible (first | refine xthen ?_ | refine xthen_r ?_ | refine xthen_e ?_ | refine xblock ?_ | refine xblock_r ?_ | refine xblock_e ?_ | refine xblock_n rfl ?_ | refine xround_r ?_ | refine xround_e ?_) | (with_reducible intro hc; (try simp only [decide_eq_true_eq, decide_eq_false_iff_not, Bool.not_true, Bool.not_false, Bool.not_eq_true', Bool.not_eq_false', ne_eq, not_true, reduceCtorEq] at hc); (try (exfalso; omega))) | with_reducible (first | exact trivial | refine And.intro ?_ ?_ | exact rfl | exact Nat.le_refl _) | exact Eq.refl true | exact (rfl : (_ : List Nat) = _) | exact Nat.le_of_ble_eq_true rfl | (refine inR_i64.mpr ?_; first | omega | (simp only [List.length_map]; omega)) | omega)
  refine AW.loop (S := fun k : Nat => ⟨[(0, .d (.lst (xs.map encPack))), (21, .msl 0 4 0 xs.length), (22, .d (.int .i64 xs.length)), (23, .d (.int .i64 k))], [.arr 4 (ys.map encRect)], 47, 0⟩)
    (Pre := fun k => k ≤ xs.length ∧ ∀ j (h1 : j < xs.length) (h2 : j < ys.length), j < k → good xs[j] ys[j] = true) (μ := fun k => xs.length - k) 0 ⟨Nat.zero_le _, fun j _ _ h => absurd h (Nat.not_lt_zero _)⟩ ?_ ?_
  · (refine xwk (π := [0]) (by decide) rfl ?_ ?_; (first | exact trivial | simp -implicitDefEqProofs only [go_sem, Int.reduceEq, Int.reduceLT, Int.reduceLE, Nat.reduceAdd, Nat.reduceSub, Nat.reduceMul, Nat.reduceEqDiff, Nat.reduceLeDiff, Nat.reducePow, ↓reduceIte, reduceCtorEq, hpl]); repeat' (first | exact renE_n | ((with_reducible apply renE_c); exact rfl; focus (first | with_reducible exact rfl | (simp -implicitDefEqProofs only [go_sem, Int.reduceEq, Int.reduceLT, Int.reduceLE, Nat.reduceAdd, Nat.reduceSub, Nat.reduceMul, Nat.reduceEqDiff, Nat.reduceLeDiff, Nat.reducePow, ↓reduceIte, reduceCtorEq, hpl]; done) | (simp -implicitDefEqProofs only [go_sem, Int.reduceEq, Int.reduceLT, Int.reduceLE, Nat.reduceAdd, Nat.reduceSub, Nat.reduceMul, Nat.reduceEqDiff, Nat.reduceLeDiff, Nat.reducePow, ↓reduceIte, reduceCtorEq, hpl]; omega)))))
  · rintro k ⟨hk, hp⟩
    by_cases hlt : k < xs.length
    · have hrow := at_map (f := encPack) hlt
      have hrow2 := at_map (f := encRect) (xs := ys) (k := k) (by omega)
      cases hg : good xs[k] ys[k] with
      | false =>
        have hg2 := hg
        simp only [good, decide_eq_false_iff_not] at hg2
        have hff := fits_false hlt (by omega) hg
        repeat' (first | ((with_reducible apply xsim); (first | ((with_reducible apply xlenM); exact rfl; exact rfl) | ((with_reducible apply xo); exact rfl) | ((with_reducible apply xst); exact rfl) | with_reducible apply xend | ((with_reducible apply xguardTS); exact rfl; exact rfl) | ((with_reducible apply xguardS); exact rfl; exact rfl) | ((with_reducible apply xalloc); exact rfl; simp only [backV, backVs, backVs_mapd, backId, backO, List.map_cons, List.map_nil, List.getElem?_nil, List.length_cons, List.length_nil, Nat.reduceAdd, Nat.reduceSub, List.cons_append, List.nil_append, List.append_nil]) | ((with_reducible apply xidxL); exact rfl; exact rfl; exact rfl; (first | exact hrow | exact hrow2); omega; first | exact rfl | simp only [hsz]) | ((with_reducible apply xidxM); exact rfl; exact rfl; exact rfl; omega; omega; exact rfl) | ((with_reducible apply xldA); exact rfl; exact rfl; exact rfl; (first | exact hrow | exact hrow2); exact rfl) | ((with_reducible apply xstA); exact rfl; exact rfl; exact rfl; exact rfl; (first | exact hrow | exact hrow2); exact rfl; exact rfl; exact rfl; exact rfl; (try simp only [List.set_cons_zero, List.set_cons_succ])) | simp -implicitDefEqProofs only [go_sem, Int.reduceEq, Int.reduceLT, Int.reduceLE, Nat.reduceAdd, Nat.reduceSub, Nat.reduceMul, Nat.reduceEqDiff, Nat.reduceLeDiff, Nat.reducePow, ↓reduceIte, reduceCtorEq])) | ((with_reducible apply xaw); (first | ((with_reducible apply xstepS); refine AW.step tok rfl ?_) | ((with_reducible apply xstep); refine AW.region tok rfl ?_) | with_reducible (first | refine AW.seq ?_ | refine AW.block ?_ | refine AW.skip ?_ | refine AW.ret ?_ | refine AW.exit ?_) | ((with_reducible apply xcond); exact rfl) | ((with_reducible apply xdrawS (id := 6)); refine AW.drawS (id := 6) (.q 0 (.q 1 (.q 2 (.q 3 (.q 4 (.q 5 (.q 6 (.q 7 (.q 8 (.q 9 (.q 10 (.q 11 (.q 12 (.q 13 (.q 14 (.q 15 (.q 16 (.q 17 (.fin))))))))))))))))))) tok (by kernel_rfl) rfl (by kernel_rfl) ?_) | ((with_reducible apply xdraw (id := 6)); refine AW.draw (id := 6) (.q 0 (.q 1 (.q 2 (.q 3 (.q 4 (.q 5 (.q 6 (.q 7 (.q 8 (.q 9 (.q 10 (.q 11 (.q 12 (.q 13 (.q 14 (.q 15 (.q 16 (.q 17 (.fin))))))))))))))))))) tok (by kernel_rfl) rfl (by kernel_rfl) ?_))) | ((with_reducible apply xarun); (first | ((with_reducible apply xrun_q); exact rfl; exact rfl; exact rfl) | ((with_reducible apply xrun_e); exact rfl) | with_reducible apply xrun_f)) | with_reducible (first | refine xthen ?_ | refine xthen_r ?_ | refine xthen_e ?_ | refine xblock ?_ | refine xblock_r ?_ | refine xblock_e ?_ | refine xblock_n rfl ?_ | refine xround_r ?_ | refine xround_e ?_) | (with_reducible intro hc; (try simp only [decide_eq_true_eq, decide_eq_false_iff_not, Bool.not_true, Bool.not_false, Bool.not_eq_true', Bool.not_eq_false', ne_eq, not_true, reduceCtorEq] at hc); (try (exfalso; omega))) | with_reducible (first | exact trivial | refine And.intro ?_ ?_ | exact rfl | exact Nat.le_refl _) | exact Eq.refl true | exact (rfl : (_ : List Nat) = _) | exact Nat.le_of_ble_eq_true rfl | (refine inR_i64.mpr ?_; first | omega | (simp only [List.length_map]; omega)) | omega)
        all_goals (refine xfinIs (by first | exact .inl rfl | exact .inr rfl) rfl (by repeat' (first | exact trivial | exact rfl | refine And.intro ?_ ?_)) rfl ?_ rfl; first | with_reducible exact rfl | (simp -implicitDefEqProofs only [go_sem, Int.reduceEq, Int.reduceLT, Int.reduceLE, Nat.reduceAdd, Nat.reduceSub, Nat.reduceMul, Nat.reduceEqDiff, Nat.reduceLeDiff, Nat.reducePow, ↓reduceIte, reduceCtorEq, hff] <;> (first | rfl | omega | exact decide_eq_decide.2 (by omega) | exact decide_eq_false (by omega) | exact decide_eq_true (by omega) | (symm; first | exact decide_eq_false (by omega) | exact decide_eq_true (by omega)) | (rw [Bool.eq_iff_iff]; simp only [Bool.not_eq_true', Bool.not_eq_false', Bool.and_eq_true, Bool.or_eq_true, decide_eq_true_eq, decide_eq_false_iff_not, reduceCtorEq, true_iff, iff_true, false_iff, iff_false]; omega))))
      | true =>
        have hg2 := hg
        simp only [good, decide_eq_true_eq] at hg2
        repeat' (first | ((with_reducible apply xsim); (first | ((with_reducible apply xlenM); exact rfl; exact rfl) | ((with_reducible apply xo); exact rfl) | ((with_reducible apply xst); exact rfl) | with_reducible apply xend | ((with_reducible apply xguardTS); exact rfl; exact rfl) | ((with_reducible apply xguardS); exact rfl; exact rfl) | ((with_reducible apply xalloc); exact rfl; simp only [backV, backVs, backVs_mapd, backId, backO, List.map_cons, List.map_nil, List.getElem?_nil, List.length_cons, List.length_nil, Nat.reduceAdd, Nat.reduceSub, List.cons_append, List.nil_append, List.append_nil]) | ((with_reducible apply xidxL); exact rfl; exact rfl; exact rfl; (first | exact hrow | exact hrow2); omega; first | exact rfl | simp only [hsz]) | ((with_reducible apply xidxM); exact rfl; exact rfl; exact rfl; omega; omega; exact rfl) | ((with_reducible apply xldA); exact rfl; exact rfl; exact rfl; (first | exact hrow | exact hrow2); exact rfl) | ((with_reducible apply xstA); exact rfl; exact rfl; exact rfl; exact rfl; (first | exact hrow | exact hrow2); exact rfl; exact rfl; exact rfl; exact rfl; (try simp only [List.set_cons_zero, List.set_cons_succ])) | simp -implicitDefEqProofs only [go_sem, Int.reduceEq, Int.reduceLT, Int.reduceLE, Nat.reduceAdd, Nat.reduceSub, Nat.reduceMul, Nat.reduceEqDiff, Nat.reduceLeDiff, Nat.reducePow, ↓reduceIte, reduceCtorEq])) | ((with_reducible apply xaw); (first | ((with_reducible apply xstepS); refine AW.step tok rfl ?_) | ((with_reducible apply xstep); refine AW.region tok rfl ?_) | with_reducible (first | refine AW.seq ?_ | refine AW.block ?_ | refine AW.skip ?_ | refine AW.ret ?_ | refine AW.exit ?_) | ((with_reducible apply xcond); exact rfl) | ((with_reducible apply xdrawS (id := 6)); refine AW.drawS (id := 6) (.q 0 (.q 1 (.q 2 (.q 3 (.q 4 (.q 5 (.q 6 (.q 7 (.q 8 (.q 9 (.q 10 (.q 11 (.q 12 (.q 13 (.q 14 (.q 15 (.q 16 (.q 17 (.fin))))))))))))))))))) tok (by kernel_rfl) rfl (by kernel_rfl) ?_) | ((with_reducible apply xdraw (id := 6)); refine AW.draw (id := 6) (.q 0 (.q 1 (.q 2 (.q 3 (.q 4 (.q 5 (.q 6 (.q 7 (.q 8 (.q 9 (.q 10 (.q 11 (.q 12 (.q 13 (.q 14 (.q 15 (.q 16 (.q 17 (.fin))))))))))))))))))) tok (by kernel_rfl) rfl (by kernel_rfl) ?_))) | ((with_reducible apply xarun); (first | ((with_reducible apply xrun_q); exact rfl; exact rfl; exact rfl) | ((with_reducible apply xrun_e); exact rfl) | with_reducible apply xrun_f)) | with_reducible (first | refine xthen ?_ | refine xthen_r ?_ | refine xthen_e ?_ | refine xblock ?_ | refine xblock_r ?_ | refine xblock_e ?_ | refine xblock_n rfl ?_ | refine xround_r ?_ | refine xround_e ?_) | (with_reducible intro hc; (try simp only [decide_eq_true_eq, decide_eq_false_iff_not, Bool.not_true, Bool.not_false, Bool.not_eq_true', Bool.not_eq_false', ne_eq, not_true, reduceCtorEq] at hc); (try (exfalso; omega))) | with_reducible (first | exact trivial | refine And.intro ?_ ?_ | exact rfl | exact Nat.le_refl _) | exact Eq.refl true | exact (rfl : (_ : List Nat) = _) | exact Nat.le_of_ble_eq_true rfl | (refine inR_i64.mpr ?_; first | omega | (simp only [List.length_map]; omega)) | omega)
        all_goals
          refine round_end (k+1) ⟨by omega, ?_⟩ (by omega) (by (refine xwk (π := [0]) (by decide) rfl ?_ ?_; (first | exact trivial | simp -implicitDefEqProofs only [go_sem, Int.reduceEq, Int.reduceLT, Int.reduceLE, Nat.reduceAdd, Nat.reduceSub, Nat.reduceMul, Nat.reduceEqDiff, Nat.reduceLeDiff, Nat.reducePow, ↓reduceIte, reduceCtorEq]); repeat' (first | exact renE_n | ((with_reducible apply renE_c); exact rfl; focus (first | with_reducible exact rfl | (simp -implicitDefEqProofs only [go_sem, Int.reduceEq, Int.reduceLT, Int.reduceLE, Nat.reduceAdd, Nat.reduceSub, Nat.reduceMul, Nat.reduceEqDiff, Nat.reduceLeDiff, Nat.reducePow, ↓reduceIte, reduceCtorEq]; done) | (simp -implicitDefEqProofs only [go_sem, Int.reduceEq, Int.reduceLT, Int.reduceLE, Nat.reduceAdd, Nat.reduceSub, Nat.reduceMul, Nat.reduceEqDiff, Nat.reduceLeDiff, Nat.reducePow, ↓reduceIte, reduceCtorEq]; omega))))))
          intro j hj h2 h; by_cases h' : j = k
          · subst h'; exact hg
          · exact hp j hj h2 (by omega)
    · have hff := fits_true (xs := xs) (rs := ys) (by omega) fun j h1 h2 => hp j h1 h2 (by omega)
      repeat' (first | ((with_reducible apply xsim); (first | ((with_reducible apply xlenM); exact rfl; exact rfl) | ((with_reducible apply xo); exact rfl) | ((with_reducible apply xst); exact rfl) | with_reducible apply xend | ((with_reducible apply xguardTS); exact rfl; exact rfl) | ((with_reducible apply xguardS); exact rfl; exact rfl) | ((with_reducible apply xalloc); exact rfl; simp only [backV, backVs, backVs_mapd, backId, backO, List.map_cons, List.map_nil, List.getElem?_nil, List.length_cons, List.length_nil, Nat.reduceAdd, Nat.reduceSub, List.cons_append, List.nil_append, List.append_nil]) | ((with_reducible apply xidxL); exact rfl; exact rfl; exact rfl; exact rfl; omega; first | exact rfl | simp only [hsz]) | ((with_reducible apply xidxM); exact rfl; exact rfl; exact rfl; omega; omega; exact rfl) | ((with_reducible apply xldA); exact rfl; exact rfl; exact rfl; exact rfl; exact rfl) | ((with_reducible apply xstA); exact rfl; exact rfl; exact rfl; exact rfl; exact rfl; exact rfl; exact rfl; exact rfl; exact rfl; (try simp only [List.set_cons_zero, List.set_cons_succ])) | simp -implicitDefEqProofs only [go_sem, Int.reduceEq, Int.reduceLT, Int.reduceLE, Nat.reduceAdd, Nat.reduceSub, Nat.reduceMul, Nat.reduceEqDiff, Nat.reduceLeDiff, Nat.reducePow, ↓reduceIte, reduceCtorEq])) | ((with_reducible apply xaw); (first | ((with_reducible apply xstepS); refine AW.step tok rfl ?_) | ((with_reducible apply xstep); refine AW.region tok rfl ?_) | with_reducible (first | refine AW.seq ?_ | refine AW.block ?_ | refine AW.skip ?_ | refine AW.ret ?_ | refine AW.exit ?_) | ((with_reducible apply xcond); exact rfl) | ((with_reducible apply xdrawS (id := 6)); refine AW.drawS (id := 6) (.q 0 (.q 1 (.q 2 (.q 3 (.q 4 (.q 5 (.q 6 (.q 7 (.q 8 (.q 9 (.q 10 (.q 11 (.q 12 (.q 13 (.q 14 (.q 15 (.q 16 (.q 17 (.fin))))))))))))))))))) tok (by kernel_rfl) rfl (by kernel_rfl) ?_) | ((with_reducible apply xdraw (id := 6)); refine AW.draw (id := 6) (.q 0 (.q 1 (.q 2 (.q 3 (.q 4 (.q 5 (.q 6 (.q 7 (.q 8 (.q 9 (.q 10 (.q 11 (.q 12 (.q 13 (.q 14 (.q 15 (.q 16 (.q 17 (.fin))))))))))))))))))) tok (by kernel_rfl) rfl (by kernel_rfl) ?_))) | ((with_reducible apply xarun); (first | ((with_reducible apply xrun_q); exact rfl; exact rfl; exact rfl) | ((with_reducible apply xrun_e); exact rfl) | with_reducible apply xrun_f)) | with_reducible (first | refine xthen ?_ | refine xthen_r ?_ | refine xthen_e ?_ | refine xblock ?_ | refine xblock_r ?_ | refine xblock_e ?_ | refine xblock_n rfl ?_ | refine xround_r ?_ | refine xround_e ?_) | (with_reducible intro hc; (try simp only [decide_eq_true_eq, decide_eq_false_iff_not, Bool.not_true, Bool.not_false, Bool.not_eq_true', Bool.not_eq_false', ne_eq, not_true, reduceCtorEq] at hc); (try (exfalso; omega))) | with_reducible (first | exact trivial | refine And.intro ?_ ?_ | exact rfl | exact Nat.le_refl _) | exact Eq.refl true | exact (rfl : (_ : List Nat) = _) | exact Nat.le_of_ble_eq_true rfl | (refine inR_i64.mpr ?_; first | omega | (simp only [List.length_map]; omega)) | omega)
      (refine xfinIs (by first | exact .inl rfl | exact .inr rfl) rfl (by repeat' (first | exact trivial | exact rfl | refine And.intro ?_ ?_)) rfl ?_ rfl; first | with_reducible exact rfl | (simp -implicitDefEqProofs only [go_sem, Int.reduceEq, Int.reduceLT, Int.reduceLE, Nat.reduceAdd, Nat.reduceSub, Nat.reduceMul, Nat.reduceEqDiff, Nat.reduceLeDiff, Nat.reducePow, ↓reduceIte, reduceCtorEq, hff] <;> (first | rfl | omega | exact decide_eq_decide.2 (by omega) | exact decide_eq_false (by omega) | exact decide_eq_true (by omega) | (symm; first | exact decide_eq_false (by omega) | exact decide_eq_true (by omega)) | (rw [Bool.eq_iff_iff]; simp only [Bool.not_eq_true', Bool.not_eq_false', Bool.and_eq_true, Bool.or_eq_true, decide_eq_true_eq, decide_eq_false_iff_not, reduceCtorEq, true_iff, iff_true, false_iff, iff_false]; omega))))
theorem c_packFitsS (xs : List Pack) (w h : Int) (hl : xs.length ≤ 7) (hv : xs.all validPack = true) (hr : roomOk w h = true) : ACon Tryz.prog 32 [.d (.lst (xs.map encPack)), .d (.int .i64 w), .d (.int .i64 h)] [] (Is (.d (.bool (fits xs (packed xs ⟨0, 0, w, h⟩))))) := by
  have c1 := c_validPacks xs (by omega)
  rw [packsV hl hv] at c1
  have c2 := c_goodRoom w h
  rw [hr] at c2
  have h5 := roomOk_iff hr
  have hpl := (packed_in hl hv (room_in hr)).1
  have hcall := c_packed xs ⟨0, 0, w, h⟩ (room_in hr) (Nat.le_trans hl (by decide)) (all_packB hv)
  generalize hys : packed xs ⟨0, 0, w, h⟩ = ys at *
  refine ACon.introW tok (nt := 53) Tryz.func32 rfl rfl rfl (by kernel_rfl) rfl ?_
  repeat' (first | ((with_reducible apply xsim); (first | ((with_reducible apply xlenM); exact rfl; exact rfl) | ((with_reducible apply xo); exact rfl) | with_reducible apply xend | ((with_reducible apply xguardTS); exact rfl; exact rfl) | ((with_reducible apply xguardS); exact rfl; exact rfl) | ((with_reducible apply xidxL); exact rfl; exact rfl; exact rfl; exact rfl; omega; first | exact rfl | simp only [hsz]) | ((with_reducible apply xidxM); exact rfl; exact rfl; exact rfl; omega; omega; exact rfl) | ((with_reducible apply xldA); exact rfl; exact rfl; exact rfl; exact rfl; exact rfl) | ((with_reducible apply xcallIs); exact rfl; exact rfl; (first | exact c1 | exact c2); exact rfl) | ((with_reducible apply xcallOwn); exact rfl; exact rfl; exact hcall; simp only [backV, backVs, backVs_mapd, backId, backO, List.map_cons, List.map_nil, List.getElem?_nil, List.length_cons, List.length_nil, Nat.reduceAdd, Nat.reduceSub, List.cons_append, List.nil_append, List.append_nil]) | simp -implicitDefEqProofs only [go_sem, Int.reduceEq, Int.reduceLT, Int.reduceLE, Nat.reduceAdd, Nat.reduceSub, Nat.reduceMul, Nat.reduceEqDiff, Nat.reduceLeDiff, Nat.reducePow, ↓reduceIte, reduceCtorEq])) | ((with_reducible apply xaw); (first | ((with_reducible apply xstepS); refine AW.step tok rfl ?_) | ((with_reducible apply xstep); refine AW.region tok rfl ?_) | with_reducible (first | refine AW.seq ?_ | refine AW.block ?_ | refine AW.skip ?_ | refine AW.ret ?_ | refine AW.exit ?_) | ((with_reducible apply xcond); exact rfl) | ((with_reducible apply xdrawS (id := 7)); refine AW.drawS (id := 7) (.q 0 (.q 1 (.q 2 (.q 3 (.q 4 (.q 5 (.q 6 (.q 7 (.q 8 (.q 9 (.q 10 (.q 11 (.q 12 (.q 13 (.q 14 (.q 15 (.q 16 (.q 17 (.q 18 (.q 19 (.q 20 (.q 21 (.q 22 (.q 23 (.fin))))))))))))))))))))))))) tok (by kernel_rfl) rfl (by kernel_rfl) ?_) | ((with_reducible apply xdraw (id := 7)); refine AW.draw (id := 7) (.q 0 (.q 1 (.q 2 (.q 3 (.q 4 (.q 5 (.q 6 (.q 7 (.q 8 (.q 9 (.q 10 (.q 11 (.q 12 (.q 13 (.q 14 (.q 15 (.q 16 (.q 17 (.q 18 (.q 19 (.q 20 (.q 21 (.q 22 (.q 23 (.fin))))))))))))))))))))))))) tok (by kernel_rfl) rfl (by kernel_rfl) ?_))) | ((with_reducible apply xarun); (first | ((with_reducible apply xrun_q); exact rfl; exact rfl; exact rfl) | ((with_reducible apply xrun_c); exact rfl; exact rfl; exact rfl; exact rfl; exact rfl; exact rfl; (first | exact c1 | exact c2); exact rfl) | ((with_reducible apply xrun_g); exact rfl; exact rfl; exact rfl; exact rfl; exact rfl; exact rfl) | ((with_reducible apply xrun_e); exact rfl) | with_reducible apply xrun_f)) | ((with_reducible apply xcallQ); exact rfl; exact rfl; (first | exact c1 | exact c2); exact rfl) | with_reducible (first | refine xthen ?_ | refine xthen_r ?_ | refine xthen_e ?_ | refine xblock ?_ | refine xblock_r ?_ | refine xblock_e ?_ | refine xblock_n rfl ?_ | refine xround_r ?_ | refine xround_e ?_) | (with_reducible intro hc; (try simp only [decide_eq_true_eq, decide_eq_false_iff_not, Bool.not_true, Bool.not_false, Bool.not_eq_true', Bool.not_eq_false', ne_eq, not_true, reduceCtorEq] at hc); (try (exfalso; omega))) | with_reducible (first | exact trivial | refine And.intro ?_ ?_ | exact rfl | exact Nat.le_refl _) | exact Eq.refl true | exact (rfl : (_ : List Nat) = _) | exact Nat.le_of_ble_eq_true rfl | (refine inR_i64.mpr ?_; first | omega | (simp only [List.length_map]; omega)) | omega)
  refine AW.loop (S := fun k : Nat => ⟨[(0, .d (.lst (xs.map encPack))), (7, .msl 0 4 0 xs.length), (8, .d (.int .i64 k))], [.arr 4 (ys.map encRect)], 53, 0⟩)
    (Pre := fun k => k ≤ xs.length ∧ ∀ j (h1 : j < xs.length) (h2 : j < ys.length), j < k → good xs[j] ys[j] = true) (μ := fun k => xs.length - k) 0 ⟨Nat.zero_le _, fun j _ _ h => absurd h (Nat.not_lt_zero _)⟩ ?_ ?_
  · (refine xwk (π := [0]) (by decide) rfl ?_ ?_; (first | exact trivial | simp -implicitDefEqProofs only [go_sem, Int.reduceEq, Int.reduceLT, Int.reduceLE, Nat.reduceAdd, Nat.reduceSub, Nat.reduceMul, Nat.reduceEqDiff, Nat.reduceLeDiff, Nat.reducePow, ↓reduceIte, reduceCtorEq, hpl]); repeat' (first | exact renE_n | ((with_reducible apply renE_c); exact rfl; focus (first | with_reducible exact rfl | (simp -implicitDefEqProofs only [go_sem, Int.reduceEq, Int.reduceLT, Int.reduceLE, Nat.reduceAdd, Nat.reduceSub, Nat.reduceMul, Nat.reduceEqDiff, Nat.reduceLeDiff, Nat.reducePow, ↓reduceIte, reduceCtorEq, hpl]; done) | (simp -implicitDefEqProofs only [go_sem, Int.reduceEq, Int.reduceLT, Int.reduceLE, Nat.reduceAdd, Nat.reduceSub, Nat.reduceMul, Nat.reduceEqDiff, Nat.reduceLeDiff, Nat.reducePow, ↓reduceIte, reduceCtorEq, hpl]; omega)))))
  · rintro k ⟨hk, hp⟩
    by_cases hlt : k < xs.length
    · have hrow := at_map (f := encPack) hlt
      have hrow2 := at_map (f := encRect) (xs := ys) (k := k) (by omega)
      cases hg : good xs[k] ys[k] with
      | false =>
        have hg2 := hg
        simp only [good, decide_eq_false_iff_not] at hg2
        have hff := fits_false hlt (by omega) hg
        repeat' (first | ((with_reducible apply xsim); (first | ((with_reducible apply xlenM); exact rfl; exact rfl) | ((with_reducible apply xo); exact rfl) | with_reducible apply xend | ((with_reducible apply xguardTS); exact rfl; exact rfl) | ((with_reducible apply xguardS); exact rfl; exact rfl) | ((with_reducible apply xidxL); exact rfl; exact rfl; exact rfl; (first | exact hrow | exact hrow2); omega; first | exact rfl | simp only [hsz]) | ((with_reducible apply xidxM); exact rfl; exact rfl; exact rfl; omega; omega; exact rfl) | ((with_reducible apply xldA); exact rfl; exact rfl; exact rfl; (first | exact hrow | exact hrow2); exact rfl) | simp -implicitDefEqProofs only [go_sem, Int.reduceEq, Int.reduceLT, Int.reduceLE, Nat.reduceAdd, Nat.reduceSub, Nat.reduceMul, Nat.reduceEqDiff, Nat.reduceLeDiff, Nat.reducePow, ↓reduceIte, reduceCtorEq])) | ((with_reducible apply xaw); (first | ((with_reducible apply xstepS); refine AW.step tok rfl ?_) | ((with_reducible apply xstep); refine AW.region tok rfl ?_) | with_reducible (first | refine AW.seq ?_ | refine AW.block ?_ | refine AW.skip ?_ | refine AW.ret ?_ | refine AW.exit ?_) | ((with_reducible apply xcond); exact rfl) | ((with_reducible apply xdrawS (id := 7)); refine AW.drawS (id := 7) (.q 0 (.q 1 (.q 2 (.q 3 (.q 4 (.q 5 (.q 6 (.q 7 (.q 8 (.q 9 (.q 10 (.q 11 (.q 12 (.q 13 (.q 14 (.q 15 (.q 16 (.q 17 (.q 18 (.q 19 (.q 20 (.q 21 (.q 22 (.q 23 (.fin))))))))))))))))))))))))) tok (by kernel_rfl) rfl (by kernel_rfl) ?_) | ((with_reducible apply xdraw (id := 7)); refine AW.draw (id := 7) (.q 0 (.q 1 (.q 2 (.q 3 (.q 4 (.q 5 (.q 6 (.q 7 (.q 8 (.q 9 (.q 10 (.q 11 (.q 12 (.q 13 (.q 14 (.q 15 (.q 16 (.q 17 (.q 18 (.q 19 (.q 20 (.q 21 (.q 22 (.q 23 (.fin))))))))))))))))))))))))) tok (by kernel_rfl) rfl (by kernel_rfl) ?_))) | ((with_reducible apply xarun); (first | ((with_reducible apply xrun_q); exact rfl; exact rfl; exact rfl) | ((with_reducible apply xrun_e); exact rfl) | with_reducible apply xrun_f)) | with_reducible (first | refine xthen ?_ | refine xthen_r ?_ | refine xthen_e ?_ | refine xblock ?_ | refine xblock_r ?_ | refine xblock_e ?_ | refine xblock_n rfl ?_ | refine xround_r ?_ | refine xround_e ?_) | (with_reducible intro hc; (try simp only [decide_eq_true_eq, decide_eq_false_iff_not, Bool.not_true, Bool.not_false, Bool.not_eq_true', Bool.not_eq_false', ne_eq, not_true, reduceCtorEq] at hc); (try (exfalso; omega))) | with_reducible (first | exact trivial | refine And.intro ?_ ?_ | exact rfl | exact Nat.le_refl _) | exact Eq.refl true | exact (rfl : (_ : List Nat) = _) | exact Nat.le_of_ble_eq_true rfl | (refine inR_i64.mpr ?_; first | omega | (simp only [List.length_map]; omega)) | omega)
        all_goals (refine xfinIs (by first | exact .inl rfl | exact .inr rfl) rfl (by repeat' (first | exact trivial | exact rfl | refine And.intro ?_ ?_)) rfl ?_ rfl; first | with_reducible exact rfl | (simp -implicitDefEqProofs only [go_sem, Int.reduceEq, Int.reduceLT, Int.reduceLE, Nat.reduceAdd, Nat.reduceSub, Nat.reduceMul, Nat.reduceEqDiff, Nat.reduceLeDiff, Nat.reducePow, ↓reduceIte, reduceCtorEq, hff] <;> (first | rfl | omega | exact decide_eq_decide.2 (by omega) | exact decide_eq_false (by omega) | exact decide_eq_true (by omega) | (symm; first | exact decide_eq_false (by omega) | exact decide_eq_true (by omega)) | (rw [Bool.eq_iff_iff]; simp only [Bool.not_eq_true', Bool.not_eq_false', Bool.and_eq_true, Bool.or_eq_true, decide_eq_true_eq, decide_eq_false_iff_not, reduceCtorEq, true_iff, iff_true, false_iff, iff_false]; omega))))
      | true =>
        have hg2 := hg
        simp only [good, decide_eq_true_eq] at hg2
        repeat' (first | ((with_reducible apply xsim); (first | ((with_reducible apply xlenM); exact rfl; exact rfl) | ((with_reducible apply xo); exact rfl) | with_reducible apply xend | ((with_reducible apply xguardTS); exact rfl; exact rfl) | ((with_reducible apply xguardS); exact rfl; exact rfl) | ((with_reducible apply xidxL); exact rfl; exact rfl; exact rfl; (first | exact hrow | exact hrow2); omega; first | exact rfl | simp only [hsz]) | ((with_reducible apply xidxM); exact rfl; exact rfl; exact rfl; omega; omega; exact rfl) | ((with_reducible apply xldA); exact rfl; exact rfl; exact rfl; (first | exact hrow | exact hrow2); exact rfl) | simp -implicitDefEqProofs only [go_sem, Int.reduceEq, Int.reduceLT, Int.reduceLE, Nat.reduceAdd, Nat.reduceSub, Nat.reduceMul, Nat.reduceEqDiff, Nat.reduceLeDiff, Nat.reducePow, ↓reduceIte, reduceCtorEq])) | ((with_reducible apply xaw); (first | ((with_reducible apply xstepS); refine AW.step tok rfl ?_) | ((with_reducible apply xstep); refine AW.region tok rfl ?_) | with_reducible (first | refine AW.seq ?_ | refine AW.block ?_ | refine AW.skip ?_ | refine AW.ret ?_ | refine AW.exit ?_) | ((with_reducible apply xcond); exact rfl) | ((with_reducible apply xdrawS (id := 7)); refine AW.drawS (id := 7) (.q 0 (.q 1 (.q 2 (.q 3 (.q 4 (.q 5 (.q 6 (.q 7 (.q 8 (.q 9 (.q 10 (.q 11 (.q 12 (.q 13 (.q 14 (.q 15 (.q 16 (.q 17 (.q 18 (.q 19 (.q 20 (.q 21 (.q 22 (.q 23 (.fin))))))))))))))))))))))))) tok (by kernel_rfl) rfl (by kernel_rfl) ?_) | ((with_reducible apply xdraw (id := 7)); refine AW.draw (id := 7) (.q 0 (.q 1 (.q 2 (.q 3 (.q 4 (.q 5 (.q 6 (.q 7 (.q 8 (.q 9 (.q 10 (.q 11 (.q 12 (.q 13 (.q 14 (.q 15 (.q 16 (.q 17 (.q 18 (.q 19 (.q 20 (.q 21 (.q 22 (.q 23 (.fin))))))))))))))))))))))))) tok (by kernel_rfl) rfl (by kernel_rfl) ?_))) | ((with_reducible apply xarun); (first | ((with_reducible apply xrun_q); exact rfl; exact rfl; exact rfl) | ((with_reducible apply xrun_e); exact rfl) | with_reducible apply xrun_f)) | with_reducible (first | refine xthen ?_ | refine xthen_r ?_ | refine xthen_e ?_ | refine xblock ?_ | refine xblock_r ?_ | refine xblock_e ?_ | refine xblock_n rfl ?_ | refine xround_r ?_ | refine xround_e ?_) | (with_reducible intro hc; (try simp only [decide_eq_true_eq, decide_eq_false_iff_not, Bool.not_true, Bool.not_false, Bool.not_eq_true', Bool.not_eq_false', ne_eq, not_true, reduceCtorEq] at hc); (try (exfalso; omega))) | with_reducible (first | exact trivial | refine And.intro ?_ ?_ | exact rfl | exact Nat.le_refl _) | exact Eq.refl true | exact (rfl : (_ : List Nat) = _) | exact Nat.le_of_ble_eq_true rfl | (refine inR_i64.mpr ?_; first | omega | (simp only [List.length_map]; omega)) | omega)
        all_goals
          refine round_end (k+1) ⟨by omega, ?_⟩ (by omega) (by (refine xwk (π := [0]) (by decide) rfl ?_ ?_; (first | exact trivial | simp -implicitDefEqProofs only [go_sem, Int.reduceEq, Int.reduceLT, Int.reduceLE, Nat.reduceAdd, Nat.reduceSub, Nat.reduceMul, Nat.reduceEqDiff, Nat.reduceLeDiff, Nat.reducePow, ↓reduceIte, reduceCtorEq]); repeat' (first | exact renE_n | ((with_reducible apply renE_c); exact rfl; focus (first | with_reducible exact rfl | (simp -implicitDefEqProofs only [go_sem, Int.reduceEq, Int.reduceLT, Int.reduceLE, Nat.reduceAdd, Nat.reduceSub, Nat.reduceMul, Nat.reduceEqDiff, Nat.reduceLeDiff, Nat.reducePow, ↓reduceIte, reduceCtorEq]; done) | (simp -implicitDefEqProofs only [go_sem, Int.reduceEq, Int.reduceLT, Int.reduceLE, Nat.reduceAdd, Nat.reduceSub, Nat.reduceMul, Nat.reduceEqDiff, Nat.reduceLeDiff, Nat.reducePow, ↓reduceIte, reduceCtorEq]; omega))))))
          intro j hj h2 h; by_cases h' : j = k
          · subst h'; exact hg
          · exact hp j hj h2 (by omega)
    · have hff := fits_true (xs := xs) (rs := ys) (by omega) fun j h1 h2 => hp j h1 h2 (by omega)
      repeat' (first | ((with_reducible apply xsim); (first | ((with_reducible apply xlenM); exact rfl; exact rfl) | ((with_reducible apply xo); exact rfl) | with_reducible apply xend | ((with_reducible apply xguardTS); exact rfl; exact rfl) | ((with_reducible apply xguardS); exact rfl; exact rfl) | ((with_reducible apply xidxL); exact rfl; exact rfl; exact rfl; exact rfl; omega; first | exact rfl | simp only [hsz]) | ((with_reducible apply xidxM); exact rfl; exact rfl; exact rfl; omega; omega; exact rfl) | ((with_reducible apply xldA); exact rfl; exact rfl; exact rfl; exact rfl; exact rfl) | simp -implicitDefEqProofs only [go_sem, Int.reduceEq, Int.reduceLT, Int.reduceLE, Nat.reduceAdd, Nat.reduceSub, Nat.reduceMul, Nat.reduceEqDiff, Nat.reduceLeDiff, Nat.reducePow, ↓reduceIte, reduceCtorEq])) | ((with_reducible apply xaw); (first | ((with_reducible apply xstepS); refine AW.step tok rfl ?_) | ((with_reducible apply xstep); refine AW.region tok rfl ?_) | with_reducible (first | refine AW.seq ?_ | refine AW.block ?_ | refine AW.skip ?_ | refine AW.ret ?_ | refine AW.exit ?_) | ((with_reducible apply xcond); exact rfl) | ((with_reducible apply xdrawS (id := 7)); refine AW.drawS (id := 7) (.q 0 (.q 1 (.q 2 (.q 3 (.q 4 (.q 5 (.q 6 (.q 7 (.q 8 (.q 9 (.q 10 (.q 11 (.q 12 (.q 13 (.q 14 (.q 15 (.q 16 (.q 17 (.q 18 (.q 19 (.q 20 (.q 21 (.q 22 (.q 23 (.fin))))))))))))))))))))))))) tok (by kernel_rfl) rfl (by kernel_rfl) ?_) | ((with_reducible apply xdraw (id := 7)); refine AW.draw (id := 7) (.q 0 (.q 1 (.q 2 (.q 3 (.q 4 (.q 5 (.q 6 (.q 7 (.q 8 (.q 9 (.q 10 (.q 11 (.q 12 (.q 13 (.q 14 (.q 15 (.q 16 (.q 17 (.q 18 (.q 19 (.q 20 (.q 21 (.q 22 (.q 23 (.fin))))))))))))))))))))))))) tok (by kernel_rfl) rfl (by kernel_rfl) ?_))) | ((with_reducible apply xarun); (first | ((with_reducible apply xrun_q); exact rfl; exact rfl; exact rfl) | ((with_reducible apply xrun_e); exact rfl) | with_reducible apply xrun_f)) | with_reducible (first | refine xthen ?_ | refine xthen_r ?_ | refine xthen_e ?_ | refine xblock ?_ | refine xblock_r ?_ | refine xblock_e ?_ | refine xblock_n rfl ?_ | refine xround_r ?_ | refine xround_e ?_) | (with_reducible intro hc; (try simp only [decide_eq_true_eq, decide_eq_false_iff_not, Bool.not_true, Bool.not_false, Bool.not_eq_true', Bool.not_eq_false', ne_eq, not_true, reduceCtorEq] at hc); (try (exfalso; omega))) | with_reducible (first | exact trivial | refine And.intro ?_ ?_ | exact rfl | exact Nat.le_refl _) | exact Eq.refl true | exact (rfl : (_ : List Nat) = _) | exact Nat.le_of_ble_eq_true rfl | (refine inR_i64.mpr ?_; first | omega | (simp only [List.length_map]; omega)) | omega)
      (refine xfinIs (by first | exact .inl rfl | exact .inr rfl) rfl (by repeat' (first | exact trivial | exact rfl | refine And.intro ?_ ?_)) rfl ?_ rfl; first | with_reducible exact rfl | (simp -implicitDefEqProofs only [go_sem, Int.reduceEq, Int.reduceLT, Int.reduceLE, Nat.reduceAdd, Nat.reduceSub, Nat.reduceMul, Nat.reduceEqDiff, Nat.reduceLeDiff, Nat.reducePow, ↓reduceIte, reduceCtorEq, hff] <;> (first | rfl | omega | exact decide_eq_decide.2 (by omega) | exact decide_eq_false (by omega) | exact decide_eq_true (by omega) | (symm; first | exact decide_eq_false (by omega) | exact decide_eq_true (by omega)) | (rw [Bool.eq_iff_iff]; simp only [Bool.not_eq_true', Bool.not_eq_false', Bool.and_eq_true, Bool.or_eq_true, decide_eq_true_eq, decide_eq_false_iff_not, reduceCtorEq, true_iff, iff_true, false_iff, iff_false]; omega))))
def roomP (s : List UInt8) : Int × Int × Bool := match splitL 120 s with
  | [a, b] => (rnum a, rnum b, roomOk (rnum a) (rnum b))
  | _ => (0, 0, false)
end Go.Proofs.YtmjofbjglhdkjaaGreatDoor

namespace Go.Proofs.YtmjofbjglhdkjaaGreatDoor
open Go.Fw
attribute [local irreducible] Go.Fw.aops Go.Fw.arun

theorem roomP_two {s a b : List UInt8} (h : splitL 120 s = [a, b]) : roomP s = (rnum a, rnum b, roomOk (rnum a) (rnum b)) := by unfold roomP; rw [h]
theorem roomP_else {s : List UInt8} (h : (splitL 120 s).length ≠ 2) : roomP s = (0, 0, false) := by
  unfold roomP
  split
  · rename_i e; rw [e] at h; exact absurd rfl h
  · rfl
theorem roomP_ok {s : List UInt8} (h : (roomP s).2.2 = true) : roomOk (roomP s).1 (roomP s).2.1 = true := by
  unfold roomP at h ⊢
  split
  · rename_i e; rw [e] at h; exact h
  · rename_i e
    split at h
    · rename_i e2; exact absurd e2 (e _ _)
    · cases h
theorem cmdS_two {line word room : List UInt8} (h : splitL 32 line = [word, room]) : cmdS line = if (roomP room).2.2 = true then some (word, (roomP room).1, (roomP room).2.1) else none := by
  unfold cmdS roomP
  rw [h]
  simp only
  split <;> simp_all
theorem cmdS_else {line : List UInt8} (h : (splitL 32 line).length ≠ 2) : cmdS line = none := by
  unfold cmdS
  split
  · rename_i e; rw [e] at h; exact absurd rfl h
  · rfl
theorem len2 {α : Type} {l : List α} (h : l.length = 2) : ∃ a b, l = [a, b] := by
  match l, h with
  | [a, b], _ => exact ⟨a, b, rfl⟩
theorem c_roomOf (s : List UInt8) (hl : s.length ≤ 1073741824) : ACon Tryz.prog 26 [.d (.str s)] [] (Is (.tup [.d (.int .i64 (roomP s).1), .d (.int .i64 (roomP s).2.1), .d (.bool (roomP s).2.2)])) := by
  have c1 := c_splitAt 120 s (by omega)
  have hw : ∀ w ∈ splitL 120 s, w.length ≤ 1073741824 := fun w h => Nat.le_trans (splitL_len 120 s w h) hl
  have hn := splitL_count 120 s
  by_cases h2 : (splitL 120 s).length = 2
  · obtain ⟨a, b, e⟩ := len2 h2
    rw [roomP_two e]
    rw [e] at c1 hw
    have c2 := c_readNumber a (Nat.le_trans (hw a (by simp)) (by decide))
    have c3 := c_readNumber b (Nat.le_trans (hw b (by simp)) (by decide))
    refine ACon.introW tok (nt := 26) Tryz.func26 rfl rfl rfl (by kernel_rfl) rfl ?_
    repeat' (first | ((with_reducible apply xsim); (first | ((with_reducible apply xlenM); exact rfl; exact rfl) | ((with_reducible apply xo); exact rfl) | with_reducible apply xend | ((with_reducible apply xidxL); exact rfl; exact rfl; exact rfl; (first | exact (show ([a, b].map encStr)[0]? = some (encStr a) from rfl) | exact (show ([a, b].map encStr)[1]? = some (encStr b) from rfl)); omega; first | exact rfl | simp only [hsz]) | ((with_reducible apply xidxM); exact rfl; exact rfl; exact rfl; omega; omega; exact rfl) | ((with_reducible apply xldA); exact rfl; exact rfl; exact rfl; (first | exact (show ([a, b].map encStr)[0]? = some (encStr a) from rfl) | exact (show ([a, b].map encStr)[1]? = some (encStr b) from rfl)); exact rfl) | ((with_reducible apply xcallIs); exact rfl; exact rfl; (first | exact c1 | exact c2 | exact c3 | exact c_goodRoom (rnum a) (rnum b)); exact rfl) | simp -implicitDefEqProofs only [go_sem, Int.reduceEq, Int.reduceLT, Int.reduceLE, Nat.reduceAdd, Nat.reduceSub, Nat.reduceMul, Nat.reduceEqDiff, Nat.reduceLeDiff, Nat.reducePow, ↓reduceIte, reduceCtorEq, List.length_map, List.length_cons, List.length_nil])) | ((with_reducible apply xaw); (first | ((with_reducible apply xstepS); refine AW.step tok rfl ?_) | ((with_reducible apply xstep); refine AW.region tok rfl ?_) | with_reducible (first | refine AW.seq ?_ | refine AW.block ?_ | refine AW.skip ?_ | refine AW.ret ?_ | refine AW.exit ?_) | ((with_reducible apply xcond); exact rfl))) | with_reducible (first | refine xthen ?_ | refine xthen_r ?_ | refine xthen_e ?_ | refine xblock ?_ | refine xblock_r ?_ | refine xblock_e ?_ | refine xblock_n rfl ?_ | refine xround_r ?_ | refine xround_e ?_) | (with_reducible intro hc; (try simp only [decide_eq_true_eq, decide_eq_false_iff_not, Bool.not_true, Bool.not_false, Bool.not_eq_true', Bool.not_eq_false', ne_eq, not_true, reduceCtorEq, List.length_map, List.length_cons, List.length_nil] at hc); (try (exfalso; omega))) | with_reducible (first | exact trivial | refine And.intro ?_ ?_ | exact rfl | exact Nat.le_refl _) | exact Eq.refl true | exact (rfl : (_ : List Nat) = _) | exact Nat.le_of_ble_eq_true rfl | (refine inR_i64.mpr ?_; first | omega | (simp only [List.length_map, List.length_map, List.length_cons, List.length_nil]; omega)) | omega)
    all_goals (refine xfinIs (by first | exact .inl rfl | exact .inr rfl) rfl (by repeat' (first | exact trivial | exact rfl | refine And.intro ?_ ?_)) rfl ?_ rfl; first | with_reducible exact rfl | (simp -implicitDefEqProofs only [go_sem, Int.reduceEq, Int.reduceLT, Int.reduceLE, Nat.reduceAdd, Nat.reduceSub, Nat.reduceMul, Nat.reduceEqDiff, Nat.reduceLeDiff, Nat.reducePow, ↓reduceIte, reduceCtorEq] <;> (first | rfl | omega | exact decide_eq_decide.2 (by omega) | exact decide_eq_false (by omega) | exact decide_eq_true (by omega) | (symm; first | exact decide_eq_false (by omega) | exact decide_eq_true (by omega)) | (rw [Bool.eq_iff_iff]; simp only [Bool.not_eq_true', Bool.not_eq_false', Bool.and_eq_true, Bool.or_eq_true, decide_eq_true_eq, decide_eq_false_iff_not, reduceCtorEq, true_iff, iff_true, false_iff, iff_false]; omega))))
  · rw [roomP_else h2]
    generalize splitL 120 s = ls at *
    refine ACon.introW tok (nt := 26) Tryz.func26 rfl rfl rfl (by kernel_rfl) rfl ?_
    repeat' (first | ((with_reducible apply xsim); (first | ((with_reducible apply xlenM); exact rfl; exact rfl) | ((with_reducible apply xo); exact rfl) | with_reducible apply xend | ((with_reducible apply xidxL); exact rfl; exact rfl; exact rfl; exact rfl; omega; first | exact rfl | simp only [hsz]) | ((with_reducible apply xidxM); exact rfl; exact rfl; exact rfl; omega; omega; exact rfl) | ((with_reducible apply xldA); exact rfl; exact rfl; exact rfl; exact rfl; exact rfl) | ((with_reducible apply xcallIs); exact rfl; exact rfl; exact c1; exact rfl) | simp -implicitDefEqProofs only [go_sem, Int.reduceEq, Int.reduceLT, Int.reduceLE, Nat.reduceAdd, Nat.reduceSub, Nat.reduceMul, Nat.reduceEqDiff, Nat.reduceLeDiff, Nat.reducePow, ↓reduceIte, reduceCtorEq, List.length_map])) | ((with_reducible apply xaw); (first | ((with_reducible apply xstepS); refine AW.step tok rfl ?_) | ((with_reducible apply xstep); refine AW.region tok rfl ?_) | with_reducible (first | refine AW.seq ?_ | refine AW.block ?_ | refine AW.skip ?_ | refine AW.ret ?_ | refine AW.exit ?_) | ((with_reducible apply xcond); exact rfl))) | with_reducible (first | refine xthen ?_ | refine xthen_r ?_ | refine xthen_e ?_ | refine xblock ?_ | refine xblock_r ?_ | refine xblock_e ?_ | refine xblock_n rfl ?_ | refine xround_r ?_ | refine xround_e ?_) | (with_reducible intro hc; (try simp only [decide_eq_true_eq, decide_eq_false_iff_not, Bool.not_true, Bool.not_false, Bool.not_eq_true', Bool.not_eq_false', ne_eq, not_true, reduceCtorEq, List.length_map] at hc); (try (exfalso; omega))) | with_reducible (first | exact trivial | refine And.intro ?_ ?_ | exact rfl | exact Nat.le_refl _) | exact Eq.refl true | exact (rfl : (_ : List Nat) = _) | exact Nat.le_of_ble_eq_true rfl | (refine inR_i64.mpr ?_; first | omega | (simp only [List.length_map, List.length_map]; omega)) | omega)
    all_goals (refine xfinIs (by first | exact .inl rfl | exact .inr rfl) rfl (by repeat' (first | exact trivial | exact rfl | refine And.intro ?_ ?_)) rfl ?_ rfl; first | with_reducible exact rfl | (simp -implicitDefEqProofs only [go_sem, Int.reduceEq, Int.reduceLT, Int.reduceLE, Nat.reduceAdd, Nat.reduceSub, Nat.reduceMul, Nat.reduceEqDiff, Nat.reduceLeDiff, Nat.reducePow, ↓reduceIte, reduceCtorEq] <;> (first | rfl | omega | exact decide_eq_decide.2 (by omega) | exact decide_eq_false (by omega) | exact decide_eq_true (by omega) | (symm; first | exact decide_eq_false (by omega) | exact decide_eq_true (by omega)) | (rw [Bool.eq_iff_iff]; simp only [Bool.not_eq_true', Bool.not_eq_false', Bool.and_eq_true, Bool.or_eq_true, decide_eq_true_eq, decide_eq_false_iff_not, reduceCtorEq, true_iff, iff_true, false_iff, iff_false]; omega))))
theorem answerB_1 {xs : List Pack} {word : List UInt8} {w h : Int} (e : word = rectsT) : answerB xs word w h = rsText (packed xs ⟨0, 0, w, h⟩) := by unfold answerB; rw [if_pos e]
theorem answerB_2 {xs : List Pack} {word : List UInt8} {w h : Int} (e : word = parcelsT) : answerB xs word w h = rsText (parcels xs ⟨0, 0, w, h⟩).1 := by subst e; unfold answerB; rw [if_neg (by decide), if_pos rfl]
theorem answerB_3 {xs : List Pack} {word : List UInt8} {w h : Int} (e : word = leftT) : answerB xs word w h = rtext (parcels xs ⟨0, 0, w, h⟩).2 := by subst e; unfold answerB; rw [if_neg (by decide), if_neg (by decide), if_pos rfl]
theorem answerB_4 {xs : List Pack} {word : List UInt8} {w h : Int} (e : word = fitsT) : answerB xs word w h = if fits xs (packed xs ⟨0, 0, w, h⟩) = true then [121, 101, 115] else [110, 111] := by subst e; unfold answerB; rw [if_neg (by decide), if_neg (by decide), if_neg (by decide), if_pos rfl]
theorem answerB_5 {xs : List Pack} {word : List UInt8} {w h : Int} (e1 : ¬ word = rectsT) (e2 : ¬ word = parcelsT) (e3 : ¬ word = leftT) (e4 : ¬ word = fitsT) : answerB xs word w h = whatT := by unfold answerB; rw [if_neg e1, if_neg e2, if_neg e3, if_neg e4]
set_option maxHeartbeats 4000000 in
theorem c_answer (xs : List Pack) (hl : xs.length ≤ 7) (hv : xs.all validPack = true) (line : List UInt8) (hll : line.length ≤ 1073741824) : ACon Tryz.prog 13 [.d (.lst (xs.map encPack)), .d (.str line)] [] (Is (.d (.str (answerT xs line)))) := by
  have c1 := c_splitAt 32 line (by omega)
  have hw : ∀ w ∈ splitL 32 line, w.length ≤ 1073741824 := fun w h => Nat.le_trans (splitL_len 32 line w h) hll
  by_cases h0 : line = sizeT
  · have ea : answerT xs line = Lib.itoa (reqs xs).1 ++ [120] ++ Lib.itoa (reqs xs).2 := by unfold answerT; rw [if_pos h0]
    rw [ea]
    have hb := reqs_bd hv
    have l1 := itoa_len (n := (reqs xs).1) (by omega)
    have l2 := itoa_len (n := (reqs xs).2) (by omega)
    have c2 := c_reqS xs hl hv
    have c3 := c_number (reqs xs).1 (by omega)
    have c4 := c_number (reqs xs).2 (by omega)
    generalize splitL 32 line = ls at *
    subst h0
    unfold sizeT at *
    refine ACon.introW tok (nt := 86) Tryz.func13 rfl rfl rfl (by kernel_rfl) rfl ?_
    repeat' (first | ((with_reducible apply xsim); (first | ((with_reducible apply xlenM); exact rfl; exact rfl) | ((with_reducible apply xo); exact rfl) | with_reducible apply xend | ((with_reducible apply xguardTS); exact rfl; exact rfl) | ((with_reducible apply xguardS); exact rfl; exact rfl) | ((with_reducible apply xidxL); exact rfl; exact rfl; exact rfl; exact rfl; omega; first | exact rfl | simp only [hsz]) | ((with_reducible apply xidxM); exact rfl; exact rfl; exact rfl; omega; omega; exact rfl) | ((with_reducible apply xldA); exact rfl; exact rfl; exact rfl; exact rfl; exact rfl) | ((with_reducible apply xcallIs); exact rfl; exact rfl; (first | exact c1 | exact c2 | exact c3 | exact c4); exact rfl) | simp -implicitDefEqProofs only [go_sem, Int.reduceEq, Int.reduceLT, Int.reduceLE, Nat.reduceAdd, Nat.reduceSub, Nat.reduceMul, Nat.reduceEqDiff, Nat.reduceLeDiff, Nat.reducePow, ↓reduceIte, reduceCtorEq])) | ((with_reducible apply xaw); (first | ((with_reducible apply xstepS); refine AW.step tok rfl ?_) | ((with_reducible apply xstep); refine AW.region tok rfl ?_) | with_reducible (first | refine AW.seq ?_ | refine AW.block ?_ | refine AW.skip ?_ | refine AW.ret ?_ | refine AW.exit ?_) | ((with_reducible apply xcond); exact rfl))) | with_reducible (first | refine xthen ?_ | refine xthen_r ?_ | refine xthen_e ?_ | refine xblock ?_ | refine xblock_r ?_ | refine xblock_e ?_ | refine xblock_n rfl ?_ | refine xround_r ?_ | refine xround_e ?_) | (with_reducible intro hc; (try simp only [decide_eq_true_eq, decide_eq_false_iff_not, Bool.not_true, Bool.not_false, Bool.not_eq_true', Bool.not_eq_false', ne_eq, not_true, reduceCtorEq] at hc); (try (exfalso; omega))) | with_reducible (first | exact trivial | refine And.intro ?_ ?_ | exact rfl | exact Nat.le_refl _) | exact Eq.refl true | exact (rfl : (_ : List Nat) = _) | exact Nat.le_of_ble_eq_true rfl | (refine inR_i64.mpr ?_; first | omega | (simp only [List.length_map]; omega)) | omega | ((try simp only [List.length_append, List.length_cons, List.length_nil]); omega))
    all_goals (refine xfinIs (by first | exact .inl rfl | exact .inr rfl) rfl (by repeat' (first | exact trivial | exact rfl | refine And.intro ?_ ?_)) rfl ?_ rfl; first | with_reducible exact rfl | (simp -implicitDefEqProofs only [go_sem, Int.reduceEq, Int.reduceLT, Int.reduceLE, Nat.reduceAdd, Nat.reduceSub, Nat.reduceMul, Nat.reduceEqDiff, Nat.reduceLeDiff, Nat.reducePow, ↓reduceIte, reduceCtorEq] <;> (first | rfl | omega | exact decide_eq_decide.2 (by omega) | exact decide_eq_false (by omega) | exact decide_eq_true (by omega) | (symm; first | exact decide_eq_false (by omega) | exact decide_eq_true (by omega)) | (rw [Bool.eq_iff_iff]; simp only [Bool.not_eq_true', Bool.not_eq_false', Bool.and_eq_true, Bool.or_eq_true, decide_eq_true_eq, decide_eq_false_iff_not, reduceCtorEq, true_iff, iff_true, false_iff, iff_false]; omega))))
  · have ea : answerT xs line = match cmdS line with
        | none => whatT
        | some (word, w, h) => answerB xs word w h := by unfold answerT; exact if_neg h0
    unfold sizeT at h0
    by_cases h2 : (splitL 32 line).length = 2
    · obtain ⟨word, room, e⟩ := len2 h2
      rw [cmdS_two e] at ea
      rw [e] at c1 hw
      have c2 := c_roomOf room (hw room (by simp))
      have hok := roomP_ok (s := room)
      generalize roomP room = r at *
      obtain ⟨w, h, ok⟩ := r
      simp only at ea c2 hok
      have r0 : ([word, room].map encStr)[0]? = some (encStr word) := rfl
      have r1 : ([word, room].map encStr)[1]? = some (encStr room) := rfl
      cases ok
      · rw [if_neg (by simp)] at ea
        rw [ea]
        refine ACon.introW tok (nt := 86) Tryz.func13 rfl rfl rfl (by kernel_rfl) rfl ?_
        repeat' (first | ((with_reducible apply xsim); (first | ((with_reducible apply xlenM); exact rfl; exact rfl) | ((with_reducible apply xo); exact rfl) | with_reducible apply xend | ((with_reducible apply xguardTS); exact rfl; exact rfl) | ((with_reducible apply xguardS); exact rfl; exact rfl) | ((with_reducible apply xidxL); exact rfl; exact rfl; exact rfl; (first | exact r0 | exact r1); omega; first | exact rfl | simp only [hsz]) | ((with_reducible apply xidxM); exact rfl; exact rfl; exact rfl; omega; omega; exact rfl) | ((with_reducible apply xldA); exact rfl; exact rfl; exact rfl; (first | exact r0 | exact r1); exact rfl) | ((with_reducible apply xcallIs); exact rfl; exact rfl; (first | exact c1 | exact c2); exact rfl) | simp -implicitDefEqProofs only [go_sem, Int.reduceEq, Int.reduceLT, Int.reduceLE, Nat.reduceAdd, Nat.reduceSub, Nat.reduceMul, Nat.reduceEqDiff, Nat.reduceLeDiff, Nat.reducePow, ↓reduceIte, reduceCtorEq, h0, List.length_map, List.length_cons, List.length_nil, Bool.not_false])) | ((with_reducible apply xaw); (first | ((with_reducible apply xstepS); refine AW.step tok rfl ?_) | ((with_reducible apply xstep); refine AW.region tok rfl ?_) | with_reducible (first | refine AW.seq ?_ | refine AW.block ?_ | refine AW.skip ?_ | refine AW.ret ?_ | refine AW.exit ?_) | ((with_reducible apply xcond); exact rfl))) | with_reducible (first | refine xthen ?_ | refine xthen_r ?_ | refine xthen_e ?_ | refine xblock ?_ | refine xblock_r ?_ | refine xblock_e ?_ | refine xblock_n rfl ?_ | refine xround_r ?_ | refine xround_e ?_) | (with_reducible intro hc; (try simp only [decide_eq_true_eq, decide_eq_false_iff_not, Bool.not_true, Bool.not_false, Bool.not_eq_true', Bool.not_eq_false', ne_eq, not_true, reduceCtorEq, h0, List.length_map, List.length_cons, List.length_nil, Bool.not_false] at hc); (try (exfalso; omega))) | with_reducible (first | exact trivial | refine And.intro ?_ ?_ | exact rfl | exact Nat.le_refl _) | exact Eq.refl true | exact (rfl : (_ : List Nat) = _) | exact Nat.le_of_ble_eq_true rfl | (refine inR_i64.mpr ?_; first | omega | (simp only [List.length_map, h0, List.length_map, List.length_cons, List.length_nil, Bool.not_false]; omega)) | omega)
        all_goals (refine xfinIs (by first | exact .inl rfl | exact .inr rfl) rfl (by repeat' (first | exact trivial | exact rfl | refine And.intro ?_ ?_)) rfl ?_ rfl; first | with_reducible exact rfl | (simp -implicitDefEqProofs only [go_sem, Int.reduceEq, Int.reduceLT, Int.reduceLE, Nat.reduceAdd, Nat.reduceSub, Nat.reduceMul, Nat.reduceEqDiff, Nat.reduceLeDiff, Nat.reducePow, ↓reduceIte, reduceCtorEq, whatT] <;> (first | rfl | omega | exact decide_eq_decide.2 (by omega) | exact decide_eq_false (by omega) | exact decide_eq_true (by omega) | (symm; first | exact decide_eq_false (by omega) | exact decide_eq_true (by omega)) | (rw [Bool.eq_iff_iff]; simp only [Bool.not_eq_true', Bool.not_eq_false', Bool.and_eq_true, Bool.or_eq_true, decide_eq_true_eq, decide_eq_false_iff_not, reduceCtorEq, true_iff, iff_true, false_iff, iff_false]; omega))))
      · have hr := hok rfl
        rw [if_pos rfl] at ea
        simp only at ea
        have p1 := packed_in hl hv (room_in hr)
        have p2 := parcels_inv (Nat.le_trans hl (by decide)) (all_packB hv) (room_in hr)
        have k1 := c_PackRectsS xs w h hl hv hr
        have k2 := c_PackParcelsS xs w h hl hv hr
        have k3 := c_PackLeftS xs w h hl hv hr
        have k4 := c_packFitsS xs w h hl hv hr
        have k5 := c_rectsTextS (packed xs ⟨0, 0, w, h⟩) (fun q hq => (p1.2 q hq).sm) (by omega)
        have k6 := c_rectsTextS (parcels xs ⟨0, 0, w, h⟩).1 (fun q hq => (p2.2.2 q hq).sm) (by omega)
        have k7 := c_rectText (parcels xs ⟨0, 0, w, h⟩).2 p2.2.1.sm
        rw [ea]
        have b1 := answerB_1 (xs := xs) (word := word) (w := w) (h := h)
        have b2 := answerB_2 (xs := xs) (word := word) (w := w) (h := h)
        have b3 := answerB_3 (xs := xs) (word := word) (w := w) (h := h)
        have b4 := answerB_4 (xs := xs) (word := word) (w := w) (h := h)
        have b5 := answerB_5 (xs := xs) (word := word) (w := w) (h := h)
        generalize answerB xs word w h = A at *
        generalize packed xs ⟨0, 0, w, h⟩ = pk at *
        generalize parcels xs ⟨0, 0, w, h⟩ = pc at *
        generalize fits xs pk = ft at *
        refine ACon.introW tok (nt := 86) Tryz.func13 rfl rfl rfl (by kernel_rfl) rfl ?_
        repeat' (first | ((with_reducible apply xsim); (first | ((with_reducible apply xlenM); exact rfl; exact rfl) | ((with_reducible apply xo); exact rfl) | with_reducible apply xend | ((with_reducible apply xguardTS); exact rfl; exact rfl) | ((with_reducible apply xguardS); exact rfl; exact rfl) | ((with_reducible apply xidxL); exact rfl; exact rfl; exact rfl; (first | exact r0 | exact r1); omega; first | exact rfl | simp only [hsz]) | ((with_reducible apply xidxM); exact rfl; exact rfl; exact rfl; omega; omega; exact rfl) | ((with_reducible apply xldA); exact rfl; exact rfl; exact rfl; (first | exact r0 | exact r1); exact rfl) | ((with_reducible apply xcallIs); exact rfl; exact rfl; (first | exact c1 | exact c2 | exact k3 | exact k4 | exact k7); exact rfl) | ((with_reducible apply xcallLend [0]); exact rfl; exact k5; (focus (first | exact rfl | (simp -implicitDefEqProofs only [go_sem, ↓reduceIte, Nat.reduceEqDiff, h0, List.length_map, List.length_cons, List.length_nil, Bool.not_true]; done))); exact rfl; exact rfl) | ((with_reducible apply xcallLend [0]); exact rfl; exact k6; (focus (first | exact rfl | (simp -implicitDefEqProofs only [go_sem, ↓reduceIte, Nat.reduceEqDiff, h0, List.length_map, List.length_cons, List.length_nil, Bool.not_true]; done))); exact rfl; exact rfl) | ((with_reducible apply xcallOwn); exact rfl; exact rfl; exact k1; simp only [backV, backVs, backVs_mapd, backId, backO, List.map_cons, List.map_nil, List.getElem?_nil, List.length_cons, List.length_nil, Nat.reduceAdd, Nat.reduceSub, List.cons_append, List.nil_append, List.append_nil]) | ((with_reducible apply xcallOwn); exact rfl; exact rfl; exact k2; simp only [backV, backVs, backVs_mapd, backId, backO, List.map_cons, List.map_nil, List.getElem?_nil, List.length_cons, List.length_nil, Nat.reduceAdd, Nat.reduceSub, List.cons_append, List.nil_append, List.append_nil]) | simp -implicitDefEqProofs only [go_sem, Int.reduceEq, Int.reduceLT, Int.reduceLE, Nat.reduceAdd, Nat.reduceSub, Nat.reduceMul, Nat.reduceEqDiff, Nat.reduceLeDiff, Nat.reducePow, ↓reduceIte, reduceCtorEq, h0, List.length_map, List.length_cons, List.length_nil, Bool.not_true])) | ((with_reducible apply xaw); (first | ((with_reducible apply xstepS); refine AW.step tok rfl ?_) | ((with_reducible apply xstep); refine AW.region tok rfl ?_) | with_reducible (first | refine AW.seq ?_ | refine AW.block ?_ | refine AW.skip ?_ | refine AW.ret ?_ | refine AW.exit ?_) | ((with_reducible apply xcond); exact rfl))) | with_reducible (first | refine xthen ?_ | refine xthen_r ?_ | refine xthen_e ?_ | refine xblock ?_ | refine xblock_r ?_ | refine xblock_e ?_ | refine xblock_n rfl ?_ | refine xround_r ?_ | refine xround_e ?_) | (with_reducible intro hc; (try simp only [decide_eq_true_eq, decide_eq_false_iff_not, Bool.not_true, Bool.not_false, Bool.not_eq_true', Bool.not_eq_false', ne_eq, not_true, reduceCtorEq, h0, List.length_map, List.length_cons, List.length_nil, Bool.not_true] at hc); (try (exfalso; omega))) | with_reducible (first | exact trivial | refine And.intro ?_ ?_ | exact rfl | exact Nat.le_refl _) | exact Eq.refl true | exact (rfl : (_ : List Nat) = _) | exact Nat.le_of_ble_eq_true rfl | (refine inR_i64.mpr ?_; first | omega | (simp only [List.length_map, h0, List.length_map, List.length_cons, List.length_nil, Bool.not_true]; omega)) | omega)
        · rw [b1 (show word = rectsT by assumption)]
          (refine xfinIs (by first | exact .inl rfl | exact .inr rfl) rfl (by repeat' (first | exact trivial | exact rfl | refine And.intro ?_ ?_)) rfl ?_ rfl; first | with_reducible exact rfl | (simp -implicitDefEqProofs only [go_sem, Int.reduceEq, Int.reduceLT, Int.reduceLE, Nat.reduceAdd, Nat.reduceSub, Nat.reduceMul, Nat.reduceEqDiff, Nat.reduceLeDiff, Nat.reducePow, ↓reduceIte, reduceCtorEq] <;> (first | rfl | omega | exact decide_eq_decide.2 (by omega) | exact decide_eq_false (by omega) | exact decide_eq_true (by omega) | (symm; first | exact decide_eq_false (by omega) | exact decide_eq_true (by omega)) | (rw [Bool.eq_iff_iff]; simp only [Bool.not_eq_true', Bool.not_eq_false', Bool.and_eq_true, Bool.or_eq_true, decide_eq_true_eq, decide_eq_false_iff_not, reduceCtorEq, true_iff, iff_true, false_iff, iff_false]; omega))))
        · rw [b2 (show word = parcelsT by assumption)]
          (refine xfinIs (by first | exact .inl rfl | exact .inr rfl) rfl (by repeat' (first | exact trivial | exact rfl | refine And.intro ?_ ?_)) rfl ?_ rfl; first | with_reducible exact rfl | (simp -implicitDefEqProofs only [go_sem, Int.reduceEq, Int.reduceLT, Int.reduceLE, Nat.reduceAdd, Nat.reduceSub, Nat.reduceMul, Nat.reduceEqDiff, Nat.reduceLeDiff, Nat.reducePow, ↓reduceIte, reduceCtorEq] <;> (first | rfl | omega | exact decide_eq_decide.2 (by omega) | exact decide_eq_false (by omega) | exact decide_eq_true (by omega) | (symm; first | exact decide_eq_false (by omega) | exact decide_eq_true (by omega)) | (rw [Bool.eq_iff_iff]; simp only [Bool.not_eq_true', Bool.not_eq_false', Bool.and_eq_true, Bool.or_eq_true, decide_eq_true_eq, decide_eq_false_iff_not, reduceCtorEq, true_iff, iff_true, false_iff, iff_false]; omega))))
        · rw [b3 (show word = leftT by assumption)]
          (refine xfinIs (by first | exact .inl rfl | exact .inr rfl) rfl (by repeat' (first | exact trivial | exact rfl | refine And.intro ?_ ?_)) rfl ?_ rfl; first | with_reducible exact rfl | (simp -implicitDefEqProofs only [go_sem, Int.reduceEq, Int.reduceLT, Int.reduceLE, Nat.reduceAdd, Nat.reduceSub, Nat.reduceMul, Nat.reduceEqDiff, Nat.reduceLeDiff, Nat.reducePow, ↓reduceIte, reduceCtorEq] <;> (first | rfl | omega | exact decide_eq_decide.2 (by omega) | exact decide_eq_false (by omega) | exact decide_eq_true (by omega) | (symm; first | exact decide_eq_false (by omega) | exact decide_eq_true (by omega)) | (rw [Bool.eq_iff_iff]; simp only [Bool.not_eq_true', Bool.not_eq_false', Bool.and_eq_true, Bool.or_eq_true, decide_eq_true_eq, decide_eq_false_iff_not, reduceCtorEq, true_iff, iff_true, false_iff, iff_false]; omega))))
        · rw [b4 (show word = fitsT by assumption), if_pos (show ft = true by assumption)]
          (refine xfinIs (by first | exact .inl rfl | exact .inr rfl) rfl (by repeat' (first | exact trivial | exact rfl | refine And.intro ?_ ?_)) rfl ?_ rfl; first | with_reducible exact rfl | (simp -implicitDefEqProofs only [go_sem, Int.reduceEq, Int.reduceLT, Int.reduceLE, Nat.reduceAdd, Nat.reduceSub, Nat.reduceMul, Nat.reduceEqDiff, Nat.reduceLeDiff, Nat.reducePow, ↓reduceIte, reduceCtorEq] <;> (first | rfl | omega | exact decide_eq_decide.2 (by omega) | exact decide_eq_false (by omega) | exact decide_eq_true (by omega) | (symm; first | exact decide_eq_false (by omega) | exact decide_eq_true (by omega)) | (rw [Bool.eq_iff_iff]; simp only [Bool.not_eq_true', Bool.not_eq_false', Bool.and_eq_true, Bool.or_eq_true, decide_eq_true_eq, decide_eq_false_iff_not, reduceCtorEq, true_iff, iff_true, false_iff, iff_false]; omega))))
        · rw [b4 (show word = fitsT by assumption), if_neg (by rw [show ft = false by assumption]; simp)]
          (refine xfinIs (by first | exact .inl rfl | exact .inr rfl) rfl (by repeat' (first | exact trivial | exact rfl | refine And.intro ?_ ?_)) rfl ?_ rfl; first | with_reducible exact rfl | (simp -implicitDefEqProofs only [go_sem, Int.reduceEq, Int.reduceLT, Int.reduceLE, Nat.reduceAdd, Nat.reduceSub, Nat.reduceMul, Nat.reduceEqDiff, Nat.reduceLeDiff, Nat.reducePow, ↓reduceIte, reduceCtorEq] <;> (first | rfl | omega | exact decide_eq_decide.2 (by omega) | exact decide_eq_false (by omega) | exact decide_eq_true (by omega) | (symm; first | exact decide_eq_false (by omega) | exact decide_eq_true (by omega)) | (rw [Bool.eq_iff_iff]; simp only [Bool.not_eq_true', Bool.not_eq_false', Bool.and_eq_true, Bool.or_eq_true, decide_eq_true_eq, decide_eq_false_iff_not, reduceCtorEq, true_iff, iff_true, false_iff, iff_false]; omega))))
        · exact absurd (show word = fitsT by assumption) (show ¬ word = fitsT by assumption)
        · exact absurd (show word = fitsT by assumption) (show ¬ word = fitsT by assumption)
        · rw [b5 (show ¬ word = rectsT by assumption) (show ¬ word = parcelsT by assumption) (show ¬ word = leftT by assumption) (show ¬ word = fitsT by assumption)]
          (refine xfinIs (by first | exact .inl rfl | exact .inr rfl) rfl (by repeat' (first | exact trivial | exact rfl | refine And.intro ?_ ?_)) rfl ?_ rfl; first | with_reducible exact rfl | (simp -implicitDefEqProofs only [go_sem, Int.reduceEq, Int.reduceLT, Int.reduceLE, Nat.reduceAdd, Nat.reduceSub, Nat.reduceMul, Nat.reduceEqDiff, Nat.reduceLeDiff, Nat.reducePow, ↓reduceIte, reduceCtorEq, whatT] <;> (first | rfl | omega | exact decide_eq_decide.2 (by omega) | exact decide_eq_false (by omega) | exact decide_eq_true (by omega) | (symm; first | exact decide_eq_false (by omega) | exact decide_eq_true (by omega)) | (rw [Bool.eq_iff_iff]; simp only [Bool.not_eq_true', Bool.not_eq_false', Bool.and_eq_true, Bool.or_eq_true, decide_eq_true_eq, decide_eq_false_iff_not, reduceCtorEq, true_iff, iff_true, false_iff, iff_false]; omega))))
    · rw [cmdS_else h2] at ea
      rw [ea]
      generalize splitL 32 line = ls at *
      refine ACon.introW tok (nt := 86) Tryz.func13 rfl rfl rfl (by kernel_rfl) rfl ?_
      repeat' (first | ((with_reducible apply xsim); (first | ((with_reducible apply xlenM); exact rfl; exact rfl) | ((with_reducible apply xo); exact rfl) | with_reducible apply xend | ((with_reducible apply xguardTS); exact rfl; exact rfl) | ((with_reducible apply xguardS); exact rfl; exact rfl) | ((with_reducible apply xidxL); exact rfl; exact rfl; exact rfl; exact rfl; omega; first | exact rfl | simp only [hsz]) | ((with_reducible apply xidxM); exact rfl; exact rfl; exact rfl; omega; omega; exact rfl) | ((with_reducible apply xldA); exact rfl; exact rfl; exact rfl; exact rfl; exact rfl) | ((with_reducible apply xcallIs); exact rfl; exact rfl; exact c1; exact rfl) | simp -implicitDefEqProofs only [go_sem, Int.reduceEq, Int.reduceLT, Int.reduceLE, Nat.reduceAdd, Nat.reduceSub, Nat.reduceMul, Nat.reduceEqDiff, Nat.reduceLeDiff, Nat.reducePow, ↓reduceIte, reduceCtorEq, h0, List.length_map])) | ((with_reducible apply xaw); (first | ((with_reducible apply xstepS); refine AW.step tok rfl ?_) | ((with_reducible apply xstep); refine AW.region tok rfl ?_) | with_reducible (first | refine AW.seq ?_ | refine AW.block ?_ | refine AW.skip ?_ | refine AW.ret ?_ | refine AW.exit ?_) | ((with_reducible apply xcond); exact rfl))) | with_reducible (first | refine xthen ?_ | refine xthen_r ?_ | refine xthen_e ?_ | refine xblock ?_ | refine xblock_r ?_ | refine xblock_e ?_ | refine xblock_n rfl ?_ | refine xround_r ?_ | refine xround_e ?_) | (with_reducible intro hc; (try simp only [decide_eq_true_eq, decide_eq_false_iff_not, Bool.not_true, Bool.not_false, Bool.not_eq_true', Bool.not_eq_false', ne_eq, not_true, reduceCtorEq, h0, List.length_map] at hc); (try (exfalso; omega))) | with_reducible (first | exact trivial | refine And.intro ?_ ?_ | exact rfl | exact Nat.le_refl _) | exact Eq.refl true | exact (rfl : (_ : List Nat) = _) | exact Nat.le_of_ble_eq_true rfl | (refine inR_i64.mpr ?_; first | omega | (simp only [List.length_map, h0, List.length_map]; omega)) | omega)
      all_goals (refine xfinIs (by first | exact .inl rfl | exact .inr rfl) rfl (by repeat' (first | exact trivial | exact rfl | refine And.intro ?_ ?_)) rfl ?_ rfl; first | with_reducible exact rfl | (simp -implicitDefEqProofs only [go_sem, Int.reduceEq, Int.reduceLT, Int.reduceLE, Nat.reduceAdd, Nat.reduceSub, Nat.reduceMul, Nat.reduceEqDiff, Nat.reduceLeDiff, Nat.reducePow, ↓reduceIte, reduceCtorEq, whatT] <;> (first | rfl | omega | exact decide_eq_decide.2 (by omega) | exact decide_eq_false (by omega) | exact decide_eq_true (by omega) | (symm; first | exact decide_eq_false (by omega) | exact decide_eq_true (by omega)) | (rw [Bool.eq_iff_iff]; simp only [Bool.not_eq_true', Bool.not_eq_false', Bool.and_eq_true, Bool.or_eq_true, decide_eq_true_eq, decide_eq_false_iff_not, reduceCtorEq, true_iff, iff_true, false_iff, iff_false]; omega))))
end Go.Proofs.YtmjofbjglhdkjaaGreatDoor

namespace Go.Proofs.YtmjofbjglhdkjaaGreatDoor
open Go.Fw
attribute [local irreducible] Go.Fw.aops Go.Fw.arun

theorem cut_len (c : UInt8) (s : List UInt8) : (Lib.cut s [c]).1.length ≤ s.length ∧ (Lib.cut s [c]).2.1.length ≤ s.length := by
  rcases cut_cases c s with ⟨e, _⟩ | ⟨a, b, e, _, h⟩
  · rw [e]; simp
  · rw [e]; simp only; omega
set_option maxHeartbeats 4000000 in
theorem c_deskLine (xs : List Pack) (hl : xs.length ≤ 7) (hv : xs.all validPack = true) (line : List UInt8) (hll : line.length ≤ 1073741824) : ACon Tryz.prog 15 [.d (.lst (xs.map encPack)), .d (.str line)] [] (Is (.d (.str (answerT xs line)))) := by
  by_cases h0 : line = sizeT
  · have ea : answerT xs line = Lib.itoa (reqs xs).1 ++ [120] ++ Lib.itoa (reqs xs).2 := by unfold answerT; rw [if_pos h0]
    rw [ea]
    have hb := reqs_bd hv
    have l1 := itoa_len (n := (reqs xs).1) (by omega)
    have l2 := itoa_len (n := (reqs xs).2) (by omega)
    have c2 := c_reqI xs hl hv
    have c3 := c_Itoa (reqs xs).1 (by omega)
    have c4 := c_Itoa (reqs xs).2 (by omega)
    subst h0
    unfold sizeT at *
    refine ACon.introW tok (nt := 112) Tryz.func15 rfl rfl rfl (by kernel_rfl) rfl ?_
    repeat' (first | ((with_reducible apply xsim); (first | ((with_reducible apply xo); exact rfl) | ((with_reducible apply xst); exact rfl) | with_reducible apply xend | ((with_reducible apply xguardTS); exact rfl; exact rfl) | ((with_reducible apply xguardS); exact rfl; exact rfl) | ((with_reducible apply xalloc); exact rfl; simp only [backV, backVs, backVs_mapd, backId, backO, List.map_cons, List.map_nil, List.getElem?_nil, List.length_cons, List.length_nil, Nat.reduceAdd, Nat.reduceSub, List.cons_append, List.nil_append, List.append_nil]) | ((with_reducible apply xcallIs); exact rfl; exact rfl; (first | exact c2 | exact c3 | exact c4); exact rfl) | simp -implicitDefEqProofs only [go_sem, Int.reduceEq, Int.reduceLT, Int.reduceLE, Nat.reduceAdd, Nat.reduceSub, Nat.reduceMul, Nat.reduceEqDiff, Nat.reduceLeDiff, Nat.reducePow, ↓reduceIte, reduceCtorEq])) | ((with_reducible apply xaw); (first | ((with_reducible apply xstepS); refine AW.step tok rfl ?_) | ((with_reducible apply xstep); refine AW.region tok rfl ?_) | with_reducible (first | refine AW.seq ?_ | refine AW.block ?_ | refine AW.skip ?_ | refine AW.ret ?_ | refine AW.exit ?_) | ((with_reducible apply xcond); exact rfl))) | with_reducible (first | refine xthen ?_ | refine xthen_r ?_ | refine xthen_e ?_ | refine xblock ?_ | refine xblock_r ?_ | refine xblock_e ?_ | refine xblock_n rfl ?_ | refine xround_r ?_ | refine xround_e ?_) | (with_reducible intro hc; (try simp only [decide_eq_true_eq, decide_eq_false_iff_not, Bool.not_true, Bool.not_false, Bool.not_eq_true', Bool.not_eq_false', ne_eq, not_true, reduceCtorEq] at hc); (try (exfalso; omega))) | with_reducible (first | exact trivial | refine And.intro ?_ ?_ | exact rfl | exact Nat.le_refl _) | exact Eq.refl true | exact (rfl : (_ : List Nat) = _) | exact Nat.le_of_ble_eq_true rfl | (refine inR_i64.mpr ?_; first | omega | (simp only [List.length_map]; omega)) | omega | ((try simp only [List.length_append, List.length_cons, List.length_nil]); omega))
    all_goals (refine xfinIs (by first | exact .inl rfl | exact .inr rfl) rfl (by repeat' (first | exact trivial | exact rfl | refine And.intro ?_ ?_)) rfl ?_ rfl; first | with_reducible exact rfl | (simp -implicitDefEqProofs only [go_sem, Int.reduceEq, Int.reduceLT, Int.reduceLE, Nat.reduceAdd, Nat.reduceSub, Nat.reduceMul, Nat.reduceEqDiff, Nat.reduceLeDiff, Nat.reducePow, ↓reduceIte, reduceCtorEq] <;> (first | rfl | omega | exact decide_eq_decide.2 (by omega) | exact decide_eq_false (by omega) | exact decide_eq_true (by omega) | (symm; first | exact decide_eq_false (by omega) | exact decide_eq_true (by omega)) | (rw [Bool.eq_iff_iff]; simp only [Bool.not_eq_true', Bool.not_eq_false', Bool.and_eq_true, Bool.or_eq_true, decide_eq_true_eq, decide_eq_false_iff_not, reduceCtorEq, true_iff, iff_true, false_iff, iff_false]; omega))))
  · have ea : answerT xs line = match cmdI line with
        | none => whatT
        | some (word, w, h) => answerB xs word w h := by rw [cmd_eq]; unfold answerT; exact if_neg h0
    unfold sizeT at h0
    have c1 := c_Cut 32 line (by omega)
    have g1 := cut_len 32 line
    rcases e1 : Lib.cut line [32] with ⟨word, rest, one⟩
    rw [e1] at c1 g1
    simp only at g1
    have c2 := c_Cut 120 rest (by omega)
    have g2 := cut_len 120 rest
    rcases e2 : Lib.cut rest [120] with ⟨a, b, two⟩
    rw [e2] at c2 g2
    simp only at g2
    have c3 := c_numberI a (by omega)
    have c4 := c_numberI b (by omega)
    rcases e3 : numI a with ⟨w, o1⟩
    rcases e4 : numI b with ⟨h, o2⟩
    rw [e3] at c3
    rw [e4] at c4
    have ec : cmdI line = if one = true ∧ two = true ∧ o1 = true ∧ o2 = true ∧ roomOk w h = true then some (word, w, h) else none := by
      unfold cmdI cutA
      rw [e1]
      simp only
      rw [e2]
      simp only
      rw [e3, e4]
    rw [ec] at ea
    have c5 := c_sizeOk w h
    clear ec e1 e2 e3 e4 g1 g2
    by_cases hok : one = true ∧ two = true ∧ o1 = true ∧ o2 = true ∧ roomOk w h = true
    · rw [if_pos hok] at ea
      obtain ⟨rfl, rfl, rfl, rfl, hr⟩ := hok
      simp only at ea
      have hr2 := roomOk_iff hr
      rw [hr] at c5
      have p1 := packed_in hl hv (room_in hr)
      have p2 := parcels_inv (Nat.le_trans hl (by decide)) (all_packB hv) (room_in hr)
      have k1 := c_packRects xs w h (by omega) (by omega) (Nat.le_trans hl (by decide)) (all_packB hv)
      have k2 := c_parcelsI xs w h (by omega) (by omega) (Nat.le_trans hl (by decide)) (all_packB hv)
      have k4 := c_packFitsI xs w h hl hv hr
      have k5 := c_rectsTextI (packed xs ⟨0, 0, w, h⟩) (fun q hq => (p1.2 q hq).sm) (by omega)
      have k6 := c_rectsTextI (parcels xs ⟨0, 0, w, h⟩).1 (fun q hq => (p2.2.2 q hq).sm) (by omega)
      have k7 := c_rText (parcels xs ⟨0, 0, w, h⟩).2 p2.2.1.sm
      rw [ea]
      have b1 := answerB_1 (xs := xs) (word := word) (w := w) (h := h)
      have b2 := answerB_2 (xs := xs) (word := word) (w := w) (h := h)
      have b3 := answerB_3 (xs := xs) (word := word) (w := w) (h := h)
      have b4 := answerB_4 (xs := xs) (word := word) (w := w) (h := h)
      have b5 := answerB_5 (xs := xs) (word := word) (w := w) (h := h)
      generalize answerB xs word w h = A at *
      generalize packed xs ⟨0, 0, w, h⟩ = pk at *
      generalize parcels xs ⟨0, 0, w, h⟩ = pc at *
      generalize fits xs pk = ft at *
      refine ACon.introW tok (nt := 112) Tryz.func15 rfl rfl rfl (by kernel_rfl) rfl ?_
      repeat' (first | ((with_reducible apply xsim); (first | ((with_reducible apply xo); exact rfl) | ((with_reducible apply xst); exact rfl) | with_reducible apply xend | ((with_reducible apply xguardTS); exact rfl; exact rfl) | ((with_reducible apply xguardS); exact rfl; exact rfl) | ((with_reducible apply xalloc); exact rfl; simp only [backV, backVs, backVs_mapd, backId, backO, List.map_cons, List.map_nil, List.getElem?_nil, List.length_cons, List.length_nil, Nat.reduceAdd, Nat.reduceSub, List.cons_append, List.nil_append, List.append_nil]) | ((with_reducible apply xcallIs); exact rfl; exact rfl; (first | exact c1 | exact c2 | exact c3 | exact c4 | exact c5 | exact k4 | exact k7); exact rfl) | ((with_reducible apply xcallLend [0]); exact rfl; exact k5; (focus (first | exact rfl | (simp -implicitDefEqProofs only [go_sem, ↓reduceIte, Nat.reduceEqDiff, h0, Bool.not_true]; done))); exact rfl; exact rfl) | ((with_reducible apply xcallLend [0]); exact rfl; exact k6; (focus (first | exact rfl | (simp -implicitDefEqProofs only [go_sem, ↓reduceIte, Nat.reduceEqDiff, h0, Bool.not_true]; done))); exact rfl; exact rfl) | ((with_reducible apply xcallOwn); exact rfl; exact rfl; exact k1; simp only [backV, backVs, backVs_mapd, backId, backO, List.map_cons, List.map_nil, List.getElem?_nil, List.length_cons, List.length_nil, Nat.reduceAdd, Nat.reduceSub, List.cons_append, List.nil_append, List.append_nil]) | ((with_reducible apply xcallOwn); exact rfl; exact rfl; exact k2; simp only [backV, backVs, backVs_mapd, backId, backO, List.map_cons, List.map_nil, List.getElem?_nil, List.length_cons, List.length_nil, Nat.reduceAdd, Nat.reduceSub, List.cons_append, List.nil_append, List.append_nil]) | simp -implicitDefEqProofs only [go_sem, Int.reduceEq, Int.reduceLT, Int.reduceLE, Nat.reduceAdd, Nat.reduceSub, Nat.reduceMul, Nat.reduceEqDiff, Nat.reduceLeDiff, Nat.reducePow, ↓reduceIte, reduceCtorEq, h0, Bool.not_true])) | ((with_reducible apply xaw); (first | ((with_reducible apply xstepS); refine AW.step tok rfl ?_) | ((with_reducible apply xstep); refine AW.region tok rfl ?_) | with_reducible (first | refine AW.seq ?_ | refine AW.block ?_ | refine AW.skip ?_ | refine AW.ret ?_ | refine AW.exit ?_) | ((with_reducible apply xcond); exact rfl))) | with_reducible (first | refine xthen ?_ | refine xthen_r ?_ | refine xthen_e ?_ | refine xblock ?_ | refine xblock_r ?_ | refine xblock_e ?_ | refine xblock_n rfl ?_ | refine xround_r ?_ | refine xround_e ?_) | (with_reducible intro hc; (try simp only [decide_eq_true_eq, decide_eq_false_iff_not, Bool.not_true, Bool.not_false, Bool.not_eq_true', Bool.not_eq_false', ne_eq, not_true, reduceCtorEq, h0, Bool.not_true] at hc); (try (exfalso; omega))) | with_reducible (first | exact trivial | refine And.intro ?_ ?_ | exact rfl | exact Nat.le_refl _) | exact Eq.refl true | exact (rfl : (_ : List Nat) = _) | exact Nat.le_of_ble_eq_true rfl | (refine inR_i64.mpr ?_; first | omega | (simp only [List.length_map, h0, Bool.not_true]; omega)) | omega)
      · rw [b1 (show word = rectsT by assumption)]
        (refine xfinIs (by first | exact .inl rfl | exact .inr rfl) rfl (by repeat' (first | exact trivial | exact rfl | refine And.intro ?_ ?_)) rfl ?_ rfl; first | with_reducible exact rfl | (simp -implicitDefEqProofs only [go_sem, Int.reduceEq, Int.reduceLT, Int.reduceLE, Nat.reduceAdd, Nat.reduceSub, Nat.reduceMul, Nat.reduceEqDiff, Nat.reduceLeDiff, Nat.reducePow, ↓reduceIte, reduceCtorEq] <;> (first | rfl | omega | exact decide_eq_decide.2 (by omega) | exact decide_eq_false (by omega) | exact decide_eq_true (by omega) | (symm; first | exact decide_eq_false (by omega) | exact decide_eq_true (by omega)) | (rw [Bool.eq_iff_iff]; simp only [Bool.not_eq_true', Bool.not_eq_false', Bool.and_eq_true, Bool.or_eq_true, decide_eq_true_eq, decide_eq_false_iff_not, reduceCtorEq, true_iff, iff_true, false_iff, iff_false]; omega))))
      · rw [b2 (show word = parcelsT by assumption)]
        (refine xfinIs (by first | exact .inl rfl | exact .inr rfl) rfl (by repeat' (first | exact trivial | exact rfl | refine And.intro ?_ ?_)) rfl ?_ rfl; first | with_reducible exact rfl | (simp -implicitDefEqProofs only [go_sem, Int.reduceEq, Int.reduceLT, Int.reduceLE, Nat.reduceAdd, Nat.reduceSub, Nat.reduceMul, Nat.reduceEqDiff, Nat.reduceLeDiff, Nat.reducePow, ↓reduceIte, reduceCtorEq] <;> (first | rfl | omega | exact decide_eq_decide.2 (by omega) | exact decide_eq_false (by omega) | exact decide_eq_true (by omega) | (symm; first | exact decide_eq_false (by omega) | exact decide_eq_true (by omega)) | (rw [Bool.eq_iff_iff]; simp only [Bool.not_eq_true', Bool.not_eq_false', Bool.and_eq_true, Bool.or_eq_true, decide_eq_true_eq, decide_eq_false_iff_not, reduceCtorEq, true_iff, iff_true, false_iff, iff_false]; omega))))
      · rw [b3 (show word = leftT by assumption)]
        (refine xfinIs (by first | exact .inl rfl | exact .inr rfl) rfl (by repeat' (first | exact trivial | exact rfl | refine And.intro ?_ ?_)) rfl ?_ rfl; first | with_reducible exact rfl | (simp -implicitDefEqProofs only [go_sem, Int.reduceEq, Int.reduceLT, Int.reduceLE, Nat.reduceAdd, Nat.reduceSub, Nat.reduceMul, Nat.reduceEqDiff, Nat.reduceLeDiff, Nat.reducePow, ↓reduceIte, reduceCtorEq] <;> (first | rfl | omega | exact decide_eq_decide.2 (by omega) | exact decide_eq_false (by omega) | exact decide_eq_true (by omega) | (symm; first | exact decide_eq_false (by omega) | exact decide_eq_true (by omega)) | (rw [Bool.eq_iff_iff]; simp only [Bool.not_eq_true', Bool.not_eq_false', Bool.and_eq_true, Bool.or_eq_true, decide_eq_true_eq, decide_eq_false_iff_not, reduceCtorEq, true_iff, iff_true, false_iff, iff_false]; omega))))
      · rw [b4 (show word = fitsT by assumption), if_pos (show ft = true by assumption)]
        (refine xfinIs (by first | exact .inl rfl | exact .inr rfl) rfl (by repeat' (first | exact trivial | exact rfl | refine And.intro ?_ ?_)) rfl ?_ rfl; first | with_reducible exact rfl | (simp -implicitDefEqProofs only [go_sem, Int.reduceEq, Int.reduceLT, Int.reduceLE, Nat.reduceAdd, Nat.reduceSub, Nat.reduceMul, Nat.reduceEqDiff, Nat.reduceLeDiff, Nat.reducePow, ↓reduceIte, reduceCtorEq] <;> (first | rfl | omega | exact decide_eq_decide.2 (by omega) | exact decide_eq_false (by omega) | exact decide_eq_true (by omega) | (symm; first | exact decide_eq_false (by omega) | exact decide_eq_true (by omega)) | (rw [Bool.eq_iff_iff]; simp only [Bool.not_eq_true', Bool.not_eq_false', Bool.and_eq_true, Bool.or_eq_true, decide_eq_true_eq, decide_eq_false_iff_not, reduceCtorEq, true_iff, iff_true, false_iff, iff_false]; omega))))
      · rw [b4 (show word = fitsT by assumption), if_neg (by rw [show ft = false by assumption]; simp)]
        (refine xfinIs (by first | exact .inl rfl | exact .inr rfl) rfl (by repeat' (first | exact trivial | exact rfl | refine And.intro ?_ ?_)) rfl ?_ rfl; first | with_reducible exact rfl | (simp -implicitDefEqProofs only [go_sem, Int.reduceEq, Int.reduceLT, Int.reduceLE, Nat.reduceAdd, Nat.reduceSub, Nat.reduceMul, Nat.reduceEqDiff, Nat.reduceLeDiff, Nat.reducePow, ↓reduceIte, reduceCtorEq] <;> (first | rfl | omega | exact decide_eq_decide.2 (by omega) | exact decide_eq_false (by omega) | exact decide_eq_true (by omega) | (symm; first | exact decide_eq_false (by omega) | exact decide_eq_true (by omega)) | (rw [Bool.eq_iff_iff]; simp only [Bool.not_eq_true', Bool.not_eq_false', Bool.and_eq_true, Bool.or_eq_true, decide_eq_true_eq, decide_eq_false_iff_not, reduceCtorEq, true_iff, iff_true, false_iff, iff_false]; omega))))
      · rw [b5 (show ¬ word = rectsT by assumption) (show ¬ word = parcelsT by assumption) (show ¬ word = leftT by assumption) (show ¬ word = fitsT by assumption)]
        (refine xfinIs (by first | exact .inl rfl | exact .inr rfl) rfl (by repeat' (first | exact trivial | exact rfl | refine And.intro ?_ ?_)) rfl ?_ rfl; first | with_reducible exact rfl | (simp -implicitDefEqProofs only [go_sem, Int.reduceEq, Int.reduceLT, Int.reduceLE, Nat.reduceAdd, Nat.reduceSub, Nat.reduceMul, Nat.reduceEqDiff, Nat.reduceLeDiff, Nat.reducePow, ↓reduceIte, reduceCtorEq, whatT] <;> (first | rfl | omega | exact decide_eq_decide.2 (by omega) | exact decide_eq_false (by omega) | exact decide_eq_true (by omega) | (symm; first | exact decide_eq_false (by omega) | exact decide_eq_true (by omega)) | (rw [Bool.eq_iff_iff]; simp only [Bool.not_eq_true', Bool.not_eq_false', Bool.and_eq_true, Bool.or_eq_true, decide_eq_true_eq, decide_eq_false_iff_not, reduceCtorEq, true_iff, iff_true, false_iff, iff_false]; omega))))
    · rw [if_neg hok] at ea
      rw [ea]
      refine ACon.introW tok (nt := 112) Tryz.func15 rfl rfl rfl (by kernel_rfl) rfl ?_
      repeat' (first | ((with_reducible apply xsim); (first | ((with_reducible apply xo); exact rfl) | ((with_reducible apply xst); exact rfl) | with_reducible apply xend | ((with_reducible apply xguardTS); exact rfl; exact rfl) | ((with_reducible apply xguardS); exact rfl; exact rfl) | ((with_reducible apply xalloc); exact rfl; simp only [backV, backVs, backVs_mapd, backId, backO, List.map_cons, List.map_nil, List.getElem?_nil, List.length_cons, List.length_nil, Nat.reduceAdd, Nat.reduceSub, List.cons_append, List.nil_append, List.append_nil]) | ((with_reducible apply xcallIs); exact rfl; exact rfl; (first | exact c1 | exact c2 | exact c3 | exact c4 | exact c5); exact rfl) | simp -implicitDefEqProofs only [go_sem, Int.reduceEq, Int.reduceLT, Int.reduceLE, Nat.reduceAdd, Nat.reduceSub, Nat.reduceMul, Nat.reduceEqDiff, Nat.reduceLeDiff, Nat.reducePow, ↓reduceIte, reduceCtorEq, h0])) | ((with_reducible apply xaw); (first | ((with_reducible apply xstepS); refine AW.step tok rfl ?_) | ((with_reducible apply xstep); refine AW.region tok rfl ?_) | with_reducible (first | refine AW.seq ?_ | refine AW.block ?_ | refine AW.skip ?_ | refine AW.ret ?_ | refine AW.exit ?_) | ((with_reducible apply xcond); exact rfl))) | with_reducible (first | refine xthen ?_ | refine xthen_r ?_ | refine xthen_e ?_ | refine xblock ?_ | refine xblock_r ?_ | refine xblock_e ?_ | refine xblock_n rfl ?_ | refine xround_r ?_ | refine xround_e ?_) | (with_reducible intro hc; (try simp only [decide_eq_true_eq, decide_eq_false_iff_not, Bool.not_true, Bool.not_false, Bool.not_eq_true', Bool.not_eq_false', ne_eq, not_true, reduceCtorEq, h0] at hc); (try (exfalso; omega))) | with_reducible (first | exact trivial | refine And.intro ?_ ?_ | exact rfl | exact Nat.le_refl _) | exact Eq.refl true | exact (rfl : (_ : List Nat) = _) | exact Nat.le_of_ble_eq_true rfl | (refine inR_i64.mpr ?_; first | omega | (simp only [List.length_map, h0]; omega)) | omega)
      all_goals first | (exfalso; apply hok; simp_all; done) | (refine xfinIs (by first | exact .inl rfl | exact .inr rfl) rfl (by repeat' (first | exact trivial | exact rfl | refine And.intro ?_ ?_)) rfl ?_ rfl; first | with_reducible exact rfl | (simp -implicitDefEqProofs only [go_sem, Int.reduceEq, Int.reduceLT, Int.reduceLE, Nat.reduceAdd, Nat.reduceSub, Nat.reduceMul, Nat.reduceEqDiff, Nat.reduceLeDiff, Nat.reducePow, ↓reduceIte, reduceCtorEq, whatT] <;> (first | rfl | omega | exact decide_eq_decide.2 (by omega) | exact decide_eq_false (by omega) | exact decide_eq_true (by omega) | (symm; first | exact decide_eq_false (by omega) | exact decide_eq_true (by omega)) | (rw [Bool.eq_iff_iff]; simp only [Bool.not_eq_true', Bool.not_eq_false', Bool.and_eq_true, Bool.or_eq_true, decide_eq_true_eq, decide_eq_false_iff_not, reduceCtorEq, true_iff, iff_true, false_iff, iff_false]; omega))))
end Go.Proofs.YtmjofbjglhdkjaaGreatDoor

namespace Go.Proofs.YtmjofbjglhdkjaaGreatDoor
open Go.Fw
attribute [local irreducible] Go.Fw.aops Go.Fw.arun

def wrongT : List UInt8 := [119, 114, 111, 110, 103]
theorem wrong_nl : wrongT ++ [10] = [119, 114, 111, 110, 103, 10] := rfl
def ansT (r : List Pack × Bool) (l : List UInt8) : List UInt8 := if r.2 = true then answerT r.1 l else wrongT
def deskT (r : List Pack × Bool) (lines : List (List UInt8)) : List UInt8 := (lines.map fun l => ansT r l ++ [10]).flatten
def runDesk (s : List UInt8) (lines : List (List UInt8)) : List UInt8 := if lines.length ≤ 20 then deskT (pRes s) lines else []
/-- Items of a text are valid. -/
structure ROk (r : List Pack × Bool) : Prop where
  len : r.1.length ≤ 7
  val : r.1.all validPack = true
theorem pRes_ok (s : List UInt8) : ROk (pRes s) := by
  unfold pRes
  cases h : packsP s with
  | none => exact ⟨by simp, by simp⟩
  | some ps => exact ⟨(packsP_some h).2.2, (packsP_some h).2.1⟩
theorem ansT_len {r : List Pack × Bool} (h : ROk r) (l : List UInt8) : (ansT r l).length ≤ 600 := by
  unfold ansT
  split
  · exact answerT_len h.1 h.2 l
  · decide
theorem ansT_nl {r : List Pack × Bool} (l : List UInt8) : (10 : UInt8) ∉ ansT r l := by
  unfold ansT
  split
  · exact answerT_nl _ _
  · decide
theorem deskT_snoc (r : List Pack × Bool) (ls : List (List UInt8)) (l : List UInt8) : deskT r (ls ++ [l]) = deskT r ls ++ (ansT r l ++ [10]) := by simp [deskT]
theorem deskT_take {r : List Pack × Bool} {ls : List (List UInt8)} {k : Nat} (h : k < ls.length) : deskT r (ls.take (k + 1)) = deskT r (ls.take k) ++ (ansT r ls[k] ++ [10]) := by
  rw [List.take_succ_eq_append_getElem h, deskT_snoc]
theorem deskT_len {r : List Pack × Bool} (h : ROk r) : ∀ ls : List (List UInt8), (deskT r ls).length ≤ 601 * ls.length
  | [] => by simp [deskT]
  | l :: ls => by
    have h1 := ansT_len h l
    have h2 := deskT_len h ls
    have e : deskT r (l :: ls) = ansT r l ++ [10] ++ deskT r ls := by simp [deskT]
    rw [e]
    simp only [List.length_append, List.length_cons, List.length_nil]
    omega
theorem deskT_pre (r : List Pack × Bool) (ls : List (List UInt8)) (k : Nat) : deskT r ls = deskT r (ls.take k) ++ deskT r (ls.drop k) := by
  unfold deskT
  rw [← List.flatten_append, ← List.map_append, List.take_append_drop]
def nls (s : List UInt8) : Nat := s.countP (· == 10)
theorem nls_none {s : List UInt8} (h : (10 : UInt8) ∉ s) : nls s = 0 := by
  unfold nls
  rw [List.countP_eq_zero]
  intro a ha e
  simp only [beq_iff_eq] at e
  exact h (e ▸ ha)
theorem deskT_nls (r : List Pack × Bool) : ∀ ls : List (List UInt8), nls (deskT r ls) = ls.length
  | [] => rfl
  | l :: ls => by
    have e : deskT r (l :: ls) = ansT r l ++ [10] ++ deskT r ls := by simp [deskT]
    have h1 := nls_none (ansT_nl (r := r) l)
    have h2 := deskT_nls r ls
    rw [e]
    unfold nls at *
    simp only [List.countP_append, h1, h2, List.length_cons]
    simp
    omega
theorem qRes_p (s : List UInt8) : (qRes s).2 = (pRes s).2 ∧ ((qRes s).2 = true → qRes s = pRes s) := by
  have h := qRes_eq s
  generalize qRes s = q at *
  generalize pRes s = p at *
  obtain ⟨a, b⟩ := q
  cases b
  · subst h; exact ⟨rfl, fun h => by cases h⟩
  · subst h; exact ⟨rfl, fun _ => rfl⟩
theorem deskT_q (s : List UInt8) (ls : List (List UInt8)) : deskT (qRes s) ls = deskT (pRes s) ls := by
  have ⟨h1, h2⟩ := qRes_p s
  by_cases h : (qRes s).2 = true
  · rw [h2 h]
  · have h3 : (qRes s).2 = false := by simpa using h
    have h4 : (pRes s).2 = false := h1 ▸ h3
    unfold deskT ansT
    simp only [h3, h4, Bool.false_eq_true, if_false]
set_option maxHeartbeats 4000000 in
theorem c_RunDeskI (s : List UInt8) (lines : List (List UInt8)) (hs : s.length ≤ 1073741824) (hl : lines.length < 2^63) (hcl : ∀ l ∈ lines, l.length ≤ 1073741824) :
    ACon Tryz.prog 8 [.d (.str s), .d (.lst (lines.map encStr))] [] (Is (.d (.str (runDesk s lines)))) := by
  by_cases h20 : lines.length ≤ 20
  · have e : runDesk s lines = deskT (pRes s) lines := by unfold runDesk; rw [if_pos h20]
    rw [e]
    have c1 := c_ParsePacksI s hs
    have hk := pRes_ok s
    generalize pRes s = r at *
    have hd := deskT_len hk
    refine ACon.introW tok (nt := 35) Tryz.func8 rfl rfl rfl (by kernel_rfl) rfl ?_
    repeat' (first | ((with_reducible apply xsim); (first | ((with_reducible apply xlenM); exact rfl; exact rfl) | ((with_reducible apply xo); exact rfl) | with_reducible apply xend | ((with_reducible apply xidxL); exact rfl; exact rfl; exact rfl; exact rfl; omega; first | exact rfl | simp only [hsz]) | ((with_reducible apply xidxM); exact rfl; exact rfl; exact rfl; omega; omega; exact rfl) | ((with_reducible apply xldA); exact rfl; exact rfl; exact rfl; exact rfl; exact rfl) | ((with_reducible apply xcallOwn); exact rfl; exact rfl; exact c1; simp only [backV, backVs, backVs_mapd, backId, backO, List.map_cons, List.map_nil, List.getElem?_nil, List.length_cons, List.length_nil, Nat.reduceAdd, Nat.reduceSub, List.cons_append, List.nil_append, List.append_nil]) | simp -implicitDefEqProofs only [go_sem, Int.reduceEq, Int.reduceLT, Int.reduceLE, Nat.reduceAdd, Nat.reduceSub, Nat.reduceMul, Nat.reduceEqDiff, Nat.reduceLeDiff, Nat.reducePow, ↓reduceIte, reduceCtorEq, List.length_map])) | ((with_reducible apply xaw); (first | ((with_reducible apply xstepS); refine AW.step tok rfl ?_) | ((with_reducible apply xstep); refine AW.region tok rfl ?_) | with_reducible (first | refine AW.seq ?_ | refine AW.block ?_ | refine AW.skip ?_ | refine AW.ret ?_ | refine AW.exit ?_) | ((with_reducible apply xcond); exact rfl))) | with_reducible (first | refine xthen ?_ | refine xthen_r ?_ | refine xthen_e ?_ | refine xblock ?_ | refine xblock_r ?_ | refine xblock_e ?_ | refine xblock_n rfl ?_ | refine xround_r ?_ | refine xround_e ?_) | (with_reducible intro hc; (try simp only [decide_eq_true_eq, decide_eq_false_iff_not, Bool.not_true, Bool.not_false, Bool.not_eq_true', Bool.not_eq_false', ne_eq, not_true, reduceCtorEq, List.length_map] at hc); (try (exfalso; omega))) | with_reducible (first | exact trivial | refine And.intro ?_ ?_ | exact rfl | exact Nat.le_refl _) | exact Eq.refl true | exact (rfl : (_ : List Nat) = _) | exact Nat.le_of_ble_eq_true rfl | (refine inR_i64.mpr ?_; first | omega | (simp only [List.length_map, List.length_map]; omega)) | omega)
    refine AW.loop (S := fun k : Nat => ⟨[(5, .msl 0 9 0 r.1.length), (6, .d (.bool r.2)), (7, .d (.str (deskT r (lines.take k)))), (18, .d (.lst (lines.map encStr))), (19, .d (.int .i64 lines.length)), (20, .d (.int .i64 k))], [.arr 9 (r.1.map encPack)], 35, 0⟩)
      (Pre := fun k => k ≤ lines.length) (μ := fun k => lines.length - k) 0 (Nat.zero_le _) ?_ ?_
    · (refine xwk (π := [0]) (by decide) rfl ?_ ?_; (first | exact trivial | simp -implicitDefEqProofs only [go_sem, Int.reduceEq, Int.reduceLT, Int.reduceLE, Nat.reduceAdd, Nat.reduceSub, Nat.reduceMul, Nat.reduceEqDiff, Nat.reduceLeDiff, Nat.reducePow, ↓reduceIte, reduceCtorEq, List.take_zero, show deskT r [] = [] from rfl]); repeat' (first | exact renE_n | ((with_reducible apply renE_c); exact rfl; focus (first | with_reducible exact rfl | (simp -implicitDefEqProofs only [go_sem, Int.reduceEq, Int.reduceLT, Int.reduceLE, Nat.reduceAdd, Nat.reduceSub, Nat.reduceMul, Nat.reduceEqDiff, Nat.reduceLeDiff, Nat.reducePow, ↓reduceIte, reduceCtorEq, List.take_zero, show deskT r [] = [] from rfl]; done) | (simp -implicitDefEqProofs only [go_sem, Int.reduceEq, Int.reduceLT, Int.reduceLE, Nat.reduceAdd, Nat.reduceSub, Nat.reduceMul, Nat.reduceEqDiff, Nat.reduceLeDiff, Nat.reducePow, ↓reduceIte, reduceCtorEq, List.take_zero, show deskT r [] = [] from rfl]; omega)))))
    · intro k hkk
      have hdk := hd (lines.take k)
      rw [List.length_take] at hdk
      by_cases hlt : k < lines.length
      · have hrow := at_map (f := encStr) hlt
        have hdt := deskT_take (r := r) hlt
        have hal := ansT_len hk lines[k]
        have ca := c_deskLine r.1 hk.1 hk.2 lines[k] (hcl _ (List.getElem_mem hlt))
        cases hb : r.2
        · have ha : ansT r lines[k] = wrongT := by unfold ansT; rw [hb]; rfl
          rw [ha, wrong_nl] at hdt
          repeat' (first | ((with_reducible apply xsim); (first | ((with_reducible apply xlenM); exact rfl; exact rfl) | ((with_reducible apply xo); exact rfl) | with_reducible apply xend | ((with_reducible apply xidxL); exact rfl; exact rfl; exact rfl; (first | exact hrow); omega; first | exact rfl | simp only [hsz]) | ((with_reducible apply xidxM); exact rfl; exact rfl; exact rfl; omega; omega; exact rfl) | ((with_reducible apply xldA); exact rfl; exact rfl; exact rfl; (first | exact hrow); exact rfl) | simp -implicitDefEqProofs only [go_sem, Int.reduceEq, Int.reduceLT, Int.reduceLE, Nat.reduceAdd, Nat.reduceSub, Nat.reduceMul, Nat.reduceEqDiff, Nat.reduceLeDiff, Nat.reducePow, ↓reduceIte, reduceCtorEq, hb, List.length_map])) | ((with_reducible apply xaw); (first | ((with_reducible apply xstepS); refine AW.step tok rfl ?_) | ((with_reducible apply xstep); refine AW.region tok rfl ?_) | with_reducible (first | refine AW.seq ?_ | refine AW.block ?_ | refine AW.skip ?_ | refine AW.ret ?_ | refine AW.exit ?_) | ((with_reducible apply xcond); exact rfl))) | with_reducible (first | refine xthen ?_ | refine xthen_r ?_ | refine xthen_e ?_ | refine xblock ?_ | refine xblock_r ?_ | refine xblock_e ?_ | refine xblock_n rfl ?_ | refine xround_r ?_ | refine xround_e ?_) | (with_reducible intro hc; (try simp only [decide_eq_true_eq, decide_eq_false_iff_not, Bool.not_true, Bool.not_false, Bool.not_eq_true', Bool.not_eq_false', ne_eq, not_true, reduceCtorEq, hb, List.length_map] at hc); (try (exfalso; omega))) | with_reducible (first | exact trivial | refine And.intro ?_ ?_ | exact rfl | exact Nat.le_refl _) | exact Eq.refl true | exact (rfl : (_ : List Nat) = _) | exact Nat.le_of_ble_eq_true rfl | (refine inR_i64.mpr ?_; first | omega | (simp only [List.length_map, hb, List.length_map]; omega)) | omega | ((try simp only [List.length_append, List.length_cons, List.length_nil]); omega))
          exact round_end (k + 1) hlt (by omega) (by (refine xwk (π := [0]) (by decide) rfl ?_ ?_; (first | exact trivial | simp -implicitDefEqProofs only [go_sem, Int.reduceEq, Int.reduceLT, Int.reduceLE, Nat.reduceAdd, Nat.reduceSub, Nat.reduceMul, Nat.reduceEqDiff, Nat.reduceLeDiff, Nat.reducePow, ↓reduceIte, reduceCtorEq, hdt]); repeat' (first | exact renE_n | ((with_reducible apply renE_c); exact rfl; focus (first | with_reducible exact rfl | (simp -implicitDefEqProofs only [go_sem, Int.reduceEq, Int.reduceLT, Int.reduceLE, Nat.reduceAdd, Nat.reduceSub, Nat.reduceMul, Nat.reduceEqDiff, Nat.reduceLeDiff, Nat.reducePow, ↓reduceIte, reduceCtorEq, hdt]; done) | (simp -implicitDefEqProofs only [go_sem, Int.reduceEq, Int.reduceLT, Int.reduceLE, Nat.reduceAdd, Nat.reduceSub, Nat.reduceMul, Nat.reduceEqDiff, Nat.reduceLeDiff, Nat.reducePow, ↓reduceIte, reduceCtorEq, hdt]; omega))))))
        · have ha : ansT r lines[k] = answerT r.1 lines[k] := by unfold ansT; rw [hb]; rfl
          rw [ha] at hdt hal
          repeat' (first | ((with_reducible apply xsim); (first | ((with_reducible apply xlenM); exact rfl; exact rfl) | ((with_reducible apply xo); exact rfl) | with_reducible apply xend | ((with_reducible apply xidxL); exact rfl; exact rfl; exact rfl; (first | exact hrow); omega; first | exact rfl | simp only [hsz]) | ((with_reducible apply xidxM); exact rfl; exact rfl; exact rfl; omega; omega; exact rfl) | ((with_reducible apply xldA); exact rfl; exact rfl; exact rfl; (first | exact hrow); exact rfl) | ((with_reducible apply xcallLend [0]); exact rfl; exact ca; (focus (first | exact rfl | (simp -implicitDefEqProofs only [go_sem, ↓reduceIte, Nat.reduceEqDiff, hb, List.length_map]; done))); exact rfl; exact rfl) | simp -implicitDefEqProofs only [go_sem, Int.reduceEq, Int.reduceLT, Int.reduceLE, Nat.reduceAdd, Nat.reduceSub, Nat.reduceMul, Nat.reduceEqDiff, Nat.reduceLeDiff, Nat.reducePow, ↓reduceIte, reduceCtorEq, hb, List.length_map])) | ((with_reducible apply xaw); (first | ((with_reducible apply xstepS); refine AW.step tok rfl ?_) | ((with_reducible apply xstep); refine AW.region tok rfl ?_) | with_reducible (first | refine AW.seq ?_ | refine AW.block ?_ | refine AW.skip ?_ | refine AW.ret ?_ | refine AW.exit ?_) | ((with_reducible apply xcond); exact rfl))) | with_reducible (first | refine xthen ?_ | refine xthen_r ?_ | refine xthen_e ?_ | refine xblock ?_ | refine xblock_r ?_ | refine xblock_e ?_ | refine xblock_n rfl ?_ | refine xround_r ?_ | refine xround_e ?_) | (with_reducible intro hc; (try simp only [decide_eq_true_eq, decide_eq_false_iff_not, Bool.not_true, Bool.not_false, Bool.not_eq_true', Bool.not_eq_false', ne_eq, not_true, reduceCtorEq, hb, List.length_map] at hc); (try (exfalso; omega))) | with_reducible (first | exact trivial | refine And.intro ?_ ?_ | exact rfl | exact Nat.le_refl _) | exact Eq.refl true | exact (rfl : (_ : List Nat) = _) | exact Nat.le_of_ble_eq_true rfl | (refine inR_i64.mpr ?_; first | omega | (simp only [List.length_map, hb, List.length_map]; omega)) | omega | ((try simp only [List.length_append, List.length_cons, List.length_nil]); omega))
          exact round_end (k + 1) hlt (by omega) (by (refine xwk (π := [0]) (by decide) rfl ?_ ?_; (first | exact trivial | simp -implicitDefEqProofs only [go_sem, Int.reduceEq, Int.reduceLT, Int.reduceLE, Nat.reduceAdd, Nat.reduceSub, Nat.reduceMul, Nat.reduceEqDiff, Nat.reduceLeDiff, Nat.reducePow, ↓reduceIte, reduceCtorEq, hdt]); repeat' (first | exact renE_n | ((with_reducible apply renE_c); exact rfl; focus (first | with_reducible exact rfl | (simp -implicitDefEqProofs only [go_sem, Int.reduceEq, Int.reduceLT, Int.reduceLE, Nat.reduceAdd, Nat.reduceSub, Nat.reduceMul, Nat.reduceEqDiff, Nat.reduceLeDiff, Nat.reducePow, ↓reduceIte, reduceCtorEq, hdt]; done) | (simp -implicitDefEqProofs only [go_sem, Int.reduceEq, Int.reduceLT, Int.reduceLE, Nat.reduceAdd, Nat.reduceSub, Nat.reduceMul, Nat.reduceEqDiff, Nat.reduceLeDiff, Nat.reducePow, ↓reduceIte, reduceCtorEq, hdt]; omega))))))
      · have hk' : k = lines.length := by omega
        subst hk'
        rw [List.take_of_length_le (Nat.le_refl _)]
        repeat' (first | ((with_reducible apply xsim); (first | ((with_reducible apply xlenM); exact rfl; exact rfl) | ((with_reducible apply xo); exact rfl) | with_reducible apply xend | ((with_reducible apply xidxL); exact rfl; exact rfl; exact rfl; exact rfl; omega; first | exact rfl | simp only [hsz]) | ((with_reducible apply xidxM); exact rfl; exact rfl; exact rfl; omega; omega; exact rfl) | ((with_reducible apply xldA); exact rfl; exact rfl; exact rfl; exact rfl; exact rfl) | simp -implicitDefEqProofs only [go_sem, Int.reduceEq, Int.reduceLT, Int.reduceLE, Nat.reduceAdd, Nat.reduceSub, Nat.reduceMul, Nat.reduceEqDiff, Nat.reduceLeDiff, Nat.reducePow, ↓reduceIte, reduceCtorEq, List.length_map])) | ((with_reducible apply xaw); (first | ((with_reducible apply xstepS); refine AW.step tok rfl ?_) | ((with_reducible apply xstep); refine AW.region tok rfl ?_) | with_reducible (first | refine AW.seq ?_ | refine AW.block ?_ | refine AW.skip ?_ | refine AW.ret ?_ | refine AW.exit ?_) | ((with_reducible apply xcond); exact rfl))) | with_reducible (first | refine xthen ?_ | refine xthen_r ?_ | refine xthen_e ?_ | refine xblock ?_ | refine xblock_r ?_ | refine xblock_e ?_ | refine xblock_n rfl ?_ | refine xround_r ?_ | refine xround_e ?_) | (with_reducible intro hc; (try simp only [decide_eq_true_eq, decide_eq_false_iff_not, Bool.not_true, Bool.not_false, Bool.not_eq_true', Bool.not_eq_false', ne_eq, not_true, reduceCtorEq, List.length_map] at hc); (try (exfalso; omega))) | with_reducible (first | exact trivial | refine And.intro ?_ ?_ | exact rfl | exact Nat.le_refl _) | exact Eq.refl true | exact (rfl : (_ : List Nat) = _) | exact Nat.le_of_ble_eq_true rfl | (refine inR_i64.mpr ?_; first | omega | (simp only [List.length_map, List.length_map]; omega)) | omega)
        (refine xfinIs (by first | exact .inl rfl | exact .inr rfl) rfl (by repeat' (first | exact trivial | exact rfl | refine And.intro ?_ ?_)) rfl ?_ rfl; first | with_reducible exact rfl | (simp -implicitDefEqProofs only [go_sem, Int.reduceEq, Int.reduceLT, Int.reduceLE, Nat.reduceAdd, Nat.reduceSub, Nat.reduceMul, Nat.reduceEqDiff, Nat.reduceLeDiff, Nat.reducePow, ↓reduceIte, reduceCtorEq] <;> (first | rfl | omega | exact decide_eq_decide.2 (by omega) | exact decide_eq_false (by omega) | exact decide_eq_true (by omega) | (symm; first | exact decide_eq_false (by omega) | exact decide_eq_true (by omega)) | (rw [Bool.eq_iff_iff]; simp only [Bool.not_eq_true', Bool.not_eq_false', Bool.and_eq_true, Bool.or_eq_true, decide_eq_true_eq, decide_eq_false_iff_not, reduceCtorEq, true_iff, iff_true, false_iff, iff_false]; omega))))
  · have e : runDesk s lines = [] := by unfold runDesk; rw [if_neg h20]
    rw [e]
    refine ACon.introW tok (nt := 35) Tryz.func8 rfl rfl rfl (by kernel_rfl) rfl ?_
    repeat' (first | ((with_reducible apply xsim); (first | ((with_reducible apply xlenM); exact rfl; exact rfl) | ((with_reducible apply xo); exact rfl) | with_reducible apply xend | ((with_reducible apply xidxL); exact rfl; exact rfl; exact rfl; exact rfl; omega; first | exact rfl | simp only [hsz]) | ((with_reducible apply xidxM); exact rfl; exact rfl; exact rfl; omega; omega; exact rfl) | ((with_reducible apply xldA); exact rfl; exact rfl; exact rfl; exact rfl; exact rfl) | simp -implicitDefEqProofs only [go_sem, Int.reduceEq, Int.reduceLT, Int.reduceLE, Nat.reduceAdd, Nat.reduceSub, Nat.reduceMul, Nat.reduceEqDiff, Nat.reduceLeDiff, Nat.reducePow, ↓reduceIte, reduceCtorEq, List.length_map])) | ((with_reducible apply xaw); (first | ((with_reducible apply xstepS); refine AW.step tok rfl ?_) | ((with_reducible apply xstep); refine AW.region tok rfl ?_) | with_reducible (first | refine AW.seq ?_ | refine AW.block ?_ | refine AW.skip ?_ | refine AW.ret ?_ | refine AW.exit ?_) | ((with_reducible apply xcond); exact rfl))) | with_reducible (first | refine xthen ?_ | refine xthen_r ?_ | refine xthen_e ?_ | refine xblock ?_ | refine xblock_r ?_ | refine xblock_e ?_ | refine xblock_n rfl ?_ | refine xround_r ?_ | refine xround_e ?_) | (with_reducible intro hc; (try simp only [decide_eq_true_eq, decide_eq_false_iff_not, Bool.not_true, Bool.not_false, Bool.not_eq_true', Bool.not_eq_false', ne_eq, not_true, reduceCtorEq, List.length_map] at hc); (try (exfalso; omega))) | with_reducible (first | exact trivial | refine And.intro ?_ ?_ | exact rfl | exact Nat.le_refl _) | exact Eq.refl true | exact (rfl : (_ : List Nat) = _) | exact Nat.le_of_ble_eq_true rfl | (refine inR_i64.mpr ?_; first | omega | (simp only [List.length_map, List.length_map]; omega)) | omega)
    (refine xfinIs (by first | exact .inl rfl | exact .inr rfl) rfl (by repeat' (first | exact trivial | exact rfl | refine And.intro ?_ ?_)) rfl ?_ rfl; first | with_reducible exact rfl | (simp -implicitDefEqProofs only [go_sem, Int.reduceEq, Int.reduceLT, Int.reduceLE, Nat.reduceAdd, Nat.reduceSub, Nat.reduceMul, Nat.reduceEqDiff, Nat.reduceLeDiff, Nat.reducePow, ↓reduceIte, reduceCtorEq] <;> (first | rfl | omega | exact decide_eq_decide.2 (by omega) | exact decide_eq_false (by omega) | exact decide_eq_true (by omega) | (symm; first | exact decide_eq_false (by omega) | exact decide_eq_true (by omega)) | (rw [Bool.eq_iff_iff]; simp only [Bool.not_eq_true', Bool.not_eq_false', Bool.and_eq_true, Bool.or_eq_true, decide_eq_true_eq, decide_eq_false_iff_not, reduceCtorEq, true_iff, iff_true, false_iff, iff_false]; omega))))
set_option maxHeartbeats 4000000 in
theorem c_RunDeskS (s : List UInt8) (lines : List (List UInt8)) (hs : s.length ≤ 1073741824) (hl : lines.length < 2^63) (hcl : ∀ l ∈ lines, l.length ≤ 1073741824) :
    ACon Tryz.prog 6 [.d (.str s), .d (.lst (lines.map encStr))] [] (Is (.d (.str (runDesk s lines)))) := by
  by_cases h20 : lines.length ≤ 20
  · have e : runDesk s lines = deskT (qRes s) lines := by unfold runDesk; rw [if_pos h20, deskT_q]
    rw [e]
    have c1 := c_packsIn s hs
    have hk : (qRes s).2 = true → ROk (qRes s) := fun h => by rw [(qRes_p s).2 h]; exact pRes_ok s
    generalize qRes s = r at *
    have hd : ∀ ls, (deskT r ls).length ≤ 601 * ls.length := by
      cases hb : r.2
      · have he : ∀ ls, deskT r ls = deskT (([] : List Pack), false) ls := fun ls => by unfold deskT ansT; simp only [hb, Bool.false_eq_true, if_false]
        intro ls
        rw [he]
        exact deskT_len ⟨by simp, by simp⟩ ls
      · exact deskT_len (hk hb)
    refine ACon.introW tok (nt := 36) Tryz.func6 rfl rfl rfl (by kernel_rfl) rfl ?_
    repeat' (first | ((with_reducible apply xsim); (first | ((with_reducible apply xlenM); exact rfl; exact rfl) | ((with_reducible apply xo); exact rfl) | with_reducible apply xend | ((with_reducible apply xidxL); exact rfl; exact rfl; exact rfl; exact rfl; omega; first | exact rfl | simp only [hsz]) | ((with_reducible apply xidxM); exact rfl; exact rfl; exact rfl; omega; omega; exact rfl) | ((with_reducible apply xldA); exact rfl; exact rfl; exact rfl; exact rfl; exact rfl) | ((with_reducible apply xcallOwn); exact rfl; exact rfl; exact c1; simp only [backV, backVs, backVs_mapd, backId, backO, List.map_cons, List.map_nil, List.getElem?_nil, List.length_cons, List.length_nil, Nat.reduceAdd, Nat.reduceSub, List.cons_append, List.nil_append, List.append_nil]) | simp -implicitDefEqProofs only [go_sem, Int.reduceEq, Int.reduceLT, Int.reduceLE, Nat.reduceAdd, Nat.reduceSub, Nat.reduceMul, Nat.reduceEqDiff, Nat.reduceLeDiff, Nat.reducePow, ↓reduceIte, reduceCtorEq, List.length_map])) | ((with_reducible apply xaw); (first | ((with_reducible apply xstepS); refine AW.step tok rfl ?_) | ((with_reducible apply xstep); refine AW.region tok rfl ?_) | with_reducible (first | refine AW.seq ?_ | refine AW.block ?_ | refine AW.skip ?_ | refine AW.ret ?_ | refine AW.exit ?_) | ((with_reducible apply xcond); exact rfl))) | with_reducible (first | refine xthen ?_ | refine xthen_r ?_ | refine xthen_e ?_ | refine xblock ?_ | refine xblock_r ?_ | refine xblock_e ?_ | refine xblock_n rfl ?_ | refine xround_r ?_ | refine xround_e ?_) | (with_reducible intro hc; (try simp only [decide_eq_true_eq, decide_eq_false_iff_not, Bool.not_true, Bool.not_false, Bool.not_eq_true', Bool.not_eq_false', ne_eq, not_true, reduceCtorEq, List.length_map] at hc); (try (exfalso; omega))) | with_reducible (first | exact trivial | refine And.intro ?_ ?_ | exact rfl | exact Nat.le_refl _) | exact Eq.refl true | exact (rfl : (_ : List Nat) = _) | exact Nat.le_of_ble_eq_true rfl | (refine inR_i64.mpr ?_; first | omega | (simp only [List.length_map, List.length_map]; omega)) | omega)
    refine AW.loop (S := fun k : Nat => ⟨[(1, .d (.lst (lines.map encStr))), (5, .msl 0 9 0 r.1.length), (6, .d (.bool r.2)), (7, .d (.str (deskT r (lines.take k)))), (8, .d (.int .i64 k))], [.arr 9 (r.1.map encPack)], 36, 0⟩)
      (Pre := fun k => k ≤ lines.length) (μ := fun k => lines.length - k) 0 (Nat.zero_le _) ?_ ?_
    · (refine xwk (π := [0]) (by decide) rfl ?_ ?_; (first | exact trivial | simp -implicitDefEqProofs only [go_sem, Int.reduceEq, Int.reduceLT, Int.reduceLE, Nat.reduceAdd, Nat.reduceSub, Nat.reduceMul, Nat.reduceEqDiff, Nat.reduceLeDiff, Nat.reducePow, ↓reduceIte, reduceCtorEq, List.take_zero, show deskT r [] = [] from rfl]); repeat' (first | exact renE_n | ((with_reducible apply renE_c); exact rfl; focus (first | with_reducible exact rfl | (simp -implicitDefEqProofs only [go_sem, Int.reduceEq, Int.reduceLT, Int.reduceLE, Nat.reduceAdd, Nat.reduceSub, Nat.reduceMul, Nat.reduceEqDiff, Nat.reduceLeDiff, Nat.reducePow, ↓reduceIte, reduceCtorEq, List.take_zero, show deskT r [] = [] from rfl]; done) | (simp -implicitDefEqProofs only [go_sem, Int.reduceEq, Int.reduceLT, Int.reduceLE, Nat.reduceAdd, Nat.reduceSub, Nat.reduceMul, Nat.reduceEqDiff, Nat.reduceLeDiff, Nat.reducePow, ↓reduceIte, reduceCtorEq, List.take_zero, show deskT r [] = [] from rfl]; omega)))))
    · intro k hkk
      have hdk := hd (lines.take k)
      rw [List.length_take] at hdk
      by_cases hlt : k < lines.length
      · have hrow := at_map (f := encStr) hlt
        have hdt := deskT_take (r := r) hlt
        cases hb : r.2
        · have ha : ansT r lines[k] = wrongT := by unfold ansT; rw [hb]; rfl
          rw [ha, wrong_nl] at hdt
          repeat' (first | ((with_reducible apply xsim); (first | ((with_reducible apply xlenM); exact rfl; exact rfl) | ((with_reducible apply xo); exact rfl) | with_reducible apply xend | ((with_reducible apply xidxL); exact rfl; exact rfl; exact rfl; (first | exact hrow); omega; first | exact rfl | simp only [hsz]) | ((with_reducible apply xidxM); exact rfl; exact rfl; exact rfl; omega; omega; exact rfl) | ((with_reducible apply xldA); exact rfl; exact rfl; exact rfl; (first | exact hrow); exact rfl) | simp -implicitDefEqProofs only [go_sem, Int.reduceEq, Int.reduceLT, Int.reduceLE, Nat.reduceAdd, Nat.reduceSub, Nat.reduceMul, Nat.reduceEqDiff, Nat.reduceLeDiff, Nat.reducePow, ↓reduceIte, reduceCtorEq, hb, List.length_map])) | ((with_reducible apply xaw); (first | ((with_reducible apply xstepS); refine AW.step tok rfl ?_) | ((with_reducible apply xstep); refine AW.region tok rfl ?_) | with_reducible (first | refine AW.seq ?_ | refine AW.block ?_ | refine AW.skip ?_ | refine AW.ret ?_ | refine AW.exit ?_) | ((with_reducible apply xcond); exact rfl))) | with_reducible (first | refine xthen ?_ | refine xthen_r ?_ | refine xthen_e ?_ | refine xblock ?_ | refine xblock_r ?_ | refine xblock_e ?_ | refine xblock_n rfl ?_ | refine xround_r ?_ | refine xround_e ?_) | (with_reducible intro hc; (try simp only [decide_eq_true_eq, decide_eq_false_iff_not, Bool.not_true, Bool.not_false, Bool.not_eq_true', Bool.not_eq_false', ne_eq, not_true, reduceCtorEq, hb, List.length_map] at hc); (try (exfalso; omega))) | with_reducible (first | exact trivial | refine And.intro ?_ ?_ | exact rfl | exact Nat.le_refl _) | exact Eq.refl true | exact (rfl : (_ : List Nat) = _) | exact Nat.le_of_ble_eq_true rfl | (refine inR_i64.mpr ?_; first | omega | (simp only [List.length_map, hb, List.length_map]; omega)) | omega | ((try simp only [List.length_append, List.length_cons, List.length_nil]); omega))
          exact round_end (k + 1) hlt (by omega) (by (refine xwk (π := [0]) (by decide) rfl ?_ ?_; (first | exact trivial | simp -implicitDefEqProofs only [go_sem, Int.reduceEq, Int.reduceLT, Int.reduceLE, Nat.reduceAdd, Nat.reduceSub, Nat.reduceMul, Nat.reduceEqDiff, Nat.reduceLeDiff, Nat.reducePow, ↓reduceIte, reduceCtorEq, hdt, List.append_assoc]); repeat' (first | exact renE_n | ((with_reducible apply renE_c); exact rfl; focus (first | with_reducible exact rfl | (simp -implicitDefEqProofs only [go_sem, Int.reduceEq, Int.reduceLT, Int.reduceLE, Nat.reduceAdd, Nat.reduceSub, Nat.reduceMul, Nat.reduceEqDiff, Nat.reduceLeDiff, Nat.reducePow, ↓reduceIte, reduceCtorEq, hdt, List.append_assoc]; done) | (simp -implicitDefEqProofs only [go_sem, Int.reduceEq, Int.reduceLT, Int.reduceLE, Nat.reduceAdd, Nat.reduceSub, Nat.reduceMul, Nat.reduceEqDiff, Nat.reduceLeDiff, Nat.reducePow, ↓reduceIte, reduceCtorEq, hdt, List.append_assoc]; omega))))))
        · have ha : ansT r lines[k] = answerT r.1 lines[k] := by unfold ansT; rw [hb]; rfl
          have hal := ansT_len (hk hb) lines[k]
          have ca := c_answer r.1 (hk hb).1 (hk hb).2 lines[k] (hcl _ (List.getElem_mem hlt))
          rw [ha] at hdt hal
          repeat' (first | ((with_reducible apply xsim); (first | ((with_reducible apply xlenM); exact rfl; exact rfl) | ((with_reducible apply xo); exact rfl) | with_reducible apply xend | ((with_reducible apply xidxL); exact rfl; exact rfl; exact rfl; (first | exact hrow); omega; first | exact rfl | simp only [hsz]) | ((with_reducible apply xidxM); exact rfl; exact rfl; exact rfl; omega; omega; exact rfl) | ((with_reducible apply xldA); exact rfl; exact rfl; exact rfl; (first | exact hrow); exact rfl) | ((with_reducible apply xcallLend [0]); exact rfl; exact ca; (focus (first | exact rfl | (simp -implicitDefEqProofs only [go_sem, ↓reduceIte, Nat.reduceEqDiff, hb, List.length_map]; done))); exact rfl; exact rfl) | simp -implicitDefEqProofs only [go_sem, Int.reduceEq, Int.reduceLT, Int.reduceLE, Nat.reduceAdd, Nat.reduceSub, Nat.reduceMul, Nat.reduceEqDiff, Nat.reduceLeDiff, Nat.reducePow, ↓reduceIte, reduceCtorEq, hb, List.length_map])) | ((with_reducible apply xaw); (first | ((with_reducible apply xstepS); refine AW.step tok rfl ?_) | ((with_reducible apply xstep); refine AW.region tok rfl ?_) | with_reducible (first | refine AW.seq ?_ | refine AW.block ?_ | refine AW.skip ?_ | refine AW.ret ?_ | refine AW.exit ?_) | ((with_reducible apply xcond); exact rfl))) | with_reducible (first | refine xthen ?_ | refine xthen_r ?_ | refine xthen_e ?_ | refine xblock ?_ | refine xblock_r ?_ | refine xblock_e ?_ | refine xblock_n rfl ?_ | refine xround_r ?_ | refine xround_e ?_) | (with_reducible intro hc; (try simp only [decide_eq_true_eq, decide_eq_false_iff_not, Bool.not_true, Bool.not_false, Bool.not_eq_true', Bool.not_eq_false', ne_eq, not_true, reduceCtorEq, hb, List.length_map] at hc); (try (exfalso; omega))) | with_reducible (first | exact trivial | refine And.intro ?_ ?_ | exact rfl | exact Nat.le_refl _) | exact Eq.refl true | exact (rfl : (_ : List Nat) = _) | exact Nat.le_of_ble_eq_true rfl | (refine inR_i64.mpr ?_; first | omega | (simp only [List.length_map, hb, List.length_map]; omega)) | omega | ((try simp only [List.length_append, List.length_cons, List.length_nil]); omega))
          exact round_end (k + 1) hlt (by omega) (by (refine xwk (π := [0]) (by decide) rfl ?_ ?_; (first | exact trivial | simp -implicitDefEqProofs only [go_sem, Int.reduceEq, Int.reduceLT, Int.reduceLE, Nat.reduceAdd, Nat.reduceSub, Nat.reduceMul, Nat.reduceEqDiff, Nat.reduceLeDiff, Nat.reducePow, ↓reduceIte, reduceCtorEq, hdt, List.append_assoc]); repeat' (first | exact renE_n | ((with_reducible apply renE_c); exact rfl; focus (first | with_reducible exact rfl | (simp -implicitDefEqProofs only [go_sem, Int.reduceEq, Int.reduceLT, Int.reduceLE, Nat.reduceAdd, Nat.reduceSub, Nat.reduceMul, Nat.reduceEqDiff, Nat.reduceLeDiff, Nat.reducePow, ↓reduceIte, reduceCtorEq, hdt, List.append_assoc]; done) | (simp -implicitDefEqProofs only [go_sem, Int.reduceEq, Int.reduceLT, Int.reduceLE, Nat.reduceAdd, Nat.reduceSub, Nat.reduceMul, Nat.reduceEqDiff, Nat.reduceLeDiff, Nat.reducePow, ↓reduceIte, reduceCtorEq, hdt, List.append_assoc]; omega))))))
      · have hk' : k = lines.length := by omega
        subst hk'
        rw [List.take_of_length_le (Nat.le_refl _)]
        repeat' (first | ((with_reducible apply xsim); (first | ((with_reducible apply xlenM); exact rfl; exact rfl) | ((with_reducible apply xo); exact rfl) | with_reducible apply xend | ((with_reducible apply xidxL); exact rfl; exact rfl; exact rfl; exact rfl; omega; first | exact rfl | simp only [hsz]) | ((with_reducible apply xidxM); exact rfl; exact rfl; exact rfl; omega; omega; exact rfl) | ((with_reducible apply xldA); exact rfl; exact rfl; exact rfl; exact rfl; exact rfl) | simp -implicitDefEqProofs only [go_sem, Int.reduceEq, Int.reduceLT, Int.reduceLE, Nat.reduceAdd, Nat.reduceSub, Nat.reduceMul, Nat.reduceEqDiff, Nat.reduceLeDiff, Nat.reducePow, ↓reduceIte, reduceCtorEq, List.length_map])) | ((with_reducible apply xaw); (first | ((with_reducible apply xstepS); refine AW.step tok rfl ?_) | ((with_reducible apply xstep); refine AW.region tok rfl ?_) | with_reducible (first | refine AW.seq ?_ | refine AW.block ?_ | refine AW.skip ?_ | refine AW.ret ?_ | refine AW.exit ?_) | ((with_reducible apply xcond); exact rfl))) | with_reducible (first | refine xthen ?_ | refine xthen_r ?_ | refine xthen_e ?_ | refine xblock ?_ | refine xblock_r ?_ | refine xblock_e ?_ | refine xblock_n rfl ?_ | refine xround_r ?_ | refine xround_e ?_) | (with_reducible intro hc; (try simp only [decide_eq_true_eq, decide_eq_false_iff_not, Bool.not_true, Bool.not_false, Bool.not_eq_true', Bool.not_eq_false', ne_eq, not_true, reduceCtorEq, List.length_map] at hc); (try (exfalso; omega))) | with_reducible (first | exact trivial | refine And.intro ?_ ?_ | exact rfl | exact Nat.le_refl _) | exact Eq.refl true | exact (rfl : (_ : List Nat) = _) | exact Nat.le_of_ble_eq_true rfl | (refine inR_i64.mpr ?_; first | omega | (simp only [List.length_map, List.length_map]; omega)) | omega)
        (refine xfinIs (by first | exact .inl rfl | exact .inr rfl) rfl (by repeat' (first | exact trivial | exact rfl | refine And.intro ?_ ?_)) rfl ?_ rfl; first | with_reducible exact rfl | (simp -implicitDefEqProofs only [go_sem, Int.reduceEq, Int.reduceLT, Int.reduceLE, Nat.reduceAdd, Nat.reduceSub, Nat.reduceMul, Nat.reduceEqDiff, Nat.reduceLeDiff, Nat.reducePow, ↓reduceIte, reduceCtorEq] <;> (first | rfl | omega | exact decide_eq_decide.2 (by omega) | exact decide_eq_false (by omega) | exact decide_eq_true (by omega) | (symm; first | exact decide_eq_false (by omega) | exact decide_eq_true (by omega)) | (rw [Bool.eq_iff_iff]; simp only [Bool.not_eq_true', Bool.not_eq_false', Bool.and_eq_true, Bool.or_eq_true, decide_eq_true_eq, decide_eq_false_iff_not, reduceCtorEq, true_iff, iff_true, false_iff, iff_false]; omega))))
  · have e : runDesk s lines = [] := by unfold runDesk; rw [if_neg h20]
    rw [e]
    refine ACon.introW tok (nt := 36) Tryz.func6 rfl rfl rfl (by kernel_rfl) rfl ?_
    repeat' (first | ((with_reducible apply xsim); (first | ((with_reducible apply xlenM); exact rfl; exact rfl) | ((with_reducible apply xo); exact rfl) | with_reducible apply xend | ((with_reducible apply xidxL); exact rfl; exact rfl; exact rfl; exact rfl; omega; first | exact rfl | simp only [hsz]) | ((with_reducible apply xidxM); exact rfl; exact rfl; exact rfl; omega; omega; exact rfl) | ((with_reducible apply xldA); exact rfl; exact rfl; exact rfl; exact rfl; exact rfl) | simp -implicitDefEqProofs only [go_sem, Int.reduceEq, Int.reduceLT, Int.reduceLE, Nat.reduceAdd, Nat.reduceSub, Nat.reduceMul, Nat.reduceEqDiff, Nat.reduceLeDiff, Nat.reducePow, ↓reduceIte, reduceCtorEq, List.length_map])) | ((with_reducible apply xaw); (first | ((with_reducible apply xstepS); refine AW.step tok rfl ?_) | ((with_reducible apply xstep); refine AW.region tok rfl ?_) | with_reducible (first | refine AW.seq ?_ | refine AW.block ?_ | refine AW.skip ?_ | refine AW.ret ?_ | refine AW.exit ?_) | ((with_reducible apply xcond); exact rfl))) | with_reducible (first | refine xthen ?_ | refine xthen_r ?_ | refine xthen_e ?_ | refine xblock ?_ | refine xblock_r ?_ | refine xblock_e ?_ | refine xblock_n rfl ?_ | refine xround_r ?_ | refine xround_e ?_) | (with_reducible intro hc; (try simp only [decide_eq_true_eq, decide_eq_false_iff_not, Bool.not_true, Bool.not_false, Bool.not_eq_true', Bool.not_eq_false', ne_eq, not_true, reduceCtorEq, List.length_map] at hc); (try (exfalso; omega))) | with_reducible (first | exact trivial | refine And.intro ?_ ?_ | exact rfl | exact Nat.le_refl _) | exact Eq.refl true | exact (rfl : (_ : List Nat) = _) | exact Nat.le_of_ble_eq_true rfl | (refine inR_i64.mpr ?_; first | omega | (simp only [List.length_map, List.length_map]; omega)) | omega)
    (refine xfinIs (by first | exact .inl rfl | exact .inr rfl) rfl (by repeat' (first | exact trivial | exact rfl | refine And.intro ?_ ?_)) rfl ?_ rfl; first | with_reducible exact rfl | (simp -implicitDefEqProofs only [go_sem, Int.reduceEq, Int.reduceLT, Int.reduceLE, Nat.reduceAdd, Nat.reduceSub, Nat.reduceMul, Nat.reduceEqDiff, Nat.reduceLeDiff, Nat.reducePow, ↓reduceIte, reduceCtorEq] <;> (first | rfl | omega | exact decide_eq_decide.2 (by omega) | exact decide_eq_false (by omega) | exact decide_eq_true (by omega) | (symm; first | exact decide_eq_false (by omega) | exact decide_eq_true (by omega)) | (rw [Bool.eq_iff_iff]; simp only [Bool.not_eq_true', Bool.not_eq_false', Bool.and_eq_true, Bool.or_eq_true, decide_eq_true_eq, decide_eq_false_iff_not, reduceCtorEq, true_iff, iff_true, false_iff, iff_false]; omega))))
end Go.Proofs.YtmjofbjglhdkjaaGreatDoor

namespace Go.Proofs.YtmjofbjglhdkjaaGreatDoor
open Go.Fw
attribute [local irreducible] Go.Fw.aops Go.Fw.arun

theorem tmod_bd {a m : Int} (ha : 0 ≤ a) (hm : 0 < m) : 0 ≤ a.tmod m ∧ a.tmod m < m := ⟨Int.tmod_nonneg m ha, Int.tmod_lt_of_pos a hm⟩
theorem tdiv_bd {a m : Int} (ha : 0 ≤ a) (hm : 0 < m) : 0 ≤ a.tdiv m ∧ a.tdiv m ≤ a := ⟨Int.tdiv_nonneg ha (Int.le_of_lt hm), Int.tdiv_le_self _ ha⟩

theorem xor_bd {a b : Int} (ha : 0 ≤ a ∧ a < 2^60) (hb : 0 ≤ b ∧ b < 2^60) : 0 ≤ ibits .xor .i64 a b := by
  obtain ⟨m, rfl⟩ := Int.eq_ofNat_of_zero_le ha.1
  obtain ⟨n, rfl⟩ := Int.eq_ofNat_of_zero_le hb.1
  have hm : m < 2^60 := by omega
  have hn : n < 2^60 := by omega
  have hx := Nat.xor_lt_two_pow hm hn
  have e : ((BitVec.ofInt 64 (m : Int)) ^^^ (BitVec.ofInt 64 (n : Int))).toNat = m ^^^ n := by
    rw [BitVec.toNat_xor]
    simp only [BitVec.ofInt_natCast, BitVec.toNat_ofNat]
    rw [Nat.mod_eq_of_lt (by omega), Nat.mod_eq_of_lt (by omega)]
  have hr : inR .i64 ((m ^^^ n : Nat) : Int) := inR_i64.mpr (by omega)
  show 0 ≤ IntKind.i64.wrap (((BitVec.ofInt 64 (m : Int)) ^^^ (BitVec.ofInt 64 (n : Int))).toNat : Int)
  rw [e]
  rw [show IntKind.i64.wrap ((m ^^^ n : Nat) : Int) = ((m ^^^ n : Nat) : Int) from hr]
  omega

theorem c_newReader (xs : List Byte) (hl : xs.length < 2^63) : ACon Tryz.prog 16 [.d (.lst (xs.map encByte))] [] (Own (.oref 0 0) [.box [.d (.lst ((xs.take 2000).map encByte)), .d (.int .i64 0)]]) := by
  refine ACon.introW tok (nt := 11) Tryz.func16 rfl rfl rfl (by kernel_rfl) rfl ?_
  repeat' (first | ((with_reducible apply xsim); (first | ((with_reducible apply xlenM); exact rfl; exact rfl) | ((with_reducible apply xo); exact rfl) | with_reducible apply xend | ((with_reducible apply xbox); exact rfl; simp only [backV, backVs, backVs_mapd, backId, backO, List.map_cons, List.map_nil, List.getElem?_nil, List.length_cons, List.length_nil, Nat.reduceAdd, Nat.reduceSub, List.cons_append, List.nil_append, List.append_nil]) | ((with_reducible apply xslcSLo); exact rfl; exact rfl; exact rfl; (first | omega | (simp only [List.length_append, List.length_cons, List.length_nil]; omega))) | ((with_reducible apply xslcSHi); exact rfl; exact rfl; exact rfl; (first | omega | (simp only [List.length_append, List.length_cons, List.length_nil]; omega))) | ((with_reducible apply xslcSB); exact rfl; exact rfl; exact rfl; exact rfl; (first | omega | (simp only [List.length_append, List.length_cons, List.length_nil]; omega))) | ((with_reducible apply xslcLo); exact rfl; exact rfl; exact rfl; exact (fun r hr => by obtain ⟨a, _, rfl⟩ := List.mem_map.1 hr; rfl); first | omega | (simp only [List.length_cons, List.length_nil]; omega)) | ((with_reducible apply xslcHi); exact rfl; exact rfl; exact rfl; exact (fun r hr => by obtain ⟨a, _, rfl⟩ := List.mem_map.1 hr; rfl); first | omega | (simp only [List.length_cons, List.length_nil]; omega)) | ((with_reducible apply xslcB); exact rfl; exact rfl; exact rfl; exact rfl; exact (fun r hr => by obtain ⟨a, _, rfl⟩ := List.mem_map.1 hr; rfl); first | omega | (simp only [List.length_cons, List.length_nil]; omega)) | ((with_reducible apply xslcMHi); exact rfl; exact rfl; exact rfl; (first | omega | (simp only [List.length_cons, List.length_nil]; omega))) | ((with_reducible apply xslcMLo); exact rfl; exact rfl; exact rfl; (first | omega | (simp only [List.length_cons, List.length_nil]; omega))) | ((with_reducible apply xslcMB); exact rfl; exact rfl; exact rfl; exact rfl; (first | omega | (simp only [List.length_cons, List.length_nil]; omega))) | simp -implicitDefEqProofs only [go_sem, Int.reduceEq, Int.reduceLT, Int.reduceLE, Nat.reduceAdd, Nat.reduceSub, Nat.reduceMul, Nat.reduceEqDiff, Nat.reduceLeDiff, Nat.reducePow, ↓reduceIte, reduceCtorEq])) | ((with_reducible apply xaw); (first | ((with_reducible apply xstepS); refine AW.step tok rfl ?_) | ((with_reducible apply xstep); refine AW.region tok rfl ?_) | with_reducible (first | refine AW.seq ?_ | refine AW.block ?_ | refine AW.skip ?_ | refine AW.ret ?_ | refine AW.exit ?_) | ((with_reducible apply xcond); exact rfl))) | with_reducible (first | refine xthen ?_ | refine xthen_r ?_ | refine xthen_e ?_ | refine xblock ?_ | refine xblock_r ?_ | refine xblock_e ?_ | refine xblock_n rfl ?_ | refine xround_r ?_ | refine xround_e ?_) | (with_reducible intro hc; (try simp only [decide_eq_true_eq, decide_eq_false_iff_not, Bool.not_true, Bool.not_false, Bool.not_eq_true', Bool.not_eq_false', ne_eq, not_true, reduceCtorEq] at hc); (try (exfalso; omega))) | with_reducible (first | exact trivial | refine And.intro ?_ ?_ | exact rfl | exact Nat.le_refl _) | exact Eq.refl true | exact (rfl : (_ : List Nat) = _) | exact Nat.le_of_ble_eq_true rfl | (refine inR_i64.mpr ?_; first | omega | (simp only [List.length_map]; omega)) | omega)
  · (refine xfinOwn [0] (by first | exact .inl rfl | exact .inr rfl) rfl (by repeat' (first | exact trivial | exact rfl | refine And.intro ?_ ?_)) (by decide) rfl ?_ ?_ <;> simp -implicitDefEqProofs only [go_sem, Int.reduceEq, Int.reduceLT, Int.reduceLE, Nat.reduceAdd, Nat.reduceSub, Nat.reduceMul, Nat.reduceEqDiff, Nat.reduceLeDiff, Nat.reducePow, ↓reduceIte, reduceCtorEq, Int.reduceToNat])
  · rw [List.take_of_length_le (by omega)]
    (refine xfinOwn [0] (by first | exact .inl rfl | exact .inr rfl) rfl (by repeat' (first | exact trivial | exact rfl | refine And.intro ?_ ?_)) (by decide) rfl ?_ ?_ <;> simp -implicitDefEqProofs only [go_sem, Int.reduceEq, Int.reduceLT, Int.reduceLE, Nat.reduceAdd, Nat.reduceSub, Nat.reduceMul, Nat.reduceEqDiff, Nat.reduceLeDiff, Nat.reducePow, ↓reduceIte, reduceCtorEq])

/-- A number that is drawn below n. -/
def Below (n : Int) (r : V) : Prop := ∃ v, r = .d (.int .i64 v) ∧ 0 ≤ v ∧ (1 ≤ n → v < n) ∧ (n < 1 → v = 0)

theorem c_pick (bs : List Byte) (p n : Int) (hb : bs.length ≤ 2000) (hp : 0 ≤ p ∧ p < 2^40) (hn : n < 2^40) :
    ACon Tryz.prog 18 [.oref 0 0, .d (.int .i64 n)] [.box [.d (.lst (bs.map encByte)), .d (.int .i64 p)]] (Rd (.lst (bs.map encByte)) (p + 1) (p + 1) (Below n)) := by
  by_cases h1 : n < 1
  · refine ACon.introW tok (nt := 99) Tryz.func18 rfl rfl rfl (by kernel_rfl) rfl ?_
    repeat' (first | ((with_reducible apply xsim); (first | ((with_reducible apply xlenM); exact rfl; exact rfl) | ((with_reducible apply xo); exact rfl) | ((with_reducible apply xst); exact rfl) | with_reducible apply xend | ((with_reducible apply xguardTS); exact rfl; exact rfl) | ((with_reducible apply xguardS); exact rfl; exact rfl) | ((with_reducible apply xidxL); exact rfl; exact rfl; exact rfl; exact rfl; omega; first | exact rfl | simp only [hsz]) | ((with_reducible apply xidxM); exact rfl; exact rfl; exact rfl; omega; omega; exact rfl) | ((with_reducible apply xldA); exact rfl; exact rfl; exact rfl; exact rfl; exact rfl) | ((with_reducible apply xstA); exact rfl; exact rfl; exact rfl; exact rfl; exact rfl; exact rfl; exact rfl; exact rfl; exact rfl; (try simp only [List.set_cons_zero, List.set_cons_succ])) | simp -implicitDefEqProofs only [go_sem, Int.reduceEq, Int.reduceLT, Int.reduceLE, Nat.reduceAdd, Nat.reduceSub, Nat.reduceMul, Nat.reduceEqDiff, Nat.reduceLeDiff, Nat.reducePow, ↓reduceIte, reduceCtorEq])) | ((with_reducible apply xaw); (first | ((with_reducible apply xstepS); refine AW.step tok rfl ?_) | ((with_reducible apply xstep); refine AW.region tok rfl ?_) | with_reducible (first | refine AW.seq ?_ | refine AW.block ?_ | refine AW.skip ?_ | refine AW.ret ?_ | refine AW.exit ?_) | ((with_reducible apply xcond); exact rfl) | ((with_reducible apply xdrawS (id := 7)); refine AW.drawS (id := 7) (.q 0 (.q 1 (.q 2 (.q 3 (.q 4 (.q 5 (.q 6 (.q 7 (.q 8 (.q 9 (.q 10 (.q 11 (.q 12 (.q 13 (.q 14 (.q 15 (.q 16 (.q 17 (.q 18 (.q 19 (.q 20 (.q 21 (.q 22 (.q 23 (.q 24 (.q 25 (.q 26 (.q 27 (.q 28 (.q 29 (.q 30 (.q 31 (.q 32 (.q 33 (.q 34 (.q 35 (.q 36 (.q 37 (.q 38 (.q 39 (.q 40 (.q 41 (.q 42 (.q 43 (.q 44 (.q 45 (.fin))))))))))))))))))))))))))))))))))))))))))))))) tok (by kernel_rfl) rfl (by kernel_rfl) ?_) | ((with_reducible apply xdraw (id := 7)); refine AW.draw (id := 7) (.q 0 (.q 1 (.q 2 (.q 3 (.q 4 (.q 5 (.q 6 (.q 7 (.q 8 (.q 9 (.q 10 (.q 11 (.q 12 (.q 13 (.q 14 (.q 15 (.q 16 (.q 17 (.q 18 (.q 19 (.q 20 (.q 21 (.q 22 (.q 23 (.q 24 (.q 25 (.q 26 (.q 27 (.q 28 (.q 29 (.q 30 (.q 31 (.q 32 (.q 33 (.q 34 (.q 35 (.q 36 (.q 37 (.q 38 (.q 39 (.q 40 (.q 41 (.q 42 (.q 43 (.q 44 (.q 45 (.fin))))))))))))))))))))))))))))))))))))))))))))))) tok (by kernel_rfl) rfl (by kernel_rfl) ?_))) | ((with_reducible apply xarun); (first | ((with_reducible apply xrun_q); exact rfl; exact rfl; exact rfl) | ((with_reducible apply xrun_e); exact rfl) | with_reducible apply xrun_f)) | with_reducible (first | refine xthen ?_ | refine xthen_r ?_ | refine xthen_e ?_ | refine xblock ?_ | refine xblock_r ?_ | refine xblock_e ?_ | refine xblock_n rfl ?_ | refine xround_r ?_ | refine xround_e ?_) | (with_reducible intro hc; (try simp only [decide_eq_true_eq, decide_eq_false_iff_not, Bool.not_true, Bool.not_false, Bool.not_eq_true', Bool.not_eq_false', ne_eq, not_true, reduceCtorEq] at hc); (try (exfalso; omega))) | with_reducible (first | exact trivial | refine And.intro ?_ ?_ | exact rfl | exact Nat.le_refl _) | exact Eq.refl true | exact (rfl : (_ : List Nat) = _) | exact Nat.le_of_ble_eq_true rfl | (refine inR_i64.mpr ?_; first | omega | (simp only [List.length_map]; omega)) | omega)
    exact xfinRd (.inr rfl) rfl trivial rfl (by omega) (by omega) ⟨0, rfl, by omega, by omega, by omega⟩
  by_cases h0 : bs.length = 0
  · refine ACon.introW tok (nt := 99) Tryz.func18 rfl rfl rfl (by kernel_rfl) rfl ?_
    repeat' (first | ((with_reducible apply xsim); (first | ((with_reducible apply xlenM); exact rfl; exact rfl) | ((with_reducible apply xo); exact rfl) | ((with_reducible apply xst); exact rfl) | with_reducible apply xend | ((with_reducible apply xguardTS); exact rfl; exact rfl) | ((with_reducible apply xguardS); exact rfl; exact rfl) | ((with_reducible apply xidxL); exact rfl; exact rfl; exact rfl; exact rfl; omega; first | exact rfl | simp only [hsz]) | ((with_reducible apply xidxM); exact rfl; exact rfl; exact rfl; omega; omega; exact rfl) | ((with_reducible apply xldA); exact rfl; exact rfl; exact rfl; exact rfl; exact rfl) | ((with_reducible apply xstA); exact rfl; exact rfl; exact rfl; exact rfl; exact rfl; exact rfl; exact rfl; exact rfl; exact rfl; (try simp only [List.set_cons_zero, List.set_cons_succ])) | simp -implicitDefEqProofs only [go_sem, Int.reduceEq, Int.reduceLT, Int.reduceLE, Nat.reduceAdd, Nat.reduceSub, Nat.reduceMul, Nat.reduceEqDiff, Nat.reduceLeDiff, Nat.reducePow, ↓reduceIte, reduceCtorEq])) | ((with_reducible apply xaw); (first | ((with_reducible apply xstepS); refine AW.step tok rfl ?_) | ((with_reducible apply xstep); refine AW.region tok rfl ?_) | with_reducible (first | refine AW.seq ?_ | refine AW.block ?_ | refine AW.skip ?_ | refine AW.ret ?_ | refine AW.exit ?_) | ((with_reducible apply xcond); exact rfl) | ((with_reducible apply xdrawS (id := 7)); refine AW.drawS (id := 7) (.q 0 (.q 1 (.q 2 (.q 3 (.q 4 (.q 5 (.q 6 (.q 7 (.q 8 (.q 9 (.q 10 (.q 11 (.q 12 (.q 13 (.q 14 (.q 15 (.q 16 (.q 17 (.q 18 (.q 19 (.q 20 (.q 21 (.q 22 (.q 23 (.q 24 (.q 25 (.q 26 (.q 27 (.q 28 (.q 29 (.q 30 (.q 31 (.q 32 (.q 33 (.q 34 (.q 35 (.q 36 (.q 37 (.q 38 (.q 39 (.q 40 (.q 41 (.q 42 (.q 43 (.q 44 (.q 45 (.fin))))))))))))))))))))))))))))))))))))))))))))))) tok (by kernel_rfl) rfl (by kernel_rfl) ?_) | ((with_reducible apply xdraw (id := 7)); refine AW.draw (id := 7) (.q 0 (.q 1 (.q 2 (.q 3 (.q 4 (.q 5 (.q 6 (.q 7 (.q 8 (.q 9 (.q 10 (.q 11 (.q 12 (.q 13 (.q 14 (.q 15 (.q 16 (.q 17 (.q 18 (.q 19 (.q 20 (.q 21 (.q 22 (.q 23 (.q 24 (.q 25 (.q 26 (.q 27 (.q 28 (.q 29 (.q 30 (.q 31 (.q 32 (.q 33 (.q 34 (.q 35 (.q 36 (.q 37 (.q 38 (.q 39 (.q 40 (.q 41 (.q 42 (.q 43 (.q 44 (.q 45 (.fin))))))))))))))))))))))))))))))))))))))))))))))) tok (by kernel_rfl) rfl (by kernel_rfl) ?_))) | ((with_reducible apply xarun); (first | ((with_reducible apply xrun_q); exact rfl; exact rfl; exact rfl) | ((with_reducible apply xrun_e); exact rfl) | with_reducible apply xrun_f)) | with_reducible (first | refine xthen ?_ | refine xthen_r ?_ | refine xthen_e ?_ | refine xblock ?_ | refine xblock_r ?_ | refine xblock_e ?_ | refine xblock_n rfl ?_ | refine xround_r ?_ | refine xround_e ?_) | (with_reducible intro hc; (try simp only [decide_eq_true_eq, decide_eq_false_iff_not, Bool.not_true, Bool.not_false, Bool.not_eq_true', Bool.not_eq_false', ne_eq, not_true, reduceCtorEq] at hc); (try (exfalso; omega))) | with_reducible (first | exact trivial | refine And.intro ?_ ?_ | exact rfl | exact Nat.le_refl _) | exact Eq.refl true | exact (rfl : (_ : List Nat) = _) | exact Nat.le_of_ble_eq_true rfl | (refine inR_i64.mpr ?_; first | omega | (simp only [List.length_map]; omega)) | omega)
    all_goals exact xfinRd (.inr rfl) rfl trivial rfl (by omega) (by omega) ⟨0, rfl, by omega, by omega, by omega⟩
  have hpos : (0 : Int) < bs.length := by omega
  have m1 := tmod_bd (a := p + 1 - 1) (by omega) hpos
  have m2 := tmod_bd (a := (p + 1 - 1) * 7 + 3) (by omega) hpos
  have b1 := (bs[((p + 1 - 1).tmod bs.length).toNat]'(by omega)).h
  have b2 := (bs[(((p + 1 - 1) * 7 + 3).tmod bs.length).toNat]'(by omega)).h
  have d1 := tdiv_bd (a := p + 1 - 1) (by omega) hpos
  by_cases h2 : p + 1 - 1 < bs.length
  · have b3 := (bs[(p + 1 - 1).toNat]'(by omega)).h
    have m3 := tmod_bd (m := n) b3.1 (by omega)
    refine ACon.introW tok (nt := 99) Tryz.func18 rfl rfl rfl (by kernel_rfl) rfl ?_
    repeat' (first | ((with_reducible apply xsim); (first | ((with_reducible apply xlenM); exact rfl; exact rfl) | ((with_reducible apply xo); exact rfl) | ((with_reducible apply xst); exact rfl) | with_reducible apply xend | ((with_reducible apply xguardTS); exact rfl; exact rfl) | ((with_reducible apply xguardS); exact rfl; exact rfl) | ((with_reducible apply xidxL); exact rfl; exact rfl; exact rfl; (first | exact (atI (by omega))); omega; first | exact rfl | simp only [hsz]) | ((with_reducible apply xidxM); exact rfl; exact rfl; exact rfl; omega; omega; exact rfl) | ((with_reducible apply xldA); exact rfl; exact rfl; exact rfl; (first | exact (atI (by omega))); exact rfl) | ((with_reducible apply xstA); exact rfl; exact rfl; exact rfl; exact rfl; (first | exact (atI (by omega))); exact rfl; exact rfl; exact rfl; exact rfl; (try simp only [List.set_cons_zero, List.set_cons_succ])) | simp -implicitDefEqProofs only [go_sem, Int.reduceEq, Int.reduceLT, Int.reduceLE, Nat.reduceAdd, Nat.reduceSub, Nat.reduceMul, Nat.reduceEqDiff, Nat.reduceLeDiff, Nat.reducePow, ↓reduceIte, reduceCtorEq])) | ((with_reducible apply xaw); (first | ((with_reducible apply xstepS); refine AW.step tok rfl ?_) | ((with_reducible apply xstep); refine AW.region tok rfl ?_) | with_reducible (first | refine AW.seq ?_ | refine AW.block ?_ | refine AW.skip ?_ | refine AW.ret ?_ | refine AW.exit ?_) | ((with_reducible apply xcond); exact rfl) | ((with_reducible apply xdrawS (id := 7)); refine AW.drawS (id := 7) (.q 0 (.q 1 (.q 2 (.q 3 (.q 4 (.q 5 (.q 6 (.q 7 (.q 8 (.q 9 (.q 10 (.q 11 (.q 12 (.q 13 (.q 14 (.q 15 (.q 16 (.q 17 (.q 18 (.q 19 (.q 20 (.q 21 (.q 22 (.q 23 (.q 24 (.q 25 (.q 26 (.q 27 (.q 28 (.q 29 (.q 30 (.q 31 (.q 32 (.q 33 (.q 34 (.q 35 (.q 36 (.q 37 (.q 38 (.q 39 (.q 40 (.q 41 (.q 42 (.q 43 (.q 44 (.q 45 (.fin))))))))))))))))))))))))))))))))))))))))))))))) tok (by kernel_rfl) rfl (by kernel_rfl) ?_) | ((with_reducible apply xdraw (id := 7)); refine AW.draw (id := 7) (.q 0 (.q 1 (.q 2 (.q 3 (.q 4 (.q 5 (.q 6 (.q 7 (.q 8 (.q 9 (.q 10 (.q 11 (.q 12 (.q 13 (.q 14 (.q 15 (.q 16 (.q 17 (.q 18 (.q 19 (.q 20 (.q 21 (.q 22 (.q 23 (.q 24 (.q 25 (.q 26 (.q 27 (.q 28 (.q 29 (.q 30 (.q 31 (.q 32 (.q 33 (.q 34 (.q 35 (.q 36 (.q 37 (.q 38 (.q 39 (.q 40 (.q 41 (.q 42 (.q 43 (.q 44 (.q 45 (.fin))))))))))))))))))))))))))))))))))))))))))))))) tok (by kernel_rfl) rfl (by kernel_rfl) ?_))) | ((with_reducible apply xarun); (first | ((with_reducible apply xrun_q); exact rfl; exact rfl; exact rfl) | ((with_reducible apply xrun_e); exact rfl) | with_reducible apply xrun_f)) | with_reducible (first | refine xthen ?_ | refine xthen_r ?_ | refine xthen_e ?_ | refine xblock ?_ | refine xblock_r ?_ | refine xblock_e ?_ | refine xblock_n rfl ?_ | refine xround_r ?_ | refine xround_e ?_) | (with_reducible intro hc; (try simp only [decide_eq_true_eq, decide_eq_false_iff_not, Bool.not_true, Bool.not_false, Bool.not_eq_true', Bool.not_eq_false', ne_eq, not_true, reduceCtorEq] at hc); (try (exfalso; omega))) | with_reducible (first | exact trivial | refine And.intro ?_ ?_ | exact rfl | exact Nat.le_refl _) | exact Eq.refl true | exact (rfl : (_ : List Nat) = _) | exact Nat.le_of_ble_eq_true rfl | (refine inR_i64.mpr ?_; first | omega | (simp only [List.length_map]; omega)) | omega)
    all_goals exact xfinRd (.inr rfl) rfl trivial rfl (by omega) (by omega) ⟨_, rfl, m3.1, fun _ => m3.2, by omega⟩
  · have d2 := tdiv_bd (a := (bs[((p + 1 - 1).tmod bs.length).toNat]'(by omega)).v * 131 + (bs[(((p + 1 - 1) * 7 + 3).tmod bs.length).toNat]'(by omega)).v * 1117 + (p + 1 - 1) * 29 + (p + 1 - 1).tdiv bs.length * 53) (m := 64) (by omega) (by omega)
    have x1 := xor_bd (a := (bs[((p + 1 - 1).tmod bs.length).toNat]'(by omega)).v * 131 + (bs[(((p + 1 - 1) * 7 + 3).tmod bs.length).toNat]'(by omega)).v * 1117 + (p + 1 - 1) * 29 + (p + 1 - 1).tdiv bs.length * 53) (b := ((bs[((p + 1 - 1).tmod bs.length).toNat]'(by omega)).v * 131 + (bs[(((p + 1 - 1) * 7 + 3).tmod bs.length).toNat]'(by omega)).v * 1117 + (p + 1 - 1) * 29 + (p + 1 - 1).tdiv bs.length * 53).tdiv 64) (by omega) (by omega)
    have m3 := tmod_bd (m := n) x1 (by omega)
    refine ACon.introW tok (nt := 99) Tryz.func18 rfl rfl rfl (by kernel_rfl) rfl ?_
    repeat' (first | ((with_reducible apply xsim); (first | ((with_reducible apply xlenM); exact rfl; exact rfl) | ((with_reducible apply xo); exact rfl) | ((with_reducible apply xst); exact rfl) | with_reducible apply xend | ((with_reducible apply xguardTS); exact rfl; exact rfl) | ((with_reducible apply xguardS); exact rfl; exact rfl) | ((with_reducible apply xidxL); exact rfl; exact rfl; exact rfl; (first | exact (atI (by omega))); omega; first | exact rfl | simp only [hsz]) | ((with_reducible apply xidxM); exact rfl; exact rfl; exact rfl; omega; omega; exact rfl) | ((with_reducible apply xldA); exact rfl; exact rfl; exact rfl; (first | exact (atI (by omega))); exact rfl) | ((with_reducible apply xstA); exact rfl; exact rfl; exact rfl; exact rfl; (first | exact (atI (by omega))); exact rfl; exact rfl; exact rfl; exact rfl; (try simp only [List.set_cons_zero, List.set_cons_succ])) | simp -implicitDefEqProofs only [go_sem, Int.reduceEq, Int.reduceLT, Int.reduceLE, Nat.reduceAdd, Nat.reduceSub, Nat.reduceMul, Nat.reduceEqDiff, Nat.reduceLeDiff, Nat.reducePow, ↓reduceIte, reduceCtorEq])) | ((with_reducible apply xaw); (first | ((with_reducible apply xstepS); refine AW.step tok rfl ?_) | ((with_reducible apply xstep); refine AW.region tok rfl ?_) | with_reducible (first | refine AW.seq ?_ | refine AW.block ?_ | refine AW.skip ?_ | refine AW.ret ?_ | refine AW.exit ?_) | ((with_reducible apply xcond); exact rfl) | ((with_reducible apply xdrawS (id := 7)); refine AW.drawS (id := 7) (.q 0 (.q 1 (.q 2 (.q 3 (.q 4 (.q 5 (.q 6 (.q 7 (.q 8 (.q 9 (.q 10 (.q 11 (.q 12 (.q 13 (.q 14 (.q 15 (.q 16 (.q 17 (.q 18 (.q 19 (.q 20 (.q 21 (.q 22 (.q 23 (.q 24 (.q 25 (.q 26 (.q 27 (.q 28 (.q 29 (.q 30 (.q 31 (.q 32 (.q 33 (.q 34 (.q 35 (.q 36 (.q 37 (.q 38 (.q 39 (.q 40 (.q 41 (.q 42 (.q 43 (.q 44 (.q 45 (.fin))))))))))))))))))))))))))))))))))))))))))))))) tok (by kernel_rfl) rfl (by kernel_rfl) ?_) | ((with_reducible apply xdraw (id := 7)); refine AW.draw (id := 7) (.q 0 (.q 1 (.q 2 (.q 3 (.q 4 (.q 5 (.q 6 (.q 7 (.q 8 (.q 9 (.q 10 (.q 11 (.q 12 (.q 13 (.q 14 (.q 15 (.q 16 (.q 17 (.q 18 (.q 19 (.q 20 (.q 21 (.q 22 (.q 23 (.q 24 (.q 25 (.q 26 (.q 27 (.q 28 (.q 29 (.q 30 (.q 31 (.q 32 (.q 33 (.q 34 (.q 35 (.q 36 (.q 37 (.q 38 (.q 39 (.q 40 (.q 41 (.q 42 (.q 43 (.q 44 (.q 45 (.fin))))))))))))))))))))))))))))))))))))))))))))))) tok (by kernel_rfl) rfl (by kernel_rfl) ?_))) | ((with_reducible apply xarun); (first | ((with_reducible apply xrun_q); exact rfl; exact rfl; exact rfl) | ((with_reducible apply xrun_e); exact rfl) | with_reducible apply xrun_f)) | with_reducible (first | refine xthen ?_ | refine xthen_r ?_ | refine xthen_e ?_ | refine xblock ?_ | refine xblock_r ?_ | refine xblock_e ?_ | refine xblock_n rfl ?_ | refine xround_r ?_ | refine xround_e ?_) | (with_reducible intro hc; (try simp only [decide_eq_true_eq, decide_eq_false_iff_not, Bool.not_true, Bool.not_false, Bool.not_eq_true', Bool.not_eq_false', ne_eq, not_true, reduceCtorEq] at hc); (try (exfalso; omega))) | with_reducible (first | exact trivial | refine And.intro ?_ ?_ | exact rfl | exact Nat.le_refl _) | exact Eq.refl true | exact (rfl : (_ : List Nat) = _) | exact Nat.le_of_ble_eq_true rfl | (refine inR_i64.mpr ?_; first | omega | (simp only [List.length_map]; omega)) | omega)
    all_goals exact xfinRd (.inr rfl) rfl trivial rfl (by omega) (by omega) ⟨_, rfl, m3.1, fun _ => m3.2, by omega⟩

/-- One of the numbers. -/
def OneOf (zs : List Int) (r : V) : Prop := ∃ v, r = .d (.int .i64 v) ∧ v ∈ zs

theorem c_one {zs : List Int} {rows : List (List D)} {bs : List Byte} {p : Int} {len : Nat} (hz : unInts rows some none = some zs) (hlen : Nat.beq len zs.length = true) (hb : bs.length ≤ 2000) (hp : 0 ≤ p ∧ p < 2^40) (hn : Nat.ble 1 zs.length = true) (hs : Nat.ble zs.length 100 = true) :
    ACon Tryz.prog 20 [.oref 0 0, .msl 1 1 0 len] [.box [.d (.lst (bs.map encByte)), .d (.int .i64 p)], .arr 1 rows] (Rd2 (.lst (bs.map encByte)) (p + 1) (p + 1) (OneOf zs)) := by
  have hn := Nat.le_of_ble_eq_true hn
  have hs := Nat.le_of_ble_eq_true hs
  obtain rfl := Nat.eq_of_beq_eq_true hlen
  obtain rfl := unInts_some hz
  refine ACon.introW tok (nt := 12) Tryz.func20 rfl rfl rfl (by kernel_rfl) rfl ?_
  repeat' (first | ((with_reducible apply xsim); (first | ((with_reducible apply xlenM); exact rfl; exact rfl) | ((with_reducible apply xo); exact rfl) | with_reducible apply xend | ((with_reducible apply xidxL); exact rfl; exact rfl; exact rfl; (first | exact (atI (by omega))); omega; first | exact rfl | simp only [hsz]) | ((with_reducible apply xidxM); exact rfl; exact rfl; exact rfl; omega; omega; exact rfl) | ((with_reducible apply xldA); exact rfl; exact rfl; exact rfl; (first | exact (atI (by omega))); exact rfl) | ((with_reducible apply xcallRd); exact rfl; exact rfl; exact rfl; exact c_pick bs p zs.length hb hp (by omega); rintro _ p' _ _ ⟨v, rfl, h1, h2, h3⟩; (try simp only [List.set_cons_zero, List.set_cons_succ])) | simp -implicitDefEqProofs only [go_sem, Int.reduceEq, Int.reduceLT, Int.reduceLE, Nat.reduceAdd, Nat.reduceSub, Nat.reduceMul, Nat.reduceEqDiff, Nat.reduceLeDiff, Nat.reducePow, ↓reduceIte, reduceCtorEq])) | ((with_reducible apply xaw); (first | ((with_reducible apply xstepS); refine AW.step tok rfl ?_) | ((with_reducible apply xstep); refine AW.region tok rfl ?_) | with_reducible (first | refine AW.seq ?_ | refine AW.block ?_ | refine AW.skip ?_ | refine AW.ret ?_ | refine AW.exit ?_) | ((with_reducible apply xcond); exact rfl))) | with_reducible (first | refine xthen ?_ | refine xthen_r ?_ | refine xthen_e ?_ | refine xblock ?_ | refine xblock_r ?_ | refine xblock_e ?_ | refine xblock_n rfl ?_ | refine xround_r ?_ | refine xround_e ?_) | (with_reducible intro hc; (try simp only [decide_eq_true_eq, decide_eq_false_iff_not, Bool.not_true, Bool.not_false, Bool.not_eq_true', Bool.not_eq_false', ne_eq, not_true, reduceCtorEq] at hc); (try (exfalso; omega))) | with_reducible (first | exact trivial | refine And.intro ?_ ?_ | exact rfl | exact Nat.le_refl _) | exact Eq.refl true | exact (rfl : (_ : List Nat) = _) | exact Nat.le_of_ble_eq_true rfl | (refine inR_i64.mpr ?_; first | omega | (simp only [List.length_map]; omega)) | omega)
  exact xfinRd2 (.inr rfl) rfl trivial rfl (by omega) (by omega) ⟨_, rfl, List.getElem_mem _⟩

end Go.Proofs.YtmjofbjglhdkjaaGreatDoor

namespace Go.Proofs.YtmjofbjglhdkjaaGreatDoor
open Go.Fw
attribute [local irreducible] Go.Fw.aops Go.Fw.arun

/-! Texts that are drawn. -/
def unStrs {β : Type} : List (List D) → (List (List UInt8) → β) → β → β
  | [], k, _ => k []
  | [.str s] :: r, k, z => unStrs r (fun ns => k (s :: ns)) z
  | _, _, z => z
theorem unStrs_some : ∀ {rows : List (List D)} {zs : List (List UInt8)}, unStrs rows some none = some zs → rows = zs.map encStr := by
  have key : ∀ (rows : List (List D)) (k : List (List UInt8) → Option (List (List UInt8))) (zs : List (List UInt8)), unStrs rows k none = some zs → ∃ ns, rows = ns.map encStr ∧ k ns = some zs := by
    intro rows
    induction rows with
    | nil => intro k zs h; exact ⟨[], rfl, h⟩
    | cons r rows ih =>
      intro k zs h
      by_cases hr : ∃ n, r = [.str n]
      · obtain ⟨n, rfl⟩ := hr
        obtain ⟨ns, h1, h2⟩ := ih (fun ns => k (n :: ns)) zs h
        exact ⟨n :: ns, by rw [h1]; rfl, h2⟩
      · have : unStrs (r :: rows) k none = none := by
          unfold unStrs
          split
          · rename_i hh; cases hh
          · rename_i hh; exact absurd ⟨_, (List.cons.inj hh).1⟩ hr
          · rfl
        rw [this] at h
        cases h
  intro rows zs h
  obtain ⟨ns, h1, h2⟩ := key rows some zs h
  cases h2
  exact h1
def AStr (n : Nat) (r : V) : Prop := ∃ t, r = .d (.str t) ∧ t.length ≤ n
theorem c_ofStr {zs : List (List UInt8)} {rows : List (List D)} {bs : List Byte} {p : Int} {len : Nat} (hz : unStrs rows some none = some zs) (hlen : Nat.beq len zs.length = true) (hsm : (zs.all fun v => Nat.ble v.length 20) = true) (hb : bs.length ≤ 2000) (hp : 0 ≤ p ∧ p < 2^40) (hn : Nat.ble 1 zs.length = true) (hs : Nat.ble zs.length 100 = true) :
    ACon Tryz.prog 21 [.oref 0 0, .msl 1 1 0 len] [.box [.d (.lst (bs.map encByte)), .d (.int .i64 p)], .arr 1 rows] (Rd2 (.lst (bs.map encByte)) (p + 1) (p + 1) (AStr 20)) := by
  have hn := Nat.le_of_ble_eq_true hn
  have hs := Nat.le_of_ble_eq_true hs
  obtain rfl := Nat.eq_of_beq_eq_true hlen
  obtain rfl := unStrs_some hz
  refine ACon.introW tok (nt := 12) Tryz.func21 rfl rfl rfl (by kernel_rfl) rfl ?_
  repeat' (first | ((with_reducible apply xsim); (first | ((with_reducible apply xlenM); exact rfl; exact rfl) | ((with_reducible apply xo); exact rfl) | with_reducible apply xend | ((with_reducible apply xidxL); exact rfl; exact rfl; exact rfl; (first | exact (atI (by omega))); omega; first | exact rfl | simp only [hsz]) | ((with_reducible apply xidxM); exact rfl; exact rfl; exact rfl; omega; omega; exact rfl) | ((with_reducible apply xldA); exact rfl; exact rfl; exact rfl; (first | exact (atI (by omega))); exact rfl) | ((with_reducible apply xcallRd); exact rfl; exact rfl; exact rfl; exact c_pick bs p zs.length hb hp (by omega); rintro _ p' _ _ ⟨v, rfl, h1, h2, h3⟩; (try simp only [List.set_cons_zero, List.set_cons_succ])) | simp -implicitDefEqProofs only [go_sem, Int.reduceEq, Int.reduceLT, Int.reduceLE, Nat.reduceAdd, Nat.reduceSub, Nat.reduceMul, Nat.reduceEqDiff, Nat.reduceLeDiff, Nat.reducePow, ↓reduceIte, reduceCtorEq])) | ((with_reducible apply xaw); (first | ((with_reducible apply xstepS); refine AW.step tok rfl ?_) | ((with_reducible apply xstep); refine AW.region tok rfl ?_) | with_reducible (first | refine AW.seq ?_ | refine AW.block ?_ | refine AW.skip ?_ | refine AW.ret ?_ | refine AW.exit ?_) | ((with_reducible apply xcond); exact rfl))) | with_reducible (first | refine xthen ?_ | refine xthen_r ?_ | refine xthen_e ?_ | refine xblock ?_ | refine xblock_r ?_ | refine xblock_e ?_ | refine xblock_n rfl ?_ | refine xround_r ?_ | refine xround_e ?_) | (with_reducible intro hc; (try simp only [decide_eq_true_eq, decide_eq_false_iff_not, Bool.not_true, Bool.not_false, Bool.not_eq_true', Bool.not_eq_false', ne_eq, not_true, reduceCtorEq] at hc); (try (exfalso; omega))) | with_reducible (first | exact trivial | refine And.intro ?_ ?_ | exact rfl | exact Nat.le_refl _) | exact Eq.refl true | exact (rfl : (_ : List Nat) = _) | exact Nat.le_of_ble_eq_true rfl | (refine inR_i64.mpr ?_; first | omega | (simp only [List.length_map]; omega)) | omega)
  exact xfinRd2 (.inr rfl) rfl trivial rfl (by omega) (by omega) ⟨_, rfl, Nat.le_of_ble_eq_true (List.all_eq_true.1 hsm _ (List.getElem_mem _))⟩
theorem memB {zs : List Int} {v lo hi : Int} (h : v ∈ zs) (hz : ∀ z ∈ zs, lo ≤ z ∧ z ≤ hi) : lo ≤ v ∧ v ≤ hi := hz v h
def GPack (r : V) : Prop := ∃ p : Pack, validPack p = true ∧ r = vPack p
theorem gpack (a b c : Int) (d e f : Bool) (g h i : Int) (h1 : 0 ≤ a ∧ a ≤ 30) (h2 : 0 ≤ b ∧ b ≤ 30) (h3 : 0 ≤ c ∧ c ≤ 3) (h4 : 0 ≤ g ∧ g ≤ 8) (h5 : 0 ≤ h ∧ h ≤ 10) (h6 : 0 ≤ i ∧ i ≤ 10) : GPack (.agg [.d (.int .i64 a), .d (.int .i64 b), .d (.int .i64 c), .d (.bool d), .d (.bool e), .d (.bool f), .d (.int .i64 g), .d (.int .i64 h), .d (.int .i64 i)]) :=
  ⟨⟨a, b, c, d, e, f, g, h, i⟩, validPack_iff.2 ⟨h1.1, h1.2, h2.1, h2.2, h3.1, h3.2, h4.1, h4.2, h5.1, h5.2, h6⟩, rfl⟩
theorem c_goodPackV (bs : List Byte) (p : Int) (hb : bs.length ≤ 2000) (hp : 0 ≤ p ∧ p < 2^30) :
    ACon Tryz.prog 45 [.oref 0 0] [.box [.d (.lst (bs.map encByte)), .d (.int .i64 p)]] (Rd (.lst (bs.map encByte)) p (p + 20) GPack) := by
  refine ACon.introW tok (nt := 44) Tryz.func45 rfl rfl rfl (by kernel_rfl) rfl ?_
  repeat' (first | ((with_reducible apply xsim); (first | ((with_reducible apply xbld); exact rfl; exact rfl; exact rfl; (try simp only [List.set_cons_zero, List.set_cons_succ])) | ((with_reducible apply xo); exact rfl) | ((with_reducible apply xst); exact rfl) | with_reducible apply xend | ((with_reducible apply xalloc); exact rfl; simp only [backV, backVs, backVs_mapd, backId, backO, List.map_cons, List.map_nil, List.getElem?_nil, List.length_cons, List.length_nil, Nat.reduceAdd, Nat.reduceSub, List.cons_append, List.nil_append, List.append_nil]) | ((with_reducible apply xbuild); exact rfl; exact rfl; exact rfl; exact rfl; exact rfl; simp only [backV, backVs, backVs_mapd, backId, backO, List.map_cons, List.map_nil, List.getElem?_nil, List.length_cons, List.length_nil, Nat.reduceAdd, Nat.reduceSub, List.cons_append, List.nil_append, List.append_nil]) | ((with_reducible apply xcallRd); exact rfl; exact rfl; exact rfl; exact c_pick bs _ _ hb (by omega) (by omega); rintro _ p' _ _ ⟨v, rfl, h1, h2, h3⟩; (try simp only [List.set_cons_zero, List.set_cons_succ])) | ((with_reducible apply xcallOne); exact rfl; exact rfl; exact rfl; exact rfl; exact c_one rfl rfl hb (by omega) rfl rfl; rintro _ p' _ _ ⟨v, rfl, h1⟩; (try simp only [List.set_cons_zero, List.set_cons_succ])) | simp -implicitDefEqProofs only [go_sem, Int.reduceEq, Int.reduceLT, Int.reduceLE, Nat.reduceAdd, Nat.reduceSub, Nat.reduceMul, Nat.reduceEqDiff, Nat.reduceLeDiff, Nat.reducePow, ↓reduceIte, reduceCtorEq])) | ((with_reducible apply xaw); (first | ((with_reducible apply xstepS); refine AW.step tok rfl ?_) | ((with_reducible apply xstep); refine AW.region tok rfl ?_) | with_reducible (first | refine AW.seq ?_ | refine AW.block ?_ | refine AW.skip ?_ | refine AW.ret ?_ | refine AW.exit ?_) | ((with_reducible apply xcond); exact rfl))) | with_reducible (first | refine xthen ?_ | refine xthen_r ?_ | refine xthen_e ?_ | refine xblock ?_ | refine xblock_r ?_ | refine xblock_e ?_ | refine xblock_n rfl ?_ | refine xround_r ?_ | refine xround_e ?_) | (with_reducible intro hc; (try simp only [decide_eq_true_eq, decide_eq_false_iff_not, Bool.not_true, Bool.not_false, Bool.not_eq_true', Bool.not_eq_false', ne_eq, not_true, reduceCtorEq] at hc); (try (exfalso; omega))) | with_reducible (first | exact trivial | refine And.intro ?_ ?_ | exact rfl | exact Nat.le_refl _) | exact Eq.refl true | exact (rfl : (_ : List Nat) = _) | exact Nat.le_of_ble_eq_true rfl | (refine inR_i64.mpr ?_; first | omega | (simp only [List.length_map]; omega)) | omega)
  all_goals refine xfinRd (by first | exact .inl rfl | exact .inr rfl) rfl (by repeat' (first | exact trivial | exact rfl | refine And.intro ?_ ?_)) rfl (by omega) (by omega) ?_
  all_goals refine gpack _ _ _ _ _ _ _ _ _ ?_ ?_ ?_ ?_ ?_ ?_
  all_goals first | omega | (refine memB (by assumption) ?_; simp only [List.forall_mem_cons, List.not_mem_nil, false_implies, implies_true, and_true]; omega)
theorem ptext_len {p : Pack} (h : validPack p = true) : (ptext p).length ≤ 200 := by
  have h := validPack_iff.1 h
  have l1 := itoa_len (n := p.w) (by omega)
  have l2 := itoa_len (n := p.h) (by omega)
  have l3 := itoa_len (n := p.anchor) (by omega)
  have l4 := itoa_len (n := p.padX) (by omega)
  have l5 := itoa_len (n := p.padY) (by omega)
  have l0 : (sideW p.side).length ≤ 20 := by
    have e : p.side = 0 ∨ p.side = 1 ∨ p.side = 2 ∨ p.side = 3 := by omega
    rcases e with e | e | e | e <;> (rw [e]; decide)
  have hi : ∀ b s, (iff b s).length ≤ s.length := fun b s => by cases b <;> simp [iff]
  have i1 := hi p.fillX fxW
  have i2 := hi p.fillY fyW
  have i3 := hi p.expand exW
  have i4 := hi (!decide (p.anchor = 4)) (anW ++ Lib.itoa p.anchor)
  have i5 := hi (!decide (p.padX = 0)) (pxW ++ Lib.itoa p.padX)
  have i6 := hi (!decide (p.padY = 0)) (pyW ++ Lib.itoa p.padY)
  have k1 : fxW.length = 6 := rfl
  have k2 : fyW.length = 6 := rfl
  have k3 : exW.length = 7 := rfl
  have k4 : anW.length = 8 := rfl
  have k5 : pxW.length = 6 := rfl
  have k6 : pyW.length = 6 := rfl
  unfold ptext
  simp only [List.length_append, List.length_cons] at *
  omega
theorem c_mutate (bs : List Byte) (p : Int) (s : List UInt8) (hs : s.length ≤ 1000000) (hb : bs.length ≤ 2000) (hp : 0 ≤ p ∧ p < 2^30) :
    ACon Tryz.prog 19 [.oref 0 0, .d (.str s)] [.box [.d (.lst (bs.map encByte)), .d (.int .i64 p)]] (Rd (.lst (bs.map encByte)) p (p + 3) (AStr (s.length + 20))) := by
  refine ACon.introW tok (nt := 45) Tryz.func19 rfl rfl rfl (by kernel_rfl) rfl ?_
  repeat' (first | ((with_reducible apply xsim); (first | ((with_reducible apply xlenM); exact rfl; exact rfl) | ((with_reducible apply xo); exact rfl) | with_reducible apply xend | ((with_reducible apply xbuild); exact rfl; exact rfl; exact rfl; exact rfl; exact rfl; simp only [backV, backVs, backVs_mapd, backId, backO, List.map_cons, List.map_nil, List.getElem?_nil, List.length_cons, List.length_nil, Nat.reduceAdd, Nat.reduceSub, List.cons_append, List.nil_append, List.append_nil]) | ((with_reducible apply xslcSLo); exact rfl; exact rfl; exact rfl; (first | omega | (simp only [List.length_append, List.length_cons, List.length_nil]; omega))) | ((with_reducible apply xslcSHi); exact rfl; exact rfl; exact rfl; (first | omega | (simp only [List.length_append, List.length_cons, List.length_nil]; omega))) | ((with_reducible apply xslcSB); exact rfl; exact rfl; exact rfl; exact rfl; (first | omega | (simp only [List.length_append, List.length_cons, List.length_nil]; omega))) | ((with_reducible apply xslcLo); exact rfl; exact rfl; exact rfl; exact (fun r hr => by obtain ⟨a, _, rfl⟩ := List.mem_map.1 hr; rfl); first | omega | (simp only [List.length_cons, List.length_nil]; omega)) | ((with_reducible apply xslcHi); exact rfl; exact rfl; exact rfl; exact (fun r hr => by obtain ⟨a, _, rfl⟩ := List.mem_map.1 hr; rfl); first | omega | (simp only [List.length_cons, List.length_nil]; omega)) | ((with_reducible apply xslcB); exact rfl; exact rfl; exact rfl; exact rfl; exact (fun r hr => by obtain ⟨a, _, rfl⟩ := List.mem_map.1 hr; rfl); first | omega | (simp only [List.length_cons, List.length_nil]; omega)) | ((with_reducible apply xslcMHi); exact rfl; exact rfl; exact rfl; (first | omega | (simp only [List.length_cons, List.length_nil]; omega))) | ((with_reducible apply xslcMLo); exact rfl; exact rfl; exact rfl; (first | omega | (simp only [List.length_cons, List.length_nil]; omega))) | ((with_reducible apply xslcMB); exact rfl; exact rfl; exact rfl; exact rfl; (first | omega | (simp only [List.length_cons, List.length_nil]; omega))) | ((with_reducible apply xcallRd); exact rfl; exact rfl; exact rfl; exact c_pick bs _ _ hb (by omega) (by omega); rintro _ p' _ _ ⟨v, rfl, h1, h2, h3⟩; (try simp only [List.set_cons_zero, List.set_cons_succ])) | ((with_reducible apply xcallOne); exact rfl; exact rfl; exact rfl; exact rfl; exact c_ofStr rfl rfl rfl hb (by omega) rfl rfl; rintro _ p' _ _ ⟨t, rfl, ht⟩; (try simp only [List.set_cons_zero, List.set_cons_succ])) | simp -implicitDefEqProofs only [go_sem, Int.reduceEq, Int.reduceLT, Int.reduceLE, Nat.reduceAdd, Nat.reduceSub, Nat.reduceMul, Nat.reduceEqDiff, Nat.reduceLeDiff, Nat.reducePow, ↓reduceIte, reduceCtorEq])) | ((with_reducible apply xaw); (first | ((with_reducible apply xstepS); refine AW.step tok rfl ?_) | ((with_reducible apply xstep); refine AW.region tok rfl ?_) | with_reducible (first | refine AW.seq ?_ | refine AW.block ?_ | refine AW.skip ?_ | refine AW.ret ?_ | refine AW.exit ?_) | ((with_reducible apply xcond); exact rfl) | ((with_reducible apply xdrawS (id := 6)); refine AW.drawS (id := 6) (.q 0 (.q 1 (.q 2 (.q 3 (.q 7 (.q 8 (.q 9 (.q 10 (.e 4 (.e 5 (.q 6 (.q 11 (.q 12 (.fin)))))))))))))) tok (by kernel_rfl) rfl (by kernel_rfl) ?_) | ((with_reducible apply xdraw (id := 6)); refine AW.draw (id := 6) (.q 0 (.q 1 (.q 2 (.q 3 (.q 7 (.q 8 (.q 9 (.q 10 (.e 4 (.e 5 (.q 6 (.q 11 (.q 12 (.fin)))))))))))))) tok (by kernel_rfl) rfl (by kernel_rfl) ?_))) | ((with_reducible apply xarun); (first | ((with_reducible apply xrun_q); exact rfl; exact rfl; exact rfl) | ((with_reducible apply xrun_e); exact rfl) | with_reducible apply xrun_f)) | with_reducible (first | refine xthen ?_ | refine xthen_r ?_ | refine xthen_e ?_ | refine xblock ?_ | refine xblock_r ?_ | refine xblock_e ?_ | refine xblock_n rfl ?_ | refine xround_r ?_ | refine xround_e ?_) | (with_reducible intro hc; (try simp only [decide_eq_true_eq, decide_eq_false_iff_not, Bool.not_true, Bool.not_false, Bool.not_eq_true', Bool.not_eq_false', ne_eq, not_true, reduceCtorEq] at hc); (try (exfalso; omega))) | with_reducible (first | exact trivial | refine And.intro ?_ ?_ | exact rfl | exact Nat.le_refl _) | exact Eq.refl true | exact (rfl : (_ : List Nat) = _) | exact Nat.le_of_ble_eq_true rfl | (refine inR_i64.mpr ?_; first | omega | (simp only [List.length_map]; omega)) | omega | (simp only [List.length_append, List.length_take, List.length_drop]; omega))
  all_goals refine xfinRd (by first | exact .inl rfl | exact .inr rfl) rfl (by repeat' (first | exact trivial | exact rfl | refine And.intro ?_ ?_)) rfl (by omega) (by omega) ?_
  all_goals exact ⟨_, rfl, by first | omega | (simp only [List.length_append, List.length_take, List.length_drop]; omega)⟩
end Go.Proofs.YtmjofbjglhdkjaaGreatDoor

namespace Go.Proofs.YtmjofbjglhdkjaaGreatDoor
open Go.Fw
attribute [local irreducible] Go.Fw.aops Go.Fw.arun
theorem c_packLines (bs : List Byte) (p : Int) (hb : bs.length ≤ 2000) (hp : 0 ≤ p ∧ p < 2^29) :
    ACon Tryz.prog 17 [.oref 0 0] [.box [.d (.lst (bs.map encByte)), .d (.int .i64 p)]] (Rd (.lst (bs.map encByte)) p (p + 300) (AStr 2000)) := by
  refine ACon.introW tok (nt := 19) Tryz.func17 rfl rfl rfl (by kernel_rfl) rfl ?_
  repeat' (first | ((with_reducible apply xsim); (first | ((with_reducible apply xo); exact rfl) | with_reducible apply xend | ((with_reducible apply xbuild); exact rfl; exact rfl; exact rfl; exact rfl; exact rfl; simp only [backV, backVs, backVs_mapd, backId, backO, List.map_cons, List.map_nil, List.getElem?_nil, List.length_cons, List.length_nil, Nat.reduceAdd, Nat.reduceSub, List.cons_append, List.nil_append, List.append_nil]) | ((with_reducible apply xcallOne); exact rfl; exact rfl; exact rfl; exact rfl; exact c_one rfl rfl hb (by omega) rfl rfl; rintro _ p' _ _ ⟨v, rfl, h1⟩; (try simp only [List.set_cons_zero, List.set_cons_succ])) | simp -implicitDefEqProofs only [go_sem, Int.reduceEq, Int.reduceLT, Int.reduceLE, Nat.reduceAdd, Nat.reduceSub, Nat.reduceMul, Nat.reduceEqDiff, Nat.reduceLeDiff, Nat.reducePow, ↓reduceIte, reduceCtorEq])) | ((with_reducible apply xaw); (first | ((with_reducible apply xstepS); refine AW.step tok rfl ?_) | ((with_reducible apply xstep); refine AW.region tok rfl ?_) | with_reducible (first | refine AW.seq ?_ | refine AW.block ?_ | refine AW.skip ?_ | refine AW.ret ?_ | refine AW.exit ?_) | ((with_reducible apply xcond); exact rfl))) | with_reducible (first | refine xthen ?_ | refine xthen_r ?_ | refine xthen_e ?_ | refine xblock ?_ | refine xblock_r ?_ | refine xblock_e ?_ | refine xblock_n rfl ?_ | refine xround_r ?_ | refine xround_e ?_) | (with_reducible intro hc; (try simp only [decide_eq_true_eq, decide_eq_false_iff_not, Bool.not_true, Bool.not_false, Bool.not_eq_true', Bool.not_eq_false', ne_eq, not_true, reduceCtorEq] at hc); (try (exfalso; omega))) | with_reducible (first | exact trivial | refine And.intro ?_ ?_ | exact rfl | exact Nat.le_refl _) | exact Eq.refl true | exact (rfl : (_ : List Nat) = _) | exact Nat.le_of_ble_eq_true rfl | (refine inR_i64.mpr ?_; first | omega | (simp only [List.length_map]; omega)) | omega)
  have hv : 0 ≤ v ∧ v ≤ 8 := by simp only [List.mem_cons, List.not_mem_nil, or_false] at h1; omega
  have hvn : ((v.toNat : Nat) : Int) = v := Int.toNat_of_nonneg hv.1
  refine AW.loop (S := fun i : Nat × List UInt8 × Int => ⟨[(0, .oref 0 0), (3, .d (.str i.2.1)), (4, .d (.int .i64 i.1))], [.box [.d (.lst (bs.map encByte)), .d (.int .i64 i.2.2)]], 19, 1⟩)
    (Pre := fun i => i.1 ≤ 8 ∧ i.2.1.length ≤ 201 * (8 - i.1) ∧ p ≤ i.2.2 ∧ i.2.2 ≤ p + 1 + 20 * (8 - i.1)) (μ := fun i => i.1) (v.toNat, [], p') (by dsimp only [List.length_nil]; omega) ?_ ?_
  · (refine xwk (π := [0]) (by decide) rfl ?_ ?_; (first | exact trivial | simp -implicitDefEqProofs only [go_sem, Int.reduceEq, Int.reduceLT, Int.reduceLE, Nat.reduceAdd, Nat.reduceSub, Nat.reduceMul, Nat.reduceEqDiff, Nat.reduceLeDiff, Nat.reducePow, ↓reduceIte, reduceCtorEq, hvn]); repeat' (first | exact renE_n | ((with_reducible apply renE_c); exact rfl; focus (first | with_reducible exact rfl | (simp -implicitDefEqProofs only [go_sem, Int.reduceEq, Int.reduceLT, Int.reduceLE, Nat.reduceAdd, Nat.reduceSub, Nat.reduceMul, Nat.reduceEqDiff, Nat.reduceLeDiff, Nat.reducePow, ↓reduceIte, reduceCtorEq, hvn]; done) | (simp -implicitDefEqProofs only [go_sem, Int.reduceEq, Int.reduceLT, Int.reduceLE, Nat.reduceAdd, Nat.reduceSub, Nat.reduceMul, Nat.reduceEqDiff, Nat.reduceLeDiff, Nat.reducePow, ↓reduceIte, reduceCtorEq, hvn]; omega)))))
  · rintro ⟨m, t, q⟩ ⟨h2, h3, h4, h5⟩
    dsimp only at h2 h3 h4 h5 ⊢
    by_cases hm : m = 0
    · subst hm
      repeat' (first | ((with_reducible apply xsim); (first | ((with_reducible apply xo); exact rfl) | with_reducible apply xend | ((with_reducible apply xbuild); exact rfl; exact rfl; exact rfl; exact rfl; exact rfl; simp only [backV, backVs, backVs_mapd, backId, backO, List.map_cons, List.map_nil, List.getElem?_nil, List.length_cons, List.length_nil, Nat.reduceAdd, Nat.reduceSub, List.cons_append, List.nil_append, List.append_nil]) | simp -implicitDefEqProofs only [go_sem, Int.reduceEq, Int.reduceLT, Int.reduceLE, Nat.reduceAdd, Nat.reduceSub, Nat.reduceMul, Nat.reduceEqDiff, Nat.reduceLeDiff, Nat.reducePow, ↓reduceIte, reduceCtorEq])) | ((with_reducible apply xaw); (first | ((with_reducible apply xstepS); refine AW.step tok rfl ?_) | ((with_reducible apply xstep); refine AW.region tok rfl ?_) | with_reducible (first | refine AW.seq ?_ | refine AW.block ?_ | refine AW.skip ?_ | refine AW.ret ?_ | refine AW.exit ?_) | ((with_reducible apply xcond); exact rfl))) | with_reducible (first | refine xthen ?_ | refine xthen_r ?_ | refine xthen_e ?_ | refine xblock ?_ | refine xblock_r ?_ | refine xblock_e ?_ | refine xblock_n rfl ?_ | refine xround_r ?_ | refine xround_e ?_) | (with_reducible intro hc; (try simp only [decide_eq_true_eq, decide_eq_false_iff_not, Bool.not_true, Bool.not_false, Bool.not_eq_true', Bool.not_eq_false', ne_eq, not_true, reduceCtorEq] at hc); (try (exfalso; omega))) | with_reducible (first | exact trivial | refine And.intro ?_ ?_ | exact rfl | exact Nat.le_refl _) | exact Eq.refl true | exact (rfl : (_ : List Nat) = _) | exact Nat.le_of_ble_eq_true rfl | (refine inR_i64.mpr ?_; first | omega | (simp only [List.length_map]; omega)) | omega)
      refine xfinRd (by first | exact .inl rfl | exact .inr rfl) rfl (by repeat' (first | exact trivial | exact rfl | refine And.intro ?_ ?_)) rfl (by omega) (by omega) ?_
      exact ⟨_, rfl, by omega⟩
    · repeat' (first | ((with_reducible apply xsim); (first | ((with_reducible apply xo); exact rfl) | with_reducible apply xend | ((with_reducible apply xbuild); exact rfl; exact rfl; exact rfl; exact rfl; exact rfl; simp only [backV, backVs, backVs_mapd, backId, backO, List.map_cons, List.map_nil, List.getElem?_nil, List.length_cons, List.length_nil, Nat.reduceAdd, Nat.reduceSub, List.cons_append, List.nil_append, List.append_nil]) | ((with_reducible apply xcallIs); exact rfl; exact rfl; exact c_PTextS _ (by assumption); exact rfl) | ((with_reducible apply xcallRd); exact rfl; exact rfl; exact rfl; exact c_goodPackV _ _ hb (by omega); rintro _ p' _ _ ⟨v, hv, rfl⟩; (try simp only [List.set_cons_zero, List.set_cons_succ])) | simp -implicitDefEqProofs only [go_sem, Int.reduceEq, Int.reduceLT, Int.reduceLE, Nat.reduceAdd, Nat.reduceSub, Nat.reduceMul, Nat.reduceEqDiff, Nat.reduceLeDiff, Nat.reducePow, ↓reduceIte, reduceCtorEq])) | ((with_reducible apply xaw); (first | ((with_reducible apply xstepS); refine AW.step tok rfl ?_) | ((with_reducible apply xstep); refine AW.region tok rfl ?_) | with_reducible (first | refine AW.seq ?_ | refine AW.block ?_ | refine AW.skip ?_ | refine AW.ret ?_ | refine AW.exit ?_) | ((with_reducible apply xcond); exact rfl))) | with_reducible (first | refine xthen ?_ | refine xthen_r ?_ | refine xthen_e ?_ | refine xblock ?_ | refine xblock_r ?_ | refine xblock_e ?_ | refine xblock_n rfl ?_ | refine xround_r ?_ | refine xround_e ?_) | (with_reducible intro hc; (try simp only [decide_eq_true_eq, decide_eq_false_iff_not, Bool.not_true, Bool.not_false, Bool.not_eq_true', Bool.not_eq_false', ne_eq, not_true, reduceCtorEq] at hc); (try (exfalso; omega))) | with_reducible (first | exact trivial | refine And.intro ?_ ?_ | exact rfl | exact Nat.le_refl _) | exact Eq.refl true | exact (rfl : (_ : List Nat) = _) | exact Nat.le_of_ble_eq_true rfl | (refine inR_i64.mpr ?_; first | omega | (simp only [List.length_map]; omega)) | omega | ((have := ptext_len (by assumption)); (try simp only [List.length_append, List.length_cons, List.length_nil]); omega))
      have hpl := ptext_len hv
      exact round_end (m - 1, t ++ ptext v ++ [10], p') (by dsimp only; simp only [List.length_append, List.length_cons, List.length_nil]; omega) (by dsimp only; omega) (by (refine xwk (π := [0]) (by decide) rfl ?_ ?_; (first | exact trivial | simp -implicitDefEqProofs only [go_sem, Int.reduceEq, Int.reduceLT, Int.reduceLE, Nat.reduceAdd, Nat.reduceSub, Nat.reduceMul, Nat.reduceEqDiff, Nat.reduceLeDiff, Nat.reducePow, ↓reduceIte, reduceCtorEq, show ((m - 1 : Nat) : Int) = (m : Int) - 1 by omega]); repeat' (first | exact renE_n | ((with_reducible apply renE_c); exact rfl; focus (first | with_reducible exact rfl | (simp -implicitDefEqProofs only [go_sem, Int.reduceEq, Int.reduceLT, Int.reduceLE, Nat.reduceAdd, Nat.reduceSub, Nat.reduceMul, Nat.reduceEqDiff, Nat.reduceLeDiff, Nat.reducePow, ↓reduceIte, reduceCtorEq, show ((m - 1 : Nat) : Int) = (m : Int) - 1 by omega]; done) | (simp -implicitDefEqProofs only [go_sem, Int.reduceEq, Int.reduceLT, Int.reduceLE, Nat.reduceAdd, Nat.reduceSub, Nat.reduceMul, Nat.reduceEqDiff, Nat.reduceLeDiff, Nat.reducePow, ↓reduceIte, reduceCtorEq, show ((m - 1 : Nat) : Int) = (m : Int) - 1 by omega]; omega))))))
theorem le3000 {s : List UInt8} (h : s.length ≤ 3000) : s.length ≤ 1073741824 := Nat.le_trans h (by decide)
end Go.Proofs.YtmjofbjglhdkjaaGreatDoor

