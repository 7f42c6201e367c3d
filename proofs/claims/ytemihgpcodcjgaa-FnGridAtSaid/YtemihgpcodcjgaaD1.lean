import Derived.Test.YtemihgpcodcjgaaQ1
set_option linter.unusedSimpArgs false
set_option linter.unusedVariables false
namespace Go.Proofs.Ytemihgpcodcjgaa
open Go.Fw
@[go_sem] def lv67 : List (List Nat) := [[0], [0, 5], [0], [2]]
@[go_sem] def lv83 : List (List Nat) := [[0, 1], [0, 1], [0, 1, 24], [4], [0, 1, 5], [0, 1, 5, 36], [4], [1, 6], [1, 6], [4]]
@[go_sem] def lv82 : List (List Nat) := [[0, 1], [4]]


theorem tmod_bd {a m : Int} (ha : 0 ≤ a) (hm : 0 < m) : 0 ≤ a.tmod m ∧ a.tmod m < m := ⟨Int.tmod_nonneg m ha, Int.tmod_lt_of_pos a hm⟩
theorem tdiv_bd {a m : Int} (ha : 0 ≤ a) (hm : 0 < m) : 0 ≤ a.tdiv m ∧ a.tdiv m ≤ a := ⟨Int.tdiv_nonneg ha (Int.le_of_lt hm), Int.tdiv_le_self _ ha⟩

theorem xor_bd {a b : Int} (ha : 0 ≤ a ∧ a < 2^60) (hb : 0 ≤ b ∧ b < 2^60) : 0 ≤ ibits .xor .i64 a b := by
  obtain ⟨m, rfl⟩ := Int.eq_ofNat_of_zero_le ha.1
  obtain ⟨n, rfl⟩ := Int.eq_ofNat_of_zero_le hb.1
  have hm : m < 2^60 := by omega
  have hn : n < 2^60 := by omega
  have hx := Nat.xor_lt_two_pow hm hn
  have e : ((BitVec.ofInt 64 (m : Int)) ^^^ (BitVec.ofInt 64 (n : Int))).toNat = m ^^^ n := by
    rw [BitVec.toNat_xor]
    simp only [BitVec.ofInt_natCast, BitVec.toNat_ofNat]
    rw [Nat.mod_eq_of_lt (by omega), Nat.mod_eq_of_lt (by omega)]
  have hr : inR .i64 ((m ^^^ n : Nat) : Int) := inR_i64.mpr (by omega)
  show 0 ≤ IntKind.i64.wrap (((BitVec.ofInt 64 (m : Int)) ^^^ (BitVec.ofInt 64 (n : Int))).toNat : Int)
  rw [e]
  rw [show IntKind.i64.wrap ((m ^^^ n : Nat) : Int) = ((m ^^^ n : Nat) : Int) from hr]
  omega

theorem c_newReader (xs : List Byte) (hl : xs.length < 2^63) : ACon Try.prog 67 [.d (.lst (xs.map encByte))] [] (Own (.oref 0 0) [.box [.d (.lst ((xs.take 2000).map encByte)), .d (.int .i64 0)]]) := by
  refine ACon.introW tok (nt := 11) Try.func67 rfl rfl rfl (by kernel_rfl) rfl ?_
  repeat' (first | ((with_reducible apply xsim); (first | ((with_reducible apply xlenM); exact rfl; exact rfl) | ((with_reducible apply xo); exact rfl) | with_reducible apply xend | ((with_reducible apply xbox); exact rfl; simp only [backV, backVs, backVs_mapd, backId, backO, List.map_cons, List.map_nil, List.getElem?_nil, List.length_cons, List.length_nil, Nat.reduceAdd, Nat.reduceSub, List.cons_append, List.nil_append, List.append_nil]) | ((with_reducible apply xslcHi); exact rfl; exact rfl; exact rfl; exact (fun r hr => by obtain ⟨a, _, rfl⟩ := List.mem_map.1 hr; rfl); first | omega | (simp only [List.length_cons, List.length_nil]; omega)))) | ((with_reducible apply xaw); (first | ((with_reducible apply xstepS); refine AW.step tok rfl ?_) | ((with_reducible apply xstep); refine AW.region tok rfl ?_) | with_reducible (first | refine AW.seq ?_ | refine AW.block ?_ | refine AW.skip ?_ | refine AW.ret ?_ | refine AW.exit ?_) | ((with_reducible apply xcond); exact rfl))) | with_reducible (first | refine xthen ?_ | refine xthen_r ?_ | refine xthen_e ?_ | refine xblock ?_ | refine xblock_r ?_ | refine xblock_e ?_ | refine xblock_n rfl ?_ | refine xround_r ?_ | refine xround_e ?_) | (with_reducible intro hc; (try simp only [decide_eq_true_eq, decide_eq_false_iff_not, Bool.not_true, Bool.not_false, Bool.not_eq_true', Bool.not_eq_false', ne_eq, not_true, reduceCtorEq] at hc); (try (exfalso; omega))) | with_reducible (first | exact trivial | refine And.intro ?_ ?_ | exact rfl | exact Nat.le_refl _))
  · (refine xfinOwn [0] (by first | exact .inl rfl | exact .inr rfl) rfl (by repeat' (first | exact trivial | exact rfl | refine And.intro ?_ ?_)) (by decide) rfl ?_ ?_ <;> simp -implicitDefEqProofs only [go_sem, Int.reduceEq, Int.reduceLT, Int.reduceLE, Nat.reduceAdd, Nat.reduceSub, Nat.reduceMul, Nat.reduceEqDiff, Nat.reduceLeDiff, Nat.reducePow, ↓reduceIte, reduceCtorEq, Int.reduceToNat])
  · rw [List.take_of_length_le (by omega)]
    (refine xfinOwn [0] (by first | exact .inl rfl | exact .inr rfl) rfl (by repeat' (first | exact trivial | exact rfl | refine And.intro ?_ ?_)) (by decide) rfl ?_ ?_ <;> simp -implicitDefEqProofs only [go_sem, Int.reduceEq, Int.reduceLT, Int.reduceLE, Nat.reduceAdd, Nat.reduceSub, Nat.reduceMul, Nat.reduceEqDiff, Nat.reduceLeDiff, Nat.reducePow, ↓reduceIte, reduceCtorEq])

/-- A number that is drawn below n. -/
def Below (n : Int) (r : V) : Prop := ∃ v, r = .d (.int .i64 v) ∧ 0 ≤ v ∧ (1 ≤ n → v < n) ∧ (n < 1 → v = 0)

theorem c_pick (bs : List Byte) (p n : Int) (hb : bs.length ≤ 2000) (hp : 0 ≤ p ∧ p < 2^40) (hn : n < 2^40) :
    ACon Try.prog 83 [.oref 0 0, .d (.int .i64 n)] [.box [.d (.lst (bs.map encByte)), .d (.int .i64 p)]] (Rd (.lst (bs.map encByte)) (p + 1) (p + 1) (Below n)) := by
  by_cases h1 : n < 1
  · refine ACon.introW tok (nt := 99) Try.func83 rfl rfl rfl (by kernel_rfl) rfl ?_
    repeat' (first | ((with_reducible apply xsim); (first | ((with_reducible apply xo); exact rfl) | ((with_reducible apply xst); exact rfl) | with_reducible apply xend | ((with_reducible apply xguardS); exact rfl; exact rfl))) | ((with_reducible apply xaw); (first | ((with_reducible apply xstepS); refine AW.step tok rfl ?_) | with_reducible (first | refine AW.seq ?_ | refine AW.block ?_ | refine AW.skip ?_ | refine AW.ret ?_ | refine AW.exit ?_) | ((with_reducible apply xcond); exact rfl))) | with_reducible (first | refine xthen ?_ | refine xthen_r ?_ | refine xthen_e ?_ | refine xblock ?_ | refine xblock_r ?_ | refine xblock_e ?_ | refine xblock_n rfl ?_ | refine xround_r ?_ | refine xround_e ?_) | (with_reducible intro hc; (try simp only [decide_eq_true_eq, decide_eq_false_iff_not, Bool.not_true, Bool.not_false, Bool.not_eq_true', Bool.not_eq_false', ne_eq, not_true, reduceCtorEq] at hc); (try (exfalso; omega))) | with_reducible (first | exact trivial | refine And.intro ?_ ?_ | exact rfl | exact Nat.le_refl _) | exact Eq.refl true | (refine inR_i64.mpr ?_; first | omega | (simp only [List.length_map]; omega)))
    exact xfinRd (.inr rfl) rfl trivial rfl (by omega) (by omega) ⟨0, rfl, by omega, by omega, by omega⟩
  by_cases h0 : bs.length = 0
  · refine ACon.introW tok (nt := 99) Try.func83 rfl rfl rfl (by kernel_rfl) rfl ?_
    repeat' (first | ((with_reducible apply xsim); (first | ((with_reducible apply xlenM); exact rfl; exact rfl) | ((with_reducible apply xo); exact rfl) | ((with_reducible apply xst); exact rfl) | with_reducible apply xend | ((with_reducible apply xguardS); exact rfl; exact rfl))) | ((with_reducible apply xaw); (first | ((with_reducible apply xstepS); refine AW.step tok rfl ?_) | with_reducible (first | refine AW.seq ?_ | refine AW.block ?_ | refine AW.skip ?_ | refine AW.ret ?_ | refine AW.exit ?_) | ((with_reducible apply xcond); exact rfl))) | with_reducible (first | refine xthen ?_ | refine xthen_r ?_ | refine xthen_e ?_ | refine xblock ?_ | refine xblock_r ?_ | refine xblock_e ?_ | refine xblock_n rfl ?_ | refine xround_r ?_ | refine xround_e ?_) | (with_reducible intro hc; (try simp only [decide_eq_true_eq, decide_eq_false_iff_not, Bool.not_true, Bool.not_false, Bool.not_eq_true', Bool.not_eq_false', ne_eq, not_true, reduceCtorEq] at hc); (try (exfalso; omega))) | with_reducible (first | exact trivial | refine And.intro ?_ ?_ | exact rfl | exact Nat.le_refl _) | exact Eq.refl true | (refine inR_i64.mpr ?_; first | omega | (simp only [List.length_map]; omega)))
    all_goals exact xfinRd (.inr rfl) rfl trivial rfl (by omega) (by omega) ⟨0, rfl, by omega, by omega, by omega⟩
  have hpos : (0 : Int) < bs.length := by omega
  have m1 := tmod_bd (a := p + 1 - 1) (by omega) hpos
  have m2 := tmod_bd (a := (p + 1 - 1) * 7 + 3) (by omega) hpos
  have b1 := (bs[((p + 1 - 1).tmod bs.length).toNat]'(by omega)).h
  have b2 := (bs[(((p + 1 - 1) * 7 + 3).tmod bs.length).toNat]'(by omega)).h
  have d1 := tdiv_bd (a := p + 1 - 1) (by omega) hpos
  by_cases h2 : p + 1 - 1 < bs.length
  · have b3 := (bs[(p + 1 - 1).toNat]'(by omega)).h
    have m3 := tmod_bd (m := n) b3.1 (by omega)
    refine ACon.introW tok (nt := 99) Try.func83 rfl rfl rfl (by kernel_rfl) rfl ?_
    repeat' (first | ((with_reducible apply xsim); (first | ((with_reducible apply xlenM); exact rfl; exact rfl) | ((with_reducible apply xo); exact rfl) | ((with_reducible apply xst); exact rfl) | with_reducible apply xend | ((with_reducible apply xguardS); exact rfl; exact rfl) | ((with_reducible apply xidxL); exact rfl; exact rfl; exact rfl; (first | exact (atI (by omega))); omega; first | exact rfl | simp only [hsz]))) | ((with_reducible apply xaw); (first | ((with_reducible apply xstepS); refine AW.step tok rfl ?_) | with_reducible (first | refine AW.seq ?_ | refine AW.block ?_ | refine AW.skip ?_ | refine AW.ret ?_ | refine AW.exit ?_) | ((with_reducible apply xcond); exact rfl))) | with_reducible (first | refine xthen ?_ | refine xthen_r ?_ | refine xthen_e ?_ | refine xblock ?_ | refine xblock_r ?_ | refine xblock_e ?_ | refine xblock_n rfl ?_ | refine xround_r ?_ | refine xround_e ?_) | (with_reducible intro hc; (try simp only [decide_eq_true_eq, decide_eq_false_iff_not, Bool.not_true, Bool.not_false, Bool.not_eq_true', Bool.not_eq_false', ne_eq, not_true, reduceCtorEq] at hc); (try (exfalso; omega))) | with_reducible (first | exact trivial | refine And.intro ?_ ?_ | exact rfl | exact Nat.le_refl _) | exact Eq.refl true | (refine inR_i64.mpr ?_; first | omega | (simp only [List.length_map]; omega)) | omega)
    all_goals exact xfinRd (.inr rfl) rfl trivial rfl (by omega) (by omega) ⟨_, rfl, m3.1, fun _ => m3.2, by omega⟩
  · have d2 := tdiv_bd (a := (bs[((p + 1 - 1).tmod bs.length).toNat]'(by omega)).v * 131 + (bs[(((p + 1 - 1) * 7 + 3).tmod bs.length).toNat]'(by omega)).v * 1117 + (p + 1 - 1) * 29 + (p + 1 - 1).tdiv bs.length * 53) (m := 64) (by omega) (by omega)
    have x1 := xor_bd (a := (bs[((p + 1 - 1).tmod bs.length).toNat]'(by omega)).v * 131 + (bs[(((p + 1 - 1) * 7 + 3).tmod bs.length).toNat]'(by omega)).v * 1117 + (p + 1 - 1) * 29 + (p + 1 - 1).tdiv bs.length * 53) (b := ((bs[((p + 1 - 1).tmod bs.length).toNat]'(by omega)).v * 131 + (bs[(((p + 1 - 1) * 7 + 3).tmod bs.length).toNat]'(by omega)).v * 1117 + (p + 1 - 1) * 29 + (p + 1 - 1).tdiv bs.length * 53).tdiv 64) (by omega) (by omega)
    have m3 := tmod_bd (m := n) x1 (by omega)
    refine ACon.introW tok (nt := 99) Try.func83 rfl rfl rfl (by kernel_rfl) rfl ?_
    repeat' (first | ((with_reducible apply xsim); (first | ((with_reducible apply xlenM); exact rfl; exact rfl) | ((with_reducible apply xo); exact rfl) | ((with_reducible apply xst); exact rfl) | with_reducible apply xend | ((with_reducible apply xguardS); exact rfl; exact rfl) | ((with_reducible apply xidxL); exact rfl; exact rfl; exact rfl; (first | exact (atI (by omega))); omega; first | exact rfl | simp only [hsz]))) | ((with_reducible apply xaw); (first | ((with_reducible apply xstepS); refine AW.step tok rfl ?_) | with_reducible (first | refine AW.seq ?_ | refine AW.block ?_ | refine AW.skip ?_ | refine AW.ret ?_ | refine AW.exit ?_) | ((with_reducible apply xcond); exact rfl) | ((with_reducible apply xdraw (id := 7)); refine AW.draw (id := 7) (.q 0 (.q 1 (.q 2 (.q 3 (.q 4 (.q 5 (.q 6 (.q 7 (.q 8 (.q 9 (.q 10 (.q 11 (.q 12 (.q 13 (.q 14 (.q 15 (.q 16 (.q 17 (.q 18 (.q 19 (.q 20 (.q 21 (.q 22 (.q 23 (.q 24 (.q 25 (.q 26 (.q 27 (.q 28 (.q 29 (.q 30 (.q 31 (.q 32 (.q 33 (.q 34 (.q 35 (.q 36 (.q 37 (.q 38 (.q 39 (.q 40 (.q 41 (.q 42 (.q 43 (.q 44 (.q 45 (.fin))))))))))))))))))))))))))))))))))))))))))))))) tok (by kernel_rfl) rfl (by kernel_rfl) ?_))) | ((with_reducible apply xarun); (first | ((with_reducible apply xrun_q); exact rfl; exact rfl; exact rfl) | with_reducible apply xrun_f)) | with_reducible (first | refine xthen ?_ | refine xthen_r ?_ | refine xthen_e ?_ | refine xblock ?_ | refine xblock_r ?_ | refine xblock_e ?_ | refine xblock_n rfl ?_ | refine xround_r ?_ | refine xround_e ?_) | (with_reducible intro hc; (try simp only [decide_eq_true_eq, decide_eq_false_iff_not, Bool.not_true, Bool.not_false, Bool.not_eq_true', Bool.not_eq_false', ne_eq, not_true, reduceCtorEq] at hc); (try (exfalso; omega))) | with_reducible (first | exact trivial | refine And.intro ?_ ?_ | exact rfl | exact Nat.le_refl _) | exact Eq.refl true | (refine inR_i64.mpr ?_; first | omega | (simp only [List.length_map]; omega)) | omega)
    all_goals exact xfinRd (.inr rfl) rfl trivial rfl (by omega) (by omega) ⟨_, rfl, m3.1, fun _ => m3.2, by omega⟩

/-- One of the numbers. -/
def OneOf (zs : List Int) (r : V) : Prop := ∃ v, r = .d (.int .i64 v) ∧ v ∈ zs

theorem c_one {zs : List Int} {rows : List (List D)} {bs : List Byte} {p : Int} {len : Nat} (hz : unInts rows some none = some zs) (hlen : Nat.beq len zs.length = true) (hb : bs.length ≤ 2000) (hp : 0 ≤ p ∧ p < 2^40) (hn : Nat.ble 1 zs.length = true) (hs : Nat.ble zs.length 100 = true) :
    ACon Try.prog 82 [.oref 0 0, .msl 1 1 0 len] [.box [.d (.lst (bs.map encByte)), .d (.int .i64 p)], .arr 1 rows] (Rd2 (.lst (bs.map encByte)) (p + 1) (p + 1) (OneOf zs)) := by
  have hn := Nat.le_of_ble_eq_true hn
  have hs := Nat.le_of_ble_eq_true hs
  obtain rfl := Nat.eq_of_beq_eq_true hlen
  obtain rfl := unInts_some hz
  refine ACon.introW tok (nt := 12) Try.func82 rfl rfl rfl (by kernel_rfl) rfl ?_
  repeat' (first | ((with_reducible apply xsim); (first | ((with_reducible apply xo); exact rfl) | with_reducible apply xend | ((with_reducible apply xidxM); exact rfl; exact rfl; exact rfl; omega; omega; exact rfl) | ((with_reducible apply xldA); exact rfl; exact rfl; exact rfl; (first | exact (atI (by omega))); exact rfl) | ((with_reducible apply xcallRd); exact rfl; exact rfl; exact rfl; exact c_pick bs p zs.length hb hp (by omega); rintro _ p' _ _ ⟨v, rfl, h1, h2, h3⟩; (try simp only [List.set_cons_zero, List.set_cons_succ])))) | ((with_reducible apply xaw); (first | ((with_reducible apply xstepS); refine AW.step tok rfl ?_) | with_reducible (first | refine AW.seq ?_ | refine AW.block ?_ | refine AW.skip ?_ | refine AW.ret ?_ | refine AW.exit ?_))) | with_reducible (first | exact trivial | refine And.intro ?_ ?_ | exact rfl | exact Nat.le_refl _) | exact Eq.refl true)
  exact xfinRd2 (.inr rfl) rfl trivial rfl (by omega) (by omega) ⟨_, rfl, List.getElem_mem _⟩

/-- One of small numbers. -/
def OneB (zs : List Int) (r : V) : Prop := ∃ v, r = .d (.int .i64 v) ∧ v ∈ zs ∧ -2000 ≤ v ∧ v ≤ 2000

theorem c_oneB {zs : List Int} {rows : List (List D)} {bs : List Byte} {p : Int} {len : Nat} (hz : unInts rows some none = some zs) (hlen : Nat.beq len zs.length = true) (hsm : (zs.all fun v => decide (-2000 ≤ v) && decide (v ≤ 2000)) = true) (hb : bs.length ≤ 2000) (hp : 0 ≤ p ∧ p < 2^40) (hn : Nat.ble 1 zs.length = true) (hs : Nat.ble zs.length 100 = true) :
    ACon Try.prog 82 [.oref 0 0, .msl 1 1 0 len] [.box [.d (.lst (bs.map encByte)), .d (.int .i64 p)], .arr 1 rows] (Rd2 (.lst (bs.map encByte)) (p + 1) (p + 1) (OneB zs)) := by
  refine (c_one hz hlen hb hp hn hs).mono ?_
  rintro r os ⟨q, h1, h2, h3, h4, v, h5, h6⟩
  have := List.all_eq_true.1 hsm v h6
  simp only [Bool.and_eq_true, decide_eq_true_eq] at this
  exact ⟨q, h1, h2, h3, h4, v, h5, h6, this⟩
end Go.Proofs.Ytemihgpcodcjgaa
