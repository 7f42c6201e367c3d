/- Contracts of the functions and the plain law behind them, as far as FnExactTouchedBy needs them; joined out of the texts G13 G14 G23 G25 T10 T11 R11 T12 T8 T13 T30 T14 X3 X5 X6 R17 D1 R3 K8 T20 R18 T23 T24 X7. -/
import Derived.Deep.Slices
import Derived.Deep.Fields
import Derived.ChangeSame
import Derived.Below
import Derived.ProofKit
import Derived.Test.YtpfhnhhkfobjnaaFnExactTouchedBy1
set_option linter.unusedSimpArgs false
set_option linter.unusedVariables false
namespace Go.Proofs.Ytpfhnhhkfobjnaa
open Go.Fw
attribute [local irreducible] Go.Fw.aops Go.Fw.arun

theorem c_lineRequestsI (ls : List Line) (ss : List Span) (h : LOk ls) (hs : SOk ss ls.length) : ACon Try.prog 90 [.d (.lst (ls.map encLine)), .d (.lst (ss.map encSpan))] [] (ONums (requests ls ss)) := by
  have hlo := h.lo; have hhi := h.hi; have hsh := hs.hi
  have hml := mins_len ls
  refine ACon.introW tok (nt := 86) Try.func90 rfl rfl rfl (by kernel_rfl) rfl ?_
  repeat' (first | ((with_reducible apply xsim); (first | ((with_reducible apply xlenM); exact rfl; exact rfl) | ((with_reducible apply xo); exact rfl) | with_reducible apply xend)) | ((with_reducible apply xaw); (first | ((with_reducible apply xstepS); refine AW.step tok rfl ?_) | with_reducible (first | refine AW.seq ?_ | refine AW.block ?_))) | with_reducible exact trivial)
  refine AW.own 5 1 rfl ?_
  refine AW.loop (S := fun k : Nat => ⟨[(0, .d (.lst (ls.map encLine))), (1, .d (.lst (ss.map encSpan))), (5, .msl 0 1 0 k), (15, .d (.lst (ls.map encLine))), (16, .d (.int .i64 ls.length)), (17, .d (.int .i64 k))], [.arr 1 (((mins ls).take k).map encN)], 86, .p 0⟩)
    (Pre := fun k => k ≤ ls.length) (μ := fun k => ls.length - k) 0 (Nat.zero_le _) ?_ ?_
  · (refine xwk (π := [0]) (by decide) rfl ?_ ?_; (first | simp -implicitDefEqProofs only [go_sem, List.take_zero]); repeat' (first | exact renE_n | ((with_reducible apply renE_c); exact rfl; focus (first | (simp -implicitDefEqProofs only [go_sem, List.take_zero]; done)))))
  intro k hk
  have htl : ((mins ls).take k).length = k := by simp [hml]; omega
  by_cases hlt : k < ls.length
  · have hrow := at_map (f := encLine) hlt
    have hsu := mins_take hlt
    repeat' (first | ((with_reducible apply xsim); (first | ((with_reducible apply xo); exact rfl) | ((with_reducible apply xst); exact rfl) | with_reducible apply xend | ((with_reducible apply xalloc); exact rfl; simp only [bkL, Nat.reduceAdd, Nat.reduceSub]) | ((with_reducible apply xbuild); exact rfl; exact rfl; exact rfl; exact rfl; exact rfl; simp only [bkL, Nat.reduceAdd, Nat.reduceSub]) | ((with_reducible apply xidxL); exact rfl; exact rfl; exact rfl; (first | exact hrow); omega; first | exact rfl | simp only [hsz]) | simp -implicitDefEqProofs only [go_sem, List.length_map, htl])) | ((with_reducible apply xaw); (first | ((with_reducible apply xstepS); refine AW.step tok rfl ?_) | ((with_reducible apply xstep); refine AW.region tok rfl ?_) | with_reducible (first | refine AW.seq ?_ | refine AW.block ?_ | refine AW.skip ?_) | ((with_reducible apply xcond); exact rfl))) | with_reducible refine xthen ?_ | (with_reducible intro hc; (try simp only [hcL, reduceCtorEq, List.length_map, htl] at hc); (try (exfalso; omega))) | with_reducible (first | exact trivial | refine And.intro ?_ ?_ | exact rfl) | exact Eq.refl true | (refine inR_i64.mpr ?_; first | omega | (simp only [List.length_map, List.length_map, htl]; omega)) | omega)
    refine round_end (k+1) hlt (by omega) (by (refine xwk (π := [3]) (by decide) rfl ?_ ?_; (first | simp -implicitDefEqProofs only [go_sem, hsu, List.map_append, encN]); repeat' (first | exact renE_n | ((with_reducible apply renE_c); exact rfl; focus (first | (simp -implicitDefEqProofs only [go_sem, hsu, List.map_append, encN]; done))))))
  have hk' : k = ls.length := by omega
  subst hk'
  have hta : (mins ls).take ls.length = mins ls := by rw [← hml, List.take_length]
  rw [hta]
  repeat' (first | ((with_reducible apply xsim); (first | ((with_reducible apply xo); exact rfl) | with_reducible apply xend)) | ((with_reducible apply xaw); (first | ((with_reducible apply xstepS); refine AW.step tok rfl ?_) | with_reducible (first | refine AW.seq ?_ | refine AW.block ?_ | refine AW.exit ?_) | ((with_reducible apply xcond); exact rfl))) | with_reducible (first | refine xthen ?_ | refine xthen_e ?_ | refine xblock_e ?_ | refine xround_e ?_) | (with_reducible intro hc; (try simp only [hcL, reduceCtorEq, List.length_map] at hc); (try (exfalso; omega))) | with_reducible (first | exact trivial | refine And.intro ?_ ?_ | exact rfl))
  refine AW.loop (S := fun j : Nat => ⟨[(0, .d (.lst (ls.map encLine))), (1, .d (.lst (ss.map encSpan))), (5, .msl 0 1 0 ls.length), (8, .d (.int .i64 ((j : Int) + 1)))], [.arr 1 ((reqs ls ss j).map encN)], 86, .p 0⟩)
    (Pre := fun j => j ≤ ls.length) (μ := fun j => ls.length - j) 0 (Nat.zero_le _) ?_ ?_
  · (refine xwk (π := [0]) (by decide) rfl ?_ ?_; (first | simp -implicitDefEqProofs only [go_sem, reqs]); repeat' (first | exact renE_n | ((with_reducible apply renE_c); exact rfl; focus (first | (simp -implicitDefEqProofs only [go_sem, reqs]; done) | (simp -implicitDefEqProofs only [go_sem, reqs]; omega)))))
  intro j hj
  have hjr := reqs_rok h hs j
  by_cases hjl : ¬ j < ls.length
  · have hj' : j = ls.length := by omega
    subst hj'
    have hrl := (requests_rok h hs).len
    repeat' (first | ((with_reducible apply xsim); (first | ((with_reducible apply xlenM); exact rfl; exact rfl) | ((with_reducible apply xo); exact rfl) | with_reducible apply xend)) | ((with_reducible apply xaw); (first | ((with_reducible apply xstepS); refine AW.step tok rfl ?_) | with_reducible (first | refine AW.seq ?_ | refine AW.ret ?_ | refine AW.exit ?_) | ((with_reducible apply xcond); exact rfl))) | with_reducible (first | refine xthen ?_ | refine xthen_e ?_ | refine xblock_e ?_ | refine xround_e ?_) | (with_reducible intro hc; (try simp only [hcL, reduceCtorEq, List.length_map] at hc); (try (exfalso; omega))) | with_reducible (first | exact trivial | refine And.intro ?_ ?_ | exact rfl))
    (refine xfinOwn [0] (by first | exact .inl rfl | exact .inr rfl) rfl (by repeat' (first | exact trivial | exact rfl | refine And.intro ?_ ?_)) (by decide) rfl ?_ ?_ <;> simp -implicitDefEqProofs only [go_sem, requests, hjr.len])
  replace hjl : j < ls.length := by omega
  repeat' (first | ((with_reducible apply xsim); (first | ((with_reducible apply xlenM); exact rfl; exact rfl) | ((with_reducible apply xo); exact rfl) | with_reducible apply xend)) | ((with_reducible apply xaw); (first | ((with_reducible apply xstepS); refine AW.step tok rfl ?_) | with_reducible (first | refine AW.seq ?_ | refine AW.block ?_ | refine AW.skip ?_) | ((with_reducible apply xcond); exact rfl))) | with_reducible refine xthen ?_ | (with_reducible intro hc; (try simp only [hcL, reduceCtorEq, List.length_map] at hc); (try (exfalso; omega))) | with_reducible (first | exact trivial | refine And.intro ?_ ?_ | exact rfl))
  refine AW.loop (S := fun k : Nat => ⟨[(0, .d (.lst (ls.map encLine))), (1, .d (.lst (ss.map encSpan))), (5, .msl 0 1 0 ls.length), (8, .d (.int .i64 ((j : Int) + 1))), (33, .d (.lst (ss.map encSpan))), (34, .d (.int .i64 ss.length)), (35, .d (.int .i64 k))], [.arr 1 ((reqRound ls ss (j + 1) (reqs ls ss j) k).map encN)], 86, .p 0⟩)
    (Pre := fun k => k ≤ ss.length) (μ := fun k => ss.length - k) 0 (Nat.zero_le _) ?_ ?_
  · (refine xwk (π := [0]) (by decide) rfl ?_ ?_; (first | simp -implicitDefEqProofs only [go_sem, reqRound_zero]); repeat' (first | exact renE_n | ((with_reducible apply renE_c); exact rfl; focus (first | (simp -implicitDefEqProofs only [go_sem, reqRound_zero]; done)))))
  intro k hk
  by_cases hkl : ¬ k < ss.length
  · have hk' : k = ss.length := by omega
    subst hk'
    repeat' (first | ((with_reducible apply xsim); (first | ((with_reducible apply xo); exact rfl) | with_reducible apply xend)) | ((with_reducible apply xaw); (first | ((with_reducible apply xstepS); refine AW.step tok rfl ?_) | ((with_reducible apply xstep); refine AW.region tok rfl ?_) | with_reducible (first | refine AW.seq ?_ | refine AW.exit ?_) | ((with_reducible apply xcond); exact rfl))) | with_reducible (first | refine xthen ?_ | refine xthen_e ?_ | refine xblock ?_ | refine xblock_e ?_ | refine xround_e ?_) | (with_reducible intro hc; (try simp only [hcL, reduceCtorEq, List.length_map] at hc); (try (exfalso; omega))) | with_reducible (first | exact trivial | refine And.intro ?_ ?_ | exact rfl) | (refine inR_i64.mpr ?_; first | omega | (simp only [List.length_map, List.length_map]; omega)))
    refine round_end (j+1) (by omega) (by omega) (by (refine xwk (π := [0]) (by decide) rfl ?_ ?_; (first | simp -implicitDefEqProofs only [go_sem, reqs]); repeat' (first | exact renE_n | ((with_reducible apply renE_c); exact rfl; focus (first | (simp -implicitDefEqProofs only [go_sem, reqs]; done))))))
  replace hkl : k < ss.length := by omega
  have hro := round_rok h hs hjr (m := j + 1) k hk
  have hrow := at_map (f := encSpan) hkl
  have hok := hs.ok _ (List.getElem_mem hkl)
  have hsucc := reqRound_succ (ls := ls) (m := j + 1) (out := reqs ls ss j) hkl
  generalize reqRound ls ss (j + 1) (reqs ls ss j) k = out at *
  generalize ss[k] = s at *
  obtain ⟨a, m, d⟩ := s
  dsimp only at hok
  obtain ⟨a, rfl⟩ := Int.eq_ofNat_of_zero_le hok.1
  obtain ⟨m, rfl⟩ := Int.eq_ofNat_of_zero_le (show 0 ≤ m by omega)
  have hol := hro.len
  have hsl : List.take (((a : Int) + m).toNat - a) (List.drop a (out.map encN)) = (slc out a m).map encN := by rw [slc, List.map_take, List.map_drop, show ((a : Int) + m).toNat - a = m by omega]
  have hle : a + (((a : Int) + m).toNat - a) ≤ out.length := by omega
  have ew : List.take (((a : Int) + m).toNat - (a : Int).toNat) (List.drop (a : Int).toNat ls) = slc ls a m := by rw [slc, show ((a : Int) + m).toNat - (a : Int).toNat = m by omega]; simp
  have hnm := hro.slc h.hi (a := a) (m := m)
  have cs := c_sum (slc out a m) hnm
  have cw := c_weightsI (slc ls a m) (by rw [slc_len (by omega)]; omega)
  have hww : weights (slc ls a m) = slc (weights ls) a m := by simp [weights, slc_map]
  rw [hww, ← ew] at cw
  by_cases hmany : ¬ (m : Int) = j + 1
  · rw [reqStep, if_neg (fun hc => hmany hc.1)] at hsucc
    repeat' (first | ((with_reducible apply xsim); (first | ((with_reducible apply xo); exact rfl) | ((with_reducible apply xst); exact rfl) | with_reducible apply xend | ((with_reducible apply xalloc); exact rfl; simp only [bkL, Nat.reduceAdd, Nat.reduceSub]) | ((with_reducible apply xidxL); exact rfl; exact rfl; exact rfl; (first | exact hrow); omega; first | exact rfl | simp only [hsz]))) | ((with_reducible apply xaw); (first | ((with_reducible apply xstepS); refine AW.step tok rfl ?_) | ((with_reducible apply xstep); refine AW.region tok rfl ?_) | with_reducible (first | refine AW.seq ?_ | refine AW.block ?_ | refine AW.skip ?_ | refine AW.exit ?_) | ((with_reducible apply xcond); exact rfl))) | with_reducible (first | refine xthen ?_ | refine xthen_e ?_ | refine xblock_e ?_) | (with_reducible intro hc; (try simp only [hcL, reduceCtorEq, List.length_map] at hc); (try (exfalso; omega))) | with_reducible (first | exact trivial | refine And.intro ?_ ?_ | exact rfl) | exact Eq.refl true | (refine inR_i64.mpr ?_; first | omega | (simp only [List.length_map, List.length_map]; omega)))
    refine round_end (k+1) hkl (by omega) (by (refine xwk (π := [0]) (by decide) rfl ?_ ?_; (first | simp -implicitDefEqProofs only [go_sem, hsucc]); repeat' (first | exact renE_n | ((with_reducible apply renE_c); exact rfl; focus (first | (simp -implicitDefEqProofs only [go_sem, hsucc]; done))))))
  replace hmany : (m : Int) = j + 1 := by omega
  have hsb := hnm.sum _ (Nat.le_refl _)
  have hsln : (slc out a m).length = m := slc_len (by omega)
  rw [List.take_length, hsln] at hsb
  have hws := h.slc (a := a) (m := m) (by omega) (by omega)
  by_cases hmis : ¬ 0 < d - sumI (slc out a m)
  · rw [reqStep, if_neg (fun hc => hmis hc.2)] at hsucc
    repeat' (first | ((with_reducible apply xsim); (first | ((with_reducible apply xo); exact rfl) | ((with_reducible apply xst); exact rfl) | with_reducible apply xend | ((with_reducible apply xalloc); exact rfl; simp only [bkL, Nat.reduceAdd, Nat.reduceSub]) | ((with_reducible apply xidxL); exact rfl; exact rfl; exact rfl; (first | exact hrow); omega; first | exact rfl | simp only [hsz]) | ((with_reducible apply xslcMB); exact rfl; exact rfl; exact rfl; exact rfl; (first | omega | (simp only [List.length_cons, List.length_nil]; omega))) | ((with_reducible apply xcallLend [0]); exact rfl; exact cs; (focus (first | exact rfl | (simp -implicitDefEqProofs only [go_sem, ↓reduceIte, Nat.reduceEqDiff, List.length_map, hsl, hle]; done))); exact rfl; exact rfl))) | ((with_reducible apply xaw); (first | ((with_reducible apply xstepS); refine AW.step tok rfl ?_) | ((with_reducible apply xstep); refine AW.region tok rfl ?_) | with_reducible (first | refine AW.seq ?_ | refine AW.block ?_ | refine AW.skip ?_) | ((with_reducible apply xcond); exact rfl) | ((with_reducible apply xdraw (id := 15)); refine AW.draw (id := 15) (.q 0 (.q 2 (.q 3 (.q 4 (.q 5 (.q 6 (.two 1 (.e 7 (.q 8 (.q 9 (.fin)))) 7 (.e 1 (.q 8 (.q 9 (.fin))))))))))) tok (by kernel_rfl) rfl (by kernel_rfl) ?_))) | ((with_reducible apply xarun); (first | ((with_reducible apply xrun_q); exact rfl; exact rfl; exact rfl) | ((with_reducible apply xrun_e); exact rfl) | with_reducible apply xrun_f | ((with_reducible apply xrun_2); exact rfl; exact rfl))) | with_reducible (first | refine xthen ?_ | refine xblock ?_) | (with_reducible intro hc; (try simp only [hcL, reduceCtorEq, List.length_map, hsl, hle] at hc); (try (exfalso; omega))) | with_reducible (first | exact trivial | refine And.intro ?_ ?_ | exact rfl) | exact Eq.refl true | (refine inR_i64.mpr ?_; first | omega | (simp only [List.length_map, List.length_map, hsl, hle]; omega)))
    all_goals refine round_end (k+1) hkl (by omega) (by (refine xwk (π := [0]) (by decide) rfl ?_ ?_; (first | simp -implicitDefEqProofs only [go_sem, hsucc]); repeat' (first | exact renE_n | ((with_reducible apply renE_c); exact rfl; focus (first | (simp -implicitDefEqProofs only [go_sem, hsucc]; done))))))
  replace hmis : 0 < d - sumI (slc out a m) := by omega
  have csp := c_spreadI (d - sumI (slc out a m)) (slc (weights ls) a m) (by omega) hws
  have hpl : (spread (d - sumI (slc out a m)) (slc (weights ls) a m)).length = m := by rw [spread_len]; exact slc_len (by rw [weights_len]; omega)
  have hpb := spread_bd hws (n := d - sumI (slc out a m)) (by omega)
  have hstep : reqRound ls ss (j + 1) (reqs ls ss j) (k + 1) = putN (spread (d - sumI (slc out a m)) (slc (weights ls) a m)) a m out := by rw [hsucc, reqStep, if_pos ⟨hmany, hmis⟩]; rfl
  generalize hps : spread (d - sumI (slc out a m)) (slc (weights ls) a m) = ps at *
  repeat' (first | ((with_reducible apply xsim); (first | ((with_reducible apply xo); exact rfl) | ((with_reducible apply xst); exact rfl) | with_reducible apply xend | ((with_reducible apply xalloc); exact rfl; simp only [bkL, Nat.reduceAdd, Nat.reduceSub]) | ((with_reducible apply xidxL); exact rfl; exact rfl; exact rfl; (first | exact hrow); omega; first | exact rfl | simp only [hsz]) | ((with_reducible apply xslcB); exact rfl; exact rfl; exact rfl; exact rfl; exact (fun r hr => by obtain ⟨a, _, rfl⟩ := List.mem_map.1 hr; rfl); first | omega | (simp only [List.length_cons, List.length_nil]; omega)) | ((with_reducible apply xslcMB); exact rfl; exact rfl; exact rfl; exact rfl; (first | omega | (simp only [List.length_cons, List.length_nil]; omega))) | ((with_reducible apply xcallIs); exact rfl; exact rfl; exact cw; exact rfl) | ((with_reducible apply xcallLend [0]); exact rfl; exact cs; (focus (first | exact rfl | (simp -implicitDefEqProofs only [go_sem, ↓reduceIte, Nat.reduceEqDiff, List.length_map, hsl, hle]; done))); exact rfl; exact rfl) | ((with_reducible apply xcallOwn); exact rfl; exact rfl; exact csp; simp only [bkL, Nat.reduceAdd, Nat.reduceSub]))) | ((with_reducible apply xaw); (first | ((with_reducible apply xstepS); refine AW.step tok rfl ?_) | with_reducible (first | refine AW.seq ?_ | refine AW.block ?_ | refine AW.skip ?_) | ((with_reducible apply xcond); exact rfl) | ((with_reducible apply xdraw (id := 15)); refine AW.draw (id := 15) (.q 0 (.q 2 (.q 3 (.q 4 (.q 5 (.q 6 (.two 1 (.e 7 (.q 8 (.q 9 (.fin)))) 7 (.e 1 (.q 8 (.q 9 (.fin))))))))))) tok (by kernel_rfl) rfl (by kernel_rfl) ?_))) | ((with_reducible apply xarun); (first | ((with_reducible apply xrun_q); exact rfl; exact rfl; exact rfl) | ((with_reducible apply xrun_e); exact rfl) | with_reducible apply xrun_f | ((with_reducible apply xrun_2); exact rfl; exact rfl))) | with_reducible refine xthen ?_ | (with_reducible intro hc; (try simp only [hcL, reduceCtorEq, List.length_map, hsl, hle] at hc); (try (exfalso; omega))) | with_reducible (first | exact trivial | refine And.intro ?_ ?_ | exact rfl) | exact Eq.refl true | (refine inR_i64.mpr ?_; first | omega | (simp only [List.length_map, List.length_map, hsl, hle]; omega)))
  all_goals
    refine AW.loop (S := fun i : Nat => ⟨[(0, .d (.lst (ls.map encLine))), (1, .d (.lst (ss.map encSpan))), (5, .msl 0 1 0 ls.length), (8, .d (.int .i64 ((j : Int) + 1))), (10, .oref 1 0), (33, .d (.lst (ss.map encSpan))), (34, .d (.int .i64 ss.length)), (35, .d (.int .i64 k)), (66, .msl 2 1 0 m), (67, .d (.int .i64 m)), (68, .d (.int .i64 i))],
        [.arr 1 ((putN ps a i out).map encN), .box [.d (.int .i64 a), .d (.int .i64 m), .d (.int .i64 d)], .arr 1 (ps.map encN)], 86, .p 0⟩)
      (Pre := fun i => i ≤ m) (μ := fun i => m - i) 0 (Nat.zero_le _) ?_ ?_
    · (refine xwk (π := [0, 1, 2]) (by decide) rfl ?_ ?_; (first | simp -implicitDefEqProofs only [go_sem, putN_zero, hpl]); repeat' (first | exact renE_n | ((with_reducible apply renE_c); exact rfl; focus (first | (simp -implicitDefEqProofs only [go_sem, putN_zero, hpl]; done)))))
    · intro i hi
      by_cases hil : i < m
      · have hrp := at_map (f := encN) (xs := ps) (k := i) (by omega)
        have hp := hpb _ (List.getElem_mem (show i < ps.length by omega))
        have ho := hro.bd _ (List.getElem_mem (show a + i < out.length by omega))
        have hz : ((putN ps a i out).map encN)[idxAdd 0 ((a : Int) + (i : Int)).toNat]? = some [.int .i64 (out[a + i]'(by omega))] := by
          rw [show idxAdd 0 ((a : Int) + (i : Int)).toNat = a + i by rw [idxAdd_eq]; omega, List.getElem?_map, putN_at (by omega)]; rfl
        have hset : ((putN ps a i out).map encN).set ((a : Int) + (i : Int)).toNat [.int .i64 (out[a + i]'(by omega) + ps[i]'(by omega))] = (putN ps a (i + 1) out).map encN := by
          rw [show ((a : Int) + (i : Int)).toNat = a + i by omega, ← putN_set (by omega) (by omega), List.map_set]; rfl
        repeat' (first | ((with_reducible apply xsim); (first | ((with_reducible apply xo); exact rfl) | with_reducible apply xend | ((with_reducible apply xidxM); exact rfl; exact rfl; exact rfl; omega; omega; exact rfl) | ((with_reducible apply xldA); exact rfl; exact rfl; exact rfl; (first | exact hrp | exact hz); exact rfl) | ((with_reducible apply xstA); exact rfl; exact rfl; exact rfl; exact rfl; (first | exact hrp | exact hz); exact rfl; exact rfl; exact rfl; exact rfl; (try simp only [List.set_cons_zero, List.set_cons_succ])))) | ((with_reducible apply xaw); (first | ((with_reducible apply xstepS); refine AW.step tok rfl ?_) | ((with_reducible apply xstep); refine AW.region tok rfl ?_) | with_reducible (first | refine AW.seq ?_ | refine AW.block ?_ | refine AW.skip ?_) | ((with_reducible apply xcond); exact rfl))) | with_reducible (first | refine xthen ?_ | refine xblock ?_) | (with_reducible intro hc; (try simp only [hcL, reduceCtorEq] at hc); (try (exfalso; omega))) | with_reducible (first | exact trivial | refine And.intro ?_ ?_ | exact rfl) | (refine inR_i64.mpr ?_; first | omega | (simp only [List.length_map]; omega)))
        refine round_end (i+1) hil (by omega) (by (refine xwk (π := [0, 1, 2]) (by decide) rfl ?_ ?_; (first | simp -implicitDefEqProofs only [go_sem, hset]); repeat' (first | exact renE_n | ((with_reducible apply renE_c); exact rfl; focus (first | (simp -implicitDefEqProofs only [go_sem, hset]; done))))))
      · have hi' : i = m := by omega
        subst hi'
        repeat' (first | ((with_reducible apply xsim); (first | ((with_reducible apply xo); exact rfl) | with_reducible apply xend)) | ((with_reducible apply xaw); (first | ((with_reducible apply xstepS); refine AW.step tok rfl ?_) | ((with_reducible apply xstep); refine AW.region tok rfl ?_) | with_reducible (first | refine AW.seq ?_ | refine AW.exit ?_) | ((with_reducible apply xcond); exact rfl))) | with_reducible (first | refine xthen ?_ | refine xthen_e ?_ | refine xblock ?_ | refine xblock_e ?_ | refine xround_e ?_) | (with_reducible intro hc; (try simp only [hcL, reduceCtorEq] at hc); (try (exfalso; omega))) | with_reducible (first | exact trivial | refine And.intro ?_ ?_ | exact rfl) | (refine inR_i64.mpr ?_; first | omega | (simp only [List.length_map]; omega)))
        refine round_end (k+1) hkl (by omega) (by (refine xwk (π := [0]) (by decide) rfl ?_ ?_; (first | simp -implicitDefEqProofs only [go_sem, hstep]); repeat' (first | exact renE_n | ((with_reducible apply renE_c); exact rfl; focus (first | (simp -implicitDefEqProofs only [go_sem, hstep]; done))))))
end Go.Proofs.Ytpfhnhhkfobjnaa

namespace Go.Proofs.Ytpfhnhhkfobjnaa
open Go.Fw
attribute [local irreducible] Go.Fw.aops Go.Fw.arun

theorem c_wished (ls : List Line) (ss : List Span) (h : LOk ls) (hs : SOk ss ls.length) : ACon Try.prog 83 [.d (.lst (ls.map encLine)), .d (.lst (ss.map encSpan))] [] (ONums (requests ls ss)) := by
  have hlo := h.lo; have hhi := h.hi; have hsh := hs.hi
  have hml := mins_len ls
  refine ACon.introW tok (nt := 100) Try.func83 rfl rfl rfl (by kernel_rfl) rfl ?_
  repeat' (first | ((with_reducible apply xsim); (first | ((with_reducible apply xo); exact rfl) | with_reducible apply xend | ((with_reducible apply xbuild); exact rfl; exact rfl; exact rfl; exact rfl; exact rfl; simp only [bkL, Nat.reduceAdd, Nat.reduceSub]))) | ((with_reducible apply xaw); (first | ((with_reducible apply xstepS); refine AW.step tok rfl ?_) | with_reducible (first | refine AW.seq ?_ | refine AW.block ?_))) | with_reducible exact trivial)
  refine AW.loop (S := fun k : Nat => ⟨[(0, .d (.lst (ls.map encLine))), (1, .d (.lst (ss.map encSpan))), (5, .msl 0 1 0 k), (6, .d (.int .i64 k))], [.arr 1 (((mins ls).take k).map encN)], 100, .p 0⟩)
    (Pre := fun k => k ≤ ls.length) (μ := fun k => ls.length - k) 0 (Nat.zero_le _) ?_ ?_
  · (refine xwk (π := [0]) (by decide) rfl ?_ ?_; (first | simp -implicitDefEqProofs only [go_sem, List.take_zero]); repeat' (first | exact renE_n | ((with_reducible apply renE_c); exact rfl; focus (first | (simp -implicitDefEqProofs only [go_sem, List.take_zero]; done)))))
  intro k hk
  have htl : ((mins ls).take k).length = k := by simp [hml]; omega
  by_cases hlt : k < ls.length
  · have hrow := at_map (f := encLine) hlt
    have hsu := mins_take hlt
    repeat' (first | ((with_reducible apply xsim); (first | ((with_reducible apply xlenM); exact rfl; exact rfl) | ((with_reducible apply xo); exact rfl) | with_reducible apply xend | ((with_reducible apply xbuild); exact rfl; exact rfl; exact rfl; exact rfl; exact rfl; simp only [bkL, Nat.reduceAdd, Nat.reduceSub]) | ((with_reducible apply xidxL); exact rfl; exact rfl; exact rfl; (first | exact hrow); omega; first | exact rfl | simp only [hsz]) | simp -implicitDefEqProofs only [go_sem, List.length_map, htl])) | ((with_reducible apply xaw); (first | ((with_reducible apply xstepS); refine AW.step tok rfl ?_) | ((with_reducible apply xstep); refine AW.region tok rfl ?_) | with_reducible (first | refine AW.seq ?_ | refine AW.block ?_ | refine AW.skip ?_) | ((with_reducible apply xcond); exact rfl))) | with_reducible refine xthen ?_ | (with_reducible intro hc; (try simp only [hcL, reduceCtorEq, List.length_map, htl] at hc); (try (exfalso; omega))) | with_reducible (first | exact trivial | refine And.intro ?_ ?_ | exact rfl) | (refine inR_i64.mpr ?_; first | omega | (simp only [List.length_map, List.length_map, htl]; omega)) | omega)
    refine round_end (k+1) hlt (by omega) (by (refine xwk (π := [2]) (by decide) rfl ?_ ?_; (first | simp -implicitDefEqProofs only [go_sem, hsu, List.map_append, encN]); repeat' (first | exact renE_n | ((with_reducible apply renE_c); exact rfl; focus (first | (simp -implicitDefEqProofs only [go_sem, hsu, List.map_append, encN]; done))))))
  have hk' : k = ls.length := by omega
  subst hk'
  have hta : (mins ls).take ls.length = mins ls := by rw [← hml, List.take_length]
  rw [hta]
  repeat' (first | ((with_reducible apply xsim); (first | ((with_reducible apply xlenM); exact rfl; exact rfl) | ((with_reducible apply xo); exact rfl) | with_reducible apply xend)) | ((with_reducible apply xaw); (first | ((with_reducible apply xstepS); refine AW.step tok rfl ?_) | with_reducible (first | refine AW.seq ?_ | refine AW.block ?_ | refine AW.exit ?_) | ((with_reducible apply xcond); exact rfl))) | with_reducible (first | refine xthen ?_ | refine xthen_e ?_ | refine xblock_e ?_ | refine xround_e ?_) | (with_reducible intro hc; (try simp only [hcL, reduceCtorEq, List.length_map] at hc); (try (exfalso; omega))) | with_reducible (first | exact trivial | refine And.intro ?_ ?_ | exact rfl))
  refine AW.loop (S := fun j : Nat => ⟨[(0, .d (.lst (ls.map encLine))), (1, .d (.lst (ss.map encSpan))), (5, .msl 0 1 0 ls.length), (7, .d (.int .i64 ((j : Int) + 1)))], [.arr 1 ((reqs ls ss j).map encN)], 100, .p 0⟩)
    (Pre := fun j => j ≤ ls.length) (μ := fun j => ls.length - j) 0 (Nat.zero_le _) ?_ ?_
  · (refine xwk (π := [0]) (by decide) rfl ?_ ?_; (first | simp -implicitDefEqProofs only [go_sem, reqs]); repeat' (first | exact renE_n | ((with_reducible apply renE_c); exact rfl; focus (first | (simp -implicitDefEqProofs only [go_sem, reqs]; done) | (simp -implicitDefEqProofs only [go_sem, reqs]; omega)))))
  intro j hj
  have hjr := reqs_rok h hs j
  by_cases hjl : ¬ j < ls.length
  · have hj' : j = ls.length := by omega
    subst hj'
    have hrl := (requests_rok h hs).len
    repeat' (first | ((with_reducible apply xsim); (first | ((with_reducible apply xlenM); exact rfl; exact rfl) | ((with_reducible apply xo); exact rfl) | with_reducible apply xend)) | ((with_reducible apply xaw); (first | ((with_reducible apply xstepS); refine AW.step tok rfl ?_) | with_reducible (first | refine AW.seq ?_ | refine AW.ret ?_ | refine AW.exit ?_) | ((with_reducible apply xcond); exact rfl))) | with_reducible (first | refine xthen ?_ | refine xthen_e ?_ | refine xblock_e ?_ | refine xround_e ?_) | (with_reducible intro hc; (try simp only [hcL, reduceCtorEq, List.length_map] at hc); (try (exfalso; omega))) | with_reducible (first | exact trivial | refine And.intro ?_ ?_ | exact rfl))
    (refine xfinOwn [0] (by first | exact .inl rfl | exact .inr rfl) rfl (by repeat' (first | exact trivial | exact rfl | refine And.intro ?_ ?_)) (by decide) rfl ?_ ?_ <;> simp -implicitDefEqProofs only [go_sem, requests, hjr.len])
  replace hjl : j < ls.length := by omega
  repeat' (first | ((with_reducible apply xsim); (first | ((with_reducible apply xlenM); exact rfl; exact rfl) | ((with_reducible apply xo); exact rfl) | with_reducible apply xend)) | ((with_reducible apply xaw); (first | ((with_reducible apply xstepS); refine AW.step tok rfl ?_) | with_reducible (first | refine AW.seq ?_ | refine AW.block ?_ | refine AW.skip ?_) | ((with_reducible apply xcond); exact rfl))) | with_reducible refine xthen ?_ | (with_reducible intro hc; (try simp only [hcL, reduceCtorEq, List.length_map] at hc); (try (exfalso; omega))) | with_reducible (first | exact trivial | refine And.intro ?_ ?_ | exact rfl))
  refine AW.loop (S := fun k : Nat => ⟨[(0, .d (.lst (ls.map encLine))), (1, .d (.lst (ss.map encSpan))), (5, .msl 0 1 0 ls.length), (7, .d (.int .i64 ((j : Int) + 1))), (8, .d (.int .i64 k))], [.arr 1 ((reqRound ls ss (j + 1) (reqs ls ss j) k).map encN)], 100, .p 0⟩)
    (Pre := fun k => k ≤ ss.length) (μ := fun k => ss.length - k) 0 (Nat.zero_le _) ?_ ?_
  · (refine xwk (π := [0]) (by decide) rfl ?_ ?_; (first | simp -implicitDefEqProofs only [go_sem, reqRound_zero]); repeat' (first | exact renE_n | ((with_reducible apply renE_c); exact rfl; focus (first | (simp -implicitDefEqProofs only [go_sem, reqRound_zero]; done)))))
  intro k hk
  by_cases hkl : ¬ k < ss.length
  · have hk' : k = ss.length := by omega
    subst hk'
    repeat' (first | ((with_reducible apply xsim); (first | ((with_reducible apply xlenM); exact rfl; exact rfl) | ((with_reducible apply xo); exact rfl) | with_reducible apply xend)) | ((with_reducible apply xaw); (first | ((with_reducible apply xstepS); refine AW.step tok rfl ?_) | ((with_reducible apply xstep); refine AW.region tok rfl ?_) | with_reducible (first | refine AW.seq ?_ | refine AW.exit ?_) | ((with_reducible apply xcond); exact rfl))) | with_reducible (first | refine xthen ?_ | refine xthen_e ?_ | refine xblock ?_ | refine xblock_e ?_ | refine xround_e ?_) | (with_reducible intro hc; (try simp only [hcL, reduceCtorEq, List.length_map] at hc); (try (exfalso; omega))) | with_reducible (first | exact trivial | refine And.intro ?_ ?_ | exact rfl) | (refine inR_i64.mpr ?_; first | omega | (simp only [List.length_map, List.length_map]; omega)))
    refine round_end (j+1) (by omega) (by omega) (by (refine xwk (π := [0]) (by decide) rfl ?_ ?_; (first | simp -implicitDefEqProofs only [go_sem, reqs]); repeat' (first | exact renE_n | ((with_reducible apply renE_c); exact rfl; focus (first | (simp -implicitDefEqProofs only [go_sem, reqs]; done))))))
  replace hkl : k < ss.length := by omega
  have hro := round_rok h hs hjr (m := j + 1) k hk
  have hrow := at_map (f := encSpan) hkl
  have hok := hs.ok _ (List.getElem_mem hkl)
  have hsucc := reqRound_succ (ls := ls) (m := j + 1) (out := reqs ls ss j) hkl
  generalize reqRound ls ss (j + 1) (reqs ls ss j) k = out at *
  generalize ss[k] = s at *
  obtain ⟨a, m, d⟩ := s
  dsimp only at hok
  obtain ⟨a, rfl⟩ := Int.eq_ofNat_of_zero_le hok.1
  obtain ⟨m, rfl⟩ := Int.eq_ofNat_of_zero_le (show 0 ≤ m by omega)
  have hol := hro.len
  have hsl : List.take (((a : Int) + m).toNat - a) (List.drop a (out.map encN)) = (slc out a m).map encN := by rw [slc, List.map_take, List.map_drop, show ((a : Int) + m).toNat - a = m by omega]
  have hle : a + (((a : Int) + m).toNat - a) ≤ out.length := by omega
  have ew : List.take (((a : Int) + m).toNat - (a : Int).toNat) (List.drop (a : Int).toNat ls) = slc ls a m := by rw [slc, show ((a : Int) + m).toNat - (a : Int).toNat = m by omega]; simp
  have hnm := hro.slc h.hi (a := a) (m := m)
  have cs := c_total (slc out a m) hnm
  have cw := c_weightsS (slc ls a m) (by rw [slc_len (by omega)]; omega)
  have hww : weights (slc ls a m) = slc (weights ls) a m := by simp [weights, slc_map]
  rw [hww, ← ew] at cw
  by_cases hmany : ¬ (m : Int) = j + 1
  · rw [reqStep, if_neg (fun hc => hmany hc.1)] at hsucc
    repeat' (first | ((with_reducible apply xsim); (first | ((with_reducible apply xlenM); exact rfl; exact rfl) | ((with_reducible apply xo); exact rfl) | ((with_reducible apply xst); exact rfl) | with_reducible apply xend | ((with_reducible apply xalloc); exact rfl; simp only [bkL, Nat.reduceAdd, Nat.reduceSub]) | ((with_reducible apply xidxL); exact rfl; exact rfl; exact rfl; (first | exact hrow); omega; first | exact rfl | simp only [hsz]))) | ((with_reducible apply xaw); (first | ((with_reducible apply xstepS); refine AW.step tok rfl ?_) | ((with_reducible apply xstep); refine AW.region tok rfl ?_) | with_reducible (first | refine AW.seq ?_ | refine AW.block ?_ | refine AW.skip ?_ | refine AW.exit ?_) | ((with_reducible apply xcond); exact rfl))) | with_reducible (first | refine xthen ?_ | refine xthen_e ?_ | refine xblock_e ?_) | (with_reducible intro hc; (try simp only [hcL, reduceCtorEq, List.length_map] at hc); (try (exfalso; omega))) | with_reducible (first | exact trivial | refine And.intro ?_ ?_ | exact rfl) | exact Eq.refl true | (refine inR_i64.mpr ?_; first | omega | (simp only [List.length_map, List.length_map]; omega)))
    refine round_end (k+1) hkl (by omega) (by (refine xwk (π := [0]) (by decide) rfl ?_ ?_; (first | simp -implicitDefEqProofs only [go_sem, hsucc]); repeat' (first | exact renE_n | ((with_reducible apply renE_c); exact rfl; focus (first | (simp -implicitDefEqProofs only [go_sem, hsucc]; done))))))
  replace hmany : (m : Int) = j + 1 := by omega
  have hsb := hnm.sum _ (Nat.le_refl _)
  have hsln : (slc out a m).length = m := slc_len (by omega)
  rw [List.take_length, hsln] at hsb
  have hws := h.slc (a := a) (m := m) (by omega) (by omega)
  by_cases hmis : ¬ 0 < d - sumI (slc out a m)
  · rw [reqStep, if_neg (fun hc => hmis hc.2)] at hsucc
    repeat' (first | ((with_reducible apply xsim); (first | ((with_reducible apply xlenM); exact rfl; exact rfl) | ((with_reducible apply xo); exact rfl) | ((with_reducible apply xst); exact rfl) | with_reducible apply xend | ((with_reducible apply xalloc); exact rfl; simp only [bkL, Nat.reduceAdd, Nat.reduceSub]) | ((with_reducible apply xidxL); exact rfl; exact rfl; exact rfl; (first | exact hrow); omega; first | exact rfl | simp only [hsz]) | ((with_reducible apply xslcMB); exact rfl; exact rfl; exact rfl; exact rfl; (first | omega | (simp only [List.length_cons, List.length_nil]; omega))) | ((with_reducible apply xcallLend [0]); exact rfl; exact cs; (focus (first | exact rfl | (simp -implicitDefEqProofs only [go_sem, ↓reduceIte, Nat.reduceEqDiff, List.length_map, hsl, hle]; done))); exact rfl; exact rfl))) | ((with_reducible apply xaw); (first | ((with_reducible apply xstepS); refine AW.step tok rfl ?_) | ((with_reducible apply xstep); refine AW.region tok rfl ?_) | with_reducible (first | refine AW.seq ?_ | refine AW.block ?_ | refine AW.skip ?_ | refine AW.exit ?_) | ((with_reducible apply xcond); exact rfl) | ((with_reducible apply xdraw (id := 14)); refine AW.draw (id := 14) (.q 0 (.q 2 (.q 3 (.q 4 (.q 5 (.q 6 (.q 7 (.q 8 (.q 9 (.q 10 (.two 1 (.e 11 (.q 12 (.q 13 (.fin)))) 11 (.e 1 (.q 12 (.q 13 (.fin))))))))))))))) tok (by kernel_rfl) rfl (by kernel_rfl) ?_))) | ((with_reducible apply xarun); (first | ((with_reducible apply xrun_q); exact rfl; exact rfl; exact rfl) | ((with_reducible apply xrun_e); exact rfl) | with_reducible apply xrun_f | ((with_reducible apply xrun_2); exact rfl; exact rfl))) | with_reducible (first | refine xthen ?_ | refine xthen_e ?_ | refine xblock_e ?_) | (with_reducible intro hc; (try simp only [hcL, reduceCtorEq, List.length_map, hsl, hle] at hc); (try (exfalso; omega))) | with_reducible (first | exact trivial | refine And.intro ?_ ?_ | exact rfl) | exact Eq.refl true | (refine inR_i64.mpr ?_; first | omega | (simp only [List.length_map, List.length_map, hsl, hle]; omega)))
    all_goals refine round_end (k+1) hkl (by omega) (by (refine xwk (π := [0]) (by decide) rfl ?_ ?_; (first | simp -implicitDefEqProofs only [go_sem, hsucc]); repeat' (first | exact renE_n | ((with_reducible apply renE_c); exact rfl; focus (first | (simp -implicitDefEqProofs only [go_sem, hsucc]; done))))))
  replace hmis : 0 < d - sumI (slc out a m) := by omega
  have csp := c_spreadS (d - sumI (slc out a m)) (slc (weights ls) a m) (by omega) hws
  have hpl : (spread (d - sumI (slc out a m)) (slc (weights ls) a m)).length = m := by rw [spread_len]; exact slc_len (by rw [weights_len]; omega)
  have hpb := spread_bd hws (n := d - sumI (slc out a m)) (by omega)
  have hstep : reqRound ls ss (j + 1) (reqs ls ss j) (k + 1) = putN (spread (d - sumI (slc out a m)) (slc (weights ls) a m)) a m out := by rw [hsucc, reqStep, if_pos ⟨hmany, hmis⟩]; rfl
  generalize hps : spread (d - sumI (slc out a m)) (slc (weights ls) a m) = ps at *
  repeat' (first | ((with_reducible apply xsim); (first | ((with_reducible apply xlenM); exact rfl; exact rfl) | ((with_reducible apply xo); exact rfl) | ((with_reducible apply xst); exact rfl) | with_reducible apply xend | ((with_reducible apply xalloc); exact rfl; simp only [bkL, Nat.reduceAdd, Nat.reduceSub]) | ((with_reducible apply xidxL); exact rfl; exact rfl; exact rfl; (first | exact hrow); omega; first | exact rfl | simp only [hsz]) | ((with_reducible apply xslcB); exact rfl; exact rfl; exact rfl; exact rfl; exact (fun r hr => by obtain ⟨a, _, rfl⟩ := List.mem_map.1 hr; rfl); first | omega | (simp only [List.length_cons, List.length_nil]; omega)) | ((with_reducible apply xslcMB); exact rfl; exact rfl; exact rfl; exact rfl; (first | omega | (simp only [List.length_cons, List.length_nil]; omega))) | ((with_reducible apply xcallIs); exact rfl; exact rfl; exact cw; exact rfl) | ((with_reducible apply xcallLend [0]); exact rfl; exact cs; (focus (first | exact rfl | (simp -implicitDefEqProofs only [go_sem, ↓reduceIte, Nat.reduceEqDiff, List.length_map, hsl, hle]; done))); exact rfl; exact rfl) | ((with_reducible apply xcallOwn); exact rfl; exact rfl; exact csp; simp only [bkL, Nat.reduceAdd, Nat.reduceSub]))) | ((with_reducible apply xaw); (first | ((with_reducible apply xstepS); refine AW.step tok rfl ?_) | with_reducible (first | refine AW.seq ?_ | refine AW.block ?_ | refine AW.skip ?_) | ((with_reducible apply xcond); exact rfl) | ((with_reducible apply xdraw (id := 14)); refine AW.draw (id := 14) (.q 0 (.q 2 (.q 3 (.q 4 (.q 5 (.q 6 (.q 7 (.q 8 (.q 9 (.q 10 (.two 1 (.e 11 (.q 12 (.q 13 (.fin)))) 11 (.e 1 (.q 12 (.q 13 (.fin))))))))))))))) tok (by kernel_rfl) rfl (by kernel_rfl) ?_))) | ((with_reducible apply xarun); (first | ((with_reducible apply xrun_q); exact rfl; exact rfl; exact rfl) | ((with_reducible apply xrun_e); exact rfl) | with_reducible apply xrun_f | ((with_reducible apply xrun_2); exact rfl; exact rfl))) | with_reducible refine xthen ?_ | (with_reducible intro hc; (try simp only [hcL, reduceCtorEq, List.length_map, hsl, hle] at hc); (try (exfalso; omega))) | with_reducible (first | exact trivial | refine And.intro ?_ ?_ | exact rfl) | exact Eq.refl true | (refine inR_i64.mpr ?_; first | omega | (simp only [List.length_map, List.length_map, hsl, hle]; omega)))
  all_goals
    refine AW.loop (S := fun i : Nat => ⟨[(0, .d (.lst (ls.map encLine))), (1, .d (.lst (ss.map encSpan))), (5, .msl 0 1 0 ls.length), (7, .d (.int .i64 ((j : Int) + 1))), (8, .d (.int .i64 k)), (9, .oref 1 0), (11, .msl 2 1 0 m), (12, .d (.int .i64 i))],
        [.arr 1 ((putN ps a i out).map encN), .box [.d (.int .i64 a), .d (.int .i64 m), .d (.int .i64 d)], .arr 1 (ps.map encN)], 100, .p 0⟩)
      (Pre := fun i => i ≤ m) (μ := fun i => m - i) 0 (Nat.zero_le _) ?_ ?_
    · (refine xwk (π := [0, 1, 2]) (by decide) rfl ?_ ?_; (first | simp -implicitDefEqProofs only [go_sem, putN_zero, hpl]); repeat' (first | exact renE_n | ((with_reducible apply renE_c); exact rfl; focus (first | (simp -implicitDefEqProofs only [go_sem, putN_zero, hpl]; done)))))
    · intro i hi
      by_cases hil : i < m
      · have hrp := at_map (f := encN) (xs := ps) (k := i) (by omega)
        have hp := hpb _ (List.getElem_mem (show i < ps.length by omega))
        have ho := hro.bd _ (List.getElem_mem (show a + i < out.length by omega))
        have hz : ((putN ps a i out).map encN)[idxAdd 0 ((a : Int) + (i : Int)).toNat]? = some [.int .i64 (out[a + i]'(by omega))] := by
          rw [show idxAdd 0 ((a : Int) + (i : Int)).toNat = a + i by rw [idxAdd_eq]; omega, List.getElem?_map, putN_at (by omega)]; rfl
        have hset : ((putN ps a i out).map encN).set ((a : Int) + (i : Int)).toNat [.int .i64 (out[a + i]'(by omega) + ps[i]'(by omega))] = (putN ps a (i + 1) out).map encN := by
          rw [show ((a : Int) + (i : Int)).toNat = a + i by omega, ← putN_set (by omega) (by omega), List.map_set]; rfl
        repeat' (first | ((with_reducible apply xsim); (first | ((with_reducible apply xo); exact rfl) | with_reducible apply xend | ((with_reducible apply xidxM); exact rfl; exact rfl; exact rfl; omega; omega; exact rfl) | ((with_reducible apply xldA); exact rfl; exact rfl; exact rfl; (first | exact hrp | exact hz); exact rfl) | ((with_reducible apply xstA); exact rfl; exact rfl; exact rfl; exact rfl; (first | exact hrp | exact hz); exact rfl; exact rfl; exact rfl; exact rfl; (try simp only [List.set_cons_zero, List.set_cons_succ])))) | ((with_reducible apply xaw); (first | ((with_reducible apply xstepS); refine AW.step tok rfl ?_) | ((with_reducible apply xstep); refine AW.region tok rfl ?_) | with_reducible (first | refine AW.seq ?_ | refine AW.block ?_ | refine AW.skip ?_) | ((with_reducible apply xcond); exact rfl) | ((with_reducible apply xdraw (id := 20)); refine AW.draw (id := 20) (.q 0 (.q 1 (.q 2 (.q 3 (.q 4 (.q 5 (.q 6 (.q 7 (.q 8 (.q 9 (.q 10 (.q 11 (.q 12 (.q 13 (.q 14 (.q 15 (.q 16 (.q 17 (.e 18 (.fin)))))))))))))))))))) tok (by kernel_rfl) rfl (by kernel_rfl) ?_))) | ((with_reducible apply xarun); (first | ((with_reducible apply xrun_q); exact rfl; exact rfl; exact rfl) | ((with_reducible apply xrun_e); exact rfl) | with_reducible apply xrun_f)) | with_reducible (first | refine xthen ?_ | refine xblock ?_) | (with_reducible intro hc; (try simp only [hcL, reduceCtorEq] at hc); (try (exfalso; omega))) | with_reducible (first | exact trivial | refine And.intro ?_ ?_ | exact rfl) | exact Eq.refl true | (refine inR_i64.mpr ?_; first | omega | (simp only [List.length_map]; omega)))
        refine round_end (i+1) hil (by omega) (by (refine xwk (π := [0, 1, 2]) (by decide) rfl ?_ ?_; (first | simp -implicitDefEqProofs only [go_sem, hset]); repeat' (first | exact renE_n | ((with_reducible apply renE_c); exact rfl; focus (first | (simp -implicitDefEqProofs only [go_sem, hset]; done))))))
      · have hi' : i = m := by omega
        subst hi'
        repeat' (first | ((with_reducible apply xsim); (first | ((with_reducible apply xo); exact rfl) | with_reducible apply xend)) | ((with_reducible apply xaw); (first | ((with_reducible apply xstepS); refine AW.step tok rfl ?_) | ((with_reducible apply xstep); refine AW.region tok rfl ?_) | with_reducible (first | refine AW.seq ?_ | refine AW.exit ?_) | ((with_reducible apply xcond); exact rfl))) | with_reducible (first | refine xthen ?_ | refine xthen_e ?_ | refine xblock ?_ | refine xblock_e ?_ | refine xround_e ?_) | (with_reducible intro hc; (try simp only [hcL, reduceCtorEq] at hc); (try (exfalso; omega))) | with_reducible (first | exact trivial | refine And.intro ?_ ?_ | exact rfl) | exact Eq.refl true | (refine inR_i64.mpr ?_; first | omega | (simp only [List.length_map]; omega)))
        refine round_end (k+1) hkl (by omega) (by (refine xwk (π := [0]) (by decide) rfl ?_ ?_; (first | simp -implicitDefEqProofs only [go_sem, hstep]); repeat' (first | exact renE_n | ((with_reducible apply renE_c); exact rfl; focus (first | (simp -implicitDefEqProofs only [go_sem, hstep]; done))))))
end Go.Proofs.Ytpfhnhhkfobjnaa

namespace Go.Proofs.Ytpfhnhhkfobjnaa
open Go.Fw
attribute [local irreducible] Go.Fw.aops Go.Fw.arun

theorem colSpans_take {cs : List Cell} {k : Nat} (h : k < cs.length) : (colSpans cs).take (k + 1) = (colSpans cs).take k ++ [colSpan cs[k]] := by
  rw [List.take_succ_eq_append_getElem (by simp [colSpans]; exact h)]; simp [colSpans]
theorem rowSpans_take {cs : List Cell} {k : Nat} (h : k < cs.length) : (rowSpans cs).take (k + 1) = (rowSpans cs).take k ++ [rowSpan cs[k]] := by
  rw [List.take_succ_eq_append_getElem (by simp [rowSpans]; exact h)]; simp [rowSpans]

theorem c_spans (g : Grid) (h : GOk g) : ACon Try.prog 88 [vGrid g] [] (Is (.tup [.d (.lst ((colSpans g.cells).map encSpan)), .d (.lst ((rowSpans g.cells).map encSpan))])) := by
  have h8 := h.hi
  have hcl : (colSpans g.cells).length = g.cells.length := by simp [colSpans]
  have hrl : (rowSpans g.cells).length = g.cells.length := by simp [rowSpans]
  refine ACon.introW tok (nt := 46) Try.func88 rfl rfl rfl (by kernel_rfl) rfl ?_
  repeat' (first | ((with_reducible apply xsim); (first | ((with_reducible apply xlenM); exact rfl; exact rfl) | ((with_reducible apply xo); exact rfl) | with_reducible apply xend | ((with_reducible apply xbox); exact rfl; simp only [bkL, Nat.reduceAdd, Nat.reduceSub]))) | ((with_reducible apply xaw); (first | ((with_reducible apply xstepS); refine AW.step tok rfl ?_) | with_reducible (first | refine AW.seq ?_ | refine AW.block ?_))) | with_reducible exact trivial)
  refine AW.own 4 3 rfl ?_
  refine AW.own 5 3 rfl ?_
  refine AW.loop (S := fun k : Nat => ⟨[(4, .msl 0 3 0 k), (5, .msl 1 3 0 k), (9, .d (.lst (g.cells.map encCell))), (10, .d (.int .i64 g.cells.length)), (11, .d (.int .i64 k))], [.arr 3 (((colSpans g.cells).take k).map encSpan), .arr 3 (((rowSpans g.cells).take k).map encSpan)], 46, .p 0⟩)
    (Pre := fun k => k ≤ g.cells.length) (μ := fun k => g.cells.length - k) 0 (Nat.zero_le _) ?_ ?_
  · (refine xwk (π := [1, 2]) (by decide) rfl ?_ ?_; (first | simp -implicitDefEqProofs only [go_sem, List.take_zero]); repeat' (first | exact renE_n | ((with_reducible apply renE_c); exact rfl; focus (first | (simp -implicitDefEqProofs only [go_sem, List.take_zero]; done)))))
  intro k hk
  have hc1 : ((colSpans g.cells).take k).length = k := by simp [hcl]; omega
  have hc2 : ((rowSpans g.cells).take k).length = k := by simp [hrl]; omega
  by_cases hlt : k < g.cells.length
  · have hrow := at_map (f := encCell) hlt
    have hs1 := colSpans_take hlt
    have hs2 := rowSpans_take hlt
    have hb := h.ok _ (List.getElem_mem hlt)
    repeat' (first | ((with_reducible apply xsim); (first | ((with_reducible apply xo); exact rfl) | ((with_reducible apply xst); exact rfl) | with_reducible apply xend | ((with_reducible apply xalloc); exact rfl; simp only [bkL, Nat.reduceAdd, Nat.reduceSub]) | ((with_reducible apply xbuild); exact rfl; exact rfl; exact rfl; exact rfl; exact rfl; simp only [bkL, Nat.reduceAdd, Nat.reduceSub]) | ((with_reducible apply xidxL); exact rfl; exact rfl; exact rfl; (first | exact hrow); omega; first | exact rfl | simp only [hsz]) | simp -implicitDefEqProofs only [go_sem, List.length_map, hc1, hc2])) | ((with_reducible apply xaw); (first | ((with_reducible apply xstepS); refine AW.step tok rfl ?_) | ((with_reducible apply xstep); refine AW.region tok rfl ?_) | with_reducible (first | refine AW.seq ?_ | refine AW.block ?_ | refine AW.skip ?_) | ((with_reducible apply xcond); exact rfl))) | with_reducible refine xthen ?_ | (with_reducible intro hc; (try simp only [hcL, reduceCtorEq, List.length_map, hc1, hc2] at hc); (try (exfalso; omega))) | with_reducible (first | exact trivial | refine And.intro ?_ ?_ | exact rfl) | exact Eq.refl true | (refine inR_i64.mpr ?_; first | omega | (simp only [List.length_map, List.length_map, hc1, hc2]; omega)) | omega)
    refine round_end (k+1) hlt (by omega) (by (refine xwk (π := [4, 6]) (by decide) rfl ?_ ?_; (first | simp -implicitDefEqProofs only [go_sem, hs1, hs2, List.map_append, colSpan, rowSpan]); repeat' (first | exact renE_n | ((with_reducible apply renE_c); exact rfl; focus (first | (simp -implicitDefEqProofs only [go_sem, hs1, hs2, List.map_append, colSpan, rowSpan]; done))))))
  have hk' : k = g.cells.length := by omega
  subst hk'
  have t1 : (colSpans g.cells).take g.cells.length = colSpans g.cells := by rw [← hcl, List.take_length]
  have t2 : (rowSpans g.cells).take g.cells.length = rowSpans g.cells := by rw [← hrl, List.take_length]
  rw [t1, t2]
  repeat' (first | ((with_reducible apply xsim); (first | ((with_reducible apply xo); exact rfl) | with_reducible apply xend)) | ((with_reducible apply xaw); (first | ((with_reducible apply xstepS); refine AW.step tok rfl ?_) | with_reducible (first | refine AW.seq ?_ | refine AW.ret ?_ | refine AW.exit ?_) | ((with_reducible apply xcond); exact rfl))) | with_reducible (first | refine xthen ?_ | refine xthen_e ?_ | refine xblock_e ?_ | refine xround_e ?_) | (with_reducible intro hc; (try simp only [hcL, reduceCtorEq, List.length_map] at hc); (try (exfalso; omega))) | with_reducible (first | exact trivial | refine And.intro ?_ ?_ | exact rfl))
  refine xfinW (Weak.freezeA 2 0 3 rfl rfl (by simp [hcl])) ?_
  refine xfinW (Weak.freezeA 3 1 3 rfl rfl (by simp [hrl])) ?_
  (refine xfinIs (by first | exact .inl rfl | exact .inr rfl) rfl (by repeat' (first | exact trivial | exact rfl | refine And.intro ?_ ?_)) rfl ?_ rfl; first | with_reducible exact rfl)

theorem c_colSpansS (g : Grid) (h : GOk g) : ACon Try.prog 84 [vGrid g] [] (Is (.d (.lst ((colSpans g.cells).map encSpan)))) := by
  have h8 := h.hi
  have hcl : (colSpans g.cells).length = g.cells.length := by simp [colSpans]
  refine ACon.introW tok (nt := 34) Try.func84 rfl rfl rfl (by kernel_rfl) rfl ?_
  repeat' (first | ((with_reducible apply xsim); (first | ((with_reducible apply xo); exact rfl) | with_reducible apply xend | ((with_reducible apply xbox); exact rfl; simp only [bkL, Nat.reduceAdd, Nat.reduceSub]) | ((with_reducible apply xbuild); exact rfl; exact rfl; exact rfl; exact rfl; exact rfl; simp only [bkL, Nat.reduceAdd, Nat.reduceSub]))) | ((with_reducible apply xaw); (first | ((with_reducible apply xstepS); refine AW.step tok rfl ?_) | with_reducible (first | refine AW.seq ?_ | refine AW.block ?_))) | with_reducible exact trivial)
  refine AW.loop (S := fun k : Nat => ⟨[(1, .oref 1 0), (3, .msl 0 3 0 k), (4, .d (.int .i64 k))], [.arr 3 (((colSpans g.cells).take k).map encSpan), .box [.d (.lst (g.cols.map encLine)), .d (.lst (g.rows.map encLine)), .d (.lst (g.cells.map encCell))]], 34, .p 0⟩)
    (Pre := fun k => k ≤ g.cells.length) (μ := fun k => g.cells.length - k) 0 (Nat.zero_le _) ?_ ?_
  · (refine xwk (π := [1, 0]) (by decide) rfl ?_ ?_; (first | simp -implicitDefEqProofs only [go_sem, List.take_zero, encGrid]); repeat' (first | exact renE_n | ((with_reducible apply renE_c); exact rfl; focus (first | (simp -implicitDefEqProofs only [go_sem, List.take_zero, encGrid]; done)))))
  intro k hk
  have hc1 : ((colSpans g.cells).take k).length = k := by simp [hcl]; omega
  by_cases hlt : k < g.cells.length
  · have hrow := at_map (f := encCell) hlt
    have hs1 := colSpans_take hlt
    have hb := h.ok _ (List.getElem_mem hlt)
    repeat' (first | ((with_reducible apply xsim); (first | ((with_reducible apply xlenM); exact rfl; exact rfl) | ((with_reducible apply xo); exact rfl) | ((with_reducible apply xst); exact rfl) | with_reducible apply xend | ((with_reducible apply xalloc); exact rfl; simp only [bkL, Nat.reduceAdd, Nat.reduceSub]) | ((with_reducible apply xbuild); exact rfl; exact rfl; exact rfl; exact rfl; exact rfl; simp only [bkL, Nat.reduceAdd, Nat.reduceSub]) | ((with_reducible apply xidxL); exact rfl; exact rfl; exact rfl; (first | exact hrow); omega; first | exact rfl | simp only [hsz]) | simp -implicitDefEqProofs only [go_sem, List.length_map, hc1])) | ((with_reducible apply xaw); (first | ((with_reducible apply xstepS); refine AW.step tok rfl ?_) | ((with_reducible apply xstep); refine AW.region tok rfl ?_) | with_reducible (first | refine AW.seq ?_ | refine AW.block ?_ | refine AW.skip ?_) | ((with_reducible apply xcond); exact rfl))) | with_reducible refine xthen ?_ | (with_reducible intro hc; (try simp only [hcL, reduceCtorEq, List.length_map, hc1] at hc); (try (exfalso; omega))) | with_reducible (first | exact trivial | refine And.intro ?_ ?_ | exact rfl) | exact Eq.refl true | (refine inR_i64.mpr ?_; first | omega | (simp only [List.length_map, List.length_map, hc1]; omega)) | omega)
    refine round_end (k+1) hlt (by omega) (by (refine xwk (π := [4, 1]) (by decide) rfl ?_ ?_; (first | simp -implicitDefEqProofs only [go_sem, hs1, List.map_append, colSpan]); repeat' (first | exact renE_n | ((with_reducible apply renE_c); exact rfl; focus (first | (simp -implicitDefEqProofs only [go_sem, hs1, List.map_append, colSpan]; done))))))
  have hk' : k = g.cells.length := by omega
  subst hk'
  have t1 : (colSpans g.cells).take g.cells.length = colSpans g.cells := by rw [← hcl, List.take_length]
  rw [t1]
  repeat' (first | ((with_reducible apply xsim); (first | ((with_reducible apply xlenM); exact rfl; exact rfl) | ((with_reducible apply xo); exact rfl) | with_reducible apply xend)) | ((with_reducible apply xaw); (first | ((with_reducible apply xstepS); refine AW.step tok rfl ?_) | with_reducible (first | refine AW.seq ?_ | refine AW.ret ?_ | refine AW.exit ?_) | ((with_reducible apply xcond); exact rfl))) | with_reducible (first | refine xthen ?_ | refine xthen_e ?_ | refine xblock_e ?_ | refine xround_e ?_) | (with_reducible intro hc; (try simp only [hcL, reduceCtorEq, List.length_map] at hc); (try (exfalso; omega))) | with_reducible (first | exact trivial | refine And.intro ?_ ?_ | exact rfl))
  refine xfinW (Weak.freezeA 2 0 3 rfl rfl (by simp [hcl])) ?_
  (refine xfinIs (by first | exact .inl rfl | exact .inr rfl) rfl (by repeat' (first | exact trivial | exact rfl | refine And.intro ?_ ?_)) rfl ?_ rfl; first | with_reducible exact rfl)
theorem c_rowSpansS (g : Grid) (h : GOk g) : ACon Try.prog 85 [vGrid g] [] (Is (.d (.lst ((rowSpans g.cells).map encSpan)))) := by
  have h8 := h.hi
  have hcl : (rowSpans g.cells).length = g.cells.length := by simp [rowSpans]
  refine ACon.introW tok (nt := 34) Try.func85 rfl rfl rfl (by kernel_rfl) rfl ?_
  repeat' (first | ((with_reducible apply xsim); (first | ((with_reducible apply xo); exact rfl) | with_reducible apply xend | ((with_reducible apply xbox); exact rfl; simp only [bkL, Nat.reduceAdd, Nat.reduceSub]) | ((with_reducible apply xbuild); exact rfl; exact rfl; exact rfl; exact rfl; exact rfl; simp only [bkL, Nat.reduceAdd, Nat.reduceSub]))) | ((with_reducible apply xaw); (first | ((with_reducible apply xstepS); refine AW.step tok rfl ?_) | with_reducible (first | refine AW.seq ?_ | refine AW.block ?_))) | with_reducible exact trivial)
  refine AW.loop (S := fun k : Nat => ⟨[(1, .oref 1 0), (3, .msl 0 3 0 k), (4, .d (.int .i64 k))], [.arr 3 (((rowSpans g.cells).take k).map encSpan), .box [.d (.lst (g.cols.map encLine)), .d (.lst (g.rows.map encLine)), .d (.lst (g.cells.map encCell))]], 34, .p 0⟩)
    (Pre := fun k => k ≤ g.cells.length) (μ := fun k => g.cells.length - k) 0 (Nat.zero_le _) ?_ ?_
  · (refine xwk (π := [1, 0]) (by decide) rfl ?_ ?_; (first | simp -implicitDefEqProofs only [go_sem, List.take_zero, encGrid]); repeat' (first | exact renE_n | ((with_reducible apply renE_c); exact rfl; focus (first | (simp -implicitDefEqProofs only [go_sem, List.take_zero, encGrid]; done)))))
  intro k hk
  have hc1 : ((rowSpans g.cells).take k).length = k := by simp [hcl]; omega
  by_cases hlt : k < g.cells.length
  · have hrow := at_map (f := encCell) hlt
    have hs1 := rowSpans_take hlt
    have hb := h.ok _ (List.getElem_mem hlt)
    repeat' (first | ((with_reducible apply xsim); (first | ((with_reducible apply xlenM); exact rfl; exact rfl) | ((with_reducible apply xo); exact rfl) | ((with_reducible apply xst); exact rfl) | with_reducible apply xend | ((with_reducible apply xalloc); exact rfl; simp only [bkL, Nat.reduceAdd, Nat.reduceSub]) | ((with_reducible apply xbuild); exact rfl; exact rfl; exact rfl; exact rfl; exact rfl; simp only [bkL, Nat.reduceAdd, Nat.reduceSub]) | ((with_reducible apply xidxL); exact rfl; exact rfl; exact rfl; (first | exact hrow); omega; first | exact rfl | simp only [hsz]) | simp -implicitDefEqProofs only [go_sem, List.length_map, hc1])) | ((with_reducible apply xaw); (first | ((with_reducible apply xstepS); refine AW.step tok rfl ?_) | ((with_reducible apply xstep); refine AW.region tok rfl ?_) | with_reducible (first | refine AW.seq ?_ | refine AW.block ?_ | refine AW.skip ?_) | ((with_reducible apply xcond); exact rfl))) | with_reducible refine xthen ?_ | (with_reducible intro hc; (try simp only [hcL, reduceCtorEq, List.length_map, hc1] at hc); (try (exfalso; omega))) | with_reducible (first | exact trivial | refine And.intro ?_ ?_ | exact rfl) | exact Eq.refl true | (refine inR_i64.mpr ?_; first | omega | (simp only [List.length_map, List.length_map, hc1]; omega)) | omega)
    refine round_end (k+1) hlt (by omega) (by (refine xwk (π := [4, 1]) (by decide) rfl ?_ ?_; (first | simp -implicitDefEqProofs only [go_sem, hs1, List.map_append, rowSpan]); repeat' (first | exact renE_n | ((with_reducible apply renE_c); exact rfl; focus (first | (simp -implicitDefEqProofs only [go_sem, hs1, List.map_append, rowSpan]; done))))))
  have hk' : k = g.cells.length := by omega
  subst hk'
  have t1 : (rowSpans g.cells).take g.cells.length = rowSpans g.cells := by rw [← hcl, List.take_length]
  rw [t1]
  repeat' (first | ((with_reducible apply xsim); (first | ((with_reducible apply xlenM); exact rfl; exact rfl) | ((with_reducible apply xo); exact rfl) | with_reducible apply xend)) | ((with_reducible apply xaw); (first | ((with_reducible apply xstepS); refine AW.step tok rfl ?_) | with_reducible (first | refine AW.seq ?_ | refine AW.ret ?_ | refine AW.exit ?_) | ((with_reducible apply xcond); exact rfl))) | with_reducible (first | refine xthen ?_ | refine xthen_e ?_ | refine xblock_e ?_ | refine xround_e ?_) | (with_reducible intro hc; (try simp only [hcL, reduceCtorEq, List.length_map] at hc); (try (exfalso; omega))) | with_reducible (first | exact trivial | refine And.intro ?_ ?_ | exact rfl))
  refine xfinW (Weak.freezeA 2 0 3 rfl rfl (by simp [hcl])) ?_
  (refine xfinIs (by first | exact .inl rfl | exact .inr rfl) rfl (by repeat' (first | exact trivial | exact rfl | refine And.intro ?_ ?_)) rfl ?_ rfl; first | with_reducible exact rfl)

theorem c_requestI (g : Grid) (h : GOk g) : ACon Try.prog 62 [vGrid g] [] (Is (.tup [.d (.int .i64 (gridReq g).1), .d (.int .i64 (gridReq g).2)])) := by
  have r1 := requests_rok h.cols h.cspans
  have r2 := requests_rok h.rows h.rspans
  refine ACon.introW tok (nt := 21) Try.func62 rfl rfl rfl (by kernel_rfl) rfl ?_
  repeat' (first | ((with_reducible apply xsim); (first | ((with_reducible apply xo); exact rfl) | with_reducible apply xend | ((with_reducible apply xbox); exact rfl; simp only [bkL, Nat.reduceAdd, Nat.reduceSub]) | ((with_reducible apply xcallIs); exact rfl; exact rfl; (first | exact c_spans g h | exact ORows.data (c_lineRequestsI _ _ h.cols h.cspans) | exact ORows.data (c_lineRequestsI _ _ h.rows h.rspans) | exact c_sum _ (r1.nums h.cols.hi) | exact c_sum _ (r2.nums h.rows.hi)); exact rfl))) | ((with_reducible apply xaw); (first | ((with_reducible apply xstepS); refine AW.step tok rfl ?_) | with_reducible (first | refine AW.seq ?_ | refine AW.ret ?_) | ((with_reducible apply xdraw (id := 2)); refine AW.draw (id := 2) (.q 0 (.q 1 (.q 2 (.q 3 (.q 4 (.q 5 (.q 6 (.q 7 (.q 8 (.q 9 (.q 10 (.q 11 (.fin))))))))))))) tok (by kernel_rfl) rfl (by kernel_rfl) ?_))) | ((with_reducible apply xarun); (first | ((with_reducible apply xrun_q); exact rfl; exact rfl; exact rfl) | ((with_reducible apply xrun_c); exact rfl; exact rfl; exact rfl; exact rfl; exact rfl; exact rfl; (first | exact c_spans g h | exact ORows.data (c_lineRequestsI _ _ h.cols h.cspans) | exact ORows.data (c_lineRequestsI _ _ h.rows h.rspans) | exact c_sum _ (r1.nums h.cols.hi) | exact c_sum _ (r2.nums h.rows.hi)); exact rfl) | with_reducible apply xrun_f)) | with_reducible refine xthen ?_ | with_reducible exact trivial | exact Eq.refl true)
  all_goals (refine xfinIs (by first | exact .inl rfl | exact .inr rfl) rfl (by repeat' (first | exact trivial | exact rfl | refine And.intro ?_ ?_)) rfl ?_ rfl; first | (simp -implicitDefEqProofs only [go_sem, gridReq] <;> (first | rfl | omega | exact decide_eq_decide.2 (by omega) | exact decide_eq_false (by omega) | exact decide_eq_true (by omega) | (symm; first | exact decide_eq_false (by omega) | exact decide_eq_true (by omega)) | (rw [Bool.eq_iff_iff]; simp only [boL, reduceCtorEq]; omega))))
theorem c_requestS (g : Grid) (h : GOk g) : ACon Try.prog 56 [vGrid g] [] (Is (.tup [.d (.int .i64 (gridReq g).1), .d (.int .i64 (gridReq g).2)])) := by
  have r1 := requests_rok h.cols h.cspans
  have r2 := requests_rok h.rows h.rspans
  refine ACon.introW tok (nt := 16) Try.func56 rfl rfl rfl (by kernel_rfl) rfl ?_
  repeat' (first | ((with_reducible apply xsim); (first | ((with_reducible apply xo); exact rfl) | with_reducible apply xend | ((with_reducible apply xbox); exact rfl; simp only [bkL, Nat.reduceAdd, Nat.reduceSub]))) | ((with_reducible apply xaw); (first | ((with_reducible apply xstepS); refine AW.step tok rfl ?_) | with_reducible (first | refine AW.seq ?_ | refine AW.ret ?_) | ((with_reducible apply xdraw (id := 1)); refine AW.draw (id := 1) (.q 0 (.q 1 (.q 2 (.q 3 (.q 4 (.q 5 (.q 6 (.q 7 (.q 8 (.q 9 (.q 10 (.q 11 (.q 12 (.q 13 (.fin))))))))))))))) tok (by kernel_rfl) rfl (by kernel_rfl) ?_))) | ((with_reducible apply xarun); (first | ((with_reducible apply xrun_q); exact rfl; exact rfl; exact rfl) | ((with_reducible apply xrun_c); exact rfl; exact rfl; exact rfl; exact rfl; exact rfl; exact rfl; (first | exact c_colSpansS g h | exact c_rowSpansS g h | exact ORows.data (c_wished _ _ h.cols h.cspans) | exact ORows.data (c_wished _ _ h.rows h.rspans) | exact c_total _ (r1.nums h.cols.hi) | exact c_total _ (r2.nums h.rows.hi)); exact rfl) | with_reducible apply xrun_f)) | with_reducible refine xthen ?_ | with_reducible exact trivial | exact Eq.refl true)
  all_goals (refine xfinIs (by first | exact .inl rfl | exact .inr rfl) rfl (by repeat' (first | exact trivial | exact rfl | refine And.intro ?_ ?_)) rfl ?_ rfl; first | (simp -implicitDefEqProofs only [go_sem, gridReq] <;> (first | rfl | omega | exact decide_eq_decide.2 (by omega) | exact decide_eq_false (by omega) | exact decide_eq_true (by omega) | (symm; first | exact decide_eq_false (by omega) | exact decide_eq_true (by omega)) | (rw [Bool.eq_iff_iff]; simp only [boL, reduceCtorEq]; omega))))

end Go.Proofs.Ytpfhnhhkfobjnaa

namespace Go.Proofs.Ytpfhnhhkfobjnaa
open Go.Fw

/-- Sizes of lines that are used. -/
structure XOk (n : Nat) (xs : List Int) : Prop where
  len : xs.length = n
  hi : n ≤ 5
  bd : ∀ x ∈ xs, 0 ≤ x ∧ x ≤ 32768
  sum : sumI xs ≤ 32768
theorem XOk.nums {n : Nat} {xs : List Int} (h : XOk n xs) : NumsOk xs := ⟨by have := h.len; have := h.hi; omega, fun x hx => by have := h.bd x hx; omega⟩
theorem XOk.take {n : Nat} {xs : List Int} (h : XOk n xs) {k : Nat} : NumsOk (xs.take k) := ⟨by have := h.len; have := h.hi; simp; omega, fun x hx => by have := h.bd x (List.mem_of_mem_take hx); omega⟩
theorem XOk.slc {n : Nat} {xs : List Int} (h : XOk n xs) {a m : Nat} : NumsOk (slc xs a m) := ⟨by have := h.len; have := h.hi; simp [Go.Proofs.Ytpfhnhhkfobjnaa.slc]; omega, fun x hx => by have := h.bd x (slc_mem hx); omega⟩
end Go.Proofs.Ytpfhnhhkfobjnaa

namespace Go.Proofs.Ytpfhnhhkfobjnaa
open Go.Fw

instance : Inhabited Rect := ⟨⟨0, 0, 0, 0⟩⟩
/-- The rectangle lies in another one. -/
def InR (r q : Rect) : Prop := r.x ≤ q.x ∧ r.y ≤ q.y ∧ 0 ≤ q.w ∧ 0 ≤ q.h ∧ q.x + q.w ≤ r.x + r.w ∧ q.y + q.h ≤ r.y + r.h
theorem InR.trans {a b c : Rect} (h1 : InR a b) (h2 : InR b c) : InR a c := by unfold InR at *; omega
theorem items_ok {t : List Node} (h : TreeK t) (i : Nat) : (itemsOf t (kids t i)).length ≤ 10 ∧ (itemsOf t (kids t i)).all packB = true := by
  have := kids_len t i t.length
  have := h.hi
  refine ⟨by simp only [itemsOf, List.length_map]; unfold kids; omega, ?_⟩
  unfold itemsOf
  rw [List.all_map, List.all_eq_true]
  intro k hk
  obtain ⟨a, _⟩ := h.kid hk
  exact packOf_ok h a (wish_le h a)
theorem grid_ok {t : List Node} (h : TreeK t) {i : Nat} (hi : i < t.length) (hk : (nodeAt t i).kind = 1) : GOk (gridOf t i (kids t i)) :=
  gridOf_ok h hi hk fun k hk => wish_le h (h.kid hk).1

/-- The bounds of a node's rectangle. -/
structure RB (k : Nat) (r : Rect) : Prop where
  w : 0 ≤ r.w ∧ r.w ≤ 1700 + 300 * k
  h : 0 ≤ r.h ∧ r.h ≤ 1700 + 300 * k
  x : -(16384 * (k : Int)) ≤ r.x ∧ r.x ≤ 16384 * k
  y : -(16384 * (k : Int)) ≤ r.y ∧ r.y ≤ 16384 * k
theorem RB.in {k : Nat} {r : Rect} (h : RB k r) (hk : k ≤ 10) : RectIn r := by
  obtain ⟨h1, h2, h3, h4⟩ := h
  constructor <;> omega
end Go.Proofs.Ytpfhnhhkfobjnaa

namespace Go.Proofs.Ytpfhnhhkfobjnaa
open Go.Fw

section
variable {t : List Node} {w h : Int} {A B : Nat → Bool} {out : List Rect}
end
/-- A node is another one, or below it. -/
def belF (t : List Node) : Nat → Nat → Nat → Bool
  | 0, _, _ => false
  | f + 1, i, j => decide (j = i) || (kids t i).any fun k => belF t f k j
def bel (t : List Node) (i j : Nat) : Bool := belF t t.length i j
end Go.Proofs.Ytpfhnhhkfobjnaa

namespace Go.Fw

/-- A nil slice in a cell of an own box is taken for one of an own array without rows. -/
theorem Weak.ownBoxCell {s : St} (b sz : Nat) {cells : List V} (i : Nat) (hb : s.objs[b]? = some (.box cells)) (hi : cells[i]? = some .nils) : Weak s ⟨s.env, (s.objs ++ [O.arr sz []]).set b (.box (cells.set i (.msl s.objs.length sz 0 0))), s.n, s.fx⟩ := by
  refine ⟨fun x a w hC => ?_⟩
  obtain ⟨ok, ρ, hI, hF, hE, hn, hd, hx⟩ := hC
  obtain ⟨h1, h2, h3⟩ := step_new (w' := w) hI hF (Nat.le_refl _) (fun _ _ => rfl) rfl rfl rfl none (fun b hb => by cases hb)
    (o := O.arr sz []) ⟨fun r hr => (by cases hr), .inl ⟨rfl, (by rw [← hI.len]; simp)⟩⟩
  have hlt : b < s.objs.length := (List.getElem?_eq_some_iff.1 hb).1
  have hb' : (s.objs ++ [O.arr sz []])[b]? = some (.box cells) := by rw [List.getElem?_append_left hlt]; exact hb
  obtain ⟨blk, cs, t, r1, r2, r3, r4⟩ := h1.own _ _ hb'
  have hor : ORep w ok (ρ ++ [none]) b (.box (cells.set i (.msl s.objs.length sz 0 0))) := by
    refine ⟨blk, cs, t, r1, r2, by rw [List.length_set]; exact r3, fun j c hj => ?_⟩
    rw [List.getElem?_set] at hj
    split at hj
    · rename_i e
      subst e
      split at hj
      · obtain rfl : V.msl s.objs.length sz 0 0 = c := by simpa using hj
        have := r4 _ _ hi
        generalize Array.getD _ _ _ = u at this ⊢
        cases this
        exact .msl0 (by rw [List.length_append, hI.len]; simp)
      · simp at hj
    · exact r4 _ _ hj
  obtain ⟨g1, g2, g3⟩ := step_write (w' := w) h1 h2 hb' rfl r1 rfl (fun _ _ => rfl) rfl rfl rfl rfl hor rfl
  exact ⟨ok, ρ ++ [none], g1, g2, fun j => g3 _ _ (h3 _ _ (hE j)), hn, hd, hx⟩
end Go.Fw

namespace Go.Proofs.Ytpfhnhhkfobjnaa
open Go.Fw
attribute [local irreducible] Go.Fw.aops Go.Fw.arun

/-- A node's number. -/
@[go_sem] def encK (k : Nat) : List D := [.int .i64 (k : Int)]
theorem isKid_iff {t : List Node} {i k : Nat} (hk : k < t.length) : isKid t i k = decide (t[k].parent = (i : Int)) := by rw [isKid, nodeAt_eq hk]

set_option maxRecDepth 8000 in
theorem c_AkidsI (t : List Node) (h : TreeK t) (i : Nat) : ACon Try.prog 58 [vTree t, .d (.int .i64 (i : Int))] [] (ORows encK 1 (kids t i)) := by
  have hlo := h.lo; have hhi := h.hi
  refine ACon.introW tok (nt := 26) Try.func58 rfl rfl rfl (by kernel_rfl) rfl ?_
  repeat' (first | ((with_reducible apply xsim); (first | ((with_reducible apply xlenM); exact rfl; exact rfl) | ((with_reducible apply xo); exact rfl) | with_reducible apply xend | ((with_reducible apply xbox); exact rfl; simp only [bkL, Nat.reduceAdd, Nat.reduceSub]))) | ((with_reducible apply xaw); (first | ((with_reducible apply xstepS); refine AW.step tok rfl ?_) | with_reducible (first | refine AW.seq ?_ | refine AW.block ?_))) | with_reducible exact trivial)
  refine AW.own 5 1 rfl ?_
  refine AW.loop (S := fun k : Nat => ⟨[(1, .d (.int .i64 (i : Int))), (5, .msl 0 1 0 (kidsTo t i k).length), (9, .d (.lst (t.map encNode))), (10, .d (.int .i64 t.length)), (11, .d (.int .i64 k))], [.arr 1 ((kidsTo t i k).map encK)], 26, .p 0⟩)
    (Pre := fun k => k ≤ t.length) (μ := fun k => t.length - k) 0 (Nat.zero_le _) ?_ ?_
  · (refine xwk (π := [1]) (by decide) rfl ?_ ?_; (first | simp -implicitDefEqProofs only [go_sem, kidsTo, List.range_zero, List.filter_nil]); repeat' (first | exact renE_n | ((with_reducible apply renE_c); exact rfl; focus (first | (simp -implicitDefEqProofs only [go_sem, kidsTo, List.range_zero, List.filter_nil]; done)))))
  intro k hk
  have hkl := kids_len t i k
  by_cases hlt : k < t.length
  · have hrow := at_map (f := encNode) hlt
    have hs := kidsTo_succ (t := t) (i := i) (k := k)
    rw [isKid_iff hlt] at hs
    by_cases hp : t[k].parent = (i : Int)
    · rw [if_pos (decide_eq_true hp)] at hs
      repeat' (first | ((with_reducible apply xsim); (first | ((with_reducible apply xo); exact rfl) | ((with_reducible apply xst); exact rfl) | with_reducible apply xend | ((with_reducible apply xalloc); exact rfl; simp only [bkL, Nat.reduceAdd, Nat.reduceSub]) | ((with_reducible apply xbuild); exact rfl; exact rfl; exact rfl; exact rfl; exact rfl; simp only [bkL, Nat.reduceAdd, Nat.reduceSub]) | ((with_reducible apply xidxL); exact rfl; exact rfl; exact rfl; (first | exact hrow); omega; first | exact rfl | simp only [hsz]) | simp -implicitDefEqProofs only [go_sem, List.length_map])) | ((with_reducible apply xaw); (first | ((with_reducible apply xstepS); refine AW.step tok rfl ?_) | ((with_reducible apply xstep); refine AW.region tok rfl ?_) | with_reducible (first | refine AW.seq ?_ | refine AW.block ?_ | refine AW.skip ?_) | ((with_reducible apply xcond); exact rfl))) | with_reducible refine xthen ?_ | (with_reducible intro hc; (try simp only [hcL, reduceCtorEq, List.length_map] at hc); (try (exfalso; omega))) | with_reducible (first | exact trivial | refine And.intro ?_ ?_ | exact rfl) | exact Eq.refl true | (refine inR_i64.mpr ?_; first | omega | (simp only [List.length_map, List.length_map]; omega)) | omega)
      refine round_end (k+1) hlt (by omega) (by (refine xwk (π := [3]) (by decide) rfl ?_ ?_; (first | simp -implicitDefEqProofs only [go_sem, hs, List.map_append, List.length_append]); repeat' (first | exact renE_n | ((with_reducible apply renE_c); exact rfl; focus (first | (simp -implicitDefEqProofs only [go_sem, hs, List.map_append, List.length_append]; done))))))
    · rw [if_neg (by simpa using hp), List.append_nil] at hs
      repeat' (first | ((with_reducible apply xsim); (first | ((with_reducible apply xo); exact rfl) | ((with_reducible apply xst); exact rfl) | with_reducible apply xend | ((with_reducible apply xalloc); exact rfl; simp only [bkL, Nat.reduceAdd, Nat.reduceSub]) | ((with_reducible apply xidxL); exact rfl; exact rfl; exact rfl; (first | exact hrow); omega; first | exact rfl | simp only [hsz]))) | ((with_reducible apply xaw); (first | ((with_reducible apply xstepS); refine AW.step tok rfl ?_) | ((with_reducible apply xstep); refine AW.region tok rfl ?_) | with_reducible (first | refine AW.seq ?_ | refine AW.block ?_ | refine AW.skip ?_) | ((with_reducible apply xcond); exact rfl))) | with_reducible (first | refine xthen ?_ | refine xblock ?_) | (with_reducible intro hc; (try simp only [hcL, reduceCtorEq, List.length_map] at hc); (try (exfalso; omega))) | with_reducible (first | exact trivial | refine And.intro ?_ ?_ | exact rfl) | exact Eq.refl true | (refine inR_i64.mpr ?_; first | omega | (simp only [List.length_map, List.length_map]; omega)))
      refine round_end (k+1) hlt (by omega) (by (refine xwk (π := [0]) (by decide) rfl ?_ ?_; (first | simp -implicitDefEqProofs only [go_sem, hs]); repeat' (first | exact renE_n | ((with_reducible apply renE_c); exact rfl; focus (first | (simp -implicitDefEqProofs only [go_sem, hs]; done))))))
  have hk' : k = t.length := by omega
  subst hk'
  repeat' (first | ((with_reducible apply xsim); (first | ((with_reducible apply xo); exact rfl) | with_reducible apply xend)) | ((with_reducible apply xaw); (first | ((with_reducible apply xstepS); refine AW.step tok rfl ?_) | with_reducible (first | refine AW.seq ?_ | refine AW.ret ?_ | refine AW.exit ?_) | ((with_reducible apply xcond); exact rfl))) | with_reducible (first | refine xthen ?_ | refine xthen_e ?_ | refine xblock_e ?_ | refine xround_e ?_) | (with_reducible intro hc; (try simp only [hcL, reduceCtorEq, List.length_map] at hc); (try (exfalso; omega))) | with_reducible (first | exact trivial | refine And.intro ?_ ?_ | exact rfl))
  (refine xfinOwn [0] (by first | exact .inl rfl | exact .inr rfl) rfl (by repeat' (first | exact trivial | exact rfl | refine And.intro ?_ ?_)) (by decide) rfl ?_ ?_ <;> simp -implicitDefEqProofs only [go_sem, kids])
theorem c_AkidsS (t : List Node) (h : TreeK t) (i : Nat) : ACon Try.prog 53 [vTree t, .d (.int .i64 (i : Int))] [] (ORows encK 1 (kids t i)) := by
  have hlo := h.lo; have hhi := h.hi
  refine ACon.introW tok (nt := 28) Try.func53 rfl rfl rfl (by kernel_rfl) rfl ?_
  repeat' (first | ((with_reducible apply xsim); (first | ((with_reducible apply xo); exact rfl) | with_reducible apply xend | ((with_reducible apply xbox); exact rfl; simp only [bkL, Nat.reduceAdd, Nat.reduceSub]) | ((with_reducible apply xbuild); exact rfl; exact rfl; exact rfl; exact rfl; exact rfl; simp only [bkL, Nat.reduceAdd, Nat.reduceSub]))) | ((with_reducible apply xaw); (first | ((with_reducible apply xstepS); refine AW.step tok rfl ?_) | with_reducible (first | refine AW.seq ?_ | refine AW.block ?_))) | with_reducible exact trivial)
  have h1 : kidsTo t i 1 = [] := by
    have e := kidsTo_succ (t := t) (i := i) (k := 0)
    have hr := h.root (by omega)
    rw [isKid_iff (by omega), if_neg (by simp only [hr, decide_eq_true_eq]; omega)] at e
    exact e
  refine AW.loop (S := fun k : Nat => ⟨[(1, .d (.int .i64 (i : Int))), (2, .oref 0 0), (5, .msl 1 1 0 (kidsTo t i k).length), (6, .d (.int .i64 k))], [.box [.d (.lst (t.map encNode))], .arr 1 ((kidsTo t i k).map encK)], 28, .p 0⟩)
    (Pre := fun k => k ≤ t.length) (μ := fun k => t.length - k) 1 hlo ?_ ?_
  · (refine xwk (π := [0, 1]) (by decide) rfl ?_ ?_; (first | simp -implicitDefEqProofs only [go_sem, h1]); repeat' (first | exact renE_n | ((with_reducible apply renE_c); exact rfl; focus (first | (simp -implicitDefEqProofs only [go_sem, h1]; done)))))
  intro k hk
  have hkl := kids_len t i k
  by_cases hlt : k < t.length
  · have hrow := at_map (f := encNode) hlt
    have hs := kidsTo_succ (t := t) (i := i) (k := k)
    rw [isKid_iff hlt] at hs
    by_cases hp : t[k].parent = (i : Int)
    · rw [if_pos (decide_eq_true hp)] at hs
      repeat' (first | ((with_reducible apply xsim); (first | ((with_reducible apply xlenM); exact rfl; exact rfl) | ((with_reducible apply xo); exact rfl) | with_reducible apply xend | ((with_reducible apply xbuild); exact rfl; exact rfl; exact rfl; exact rfl; exact rfl; simp only [bkL, Nat.reduceAdd, Nat.reduceSub]) | ((with_reducible apply xidxL); exact rfl; exact rfl; exact rfl; (first | exact hrow); omega; first | exact rfl | simp only [hsz]) | simp -implicitDefEqProofs only [go_sem, List.length_map])) | ((with_reducible apply xaw); (first | ((with_reducible apply xstepS); refine AW.step tok rfl ?_) | ((with_reducible apply xstep); refine AW.region tok rfl ?_) | with_reducible (first | refine AW.seq ?_ | refine AW.block ?_ | refine AW.skip ?_) | ((with_reducible apply xcond); exact rfl))) | with_reducible refine xthen ?_ | (with_reducible intro hc; (try simp only [hcL, reduceCtorEq, List.length_map] at hc); (try (exfalso; omega))) | with_reducible (first | exact trivial | refine And.intro ?_ ?_ | exact rfl) | (refine inR_i64.mpr ?_; first | omega | (simp only [List.length_map, List.length_map]; omega)) | omega)
      refine round_end (k+1) hlt (by omega) (by (refine xwk (π := [0, 3]) (by decide) rfl ?_ ?_; (first | simp -implicitDefEqProofs only [go_sem, hs, List.map_append, List.length_append]); repeat' (first | exact renE_n | ((with_reducible apply renE_c); exact rfl; focus (first | (simp -implicitDefEqProofs only [go_sem, hs, List.map_append, List.length_append]; done))))))
    · rw [if_neg (by simpa using hp), List.append_nil] at hs
      repeat' (first | ((with_reducible apply xsim); (first | ((with_reducible apply xlenM); exact rfl; exact rfl) | ((with_reducible apply xo); exact rfl) | with_reducible apply xend | ((with_reducible apply xidxL); exact rfl; exact rfl; exact rfl; (first | exact hrow); omega; first | exact rfl | simp only [hsz]))) | ((with_reducible apply xaw); (first | ((with_reducible apply xstepS); refine AW.step tok rfl ?_) | ((with_reducible apply xstep); refine AW.region tok rfl ?_) | with_reducible (first | refine AW.seq ?_ | refine AW.block ?_ | refine AW.skip ?_) | ((with_reducible apply xcond); exact rfl))) | with_reducible (first | refine xthen ?_ | refine xblock ?_) | (with_reducible intro hc; (try simp only [hcL, reduceCtorEq, List.length_map] at hc); (try (exfalso; omega))) | with_reducible (first | exact trivial | refine And.intro ?_ ?_ | exact rfl) | (refine inR_i64.mpr ?_; first | omega | (simp only [List.length_map, List.length_map]; omega)))
      refine round_end (k+1) hlt (by omega) (by (refine xwk (π := [0, 1]) (by decide) rfl ?_ ?_; (first | simp -implicitDefEqProofs only [go_sem, hs]); repeat' (first | exact renE_n | ((with_reducible apply renE_c); exact rfl; focus (first | (simp -implicitDefEqProofs only [go_sem, hs]; done))))))
  have hk' : k = t.length := by omega
  subst hk'
  repeat' (first | ((with_reducible apply xsim); (first | ((with_reducible apply xlenM); exact rfl; exact rfl) | ((with_reducible apply xo); exact rfl) | with_reducible apply xend)) | ((with_reducible apply xaw); (first | ((with_reducible apply xstepS); refine AW.step tok rfl ?_) | with_reducible (first | refine AW.seq ?_ | refine AW.ret ?_ | refine AW.exit ?_) | ((with_reducible apply xcond); exact rfl))) | with_reducible (first | refine xthen ?_ | refine xthen_e ?_ | refine xblock_e ?_ | refine xround_e ?_) | (with_reducible intro hc; (try simp only [hcL, reduceCtorEq, List.length_map] at hc); (try (exfalso; omega))) | with_reducible (first | exact trivial | refine And.intro ?_ ?_ | exact rfl))
  (refine xfinOwn [1] (by first | exact .inl rfl | exact .inr rfl) rfl (by repeat' (first | exact trivial | exact rfl | refine And.intro ?_ ?_)) (by decide) rfl ?_ ?_ <;> simp -implicitDefEqProofs only [go_sem, kids])
theorem c_kidsI (t : List Node) (h : TreeK t) (i : Nat) : ACon Try.prog 58 [vTree t, .d (.int .i64 (i : Int))] [] (Is (.d (.lst ((kids t i).map encK)))) := ORows.data (c_AkidsI t h i)
theorem c_kidsS (t : List Node) (h : TreeK t) (i : Nat) : ACon Try.prog 53 [vTree t, .d (.int .i64 (i : Int))] [] (Is (.d (.lst ((kids t i).map encK)))) := ORows.data (c_AkidsS t h i)

theorem items_take {t : List Node} {ks : List Nat} {k : Nat} (h : k < ks.length) : (itemsOf t ks).take (k + 1) = (itemsOf t ks).take k ++ [packOf (nodeAt t ks[k]) (wish t ks[k])] := by
  rw [List.take_succ_eq_append_getElem (by simp [itemsOf]; exact h)]; simp [itemsOf]
theorem cells_take {t : List Node} {ks : List Nat} {k : Nat} (h : k < ks.length) : (cellsOf t ks).take (k + 1) = (cellsOf t ks).take k ++ [cellOf (nodeAt t ks[k]) (wish t ks[k])] := by
  rw [List.take_succ_eq_append_getElem (by simp [cellsOf]; exact h)]; simp [cellsOf]
def wishV (s : Int × Int) : V := .tup [.d (.int .i64 s.1), .d (.int .i64 s.2)]

theorem c_packsI (t : List Node) (h : TreeK t) (ks : List Nat) (hks : ∀ k ∈ ks, k < t.length) (hl : ks.length ≤ 10) (hreq : ∀ k ∈ ks, ACon Try.prog 37 [vTree t, .d (.int .i64 (k : Int))] [] (Is (wishV (wish t k)))) :
    ACon Try.prog 60 [vTree t, .d (.lst (ks.map encK))] [] (ORows encPack 9 (itemsOf t ks)) := by
  have hhi := h.hi
  have hil : (itemsOf t ks).length = ks.length := by simp [itemsOf]
  refine ACon.introW tok (nt := 35) Try.func60 rfl rfl rfl (by kernel_rfl) rfl ?_
  repeat' (first | ((with_reducible apply xsim); (first | ((with_reducible apply xlenM); exact rfl; exact rfl) | ((with_reducible apply xo); exact rfl) | with_reducible apply xend | ((with_reducible apply xbox); exact rfl; simp only [bkL, Nat.reduceAdd, Nat.reduceSub]))) | ((with_reducible apply xaw); (first | ((with_reducible apply xstepS); refine AW.step tok rfl ?_) | with_reducible (first | refine AW.seq ?_ | refine AW.block ?_))) | with_reducible exact trivial)
  refine AW.own 5 9 rfl ?_
  refine AW.loop (S := fun k : Nat => ⟨[(2, .oref 0 0), (5, .msl 1 9 0 k), (9, .d (.lst (ks.map encK))), (10, .d (.int .i64 ks.length)), (11, .d (.int .i64 k))], [.box [.d (.lst (t.map encNode))], .arr 9 (((itemsOf t ks).take k).map encPack)], 35, .p 0⟩)
    (Pre := fun k => k ≤ ks.length) (μ := fun k => ks.length - k) 0 (Nat.zero_le _) ?_ ?_
  · (refine xwk (π := [0, 1]) (by decide) rfl ?_ ?_; (first | simp -implicitDefEqProofs only [go_sem, List.take_zero]); repeat' (first | exact renE_n | ((with_reducible apply renE_c); exact rfl; focus (first | (simp -implicitDefEqProofs only [go_sem, List.take_zero]; done)))))
  intro k hk
  have hc1 : ((itemsOf t ks).take k).length = k := by simp [hil]; omega
  by_cases hlt : k < ks.length
  · have hrow := at_map (f := encK) hlt
    have hm := hks _ (List.getElem_mem hlt)
    have hrow2 := at_map (f := encNode) hm
    have hs := items_take (t := t) hlt
    rw [nodeAt_eq hm] at hs
    have hr := hreq _ (List.getElem_mem hlt)
    repeat' (first | ((with_reducible apply xsim); (first | ((with_reducible apply xo); exact rfl) | ((with_reducible apply xst); exact rfl) | with_reducible apply xend | ((with_reducible apply xalloc); exact rfl; simp only [bkL, Nat.reduceAdd, Nat.reduceSub]) | ((with_reducible apply xbuild); exact rfl; exact rfl; exact rfl; exact rfl; exact rfl; simp only [bkL, Nat.reduceAdd, Nat.reduceSub]) | ((with_reducible apply xidxL); exact rfl; exact rfl; exact rfl; (first | exact hrow | exact hrow2); omega; first | exact rfl | simp only [hsz]) | ((with_reducible apply xcallIs); exact rfl; exact rfl; exact hr; exact rfl) | simp -implicitDefEqProofs only [go_sem, List.length_map, hc1])) | ((with_reducible apply xaw); (first | ((with_reducible apply xstepS); refine AW.step tok rfl ?_) | ((with_reducible apply xstep); refine AW.region tok rfl ?_) | with_reducible (first | refine AW.seq ?_ | refine AW.block ?_ | refine AW.skip ?_) | ((with_reducible apply xcond); exact rfl))) | with_reducible refine xthen ?_ | (with_reducible intro hc; (try simp only [hcL, reduceCtorEq, List.length_map, hc1] at hc); (try (exfalso; omega))) | with_reducible (first | exact trivial | refine And.intro ?_ ?_ | exact rfl) | exact Eq.refl true | (refine inR_i64.mpr ?_; first | omega | (simp only [List.length_map, List.length_map, hc1]; omega)) | omega)
    refine round_end (k+1) hlt (by omega) (by (refine xwk (π := [0, 4]) (by decide) rfl ?_ ?_; (first | simp -implicitDefEqProofs only [go_sem, hs, List.map_append, packOf]); repeat' (first | exact renE_n | ((with_reducible apply renE_c); exact rfl; focus (first | (simp -implicitDefEqProofs only [go_sem, hs, List.map_append, packOf]; done))))))
  have hk' : k = ks.length := by omega
  subst hk'
  have t1 : (itemsOf t ks).take ks.length = itemsOf t ks := by rw [← hil, List.take_length]
  rw [t1]
  repeat' (first | ((with_reducible apply xsim); (first | ((with_reducible apply xo); exact rfl) | with_reducible apply xend)) | ((with_reducible apply xaw); (first | ((with_reducible apply xstepS); refine AW.step tok rfl ?_) | with_reducible (first | refine AW.seq ?_ | refine AW.ret ?_ | refine AW.exit ?_) | ((with_reducible apply xcond); exact rfl))) | with_reducible (first | refine xthen ?_ | refine xthen_e ?_ | refine xblock_e ?_ | refine xround_e ?_) | (with_reducible intro hc; (try simp only [hcL, reduceCtorEq, List.length_map] at hc); (try (exfalso; omega))) | with_reducible (first | exact trivial | refine And.intro ?_ ?_ | exact rfl))
  (refine xfinOwn [1] (by first | exact .inl rfl | exact .inr rfl) rfl (by repeat' (first | exact trivial | exact rfl | refine And.intro ?_ ?_)) (by decide) rfl ?_ ?_ <;> simp -implicitDefEqProofs only [go_sem, hil])
theorem c_packsS (t : List Node) (h : TreeK t) (ks : List Nat) (hks : ∀ k ∈ ks, k < t.length) (hl : ks.length ≤ 10) (hreq : ∀ k ∈ ks, ACon Try.prog 36 [vTree t, .d (.int .i64 (k : Int))] [] (Is (wishV (wish t k)))) :
    ACon Try.prog 55 [vTree t, .d (.lst (ks.map encK))] [] (ORows encPack 9 (itemsOf t ks)) := by
  have hhi := h.hi
  have hil : (itemsOf t ks).length = ks.length := by simp [itemsOf]
  refine ACon.introW tok (nt := 44) Try.func55 rfl rfl rfl (by kernel_rfl) rfl ?_
  repeat' (first | ((with_reducible apply xsim); (first | ((with_reducible apply xo); exact rfl) | with_reducible apply xend | ((with_reducible apply xbox); exact rfl; simp only [bkL, Nat.reduceAdd, Nat.reduceSub]) | ((with_reducible apply xbuild); exact rfl; exact rfl; exact rfl; exact rfl; exact rfl; simp only [bkL, Nat.reduceAdd, Nat.reduceSub]))) | ((with_reducible apply xaw); (first | ((with_reducible apply xstepS); refine AW.step tok rfl ?_) | with_reducible (first | refine AW.seq ?_ | refine AW.block ?_))) | with_reducible exact trivial)
  refine AW.loop (S := fun k : Nat => ⟨[(1, .d (.lst (ks.map encK))), (2, .oref 0 0), (5, .msl 1 9 0 k), (6, .d (.int .i64 k))], [.box [.d (.lst (t.map encNode))], .arr 9 (((itemsOf t ks).take k).map encPack)], 44, .p 0⟩)
    (Pre := fun k => k ≤ ks.length) (μ := fun k => ks.length - k) 0 (Nat.zero_le _) ?_ ?_
  · (refine xwk (π := [0, 1]) (by decide) rfl ?_ ?_; (first | simp -implicitDefEqProofs only [go_sem, List.take_zero]); repeat' (first | exact renE_n | ((with_reducible apply renE_c); exact rfl; focus (first | (simp -implicitDefEqProofs only [go_sem, List.take_zero]; done)))))
  intro k hk
  have hc1 : ((itemsOf t ks).take k).length = k := by simp [hil]; omega
  by_cases hlt : k < ks.length
  · have hrow := at_map (f := encK) hlt
    have hm := hks _ (List.getElem_mem hlt)
    have hrow2 := at_map (f := encNode) hm
    have hs := items_take (t := t) hlt
    rw [nodeAt_eq hm] at hs
    have hr := hreq _ (List.getElem_mem hlt)
    repeat' (first | ((with_reducible apply xsim); (first | ((with_reducible apply xlenM); exact rfl; exact rfl) | ((with_reducible apply xo); exact rfl) | ((with_reducible apply xst); exact rfl) | with_reducible apply xend | ((with_reducible apply xalloc); exact rfl; simp only [bkL, Nat.reduceAdd, Nat.reduceSub]) | ((with_reducible apply xbuild); exact rfl; exact rfl; exact rfl; exact rfl; exact rfl; simp only [bkL, Nat.reduceAdd, Nat.reduceSub]) | ((with_reducible apply xidxL); exact rfl; exact rfl; exact rfl; (first | exact hrow | exact hrow2); omega; first | exact rfl | simp only [hsz]) | simp -implicitDefEqProofs only [go_sem, List.length_map, hc1])) | ((with_reducible apply xaw); (first | ((with_reducible apply xstepS); refine AW.step tok rfl ?_) | ((with_reducible apply xstep); refine AW.region tok rfl ?_) | with_reducible (first | refine AW.seq ?_ | refine AW.block ?_ | refine AW.skip ?_) | ((with_reducible apply xcond); exact rfl) | ((with_reducible apply xdraw (id := 5)); refine AW.draw (id := 5) (.q 0 (.q 1 (.q 2 (.q 3 (.q 4 (.q 5 (.q 6 (.q 7 (.q 8 (.e 9 (.e 10 (.fin)))))))))))) tok (by kernel_rfl) rfl (by kernel_rfl) ?_) | ((with_reducible apply xdraw (id := 6)); refine AW.draw (id := 6) (.q 0 (.q 1 (.q 2 (.q 3 (.q 4 (.q 5 (.q 6 (.q 7 (.q 8 (.q 9 (.q 10 (.fin)))))))))))) tok (by kernel_rfl) rfl (by kernel_rfl) ?_))) | ((with_reducible apply xarun); (first | ((with_reducible apply xrun_q); exact rfl; exact rfl; exact rfl) | ((with_reducible apply xrun_c); exact rfl; exact rfl; exact rfl; exact rfl; exact rfl; exact rfl; exact hr; exact rfl) | ((with_reducible apply xrun_e); exact rfl) | with_reducible apply xrun_f)) | with_reducible refine xthen ?_ | (with_reducible intro hc; (try simp only [hcL, reduceCtorEq, List.length_map, hc1] at hc); (try (exfalso; omega))) | with_reducible (first | exact trivial | refine And.intro ?_ ?_ | exact rfl) | exact Eq.refl true | (refine inR_i64.mpr ?_; first | omega | (simp only [List.length_map, List.length_map, hc1]; omega)) | omega)
    refine round_end (k+1) hlt (by omega) (by (refine xwk (π := [0, 4]) (by decide) rfl ?_ ?_; (first | simp -implicitDefEqProofs only [go_sem, hs, List.map_append, packOf]); repeat' (first | exact renE_n | ((with_reducible apply renE_c); exact rfl; focus (first | (simp -implicitDefEqProofs only [go_sem, hs, List.map_append, packOf]; done))))))
  have hk' : k = ks.length := by omega
  subst hk'
  have t1 : (itemsOf t ks).take ks.length = itemsOf t ks := by rw [← hil, List.take_length]
  rw [t1]
  repeat' (first | ((with_reducible apply xsim); (first | ((with_reducible apply xlenM); exact rfl; exact rfl) | ((with_reducible apply xo); exact rfl) | with_reducible apply xend)) | ((with_reducible apply xaw); (first | ((with_reducible apply xstepS); refine AW.step tok rfl ?_) | with_reducible (first | refine AW.seq ?_ | refine AW.ret ?_ | refine AW.exit ?_) | ((with_reducible apply xcond); exact rfl))) | with_reducible (first | refine xthen ?_ | refine xthen_e ?_ | refine xblock_e ?_ | refine xround_e ?_) | (with_reducible intro hc; (try simp only [hcL, reduceCtorEq, List.length_map] at hc); (try (exfalso; omega))) | with_reducible (first | exact trivial | refine And.intro ?_ ?_ | exact rfl))
  (refine xfinOwn [1] (by first | exact .inl rfl | exact .inr rfl) rfl (by repeat' (first | exact trivial | exact rfl | refine And.intro ?_ ?_)) (by decide) rfl ?_ ?_ <;> simp -implicitDefEqProofs only [go_sem, hil])

set_option maxRecDepth 8000 in
theorem c_gridI (t : List Node) (h : TreeK t) (i : Nat) (hi : i < t.length) (ks : List Nat) (hks : ∀ k ∈ ks, k < t.length) (hl : ks.length ≤ 10) (hreq : ∀ k ∈ ks, ACon Try.prog 37 [vTree t, .d (.int .i64 (k : Int))] [] (Is (wishV (wish t k)))) :
    ACon Try.prog 61 [vTree t, .d (.int .i64 (i : Int)), .d (.lst (ks.map encK))] [] (Is (vGrid (gridOf t i ks))) := by
  have hhi := h.hi
  have hil : (cellsOf t ks).length = ks.length := by simp [cellsOf]
  have hrow0 := at_map (f := encNode) hi
  have hni := nodeAt_eq hi
  refine ACon.introW tok (nt := 52) Try.func61 rfl rfl rfl (by kernel_rfl) rfl ?_
  repeat' (first | ((with_reducible apply xsim); (first | ((with_reducible apply xlenM); exact rfl; exact rfl) | ((with_reducible apply xo); exact rfl) | ((with_reducible apply xst); exact rfl) | with_reducible apply xend | ((with_reducible apply xalloc); exact rfl; simp only [bkL, Nat.reduceAdd, Nat.reduceSub]) | ((with_reducible apply xbox); exact rfl; simp only [bkL, Nat.reduceAdd, Nat.reduceSub]) | ((with_reducible apply xidxL); exact rfl; exact rfl; exact rfl; (first | exact hrow0); omega; first | exact rfl | simp only [hsz]))) | ((with_reducible apply xaw); (first | ((with_reducible apply xstepS); refine AW.step tok rfl ?_) | with_reducible (first | refine AW.seq ?_ | refine AW.block ?_) | ((with_reducible apply xdraw (id := 1)); refine AW.draw (id := 1) (.q 0 (.q 1 (.q 2 (.q 3 (.q 4 (.q 5 (.q 6 (.q 7 (.q 8 (.q 9 (.q 10 (.q 11 (.q 12 (.e 13 (.e 14 (.fin)))))))))))))))) tok (by kernel_rfl) rfl (by kernel_rfl) ?_))) | ((with_reducible apply xarun); (first | ((with_reducible apply xrun_q); exact rfl; exact rfl; exact rfl) | ((with_reducible apply xrun_e); exact rfl) | with_reducible apply xrun_f)) | with_reducible refine xthen ?_ | with_reducible (first | exact trivial | refine And.intro ?_ ?_) | exact Eq.refl true)
  refine AW.weak (Weak.ownBoxCell 2 9 2 rfl rfl) ?_
  refine AW.loop (S := fun k : Nat => ⟨[(3, .oref 0 0), (6, .oref 1 0), (7, .oref 2 0), (24, .d (.lst (ks.map encK))), (25, .d (.int .i64 ks.length)), (26, .d (.int .i64 k))], [.box [.d (.lst (t.map encNode))], .box [.nils, .nils, .nils],
      .box [.d (.lst (t[i].cols.map encLine)), .d (.lst (t[i].rows.map encLine)), .msl 3 9 0 k], .arr 9 (((cellsOf t ks).take k).map encCell)], 52, .p 0⟩)
    (Pre := fun k => k ≤ ks.length) (μ := fun k => ks.length - k) 0 (Nat.zero_le _) ?_ ?_
  · (refine xwk (π := [0, 1, 2, 3]) (by decide) rfl ?_ ?_; (first | simp -implicitDefEqProofs only [go_sem, List.take_zero]); repeat' (first | exact renE_n | ((with_reducible apply renE_c); exact rfl; focus (first | (simp -implicitDefEqProofs only [go_sem, List.take_zero]; done)))))
  intro k hk
  have hc1 : ((cellsOf t ks).take k).length = k := by simp [hil]; omega
  by_cases hlt : k < ks.length
  · have hrow := at_map (f := encK) hlt
    have hm := hks _ (List.getElem_mem hlt)
    have hrow2 := at_map (f := encNode) hm
    have hs := cells_take (t := t) hlt
    rw [nodeAt_eq hm] at hs
    have hr := hreq _ (List.getElem_mem hlt)
    repeat' (first | ((with_reducible apply xsim); (first | ((with_reducible apply xo); exact rfl) | ((with_reducible apply xst); exact rfl) | with_reducible apply xend | ((with_reducible apply xalloc); exact rfl; simp only [bkL, Nat.reduceAdd, Nat.reduceSub]) | ((with_reducible apply xbuild); exact rfl; exact rfl; exact rfl; exact rfl; exact rfl; simp only [bkL, Nat.reduceAdd, Nat.reduceSub]) | ((with_reducible apply xidxL); exact rfl; exact rfl; exact rfl; (first | exact hrow | exact hrow2); omega; first | exact rfl | simp only [hsz]) | ((with_reducible apply xcallIs); exact rfl; exact rfl; exact hr; exact rfl) | simp -implicitDefEqProofs only [go_sem, List.length_map, hc1])) | ((with_reducible apply xaw); (first | ((with_reducible apply xstepS); refine AW.step tok rfl ?_) | ((with_reducible apply xstep); refine AW.region tok rfl ?_) | with_reducible (first | refine AW.seq ?_ | refine AW.block ?_ | refine AW.skip ?_) | ((with_reducible apply xcond); exact rfl))) | with_reducible (first | refine xthen ?_ | refine xblock ?_) | (with_reducible intro hc; (try simp only [hcL, reduceCtorEq, List.length_map, hc1] at hc); (try (exfalso; omega))) | with_reducible (first | exact trivial | refine And.intro ?_ ?_ | exact rfl) | exact Eq.refl true | (refine inR_i64.mpr ?_; first | omega | (simp only [List.length_map, List.length_map, hc1]; omega)) | omega)
    refine round_end (k+1) hlt (by omega) (by (refine xwk (π := [0, 1, 2, 6]) (by decide) rfl ?_ ?_; (first | simp -implicitDefEqProofs only [go_sem, hs, List.map_append, cellOf]); repeat' (first | exact renE_n | ((with_reducible apply renE_c); exact rfl; focus (first | (simp -implicitDefEqProofs only [go_sem, hs, List.map_append, cellOf]; done))))))
  have hk' : k = ks.length := by omega
  subst hk'
  have t1 : (cellsOf t ks).take ks.length = cellsOf t ks := by rw [← hil, List.take_length]
  rw [t1]
  repeat' (first | ((with_reducible apply xsim); (first | ((with_reducible apply xo); exact rfl) | ((with_reducible apply xst); exact rfl) | with_reducible apply xend)) | ((with_reducible apply xaw); (first | ((with_reducible apply xstepS); refine AW.step tok rfl ?_) | with_reducible (first | refine AW.seq ?_ | refine AW.ret ?_ | refine AW.exit ?_) | ((with_reducible apply xcond); exact rfl))) | with_reducible (first | refine xthen ?_ | refine xthen_e ?_ | refine xblock_e ?_ | refine xround_e ?_) | (with_reducible intro hc; (try simp only [hcL, reduceCtorEq, List.length_map] at hc); (try (exfalso; omega))) | with_reducible (first | exact trivial | refine And.intro ?_ ?_ | exact rfl) | exact Eq.refl true)
  refine xfinW (Weak.freezeBoxCell 1 3 9 2 rfl rfl rfl (by simp [hil])) ?_
  (refine xfinIs (by first | exact .inl rfl | exact .inr rfl) rfl (by repeat' (first | exact trivial | exact rfl | refine And.intro ?_ ?_)) rfl ?_ rfl; first | (simp -implicitDefEqProofs only [go_sem, gridOf, hni] <;> (first | rfl | omega | exact decide_eq_decide.2 (by omega) | exact decide_eq_false (by omega) | exact decide_eq_true (by omega) | (symm; first | exact decide_eq_false (by omega) | exact decide_eq_true (by omega)) | (rw [Bool.eq_iff_iff]; simp only [boL, reduceCtorEq]; omega))))
set_option maxRecDepth 8000 in
theorem c_gridS (t : List Node) (h : TreeK t) (i : Nat) (hi : i < t.length) (ks : List Nat) (hks : ∀ k ∈ ks, k < t.length) (hl : ks.length ≤ 10) (hreq : ∀ k ∈ ks, ACon Try.prog 36 [vTree t, .d (.int .i64 (k : Int))] [] (Is (wishV (wish t k)))) :
    ACon Try.prog 57 [vTree t, .d (.int .i64 (i : Int)), .d (.lst (ks.map encK))] [] (Is (vGrid (gridOf t i ks))) := by
  have hhi := h.hi
  have hil : (cellsOf t ks).length = ks.length := by simp [cellsOf]
  have hrow0 := at_map (f := encNode) hi
  have hni := nodeAt_eq hi
  refine ACon.introW tok (nt := 60) Try.func57 rfl rfl rfl (by kernel_rfl) rfl ?_
  repeat' (first | ((with_reducible apply xsim); (first | ((with_reducible apply xo); exact rfl) | ((with_reducible apply xst); exact rfl) | with_reducible apply xend | ((with_reducible apply xalloc); exact rfl; simp only [bkL, Nat.reduceAdd, Nat.reduceSub]) | ((with_reducible apply xbox); exact rfl; simp only [bkL, Nat.reduceAdd, Nat.reduceSub]) | ((with_reducible apply xidxL); exact rfl; exact rfl; exact rfl; (first | exact hrow0); omega; first | exact rfl | simp only [hsz]))) | ((with_reducible apply xaw); (first | ((with_reducible apply xstepS); refine AW.step tok rfl ?_) | with_reducible (first | refine AW.seq ?_ | refine AW.block ?_) | ((with_reducible apply xdraw (id := 1)); refine AW.draw (id := 1) (.q 0 (.q 1 (.q 2 (.q 3 (.q 4 (.q 5 (.q 6 (.q 7 (.q 8 (.q 9 (.q 10 (.q 11 (.q 12 (.e 13 (.e 14 (.fin)))))))))))))))) tok (by kernel_rfl) rfl (by kernel_rfl) ?_))) | ((with_reducible apply xarun); (first | ((with_reducible apply xrun_q); exact rfl; exact rfl; exact rfl) | ((with_reducible apply xrun_e); exact rfl) | with_reducible apply xrun_f)) | with_reducible refine xthen ?_ | with_reducible (first | exact trivial | refine And.intro ?_ ?_) | exact Eq.refl true)
  refine AW.weak (Weak.ownBoxCell 2 9 2 rfl rfl) ?_
  refine AW.loop (S := fun k : Nat => ⟨[(2, .d (.lst (ks.map encK))), (3, .oref 0 0), (6, .oref 1 0), (7, .oref 2 0), (8, .d (.int .i64 k))], [.box [.d (.lst (t.map encNode))], .box [.nils, .nils, .nils],
      .box [.d (.lst (t[i].cols.map encLine)), .d (.lst (t[i].rows.map encLine)), .msl 3 9 0 k], .arr 9 (((cellsOf t ks).take k).map encCell)], 60, .p 0⟩)
    (Pre := fun k => k ≤ ks.length) (μ := fun k => ks.length - k) 0 (Nat.zero_le _) ?_ ?_
  · (refine xwk (π := [0, 1, 2, 3]) (by decide) rfl ?_ ?_; (first | simp -implicitDefEqProofs only [go_sem, List.take_zero]); repeat' (first | exact renE_n | ((with_reducible apply renE_c); exact rfl; focus (first | (simp -implicitDefEqProofs only [go_sem, List.take_zero]; done)))))
  intro k hk
  have hc1 : ((cellsOf t ks).take k).length = k := by simp [hil]; omega
  by_cases hlt : k < ks.length
  · have hrow := at_map (f := encK) hlt
    have hm := hks _ (List.getElem_mem hlt)
    have hrow2 := at_map (f := encNode) hm
    have hs := cells_take (t := t) hlt
    rw [nodeAt_eq hm] at hs
    have hr := hreq _ (List.getElem_mem hlt)
    repeat' (first | ((with_reducible apply xsim); (first | ((with_reducible apply xlenM); exact rfl; exact rfl) | ((with_reducible apply xo); exact rfl) | ((with_reducible apply xst); exact rfl) | with_reducible apply xend | ((with_reducible apply xalloc); exact rfl; simp only [bkL, Nat.reduceAdd, Nat.reduceSub]) | ((with_reducible apply xbuild); exact rfl; exact rfl; exact rfl; exact rfl; exact rfl; simp only [bkL, Nat.reduceAdd, Nat.reduceSub]) | ((with_reducible apply xidxL); exact rfl; exact rfl; exact rfl; (first | exact hrow | exact hrow2); omega; first | exact rfl | simp only [hsz]) | simp -implicitDefEqProofs only [go_sem, List.length_map, hc1])) | ((with_reducible apply xaw); (first | ((with_reducible apply xstepS); refine AW.step tok rfl ?_) | ((with_reducible apply xstep); refine AW.region tok rfl ?_) | with_reducible (first | refine AW.seq ?_ | refine AW.block ?_ | refine AW.skip ?_) | ((with_reducible apply xcond); exact rfl) | ((with_reducible apply xdraw (id := 5)); refine AW.draw (id := 5) (.q 0 (.q 1 (.q 2 (.q 3 (.q 4 (.q 5 (.q 6 (.q 7 (.q 8 (.e 9 (.e 10 (.fin)))))))))))) tok (by kernel_rfl) rfl (by kernel_rfl) ?_) | ((with_reducible apply xdraw (id := 6)); refine AW.draw (id := 6) (.q 0 (.q 1 (.q 2 (.q 3 (.q 4 (.q 5 (.q 6 (.q 7 (.q 8 (.q 9 (.q 10 (.fin)))))))))))) tok (by kernel_rfl) rfl (by kernel_rfl) ?_))) | ((with_reducible apply xarun); (first | ((with_reducible apply xrun_q); exact rfl; exact rfl; exact rfl) | ((with_reducible apply xrun_c); exact rfl; exact rfl; exact rfl; exact rfl; exact rfl; exact rfl; exact hr; exact rfl) | ((with_reducible apply xrun_e); exact rfl) | with_reducible apply xrun_f)) | with_reducible (first | refine xthen ?_ | refine xblock ?_) | (with_reducible intro hc; (try simp only [hcL, reduceCtorEq, List.length_map, hc1] at hc); (try (exfalso; omega))) | with_reducible (first | exact trivial | refine And.intro ?_ ?_ | exact rfl) | exact Eq.refl true | (refine inR_i64.mpr ?_; first | omega | (simp only [List.length_map, List.length_map, hc1]; omega)) | omega)
    refine round_end (k+1) hlt (by omega) (by (refine xwk (π := [0, 1, 2, 6]) (by decide) rfl ?_ ?_; (first | simp -implicitDefEqProofs only [go_sem, hs, List.map_append, cellOf]); repeat' (first | exact renE_n | ((with_reducible apply renE_c); exact rfl; focus (first | (simp -implicitDefEqProofs only [go_sem, hs, List.map_append, cellOf]; done))))))
  have hk' : k = ks.length := by omega
  subst hk'
  have t1 : (cellsOf t ks).take ks.length = cellsOf t ks := by rw [← hil, List.take_length]
  rw [t1]
  repeat' (first | ((with_reducible apply xsim); (first | ((with_reducible apply xlenM); exact rfl; exact rfl) | ((with_reducible apply xo); exact rfl) | ((with_reducible apply xst); exact rfl) | with_reducible apply xend)) | ((with_reducible apply xaw); (first | ((with_reducible apply xstepS); refine AW.step tok rfl ?_) | with_reducible (first | refine AW.seq ?_ | refine AW.ret ?_ | refine AW.exit ?_) | ((with_reducible apply xcond); exact rfl))) | with_reducible (first | refine xthen ?_ | refine xthen_e ?_ | refine xblock_e ?_ | refine xround_e ?_) | (with_reducible intro hc; (try simp only [hcL, reduceCtorEq, List.length_map] at hc); (try (exfalso; omega))) | with_reducible (first | exact trivial | refine And.intro ?_ ?_ | exact rfl) | exact Eq.refl true)
  refine xfinW (Weak.freezeBoxCell 1 3 9 2 rfl rfl rfl (by simp [hil])) ?_
  (refine xfinIs (by first | exact .inl rfl | exact .inr rfl) rfl (by repeat' (first | exact trivial | exact rfl | refine And.intro ?_ ?_)) rfl ?_ rfl; first | (simp -implicitDefEqProofs only [go_sem, gridOf, hni] <;> (first | rfl | omega | exact decide_eq_decide.2 (by omega) | exact decide_eq_false (by omega) | exact decide_eq_true (by omega) | (symm; first | exact decide_eq_false (by omega) | exact decide_eq_true (by omega)) | (rw [Bool.eq_iff_iff]; simp only [boL, reduceCtorEq]; omega))))
end Go.Proofs.Ytpfhnhhkfobjnaa

namespace Go.Proofs.Ytpfhnhhkfobjnaa
open Go.Fw
attribute [local irreducible] Go.Fw.aops Go.Fw.arun

set_option maxHeartbeats 4000000 in
set_option maxRecDepth 8000 in
theorem c_validNode (t : List Node) (hL : TreeL t) (k : Nat) (hlt : k < t.length) : ACon Try.prog 44 [vTree t, .d (.int .i64 k)] [] (Is (.d (.bool (nodeOk t[k] && upOk t k t[k])))) := by
  obtain ⟨hL1, hL⟩ := hL
  have hrow := at_map (f := encNode) hlt
  refine ACon.introW tok (nt := 126) Try.func44 rfl rfl rfl (by kernel_rfl) rfl ?_
  by_cases hkd : t[k].kind = 1
  all_goals
    by_cases h0 : k = 0
    · subst h0
      have hu : upOk t 0 t[0] = decide (t[0].parent = -1) := rfl
      generalize hup : upOk t 0 t[0] = up at hu
      repeat' (first | ((with_reducible apply xsim); (first | ((with_reducible apply xlenM); exact rfl; exact rfl) | ((with_reducible apply xo); exact rfl) | ((with_reducible apply xst); exact rfl) | with_reducible apply xend | ((with_reducible apply xguardTS); exact rfl; exact rfl) | ((with_reducible apply xguardS); exact rfl; exact rfl) | ((with_reducible apply xalloc); exact rfl; simp only [bkL, Nat.reduceAdd, Nat.reduceSub]) | ((with_reducible apply xbox); exact rfl; simp only [bkL, Nat.reduceAdd, Nat.reduceSub]) | ((with_reducible apply xidxL); exact rfl; exact rfl; exact rfl; (first | exact hrow); omega; first | exact rfl | simp only [hsz]) | ((with_reducible apply xcallIs); exact rfl; exact rfl; (first | exact c_inRange _ _ _ | exact c_validPack _ | exact c_validPlace _ | exact c_validLines _ (hL _ hlt).1 | exact c_validLines _ (hL _ hlt).2 | exact c_validCellN _ _ _ (hL _ _).1 (hL _ _).2); exact rfl))) | ((with_reducible apply xaw); (first | ((with_reducible apply xstepS); refine AW.step tok rfl ?_) | with_reducible (first | refine AW.seq ?_ | refine AW.skip ?_ | refine AW.ret ?_) | ((with_reducible apply xcond); exact rfl))) | with_reducible (first | refine xthen ?_ | refine xthen_r ?_) | (with_reducible intro hc; (try simp only [hcL, reduceCtorEq, List.length_map] at hc); (try (exfalso; omega))) | with_reducible (first | exact trivial | refine And.intro ?_ ?_ | exact rfl) | exact Eq.refl true)
      all_goals clear hrow hL
      all_goals (refine xfinIs (by first | exact .inl rfl | exact .inr rfl) rfl (by repeat' (first | exact trivial | exact rfl | refine And.intro ?_ ?_)) rfl ?_ rfl; simp only [V.d.injEq, D.bool.injEq, D.int.injEq]; first | rfl | (simp_all [nodeOk, hup, Int.natCast_pos, List.length_pos_iff]; done) | (simp_all [nodeOk, hup, Int.natCast_pos, List.length_pos_iff]; omega))
    by_cases hr : 0 ≤ t[k].parent ∧ t[k].parent ≤ (k : Int) - 1
    · have hu := upOk_in (by omega) hlt hr
      have hrow2 := node_at (xs := t) (i := t[k].parent) (by omega)
      generalize hup : upOk t k t[k] = up at hu
      repeat' (first | ((with_reducible apply xsim); (first | ((with_reducible apply xlenM); exact rfl; exact rfl) | ((with_reducible apply xo); exact rfl) | ((with_reducible apply xst); exact rfl) | with_reducible apply xend | ((with_reducible apply xguardTS); exact rfl; exact rfl) | ((with_reducible apply xguardS); exact rfl; exact rfl) | ((with_reducible apply xalloc); exact rfl; simp only [bkL, Nat.reduceAdd, Nat.reduceSub]) | ((with_reducible apply xbox); exact rfl; simp only [bkL, Nat.reduceAdd, Nat.reduceSub]) | ((with_reducible apply xidxL); exact rfl; exact rfl; exact rfl; (first | exact hrow | exact hrow2); omega; first | exact rfl | simp only [hsz]) | ((with_reducible apply xcallIs); exact rfl; exact rfl; (first | exact c_inRange _ _ _ | exact c_validPack _ | exact c_validPlace _ | exact c_validLines _ (hL _ hlt).1 | exact c_validLines _ (hL _ hlt).2 | exact c_validCellN _ _ _ (hL _ _).1 (hL _ _).2); exact rfl))) | ((with_reducible apply xaw); (first | ((with_reducible apply xstepS); refine AW.step tok rfl ?_) | with_reducible (first | refine AW.seq ?_ | refine AW.skip ?_ | refine AW.ret ?_) | ((with_reducible apply xcond); exact rfl))) | with_reducible (first | refine xthen ?_ | refine xthen_r ?_) | (with_reducible intro hc; (try simp only [hcL, reduceCtorEq, List.length_map] at hc); (try (exfalso; omega))) | with_reducible (first | exact trivial | refine And.intro ?_ ?_ | exact rfl) | exact Eq.refl true | (refine inR_i64.mpr ?_; first | omega | (simp only [List.length_map, List.length_map]; omega)))
      all_goals clear hrow hrow2 hL
      all_goals (refine xfinIs (by first | exact .inl rfl | exact .inr rfl) rfl (by repeat' (first | exact trivial | exact rfl | refine And.intro ?_ ?_)) rfl ?_ rfl; simp only [V.d.injEq, D.bool.injEq, D.int.injEq]; first | rfl | (simp_all [nodeOk, hup, cellOk, Int.natCast_pos, List.length_pos_iff]; done) | (simp_all [nodeOk, hup, cellOk, Int.natCast_pos, List.length_pos_iff]; omega))
    · have hu := upOk_out (t := t) (by omega) hr
      generalize hup : upOk t k t[k] = up at hu
      repeat' (first | ((with_reducible apply xsim); (first | ((with_reducible apply xlenM); exact rfl; exact rfl) | ((with_reducible apply xo); exact rfl) | ((with_reducible apply xst); exact rfl) | with_reducible apply xend | ((with_reducible apply xguardTS); exact rfl; exact rfl) | ((with_reducible apply xguardS); exact rfl; exact rfl) | ((with_reducible apply xalloc); exact rfl; simp only [bkL, Nat.reduceAdd, Nat.reduceSub]) | ((with_reducible apply xbox); exact rfl; simp only [bkL, Nat.reduceAdd, Nat.reduceSub]) | ((with_reducible apply xidxL); exact rfl; exact rfl; exact rfl; (first | exact hrow); omega; first | exact rfl | simp only [hsz]) | ((with_reducible apply xcallIs); exact rfl; exact rfl; (first | exact c_inRange _ _ _ | exact c_validPack _ | exact c_validPlace _ | exact c_validLines _ (hL _ hlt).1 | exact c_validLines _ (hL _ hlt).2 | exact c_validCellN _ _ _ (hL _ _).1 (hL _ _).2); exact rfl))) | ((with_reducible apply xaw); (first | ((with_reducible apply xstepS); refine AW.step tok rfl ?_) | with_reducible (first | refine AW.seq ?_ | refine AW.skip ?_ | refine AW.ret ?_) | ((with_reducible apply xcond); exact rfl))) | with_reducible (first | refine xthen ?_ | refine xthen_r ?_) | (with_reducible intro hc; (try simp only [hcL, reduceCtorEq, List.length_map] at hc); (try (exfalso; omega))) | with_reducible (first | exact trivial | refine And.intro ?_ ?_ | exact rfl) | exact Eq.refl true | (refine inR_i64.mpr ?_; first | omega | (simp only [List.length_map, List.length_map]; omega)))
      all_goals clear hrow hL
      all_goals (refine xfinIs (by first | exact .inl rfl | exact .inr rfl) rfl (by repeat' (first | exact trivial | exact rfl | refine And.intro ?_ ?_)) rfl ?_ rfl; simp only [V.d.injEq, D.bool.injEq, D.int.injEq]; first | rfl | (simp_all [nodeOk, hup, Int.natCast_pos, List.length_pos_iff]; done) | (simp_all [nodeOk, hup, Int.natCast_pos, List.length_pos_iff]; omega))
end Go.Proofs.Ytpfhnhhkfobjnaa

namespace Go.Proofs.Ytpfhnhhkfobjnaa
open Go.Fw
attribute [local irreducible] Go.Fw.aops Go.Fw.arun

set_option maxRecDepth 8000 in
set_option maxHeartbeats 4000000 in
theorem c_reqI (t : List Node) (h : TreeK t) : ∀ m i : Nat, t.length - i ≤ m → i < t.length → ACon Try.prog 37 [vTree t, .d (.int .i64 (i : Int))] [] (Is (wishV (wish t i))) := by
  intro m
  induction m with
  | zero => intro i h1 h2; omega
  | succ m ih =>
    intro i h1 h2
    have hhi := h.hi
    have hkl : (kids t i).length ≤ 10 := by have := kids_len t i t.length; unfold kids; omega
    have hks : ∀ k ∈ kids t i, k < t.length := fun k hk => (h.kid hk).1
    have hreq : ∀ k ∈ kids t i, ACon Try.prog 37 [vTree t, .d (.int .i64 (k : Int))] [] (Is (wishV (wish t k))) := fun k hk => by
      obtain ⟨a, b, _⟩ := h.kid hk
      exact ih k (by omega) a
    have c1 := c_kidsI t h i
    have c2 := ORows.data (c_packsI t h _ hks hkl hreq)
    have c3 := c_gridI t h i h2 _ hks hkl hreq
    have c4 := c_preqI (itemsOf t (kids t i)) (items_ok h i).1 (items_ok h i).2
    have hrow := at_map (f := encNode) h2
    have hn := (nodeOk_iff (h.ok i h2)).1
    have hw := wish_eq h h2
    unfold wishOf at hw
    rw [nodeAt_eq h2] at hw
    by_cases hA : t[i].keep = true ∨ kids t i = [] ∨ t[i].kind = 2
    · rw [if_pos hA] at hw
      rw [hw]
      have hA' : t[i].keep = true ∨ (kids t i).length = 0 ∨ t[i].kind = 2 := by rw [List.length_eq_zero_iff]; exact hA
      clear hw hA hreq ih
      rcases hA' with hA | hA | hA
      all_goals
        refine ACon.introW tok (nt := 50) Try.func37 rfl rfl rfl (by kernel_rfl) rfl ?_
        repeat' (first | ((with_reducible apply xsim); (first | ((with_reducible apply xlenM); exact rfl; exact rfl) | ((with_reducible apply xo); exact rfl) | ((with_reducible apply xst); exact rfl) | with_reducible apply xend | ((with_reducible apply xguardS); exact rfl; exact rfl) | ((with_reducible apply xalloc); exact rfl; simp only [bkL, Nat.reduceAdd, Nat.reduceSub]) | ((with_reducible apply xbox); exact rfl; simp only [bkL, Nat.reduceAdd, Nat.reduceSub]) | ((with_reducible apply xidxL); exact rfl; exact rfl; exact rfl; (first | exact hrow); omega; first | exact rfl | simp only [hsz]))) | ((with_reducible apply xaw); (first | ((with_reducible apply xstepS); refine AW.step tok rfl ?_) | with_reducible (first | refine AW.seq ?_ | refine AW.block ?_ | refine AW.ret ?_) | ((with_reducible apply xcond); exact rfl) | ((with_reducible apply xdraw (id := 1)); refine AW.draw (id := 1) (.q 0 (.q 1 (.q 2 (.q 3 (.q 4 (.q 5 (.q 6 (.q 7 (.e 8 (.e 9 (.q 10 (.fin)))))))))))) tok (by kernel_rfl) rfl (by kernel_rfl) ?_) | ((with_reducible apply xdraw (id := 3)); refine AW.draw (id := 3) (.q 0 (.q 1 (.q 2 (.q 3 (.q 4 (.q 5 (.fin))))))) tok (by kernel_rfl) rfl (by kernel_rfl) ?_))) | ((with_reducible apply xarun); (first | ((with_reducible apply xrun_q); exact rfl; exact rfl; exact rfl) | ((with_reducible apply xrun_c); exact rfl; exact rfl; exact rfl; exact rfl; exact rfl; exact rfl; exact c1; exact rfl) | ((with_reducible apply xrun_e); exact rfl) | with_reducible apply xrun_f)) | with_reducible (first | refine xthen ?_ | refine xthen_r ?_ | refine xblock_r ?_) | (with_reducible intro hc; (try simp only [hcL, reduceCtorEq, List.length_map, hA] at hc); (try (exfalso; omega))) | with_reducible (first | exact trivial | refine And.intro ?_ ?_ | exact rfl) | exact Eq.refl true)
        all_goals (refine xfinIs (by first | exact .inl rfl | exact .inr rfl) rfl (by repeat' (first | exact trivial | exact rfl | refine And.intro ?_ ?_)) rfl ?_ rfl; first | (simp -implicitDefEqProofs only [go_sem, wishV] <;> (first | rfl | omega | exact decide_eq_decide.2 (by omega) | exact decide_eq_false (by omega) | exact decide_eq_true (by omega) | (symm; first | exact decide_eq_false (by omega) | exact decide_eq_true (by omega)) | (rw [Bool.eq_iff_iff]; simp only [boL, reduceCtorEq]; omega))))
    · rw [if_neg hA] at hw
      rw [not_or, not_or, ← List.length_eq_zero_iff] at hA
      obtain ⟨hk1, hk2, hk3⟩ := hA
      have hk1 : t[i].keep = false := by simpa using hk1
      by_cases hk0 : t[i].kind = 0
      · rw [if_pos hk0] at hw
        have hw : wish t i = preqs (itemsOf t (kids t i)) := hw
        rw [hw]
        clear hw hreq ih
        refine ACon.introW tok (nt := 50) Try.func37 rfl rfl rfl (by kernel_rfl) rfl ?_
        repeat' (first | ((with_reducible apply xsim); (first | ((with_reducible apply xlenM); exact rfl; exact rfl) | ((with_reducible apply xo); exact rfl) | ((with_reducible apply xst); exact rfl) | with_reducible apply xend | ((with_reducible apply xguardS); exact rfl; exact rfl) | ((with_reducible apply xalloc); exact rfl; simp only [bkL, Nat.reduceAdd, Nat.reduceSub]) | ((with_reducible apply xbox); exact rfl; simp only [bkL, Nat.reduceAdd, Nat.reduceSub]) | ((with_reducible apply xidxL); exact rfl; exact rfl; exact rfl; (first | exact hrow); omega; first | exact rfl | simp only [hsz]) | ((with_reducible apply xcallIs); exact rfl; exact rfl; (first | exact c1 | exact c2 | exact c4); exact rfl))) | ((with_reducible apply xaw); (first | ((with_reducible apply xstepS); refine AW.step tok rfl ?_) | with_reducible (first | refine AW.seq ?_ | refine AW.block ?_ | refine AW.ret ?_) | ((with_reducible apply xcond); exact rfl) | ((with_reducible apply xdraw (id := 1)); refine AW.draw (id := 1) (.q 0 (.q 1 (.q 2 (.q 3 (.q 4 (.q 5 (.q 6 (.q 7 (.e 8 (.e 9 (.q 10 (.fin)))))))))))) tok (by kernel_rfl) rfl (by kernel_rfl) ?_))) | ((with_reducible apply xarun); (first | ((with_reducible apply xrun_q); exact rfl; exact rfl; exact rfl) | ((with_reducible apply xrun_c); exact rfl; exact rfl; exact rfl; exact rfl; exact rfl; exact rfl; (first | exact c1 | exact c2 | exact c4); exact rfl) | ((with_reducible apply xrun_e); exact rfl) | with_reducible apply xrun_f)) | with_reducible (first | refine xthen ?_ | refine xthen_r ?_ | refine xblock_r ?_) | (with_reducible intro hc; (try simp only [hcL, reduceCtorEq, List.length_map, hk1] at hc); (try (exfalso; omega))) | with_reducible (first | exact trivial | refine And.intro ?_ ?_ | exact rfl) | exact Eq.refl true)
        all_goals (refine xfinIs (by first | exact .inl rfl | exact .inr rfl) rfl (by repeat' (first | exact trivial | exact rfl | refine And.intro ?_ ?_)) rfl ?_ rfl; first | (simp -implicitDefEqProofs only [go_sem, wishV] <;> (first | rfl | omega | exact decide_eq_decide.2 (by omega) | exact decide_eq_false (by omega) | exact decide_eq_true (by omega) | (symm; first | exact decide_eq_false (by omega) | exact decide_eq_true (by omega)) | (rw [Bool.eq_iff_iff]; simp only [boL, reduceCtorEq]; omega))))
      · rw [if_neg hk0] at hw
        have hk1' : (nodeAt t i).kind = 1 := by rw [nodeAt_eq h2]; omega
        have c5 := c_requestI (gridOf t i (kids t i)) (grid_ok h h2 hk1')
        have hw : wish t i = gridReq (gridOf t i (kids t i)) := by rw [hw, ← nodeAt_eq h2]; rfl
        rw [hw]
        clear hw hreq ih
        refine ACon.introW tok (nt := 50) Try.func37 rfl rfl rfl (by kernel_rfl) rfl ?_
        repeat' (first | ((with_reducible apply xsim); (first | ((with_reducible apply xlenM); exact rfl; exact rfl) | ((with_reducible apply xo); exact rfl) | ((with_reducible apply xst); exact rfl) | with_reducible apply xend | ((with_reducible apply xguardS); exact rfl; exact rfl) | ((with_reducible apply xalloc); exact rfl; simp only [bkL, Nat.reduceAdd, Nat.reduceSub]) | ((with_reducible apply xbox); exact rfl; simp only [bkL, Nat.reduceAdd, Nat.reduceSub]) | ((with_reducible apply xidxL); exact rfl; exact rfl; exact rfl; (first | exact hrow); omega; first | exact rfl | simp only [hsz]) | ((with_reducible apply xcallIs); exact rfl; exact rfl; (first | exact c1 | exact c3 | exact c5); exact rfl))) | ((with_reducible apply xaw); (first | ((with_reducible apply xstepS); refine AW.step tok rfl ?_) | with_reducible (first | refine AW.seq ?_ | refine AW.block ?_ | refine AW.skip ?_ | refine AW.ret ?_) | ((with_reducible apply xcond); exact rfl) | ((with_reducible apply xdraw (id := 1)); refine AW.draw (id := 1) (.q 0 (.q 1 (.q 2 (.q 3 (.q 4 (.q 5 (.q 6 (.q 7 (.e 8 (.e 9 (.q 10 (.fin)))))))))))) tok (by kernel_rfl) rfl (by kernel_rfl) ?_))) | ((with_reducible apply xarun); (first | ((with_reducible apply xrun_q); exact rfl; exact rfl; exact rfl) | ((with_reducible apply xrun_c); exact rfl; exact rfl; exact rfl; exact rfl; exact rfl; exact rfl; (first | exact c1 | exact c3 | exact c5); exact rfl) | ((with_reducible apply xrun_e); exact rfl) | with_reducible apply xrun_f)) | with_reducible (first | refine xthen ?_ | refine xblock ?_) | (with_reducible intro hc; (try simp only [hcL, reduceCtorEq, List.length_map, hk1] at hc); (try (exfalso; omega))) | with_reducible (first | exact trivial | refine And.intro ?_ ?_ | exact rfl) | exact Eq.refl true)
        all_goals (refine xfinIs (by first | exact .inl rfl | exact .inr rfl) rfl (by repeat' (first | exact trivial | exact rfl | refine And.intro ?_ ?_)) rfl ?_ rfl; first | (simp -implicitDefEqProofs only [go_sem, wishV] <;> (first | rfl | omega | exact decide_eq_decide.2 (by omega) | exact decide_eq_false (by omega) | exact decide_eq_true (by omega) | (symm; first | exact decide_eq_false (by omega) | exact decide_eq_true (by omega)) | (rw [Bool.eq_iff_iff]; simp only [boL, reduceCtorEq]; omega))))

set_option maxRecDepth 8000 in
set_option maxHeartbeats 4000000 in
theorem c_reqS (t : List Node) (h : TreeK t) : ∀ m i : Nat, t.length - i ≤ m → i < t.length → ACon Try.prog 36 [vTree t, .d (.int .i64 (i : Int))] [] (Is (wishV (wish t i))) := by
  intro m
  induction m with
  | zero => intro i h1 h2; omega
  | succ m ih =>
    intro i h1 h2
    have hhi := h.hi
    have hkl : (kids t i).length ≤ 10 := by have := kids_len t i t.length; unfold kids; omega
    have hks : ∀ k ∈ kids t i, k < t.length := fun k hk => (h.kid hk).1
    have hreq : ∀ k ∈ kids t i, ACon Try.prog 36 [vTree t, .d (.int .i64 (k : Int))] [] (Is (wishV (wish t k))) := fun k hk => by
      obtain ⟨a, b, _⟩ := h.kid hk
      exact ih k (by omega) a
    have c1 := c_kidsS t h i
    have c2 := ORows.data (c_packsS t h _ hks hkl hreq)
    have c3 := c_gridS t h i h2 _ hks hkl hreq
    have c4 := c_preqS (itemsOf t (kids t i)) (items_ok h i).1 (items_ok h i).2
    have hrow := at_map (f := encNode) h2
    have hn := (nodeOk_iff (h.ok i h2)).1
    have hw := wish_eq h h2
    unfold wishOf at hw
    rw [nodeAt_eq h2] at hw
    by_cases hA : t[i].keep = true ∨ kids t i = [] ∨ t[i].kind = 2
    · rw [if_pos hA] at hw
      rw [hw]
      have hA' : t[i].keep = true ∨ (kids t i).length = 0 ∨ t[i].kind = 2 := by rw [List.length_eq_zero_iff]; exact hA
      clear hw hA hreq ih
      rcases hA' with hA | hA | hA
      all_goals
        refine ACon.introW tok (nt := 48) Try.func36 rfl rfl rfl (by kernel_rfl) rfl ?_
        repeat' (first | ((with_reducible apply xsim); (first | ((with_reducible apply xlenM); exact rfl; exact rfl) | ((with_reducible apply xo); exact rfl) | ((with_reducible apply xst); exact rfl) | with_reducible apply xend | ((with_reducible apply xguardS); exact rfl; exact rfl) | ((with_reducible apply xalloc); exact rfl; simp only [bkL, Nat.reduceAdd, Nat.reduceSub]) | ((with_reducible apply xbox); exact rfl; simp only [bkL, Nat.reduceAdd, Nat.reduceSub]) | ((with_reducible apply xidxL); exact rfl; exact rfl; exact rfl; (first | exact hrow); omega; first | exact rfl | simp only [hsz]) | ((with_reducible apply xcallIs); exact rfl; exact rfl; exact c1; exact rfl))) | ((with_reducible apply xaw); (first | ((with_reducible apply xstepS); refine AW.step tok rfl ?_) | with_reducible (first | refine AW.seq ?_ | refine AW.ret ?_) | ((with_reducible apply xcond); exact rfl) | ((with_reducible apply xdraw (id := 4)); refine AW.draw (id := 4) (.q 0 (.q 1 (.q 2 (.q 3 (.q 4 (.q 5 (.fin))))))) tok (by kernel_rfl) rfl (by kernel_rfl) ?_))) | ((with_reducible apply xarun); (first | ((with_reducible apply xrun_q); exact rfl; exact rfl; exact rfl) | with_reducible apply xrun_f)) | with_reducible (first | refine xthen ?_ | refine xthen_r ?_) | (with_reducible intro hc; (try simp only [hcL, reduceCtorEq, List.length_map, hA] at hc); (try (exfalso; omega))) | with_reducible (first | exact trivial | refine And.intro ?_ ?_ | exact rfl) | exact Eq.refl true)
        all_goals (refine xfinIs (by first | exact .inl rfl | exact .inr rfl) rfl (by repeat' (first | exact trivial | exact rfl | refine And.intro ?_ ?_)) rfl ?_ rfl; first | (simp -implicitDefEqProofs only [go_sem, wishV] <;> (first | rfl | omega | exact decide_eq_decide.2 (by omega) | exact decide_eq_false (by omega) | exact decide_eq_true (by omega) | (symm; first | exact decide_eq_false (by omega) | exact decide_eq_true (by omega)) | (rw [Bool.eq_iff_iff]; simp only [boL, reduceCtorEq]; omega))))
    · rw [if_neg hA] at hw
      rw [not_or, not_or, ← List.length_eq_zero_iff] at hA
      obtain ⟨hk1, hk2, hk3⟩ := hA
      have hk1 : t[i].keep = false := by simpa using hk1
      by_cases hk0 : t[i].kind = 0
      · rw [if_pos hk0] at hw
        have hw : wish t i = preqs (itemsOf t (kids t i)) := hw
        rw [hw]
        clear hw hreq ih
        refine ACon.introW tok (nt := 48) Try.func36 rfl rfl rfl (by kernel_rfl) rfl ?_
        repeat' (first | ((with_reducible apply xsim); (first | ((with_reducible apply xlenM); exact rfl; exact rfl) | ((with_reducible apply xo); exact rfl) | ((with_reducible apply xst); exact rfl) | with_reducible apply xend | ((with_reducible apply xguardS); exact rfl; exact rfl) | ((with_reducible apply xalloc); exact rfl; simp only [bkL, Nat.reduceAdd, Nat.reduceSub]) | ((with_reducible apply xbox); exact rfl; simp only [bkL, Nat.reduceAdd, Nat.reduceSub]) | ((with_reducible apply xidxL); exact rfl; exact rfl; exact rfl; (first | exact hrow); omega; first | exact rfl | simp only [hsz]) | ((with_reducible apply xcallIs); exact rfl; exact rfl; (first | exact c1 | exact c2 | exact c4); exact rfl))) | ((with_reducible apply xaw); (first | ((with_reducible apply xstepS); refine AW.step tok rfl ?_) | with_reducible (first | refine AW.seq ?_ | refine AW.skip ?_ | refine AW.ret ?_) | ((with_reducible apply xcond); exact rfl))) | with_reducible (first | refine xthen ?_ | refine xthen_r ?_) | (with_reducible intro hc; (try simp only [hcL, reduceCtorEq, List.length_map, hk1] at hc); (try (exfalso; omega))) | with_reducible (first | exact trivial | refine And.intro ?_ ?_ | exact rfl) | exact Eq.refl true)
        all_goals (refine xfinIs (by first | exact .inl rfl | exact .inr rfl) rfl (by repeat' (first | exact trivial | exact rfl | refine And.intro ?_ ?_)) rfl ?_ rfl; first | (simp -implicitDefEqProofs only [go_sem, wishV] <;> (first | rfl | omega | exact decide_eq_decide.2 (by omega) | exact decide_eq_false (by omega) | exact decide_eq_true (by omega) | (symm; first | exact decide_eq_false (by omega) | exact decide_eq_true (by omega)) | (rw [Bool.eq_iff_iff]; simp only [boL, reduceCtorEq]; omega))))
      · rw [if_neg hk0] at hw
        have hk1' : (nodeAt t i).kind = 1 := by rw [nodeAt_eq h2]; omega
        have c5 := c_requestS (gridOf t i (kids t i)) (grid_ok h h2 hk1')
        have hw : wish t i = gridReq (gridOf t i (kids t i)) := by rw [hw, ← nodeAt_eq h2]; rfl
        rw [hw]
        clear hw hreq ih
        refine ACon.introW tok (nt := 48) Try.func36 rfl rfl rfl (by kernel_rfl) rfl ?_
        repeat' (first | ((with_reducible apply xsim); (first | ((with_reducible apply xlenM); exact rfl; exact rfl) | ((with_reducible apply xo); exact rfl) | ((with_reducible apply xst); exact rfl) | with_reducible apply xend | ((with_reducible apply xguardS); exact rfl; exact rfl) | ((with_reducible apply xalloc); exact rfl; simp only [bkL, Nat.reduceAdd, Nat.reduceSub]) | ((with_reducible apply xbox); exact rfl; simp only [bkL, Nat.reduceAdd, Nat.reduceSub]) | ((with_reducible apply xidxL); exact rfl; exact rfl; exact rfl; (first | exact hrow); omega; first | exact rfl | simp only [hsz]) | ((with_reducible apply xcallIs); exact rfl; exact rfl; (first | exact c1 | exact c3 | exact c5); exact rfl))) | ((with_reducible apply xaw); (first | ((with_reducible apply xstepS); refine AW.step tok rfl ?_) | with_reducible (first | refine AW.seq ?_ | refine AW.skip ?_ | refine AW.ret ?_) | ((with_reducible apply xcond); exact rfl))) | with_reducible refine xthen ?_ | (with_reducible intro hc; (try simp only [hcL, reduceCtorEq, List.length_map, hk1] at hc); (try (exfalso; omega))) | with_reducible (first | exact trivial | refine And.intro ?_ ?_ | exact rfl) | exact Eq.refl true)
        all_goals (refine xfinIs (by first | exact .inl rfl | exact .inr rfl) rfl (by repeat' (first | exact trivial | exact rfl | refine And.intro ?_ ?_)) rfl ?_ rfl; first | (simp -implicitDefEqProofs only [go_sem, wishV] <;> (first | rfl | omega | exact decide_eq_decide.2 (by omega) | exact decide_eq_false (by omega) | exact decide_eq_true (by omega) | (symm; first | exact decide_eq_false (by omega) | exact decide_eq_true (by omega)) | (rw [Bool.eq_iff_iff]; simp only [boL, reduceCtorEq]; omega))))

theorem c_request (t : List Node) (h : TreeK t) (i : Nat) (hi : i < t.length) : ACon Try.prog 37 [vTree t, .d (.int .i64 (i : Int))] [] (Is (wishV (wish t i))) := c_reqI t h _ i (Nat.le_refl _) hi
theorem c_sizeOf (t : List Node) (h : TreeK t) (i : Nat) (hi : i < t.length) : ACon Try.prog 36 [vTree t, .d (.int .i64 (i : Int))] [] (Is (wishV (wish t i))) := c_reqS t h _ i (Nat.le_refl _) hi
end Go.Proofs.Ytpfhnhhkfobjnaa

namespace Go.Proofs.Ytpfhnhhkfobjnaa
open Go.Fw

/-! A node asks for another size. -/
def setWH (n : Node) (w h : Int) : Node := ⟨n.parent, w, h, n.keep, n.kind, n.cols, n.rows, n.pack, n.cell, n.place⟩
def asked (t : List Node) (i : Nat) (w h : Int) : List Node := t.set i (setWH (nodeAt t i) w h)
section
variable {t : List Node} {i : Nat} {w h : Int}
theorem asked_len : (asked t i w h).length = t.length := by simp [asked]
theorem nodeOk_set {n : Node} (hn : nodeOk n = true) (hw : 0 ≤ w ∧ w ≤ 30) (hh : 0 ≤ h ∧ h ≤ 30) : nodeOk (setWH n w h) = true := by
  have h1 := nodeOk_iff hn
  simp only [nodeOk, Bool.and_eq_true, decide_eq_true_eq] at hn ⊢
  simp only [setWH]
  obtain ⟨⟨⟨⟨⟨a, b⟩, c⟩, d⟩, e⟩, f⟩ := hn
  exact ⟨⟨⟨⟨⟨by omega, b⟩, c⟩, d⟩, e⟩, f⟩
theorem upOk_iff {n : Node} {k : Nat} : upOk t k n = if k = 0 then decide (n.parent = -1) else decide (0 ≤ n.parent ∧ n.parent ≤ (k : Int) - 1) && match t[n.parent.toNat]? with
    | some u => if u.kind = 1 then lies n.cell u.cols.length u.rows.length else true
    | none => true := rfl
theorem asked_get? (k : Nat) : (asked t i w h)[k]? = (t[k]?).map fun n => if k = i then setWH n w h else n := by
  unfold asked
  rw [List.getElem?_set]
  by_cases e : i = k
  · subst e
    rw [if_pos rfl]
    by_cases hi : i < t.length
    · rw [if_pos hi, List.getElem?_eq_getElem hi, nodeAt_eq hi]; simp
    · rw [if_neg hi, List.getElem?_eq_none (by omega)]; rfl
  · rw [if_neg e]
    cases t[k]? with
    | none => rfl
    | some n => simp only [Option.map_some]; rw [if_neg fun e' : k = i => e e'.symm]
theorem asked_get {k : Nat} (hk : k < (asked t i w h).length) : (asked t i w h)[k] = if k = i then setWH (t[k]'(by rw [asked_len] at hk; exact hk)) w h else t[k]'(by rw [asked_len] at hk; exact hk) := by
  have := asked_get? (t := t) (i := i) (w := w) (h := h) k
  rw [List.getElem?_eq_getElem hk, List.getElem?_eq_getElem (by rw [asked_len] at hk; exact hk)] at this
  exact Option.some.inj this
theorem asked_ok (ht : treeOk t = true) (hi : i < t.length) (hw : 0 ≤ w ∧ w ≤ 30) (hh : 0 ≤ h ∧ h ≤ 30) : treeOk (asked t i w h) = true := by
  obtain ⟨h1, h2⟩ := treeOk_iff.1 ht
  refine treeOk_iff.2 ⟨by rw [asked_len]; exact h1, fun k hk => ?_⟩
  have hk' : k < t.length := by rw [asked_len] at hk; exact hk
  have hu : upOk (asked t i w h) k (asked t i w h)[k] = upOk t k t[k] := by
    have e1 : ((asked t i w h)[k]).parent = t[k].parent ∧ ((asked t i w h)[k]).cell = t[k].cell := by
      rw [asked_get hk]; split <;> exact ⟨rfl, rfl⟩
    rw [upOk_iff, upOk_iff, e1.1, e1.2, asked_get?]
    cases t[t[k].parent.toNat]? with
    | none => rfl
    | some u =>
      simp only [Option.map_some]
      by_cases e : t[k].parent.toNat = i
      · rw [if_pos e]; rfl
      · rw [if_neg e]
  rw [hu]
  refine ⟨?_, (h2 k hk').2⟩
  rw [asked_get hk]
  split
  · exact nodeOk_set (h2 k hk').1 hw hh
  · exact (h2 k hk').1
end

def touched (t t' : List Node) : List Nat := (List.range t.length).filter fun k => decide (wish t k ≠ wish t' k)
end Go.Proofs.Ytpfhnhhkfobjnaa

namespace Go.Proofs.Ytpfhnhhkfobjnaa
open Go.Fw
attribute [local irreducible] Go.Fw.aops Go.Fw.arun

theorem c_validTree (t : List Node) (hL : TreeL t) : ACon Try.prog 27 [vTree t] [] (Is (.d (.bool (treeOk t)))) := by
  have hL' := hL
  obtain ⟨hL1, _⟩ := hL'
  refine ACon.introW tok (nt := 19) Try.func27 rfl rfl rfl (by kernel_rfl) rfl ?_
  repeat' (first | ((with_reducible apply xsim); (first | ((with_reducible apply xo); exact rfl) | with_reducible apply xend | ((with_reducible apply xbox); exact rfl; simp only [bkL, Nat.reduceAdd, Nat.reduceSub]))) | ((with_reducible apply xaw); (first | ((with_reducible apply xstepS); refine AW.step tok rfl ?_) | with_reducible (first | refine AW.seq ?_ | refine AW.block ?_))) | with_reducible exact trivial)
  refine AW.loop (S := fun k : Nat => ⟨[(1, .oref 0 0), (3, .d (.int .i64 k))], [.box [.d (.lst (t.map encNode))]], 19, .p 0⟩)
    (Pre := fun k => k ≤ t.length ∧ ∀ j (h : j < t.length), j < k → (nodeOk t[j] && upOk t j t[j]) = true) (μ := fun k => t.length - k) 0 ⟨Nat.zero_le _, fun j _ h => absurd h (Nat.not_lt_zero _)⟩ ?_ ?_
  · (refine xwk (π := [0]) (by decide) rfl ?_ ?_; (first | simp -implicitDefEqProofs only [go_sem]); repeat' (first | exact renE_n | ((with_reducible apply renE_c); exact rfl; focus (first | (simp -implicitDefEqProofs only [go_sem]; done)))))
  rintro k ⟨hk, hp⟩
  by_cases hlt : k < t.length
  · have cn := c_validNode t hL k hlt
    by_cases hv : (nodeOk t[k] && upOk t k t[k]) = true
    · rw [hv] at cn
      repeat' (first | ((with_reducible apply xsim); (first | ((with_reducible apply xlenM); exact rfl; exact rfl) | ((with_reducible apply xo); exact rfl) | with_reducible apply xend | ((with_reducible apply xcallIs); exact rfl; exact rfl; exact cn; exact rfl))) | ((with_reducible apply xaw); (first | ((with_reducible apply xstepS); refine AW.step tok rfl ?_) | ((with_reducible apply xstep); refine AW.region tok rfl ?_) | with_reducible (first | refine AW.seq ?_ | refine AW.block ?_ | refine AW.skip ?_) | ((with_reducible apply xcond); exact rfl))) | with_reducible (first | refine xthen ?_ | refine xblock ?_) | (with_reducible intro hc; (try simp only [hcL, reduceCtorEq, List.length_map] at hc); (try (exfalso; omega))) | with_reducible (first | exact trivial | refine And.intro ?_ ?_ | exact rfl) | exact Eq.refl true | (refine inR_i64.mpr ?_; first | omega | (simp only [List.length_map, List.length_map]; omega)))
      refine round_end (k + 1) ⟨by omega, fun j h hj => ?_⟩ (by omega) (by (refine xwk (π := [0]) (by decide) rfl ?_ ?_; (first | simp -implicitDefEqProofs only [go_sem]); repeat' (first | exact renE_n | ((with_reducible apply renE_c); exact rfl; focus (first | (simp -implicitDefEqProofs only [go_sem]; done))))))
      by_cases e : j = k
      · subst e; exact hv
      · exact hp j h (by omega)
    · have hv' : (nodeOk t[k] && upOk t k t[k]) = false := by simpa using hv
      rw [hv'] at cn
      repeat' (first | ((with_reducible apply xsim); (first | ((with_reducible apply xlenM); exact rfl; exact rfl) | ((with_reducible apply xo); exact rfl) | with_reducible apply xend | ((with_reducible apply xcallIs); exact rfl; exact rfl; exact cn; exact rfl))) | ((with_reducible apply xaw); (first | ((with_reducible apply xstepS); refine AW.step tok rfl ?_) | with_reducible (first | refine AW.seq ?_ | refine AW.block ?_ | refine AW.skip ?_ | refine AW.ret ?_) | ((with_reducible apply xcond); exact rfl))) | with_reducible (first | refine xthen ?_ | refine xthen_r ?_ | refine xblock_r ?_ | refine xround_r ?_) | (with_reducible intro hc; (try simp only [hcL, reduceCtorEq, List.length_map] at hc); (try (exfalso; omega))) | with_reducible (first | exact trivial | refine And.intro ?_ ?_ | exact rfl) | exact Eq.refl true)
      (refine xfinIs (by first | exact .inl rfl | exact .inr rfl) rfl (by repeat' (first | exact trivial | exact rfl | refine And.intro ?_ ?_)) rfl ?_ rfl; first | (simp -implicitDefEqProofs only [go_sem, treeOk_ff hlt hv'] <;> (first | rfl | omega | exact decide_eq_decide.2 (by omega) | exact decide_eq_false (by omega) | exact decide_eq_true (by omega) | (symm; first | exact decide_eq_false (by omega) | exact decide_eq_true (by omega)) | (rw [Bool.eq_iff_iff]; simp only [boL, reduceCtorEq]; omega))))
  · by_cases hlen : 1 ≤ t.length ∧ t.length ≤ 10
    · repeat' (first | ((with_reducible apply xsim); (first | ((with_reducible apply xlenM); exact rfl; exact rfl) | ((with_reducible apply xo); exact rfl) | with_reducible apply xend | ((with_reducible apply xcallIs); exact rfl; exact rfl; exact c_inRange _ _ _; exact rfl))) | ((with_reducible apply xaw); (first | ((with_reducible apply xstepS); refine AW.step tok rfl ?_) | with_reducible (first | refine AW.seq ?_ | refine AW.ret ?_ | refine AW.exit ?_) | ((with_reducible apply xcond); exact rfl))) | with_reducible (first | refine xthen ?_ | refine xthen_e ?_ | refine xblock_e ?_ | refine xround_e ?_) | (with_reducible intro hc; (try simp only [hcL, reduceCtorEq, List.length_map] at hc); (try (exfalso; omega))) | with_reducible (first | exact trivial | refine And.intro ?_ ?_ | exact rfl))
      (refine xfinIs (by first | exact .inl rfl | exact .inr rfl) rfl (by repeat' (first | exact trivial | exact rfl | refine And.intro ?_ ?_)) rfl ?_ rfl; first | (simp -implicitDefEqProofs only [go_sem, treeOk_tt hlen fun i h => hp i h (by omega)] <;> (first | rfl | omega | exact decide_eq_decide.2 (by omega) | exact decide_eq_false (by omega) | exact decide_eq_true (by omega) | (symm; first | exact decide_eq_false (by omega) | exact decide_eq_true (by omega)) | (rw [Bool.eq_iff_iff]; simp only [boL, reduceCtorEq]; omega))))
    · repeat' (first | ((with_reducible apply xsim); (first | ((with_reducible apply xlenM); exact rfl; exact rfl) | ((with_reducible apply xo); exact rfl) | with_reducible apply xend | ((with_reducible apply xcallIs); exact rfl; exact rfl; exact c_inRange _ _ _; exact rfl))) | ((with_reducible apply xaw); (first | ((with_reducible apply xstepS); refine AW.step tok rfl ?_) | with_reducible (first | refine AW.seq ?_ | refine AW.ret ?_ | refine AW.exit ?_) | ((with_reducible apply xcond); exact rfl))) | with_reducible (first | refine xthen ?_ | refine xthen_e ?_ | refine xblock_e ?_ | refine xround_e ?_) | (with_reducible intro hc; (try simp only [hcL, reduceCtorEq, List.length_map] at hc); (try (exfalso; omega))) | with_reducible (first | exact trivial | refine And.intro ?_ ?_ | exact rfl))
      (refine xfinIs (by first | exact .inl rfl | exact .inr rfl) rfl (by repeat' (first | exact trivial | exact rfl | refine And.intro ?_ ?_)) rfl ?_ rfl; first | (simp -implicitDefEqProofs only [go_sem, treeOk_len hlen] <;> (first | rfl | omega | exact decide_eq_decide.2 (by omega) | exact decide_eq_false (by omega) | exact decide_eq_true (by omega) | (symm; first | exact decide_eq_false (by omega) | exact decide_eq_true (by omega)) | (rw [Bool.eq_iff_iff]; simp only [boL, reduceCtorEq]; omega))))

/-- The tree is valid and has the node. -/
def goodN (t : List Node) (i : Int) : Bool := treeOk t && decide (0 ≤ i ∧ i ≤ (t.length : Int) - 1)
theorem c_goodNode (t : List Node) (hL : TreeL t) (i : Int) : ACon Try.prog 33 [vTree t, .d (.int .i64 i)] [] (Is (.d (.bool (goodN t i)))) := by
  have hL1 := hL.1
  have c1 := c_validTree t hL
  cases ht : treeOk t
  all_goals
    rw [ht] at c1
    refine ACon.introW tok (nt := 15) Try.func33 rfl rfl rfl (by kernel_rfl) rfl ?_
    repeat' (first | ((with_reducible apply xsim); (first | ((with_reducible apply xlenM); exact rfl; exact rfl) | ((with_reducible apply xo); exact rfl) | with_reducible apply xend | ((with_reducible apply xguardS); exact rfl; exact rfl) | ((with_reducible apply xbox); exact rfl; simp only [bkL, Nat.reduceAdd, Nat.reduceSub]) | ((with_reducible apply xcallIs); exact rfl; exact rfl; (first | exact c1 | exact c_inRange _ _ _); exact rfl))) | ((with_reducible apply xaw); (first | ((with_reducible apply xstepS); refine AW.step tok rfl ?_) | with_reducible refine AW.ret ?_)) | (with_reducible intro hc; (try simp only [hcL, reduceCtorEq, List.length_map] at hc); (try (exfalso; omega))) | with_reducible (first | exact trivial | refine And.intro ?_ ?_ | exact rfl) | exact Eq.refl true | (refine inR_i64.mpr ?_; first | omega | (simp only [List.length_map, List.length_map]; omega)))
    all_goals (refine xfinIs (by first | exact .inl rfl | exact .inr rfl) rfl (by repeat' (first | exact trivial | exact rfl | refine And.intro ?_ ?_)) rfl ?_ rfl; first | (simp -implicitDefEqProofs only [go_sem, goodN, ht, Bool.true_and, Bool.false_and] <;> (first | rfl | omega | exact decide_eq_decide.2 (by omega) | exact decide_eq_false (by omega) | exact decide_eq_true (by omega) | (symm; first | exact decide_eq_false (by omega) | exact decide_eq_true (by omega)) | (rw [Bool.eq_iff_iff]; simp only [boL, reduceCtorEq]; omega))))
theorem goodN_iff {t : List Node} {i : Int} : goodN t i = true ↔ treeOk t = true ∧ 0 ≤ i ∧ i.toNat < t.length := by
  simp only [goodN, Bool.and_eq_true, decide_eq_true_eq]
  refine and_congr_right fun _ => ?_
  omega
/-! Ways up. -/
end Go.Proofs.Ytpfhnhhkfobjnaa

namespace Go.Proofs.Ytpfhnhhkfobjnaa
open Go.Fw
attribute [local irreducible] Go.Fw.aops Go.Fw.arun

theorem okTree_szT {t : List Node} (ht : okTree t) : t.length < 2^63 ∧ ∀ x ∈ t, x.cols.length < 2^63 ∧ x.rows.length < 2^63 := by
  have hb : maxLen < 2^63 := by decide
  refine ⟨by have := ht.1; omega, fun x hx => ?_⟩
  obtain ⟨a, b⟩ := ht.2 x hx
  omega
theorem small_L {t : List Node} (h : t.length ≤ 2^20 ∧ ∀ x ∈ t, x.cols.length ≤ 2^20 ∧ x.rows.length ≤ 2^20) : TreeL t := ⟨by omega, fun i hi => by have := h.2 _ (List.getElem_mem hi); omega⟩
end Go.Proofs.Ytpfhnhhkfobjnaa

namespace Go.Proofs.Ytpfhnhhkfobjnaa
open Go.Fw
attribute [local irreducible] Go.Fw.aops Go.Fw.arun

/-! The tree that is handed to the program, as data of new memory. -/
theorem c_toLineSH (n : Nat) (ls : List Line) (h : ls.length ≤ 2^20) : AXon Try.prog (.hi n) 70 [.d (.lst (ls.map encLine))] (Is (.hd n (.lst (ls.map encLine)))) :=
  (AXon.of_con (c_toLineS ls h) rfl).data (fun _ => ⟨.inl ⟨rfl, rfl⟩, .inl ⟨rfl, rfl⟩, trivial⟩)
@[go_sem] def encNodeH (m : Nat) (n : Node) : List D := .int .i64 n.parent :: .int .i64 n.w :: .int .i64 n.h :: .bool n.keep :: .int .i64 n.kind :: .hi m (.lst (n.cols.map encLine)) :: .hi m (.lst (n.rows.map encLine)) :: [
  .int .i64 n.pack.w, .int .i64 n.pack.h, .int .i64 n.pack.side, .bool n.pack.fillX, .bool n.pack.fillY, .bool n.pack.expand, .int .i64 n.pack.anchor, .int .i64 n.pack.padX, .int .i64 n.pack.padY,
  .int .i64 n.cell.col, .int .i64 n.cell.row, .int .i64 n.cell.manyCols, .int .i64 n.cell.manyRows, .int .i64 n.cell.w, .int .i64 n.cell.h, .int .i64 n.cell.stick, .int .i64 n.cell.padX, .int .i64 n.cell.padY,
  .int .i64 n.place.x, .int .i64 n.place.y, .int .i64 n.place.relX, .int .i64 n.place.relY, .int .i64 n.place.w, .int .i64 n.place.h, .int .i64 n.place.relW, .int .i64 n.place.relH, .int .i64 n.place.anchor]
@[go_sem] def vNodeH (m : Nat) (n : Node) : V := .agg (.d (.int .i64 n.parent) :: .d (.int .i64 n.w) :: .d (.int .i64 n.h) :: .d (.bool n.keep) :: .d (.int .i64 n.kind) :: .hd m (.lst (n.cols.map encLine)) :: .hd m (.lst (n.rows.map encLine)) :: [
  .d (.int .i64 n.pack.w), .d (.int .i64 n.pack.h), .d (.int .i64 n.pack.side), .d (.bool n.pack.fillX), .d (.bool n.pack.fillY), .d (.bool n.pack.expand), .d (.int .i64 n.pack.anchor), .d (.int .i64 n.pack.padX), .d (.int .i64 n.pack.padY),
  .d (.int .i64 n.cell.col), .d (.int .i64 n.cell.row), .d (.int .i64 n.cell.manyCols), .d (.int .i64 n.cell.manyRows), .d (.int .i64 n.cell.w), .d (.int .i64 n.cell.h), .d (.int .i64 n.cell.stick), .d (.int .i64 n.cell.padX), .d (.int .i64 n.cell.padY),
  .d (.int .i64 n.place.x), .d (.int .i64 n.place.y), .d (.int .i64 n.place.relX), .d (.int .i64 n.place.relY), .d (.int .i64 n.place.w), .d (.int .i64 n.place.h), .d (.int .i64 n.place.relW), .d (.int .i64 n.place.relH), .d (.int .i64 n.place.anchor)])
@[go_sem] def vTreeH (m : Nat) (t : List Node) : V := .agg [.hd m (.lst (t.map encNode))]
set_option maxRecDepth 8000 in
set_option maxHeartbeats 4000000 in
theorem c_toNodeH (m : Nat) (x : Node) (h1 : x.cols.length ≤ 2^20) (h2 : x.rows.length ≤ 2^20) : AXon Try.prog (.hi m) 46 [vNode x] (Is (vNodeH m x)) := by
  refine AXon.introW tok (nt := 40) Try.func46 rfl rfl rfl (by kernel_rfl) rfl ?_
  repeat' (first | ((with_reducible apply xsim); (first | ((with_reducible apply xo); exact rfl) | ((with_reducible apply xst); exact rfl) | with_reducible apply xend | ((with_reducible apply xalloc); exact rfl; simp only [bkL, Nat.reduceAdd, Nat.reduceSub]) | ((with_reducible apply xbox); exact rfl; simp only [bkL, Nat.reduceAdd, Nat.reduceSub]) | ((with_reducible apply xcallHi); exact rfl; exact rfl; exact rfl; exact c_toLineSH m _ h1; (first | exact .inl rfl | exact .inr rfl); exact rfl) | ((with_reducible apply xcallHi); exact rfl; exact rfl; exact rfl; exact c_toLineSH m _ h2; (first | exact .inl rfl | exact .inr rfl); exact rfl) | ((with_reducible apply xcallIs); exact rfl; exact rfl; (first | exact c_toPack x.pack | exact c_toCell x.cell | exact c_toPlace x.place); exact rfl))) | ((with_reducible apply xaw); (first | ((with_reducible apply xstepS); refine AW.step tok rfl ?_) | with_reducible refine AW.ret ?_)) | with_reducible (first | exact trivial | refine And.intro ?_ ?_) | exact Eq.refl true)
  all_goals (refine xfinIs (by first | exact .inl rfl | exact .inr rfl) rfl (by repeat' (first | exact trivial | exact rfl | refine And.intro ?_ ?_)) rfl ?_ rfl; first | (simp -implicitDefEqProofs only [go_sem] <;> (first | rfl | omega | exact decide_eq_decide.2 (by omega) | exact decide_eq_false (by omega) | exact decide_eq_true (by omega) | (symm; first | exact decide_eq_false (by omega) | exact decide_eq_true (by omega)) | (rw [Bool.eq_iff_iff]; simp only [boL, reduceCtorEq]; omega))))
set_option maxRecDepth 8000 in
set_option maxHeartbeats 4000000 in
theorem c_toNodeSH (m : Nat) (t : List Node) (hl : t.length ≤ 2^20) (hc : ∀ x ∈ t, x.cols.length ≤ 2^20 ∧ x.rows.length ≤ 2^20) : AXon Try.prog (.hi m) 28 [.d (.lst (t.map encNode))] (Own (.msl 0 34 0 t.length) [.arr 34 (t.map (encNodeH m))]) := by
  refine AXon.introW tok (nt := 23) Try.func28 rfl rfl rfl (by kernel_rfl) rfl ?_
  repeat' (first | ((with_reducible apply xsim); (first | ((with_reducible apply xlenM); exact rfl; exact rfl) | ((with_reducible apply xo); exact rfl) | with_reducible apply xend | simp -implicitDefEqProofs only [go_sem, List.length_map])) | ((with_reducible apply xaw); (first | ((with_reducible apply xstepS); refine AW.step tok rfl ?_) | with_reducible (first | refine AW.seq ?_ | refine AW.block ?_))) | with_reducible (first | exact trivial | refine And.intro ?_ ?_) | omega)
  refine AW.loop (S := fun k : Nat => ⟨[(0, .d (.lst (t.map encNode))), (3, .msl 0 34 0 t.length), (4, .d (.int .i64 k))], [.arr 34 (fillRows (encNodeH m) zNode t k)], 23, .hi m⟩)
    (Pre := fun k => k ≤ t.length) (μ := fun k => t.length - k) 0 (Nat.zero_le _) ?_ ?_
  · (refine xwk (π := [0]) (by decide) rfl ?_ ?_; (first | simp -implicitDefEqProofs only [go_sem, fillRows_zero, zNode]); repeat' (first | exact renE_n | ((with_reducible apply renE_c); exact rfl; focus (first | (simp -implicitDefEqProofs only [go_sem, fillRows_zero, zNode]; done)))))
  · intro k hk
    by_cases hlt : k < t.length
    · have hrow := at_map (f := encNode) hlt
      have hz := fillRows_at (enc := encNodeH m) (z := zNode) hlt
      have hset := fillRows_set (enc := encNodeH m) (z := zNode) hlt
      simp only [encNodeH] at hset
      have hx := hc _ (List.getElem_mem hlt)
      repeat' (first | ((with_reducible apply xsim); (first | ((with_reducible apply xlenM); exact rfl; exact rfl) | ((with_reducible apply xo); exact rfl) | with_reducible apply xend | ((with_reducible apply xidxL); exact rfl; exact rfl; exact rfl; (first | exact hrow | exact hz); omega; first | exact rfl | simp only [hsz]) | ((with_reducible apply xidxM); exact rfl; exact rfl; exact rfl; omega; omega; exact rfl) | ((with_reducible apply xstA); exact rfl; exact rfl; exact rfl; exact rfl; (first | exact hrow | exact hz); exact rfl; exact rfl; exact rfl; exact rfl; (try simp only [List.set_cons_zero, List.set_cons_succ, List.length_map])) | ((with_reducible apply xcallHi); exact rfl; exact rfl; exact rfl; exact c_toNodeH m t[k] hx.1 hx.2; (first | exact .inl rfl | exact .inr rfl); exact rfl))) | ((with_reducible apply xaw); (first | ((with_reducible apply xstepS); refine AW.step tok rfl ?_) | ((with_reducible apply xstep); refine AW.region tok rfl ?_) | with_reducible (first | refine AW.seq ?_ | refine AW.block ?_ | refine AW.skip ?_) | ((with_reducible apply xcond); exact rfl))) | with_reducible (first | refine xthen ?_ | refine xblock ?_) | (with_reducible intro hc; (try simp only [hcL, reduceCtorEq, List.length_map] at hc); (try (exfalso; omega))) | with_reducible (first | exact trivial | refine And.intro ?_ ?_ | exact rfl) | exact Eq.refl true | (refine inR_i64.mpr ?_; first | omega | (simp only [List.length_map, List.length_map]; omega)))
      refine round_end (k+1) hlt (by omega) (by (refine xwk (π := [0]) (by decide) rfl ?_ ?_; (first | simp -implicitDefEqProofs only [go_sem, hset]); repeat' (first | exact renE_n | ((with_reducible apply renE_c); exact rfl; focus (first | (simp -implicitDefEqProofs only [go_sem, hset]; done))))))
    · have hk' : k = t.length := by omega
      subst hk'
      have hfl := fillRows_len (enc := encNodeH m) (z := zNode) (Nat.le_refl t.length)
      repeat' (first | ((with_reducible apply xsim); (first | ((with_reducible apply xlenM); exact rfl; exact rfl) | ((with_reducible apply xo); exact rfl) | with_reducible apply xend)) | ((with_reducible apply xaw); (first | ((with_reducible apply xstepS); refine AW.step tok rfl ?_) | with_reducible (first | refine AW.seq ?_ | refine AW.ret ?_ | refine AW.exit ?_) | ((with_reducible apply xcond); exact rfl))) | with_reducible (first | refine xthen ?_ | refine xthen_e ?_ | refine xblock_e ?_ | refine xround_e ?_) | (with_reducible intro hc; (try simp only [hcL, reduceCtorEq, List.length_map] at hc); (try (exfalso; omega))) | with_reducible (first | exact trivial | refine And.intro ?_ ?_ | exact rfl))
      (refine xfinOwn [0] (by first | exact .inl rfl | exact .inr rfl) rfl (by repeat' (first | exact trivial | exact rfl | refine And.intro ?_ ?_)) (by decide) rfl ?_ ?_ <;> simp -implicitDefEqProofs only [go_sem, fillRows_all])
theorem srNode (m : Nat) (a : Node) : SR m (encNodeH m a) (encNode a) := by
  repeat' (first | exact trivial | refine And.intro (.inl ⟨rfl, rfl⟩) ?_ | refine And.intro (.inr rfl) ?_)
theorem c_toTreeH (m : Nat) (t : List Node) (hl : t.length ≤ 2^20) (hc : ∀ x ∈ t, x.cols.length ≤ 2^20 ∧ x.rows.length ≤ 2^20) : AXon Try.prog (.hi m) 10 [vTree t] (Is (vTreeH m t)) := by
  have c1 := (c_toNodeSH m t hl hc).data (srNode m)
  refine AXon.introW tok (nt := 9) Try.func10 rfl rfl rfl (by kernel_rfl) rfl ?_
  repeat' (first | ((with_reducible apply xsim); (first | ((with_reducible apply xo); exact rfl) | ((with_reducible apply xst); exact rfl) | with_reducible apply xend | ((with_reducible apply xalloc); exact rfl; simp only [bkL, Nat.reduceAdd, Nat.reduceSub]) | ((with_reducible apply xbox); exact rfl; simp only [bkL, Nat.reduceAdd, Nat.reduceSub]) | ((with_reducible apply xcallHi); exact rfl; exact rfl; exact rfl; exact c1; (first | exact .inl rfl | exact .inr rfl); exact rfl))) | ((with_reducible apply xaw); (first | ((with_reducible apply xstepS); refine AW.step tok rfl ?_) | with_reducible refine AW.ret ?_)) | with_reducible (first | exact trivial | refine And.intro ?_ ?_) | exact Eq.refl true)
  all_goals (refine xfinIs (by first | exact .inl rfl | exact .inr rfl) rfl (by repeat' (first | exact trivial | exact rfl | refine And.intro ?_ ?_)) rfl ?_ rfl; first | (simp -implicitDefEqProofs only [go_sem] <;> (first | rfl | omega | exact decide_eq_decide.2 (by omega) | exact decide_eq_false (by omega) | exact decide_eq_true (by omega) | (symm; first | exact decide_eq_false (by omega) | exact decide_eq_true (by omega)) | (rw [Bool.eq_iff_iff]; simp only [boL, reduceCtorEq]; omega))))

/-! The marks: numbers and truth values, written into a tree's memory. -/
def lineW : List D := [.wint .i64, .wint .i64]
def nodeW : List D := .wint .i64 :: .wint .i64 :: .wint .i64 :: .wbool :: .wint .i64 :: .wx lineW (2^20) :: .wx lineW (2^20) :: [
  .wint .i64, .wint .i64, .wint .i64, .wbool, .wbool, .wbool, .wint .i64, .wint .i64, .wint .i64,
  .wint .i64, .wint .i64, .wint .i64, .wint .i64, .wint .i64, .wint .i64, .wint .i64, .wint .i64, .wint .i64,
  .wint .i64, .wint .i64, .wint .i64, .wint .i64, .wint .i64, .wint .i64, .wint .i64, .wint .i64, .wint .i64]
theorem c_markLineW (k : Int) (hk : 0 ≤ k ∧ k ≤ 2^60) : AXon Try.prog .wild 52 [.d (.wx lineW (2^20)), .d (.int .i64 k)] (Sm (IntB k (k + 2097152))) := by
  refine AXon.opened (by kernel_rfl) (fun L hL => ?_)
  refine AXon.introW tok (nt := 27) Try.func52 rfl rfl rfl (by kernel_rfl) rfl ?_
  repeat' (first | ((with_reducible apply xsim); (first | ((with_reducible apply xo); exact rfl) | with_reducible apply xend)) | ((with_reducible apply xaw); (first | ((with_reducible apply xstepS); refine AW.step tok rfl ?_) | with_reducible (first | refine AW.seq ?_ | refine AW.block ?_))) | with_reducible exact trivial)
  refine AW.loop (S := fun j : Nat => ⟨[(0, .d (.lst ((List.replicate L ()).map fun _ => lineW))), (1, .d (.int .i64 (k + 2 * j))), (5, .d (.int .i64 j))], [], 27, .wild⟩)
    (Pre := fun j => j ≤ L) (μ := fun j => L - j) 0 (Nat.zero_le _) ?_ ?_
  · (refine xwk (π := []) (by decide) rfl ?_ ?_; (first | exact trivial); repeat' (first | exact renE_n | ((with_reducible apply renE_c); exact rfl; focus (first | (simp -implicitDefEqProofs only [go_sem, Int.natCast_zero, Int.mul_zero, Int.add_zero]; done)))))
  · intro j hj
    by_cases hlt : j < L
    · have hrow := rep_at (row := lineW) hlt
      repeat' (first | ((with_reducible apply xsim); (first | ((with_reducible apply xlenM); exact rfl; exact rfl) | ((with_reducible apply xo); exact rfl) | with_reducible apply xend | ((with_reducible apply xidxL); exact rfl; exact rfl; exact rfl; (first | exact hrow); omega; first | exact rfl | simp only [hsz]) | ((with_reducible apply xstW); exact rfl; exact rfl; exact rfl; exact rfl; exact rfl; (first | exact trivial | exact ⟨rfl, trivial⟩); (focus (repeat' (first | exact trivial | refine ⟨(by first | exact rfl | exact wv_rep rfl), ?_⟩)))))) | ((with_reducible apply xaw); (first | ((with_reducible apply xstepS); refine AW.step tok rfl ?_) | ((with_reducible apply xstep); refine AW.region tok rfl ?_) | with_reducible (first | refine AW.seq ?_ | refine AW.block ?_ | refine AW.skip ?_) | ((with_reducible apply xcond); exact rfl))) | with_reducible (first | refine xthen ?_ | refine xblock ?_) | (with_reducible intro hc; (try simp only [hcL, reduceCtorEq, List.length_replicate] at hc); (try (exfalso; omega))) | with_reducible (first | exact trivial | refine And.intro ?_ ?_ | exact rfl) | (refine inR_i64.mpr ?_; first | omega | (simp only [List.length_map, List.length_replicate]; omega)))
      all_goals refine round_end (j+1) hlt (by omega) (by (refine xwk (π := []) (by decide) rfl ?_ ?_; (first | exact trivial); repeat' (first | exact renE_n | ((with_reducible apply renE_c); exact rfl; focus (first | (simp -implicitDefEqProofs only [go_sem]; done) | (simp -implicitDefEqProofs only [go_sem]; omega))))))
    · repeat' (first | ((with_reducible apply xsim); (first | ((with_reducible apply xlenM); exact rfl; exact rfl) | ((with_reducible apply xo); exact rfl) | with_reducible apply xend)) | ((with_reducible apply xaw); (first | ((with_reducible apply xstepS); refine AW.step tok rfl ?_) | with_reducible (first | refine AW.seq ?_ | refine AW.ret ?_ | refine AW.exit ?_) | ((with_reducible apply xcond); exact rfl))) | with_reducible (first | refine xthen ?_ | refine xthen_e ?_ | refine xblock_e ?_ | refine xround_e ?_) | (with_reducible intro hc; (try simp only [hcL, reduceCtorEq, List.length_replicate] at hc); (try (exfalso; omega))) | with_reducible (first | exact trivial | refine And.intro ?_ ?_ | exact rfl))
      all_goals refine xfinSmX (by first | exact .inl rfl | exact .inr rfl) rfl (by repeat' (first | exact trivial | exact rfl | refine And.intro ?_ ?_)) rfl rfl ?_
      all_goals exact ⟨_, rfl, by omega, by omega⟩
set_option maxRecDepth 8000 in
set_option maxHeartbeats 8000000 in
theorem c_markNodeW (k : Int) (hk : 0 ≤ k ∧ k ≤ 2^50) : AXon Try.prog .wild 35 [.d (.wx nodeW (2^20)), .d (.int .i64 k)] (Sm (IntB k (k + 2^44))) := by
  refine AXon.opened (by kernel_rfl) (fun L hL => ?_)
  refine AXon.introW tok (nt := 286) Try.func35 rfl rfl rfl (by kernel_rfl) rfl ?_
  repeat' (first | ((with_reducible apply xsim); (first | ((with_reducible apply xo); exact rfl) | with_reducible apply xend)) | ((with_reducible apply xaw); (first | ((with_reducible apply xstepS); refine AW.step tok rfl ?_) | with_reducible (first | refine AW.seq ?_ | refine AW.block ?_))) | with_reducible exact trivial)
  refine AW.loop (S := fun p : Nat × Int => ⟨[(0, .d (.lst ((List.replicate L ()).map fun _ => nodeW))), (1, .d (.int .i64 p.2)), (5, .d (.int .i64 p.1))], [], 286, .wild⟩)
    (Pre := fun p => p.1 ≤ L ∧ k ≤ p.2 ∧ p.2 ≤ k + 8388608 * p.1) (μ := fun p => L - p.1) (0, k) ⟨Nat.zero_le _, Int.le_refl _, by dsimp only; omega⟩ ?_ ?_
  · (refine xwk (π := []) (by decide) rfl ?_ ?_; (first | exact trivial); repeat' (first | exact renE_n | ((with_reducible apply renE_c); exact rfl; focus (first | (simp -implicitDefEqProofs only [go_sem]; done)))))
  · rintro ⟨j, q⟩ ⟨hj, h1, h2⟩
    dsimp only at hj h1 h2 ⊢
    by_cases hlt : j < L
    · have hrow := rep_at (row := nodeW) hlt
      repeat' (first | ((with_reducible apply xsim); (first | ((with_reducible apply xlenM); exact rfl; exact rfl) | ((with_reducible apply xo); exact rfl) | with_reducible apply xend | ((with_reducible apply xidxL); exact rfl; exact rfl; exact rfl; (first | exact hrow); omega; first | exact rfl | simp only [hsz]) | ((with_reducible apply xcallW); exact rfl; exact rfl; exact rfl; exact c_markLineW _ (by omega); exact IntB.flat; (first | exact trivial | exact ⟨rfl, trivial⟩); (focus (repeat' (first | exact trivial | refine ⟨(by first | exact rfl | exact wv_rep rfl), ?_⟩))); rintro _ ⟨k1, rfl, k2, k3⟩) | ((with_reducible apply xstW); exact rfl; exact rfl; exact rfl; exact rfl; exact rfl; (first | exact trivial | exact ⟨rfl, trivial⟩); (focus (repeat' (first | exact trivial | refine ⟨(by first | exact rfl | exact wv_rep rfl), ?_⟩)))) | ((with_reducible apply xstWb); exact rfl; exact rfl; exact rfl; exact rfl; exact rfl; (first | exact trivial | exact ⟨rfl, trivial⟩); (focus (repeat' (first | exact trivial | refine ⟨(by first | exact rfl | exact wv_rep rfl), ?_⟩)))))) | ((with_reducible apply xaw); (first | ((with_reducible apply xstepS); refine AW.step tok rfl ?_) | ((with_reducible apply xstep); refine AW.region tok rfl ?_) | with_reducible (first | refine AW.seq ?_ | refine AW.block ?_ | refine AW.skip ?_) | ((with_reducible apply xcond); exact rfl))) | with_reducible (first | refine xthen ?_ | refine xblock ?_) | (with_reducible intro hc; (try simp only [hcL, reduceCtorEq, List.length_replicate] at hc); (try (exfalso; omega))) | with_reducible (first | exact trivial | refine And.intro ?_ ?_ | exact rfl) | (refine inR_i64.mpr ?_; first | omega | (simp only [List.length_map, List.length_replicate]; omega)) | omega)
      all_goals refine round_end ((j+1, k1 + 27) : Nat × Int) ⟨by dsimp only; omega, by dsimp only; omega, by dsimp only; omega⟩ (by dsimp only; omega) (by (refine xwk (π := []) (by decide) rfl ?_ ?_; (first | exact trivial); repeat' (first | exact renE_n | ((with_reducible apply renE_c); exact rfl; focus (first | (simp -implicitDefEqProofs only [go_sem]; done) | (simp -implicitDefEqProofs only [go_sem]; omega))))))
    · repeat' (first | ((with_reducible apply xsim); (first | ((with_reducible apply xlenM); exact rfl; exact rfl) | ((with_reducible apply xo); exact rfl) | with_reducible apply xend)) | ((with_reducible apply xaw); (first | ((with_reducible apply xstepS); refine AW.step tok rfl ?_) | with_reducible (first | refine AW.seq ?_ | refine AW.ret ?_ | refine AW.exit ?_) | ((with_reducible apply xcond); exact rfl))) | with_reducible (first | refine xthen ?_ | refine xthen_e ?_ | refine xblock_e ?_ | refine xround_e ?_) | (with_reducible intro hc; (try simp only [hcL, reduceCtorEq, List.length_replicate] at hc); (try (exfalso; omega))) | with_reducible (first | exact trivial | refine And.intro ?_ ?_ | exact rfl))
      all_goals refine xfinSmX (by first | exact .inl rfl | exact .inr rfl) rfl (by repeat' (first | exact trivial | exact rfl | refine And.intro ?_ ?_)) rfl rfl ?_
      all_goals exact ⟨_, rfl, by omega, by omega⟩
theorem c_markTreeW : AXon Try.prog .wild 16 [.agg [.d (.wx nodeW (2^20))], .d (.int .i64 1)] (Sm (IntB 1 (1 + 2^44))) := by
  refine AXon.introW tok (nt := 10) Try.func16 rfl rfl rfl (by kernel_rfl) rfl ?_
  repeat' (first | ((with_reducible apply xsim); (first | ((with_reducible apply xo); exact rfl) | with_reducible apply xend | ((with_reducible apply xbox); exact rfl; simp only [bkL, Nat.reduceAdd, Nat.reduceSub]) | ((with_reducible apply xcallW); exact rfl; exact rfl; exact rfl; exact c_markNodeW _ (by omega); exact IntB.flat; (first | exact trivial | exact ⟨rfl, trivial⟩); (focus (repeat' (first | exact trivial | refine ⟨(by first | exact rfl | exact wv_rep rfl), ?_⟩))); rintro _ ⟨k1, rfl, k2, k3⟩))) | ((with_reducible apply xaw); (first | ((with_reducible apply xstepS); refine AW.step tok rfl ?_) | with_reducible refine AW.ret ?_)) | with_reducible exact trivial)
  all_goals refine xfinSmX (by first | exact .inl rfl | exact .inr rfl) rfl (by repeat' (first | exact trivial | exact rfl | refine And.intro ?_ ?_)) rfl rfl ?_
  all_goals exact ⟨_, rfl, by omega, by omega⟩
theorem wrNode {a : Node} (h : a.cols.length ≤ 2^20 ∧ a.rows.length ≤ 2^20) : WR (encNode a) nodeW := by
  have hl : ∀ l : Line, WR (encLine l) lineW := fun l => ⟨wd_int, wd_int, trivial⟩
  simp only [WR, encNode, nodeW]
  repeat' (first | exact trivial | refine ⟨wd_int, ?_⟩ | refine ⟨wd_bool, ?_⟩ | refine ⟨wd_lst (fun l _ => hl l) h.1, ?_⟩ | refine ⟨wd_lst (fun l _ => hl l) h.2, ?_⟩)
theorem wasTree {m : Nat} {t : List Node} (hl : t.length ≤ 2^20) (hc : ∀ x ∈ t, x.cols.length ≤ 2^20 ∧ x.rows.length ≤ 2^20) : WAs m [.agg [.hd m (.lst (t.map encNode))], .d (.int .i64 1)] [.agg [.d (.wx nodeW (2^20))], .d (.int .i64 1)] :=
  ⟨WA.one (wd_lst (fun a ha => wrNode (hc a ha)) hl), WA.flat rfl, trivial⟩
end Go.Proofs.Ytpfhnhhkfobjnaa

namespace Go.Proofs.Ytpfhnhhkfobjnaa
open Go.Fw
attribute [local irreducible] Go.Fw.aops Go.Fw.arun

theorem c_laws.eqIntS (xs : List Int) (hl : xs.length < 2^63) : ACon Try.prog 15 [.d (.lst (xs.map encN)), .d (.lst (xs.map encN))] [] (Is (.d (.bool true))) := by
  refine ACon.introW tok (nt := 26) Try.func15 rfl rfl rfl (by kernel_rfl) rfl ?_
  repeat' (first | ((with_reducible apply xsim); (first | ((with_reducible apply xlenM); exact rfl; exact rfl) | ((with_reducible apply xo); exact rfl) | with_reducible apply xend)) | ((with_reducible apply xaw); (first | ((with_reducible apply xstepS); refine AW.step tok rfl ?_) | with_reducible (first | refine AW.seq ?_ | refine AW.block ?_ | refine AW.skip ?_) | ((with_reducible apply xcond); exact rfl))) | with_reducible refine xthen ?_ | (with_reducible intro hc; (try simp only [hcL, reduceCtorEq, List.length_map] at hc); (try (exfalso; omega))) | with_reducible (first | exact trivial | refine And.intro ?_ ?_ | exact rfl))
  refine AW.loop (S := fun k : Nat => ⟨[(0, .d (.lst (xs.map encN))), (1, .d (.lst (xs.map encN))), (5, .d (.int .i64 k))], [], 26, .p 0⟩)
    (Pre := fun k => k ≤ xs.length) (μ := fun k => xs.length - k) 0 (Nat.zero_le _) ?_ ?_
  · (refine xwk (π := []) (by decide) rfl ?_ ?_; (first | exact trivial); repeat' (first | exact renE_n | ((with_reducible apply renE_c); exact rfl; focus (first | (simp -implicitDefEqProofs only [go_sem]; done)))))
  · intro k hk
    by_cases hlt : k < xs.length
    · have hrow := at_map (f := encN) hlt
      repeat' (first | ((with_reducible apply xsim); (first | ((with_reducible apply xlenM); exact rfl; exact rfl) | ((with_reducible apply xo); exact rfl) | with_reducible apply xend | ((with_reducible apply xidxL); exact rfl; exact rfl; exact rfl; (first | exact hrow); omega; first | exact rfl | simp only [hsz]))) | ((with_reducible apply xaw); (first | ((with_reducible apply xstepS); refine AW.step tok rfl ?_) | ((with_reducible apply xstep); refine AW.region tok rfl ?_) | with_reducible (first | refine AW.seq ?_ | refine AW.block ?_ | refine AW.skip ?_) | ((with_reducible apply xcond); exact rfl) | ((with_reducible apply xdraw (id := 6)); refine AW.draw (id := 6) (.q 0 (.q 1 (.q 2 (.q 3 (.q 4 (.q 5 (.q 6 (.q 7 (.q 8 (.fin)))))))))) tok (by kernel_rfl) rfl (by kernel_rfl) ?_))) | ((with_reducible apply xarun); (first | ((with_reducible apply xrun_q); exact rfl; exact rfl; exact rfl) | with_reducible apply xrun_f)) | with_reducible (first | refine xthen ?_ | refine xblock ?_) | (with_reducible intro hc; (try simp only [hcL, reduceCtorEq, List.length_map] at hc); (try (exfalso; omega))) | with_reducible (first | exact trivial | refine And.intro ?_ ?_ | exact rfl) | (refine inR_i64.mpr ?_; first | omega | (simp only [List.length_map, List.length_map]; omega)))
      all_goals refine round_end (k+1) hlt (by omega) (by (refine xwk (π := []) (by decide) rfl ?_ ?_; (first | exact trivial); repeat' (first | exact renE_n | ((with_reducible apply renE_c); exact rfl; focus (first | (simp -implicitDefEqProofs only [go_sem]; done))))))
    · repeat' (first | ((with_reducible apply xsim); (first | ((with_reducible apply xlenM); exact rfl; exact rfl) | ((with_reducible apply xo); exact rfl) | with_reducible apply xend)) | ((with_reducible apply xaw); (first | ((with_reducible apply xstepS); refine AW.step tok rfl ?_) | with_reducible (first | refine AW.seq ?_ | refine AW.ret ?_ | refine AW.exit ?_) | ((with_reducible apply xcond); exact rfl))) | with_reducible (first | refine xthen ?_ | refine xthen_e ?_ | refine xblock_e ?_ | refine xround_e ?_) | (with_reducible intro hc; (try simp only [hcL, reduceCtorEq, List.length_map] at hc); (try (exfalso; omega))) | with_reducible (first | exact trivial | refine And.intro ?_ ?_ | exact rfl))
      (refine xfinIs (by first | exact .inl rfl | exact .inr rfl) rfl (by repeat' (first | exact trivial | exact rfl | refine And.intro ?_ ?_)) rfl ?_ rfl; first | with_reducible exact rfl)
def marksN (v : Int) (n : Nat) : List Int := (List.range n).map fun (i : Nat) => v + i
theorem marksN_len {v : Int} {n : Nat} : (marksN v n).length = n := by simp [marksN]
theorem marksN_at {v : Int} {n k : Nat} (h : k < (marksN v n).length) : (marksN v n)[k] = v + k := by simp [marksN]
theorem c_markIntS (xs : List Int) (v : Int) (hv : 0 ≤ v ∧ v ≤ 2^40) (hl : xs.length < 2^40) : ACon Try.prog 17 [.msl 0 1 0 xs.length, .d (.int .i64 v)] [.arr 1 (xs.map encN)]
    (Own (.d (.int .i64 (v + xs.length))) [.arr 1 ((marksN v xs.length).map encN)]) := by
  have hml := marksN_len (v := v) (n := xs.length)
  refine ACon.introW tok (nt := 19) Try.func17 rfl rfl rfl (by kernel_rfl) rfl ?_
  repeat' (first | ((with_reducible apply xsim); (first | ((with_reducible apply xo); exact rfl) | with_reducible apply xend)) | ((with_reducible apply xaw); (first | ((with_reducible apply xstepS); refine AW.step tok rfl ?_) | with_reducible (first | refine AW.seq ?_ | refine AW.block ?_))) | with_reducible exact trivial)
  refine AW.loop (S := fun k : Nat => ⟨[(0, .msl 0 1 0 xs.length), (1, .d (.int .i64 (v + k))), (5, .d (.int .i64 k))], [.arr 1 ((mix (marksN v xs.length) xs k).map encN)], 19, .p 1⟩)
    (Pre := fun k => k ≤ xs.length) (μ := fun k => xs.length - k) 0 (Nat.zero_le _) ?_ ?_
  · (refine xwk (π := [0]) (by decide) rfl ?_ ?_; (first | simp -implicitDefEqProofs only [go_sem, mix_zero, Int.natCast_zero, Int.add_zero]); repeat' (first | exact renE_n | ((with_reducible apply renE_c); exact rfl; focus (first | (simp -implicitDefEqProofs only [go_sem, mix_zero, Int.natCast_zero, Int.add_zero]; done)))))
  · intro k hk
    by_cases hlt : k < xs.length
    · have hmx := mixmap_at (f := encN) (ys := marksN v xs.length) (zs := xs) (k := k) hml hlt
      have hset := mixmap_set (f := encN) (ys := marksN v xs.length) (zs := xs) (k := k) hml (by omega)
      rw [marksN_at] at hset
      simp only [encN] at hset
      repeat' (first | ((with_reducible apply xsim); (first | ((with_reducible apply xo); exact rfl) | with_reducible apply xend | ((with_reducible apply xidxM); exact rfl; exact rfl; exact rfl; omega; omega; exact rfl) | ((with_reducible apply xstA); exact rfl; exact rfl; exact rfl; exact rfl; (first | exact hmx); exact rfl; exact rfl; exact rfl; exact rfl; (try simp only [List.set_cons_zero, List.set_cons_succ])))) | ((with_reducible apply xaw); (first | ((with_reducible apply xstepS); refine AW.step tok rfl ?_) | ((with_reducible apply xstep); refine AW.region tok rfl ?_) | with_reducible (first | refine AW.seq ?_ | refine AW.block ?_ | refine AW.skip ?_) | ((with_reducible apply xcond); exact rfl))) | with_reducible (first | refine xthen ?_ | refine xblock ?_) | (with_reducible intro hc; (try simp only [hcL, reduceCtorEq] at hc); (try (exfalso; omega))) | with_reducible (first | exact trivial | refine And.intro ?_ ?_ | exact rfl) | exact Eq.refl true | (refine inR_i64.mpr ?_; first | omega | (simp only [List.length_map]; omega)))
      refine round_end (k+1) hlt (by omega) (by (refine xwk (π := [0]) (by decide) rfl ?_ ?_; (first | simp -implicitDefEqProofs only [go_sem, hset, Int.add_assoc]); repeat' (first | exact renE_n | ((with_reducible apply renE_c); exact rfl; focus (first | (simp -implicitDefEqProofs only [go_sem, hset, Int.add_assoc]; done))))))
    · have hk' : k = xs.length := by omega
      subst hk'
      have hall := mix_all (ys := marksN v xs.length) (zs := xs) hml
      rw [hml] at hall
      repeat' (first | ((with_reducible apply xsim); (first | ((with_reducible apply xo); exact rfl) | with_reducible apply xend)) | ((with_reducible apply xaw); (first | ((with_reducible apply xstepS); refine AW.step tok rfl ?_) | with_reducible (first | refine AW.seq ?_ | refine AW.ret ?_ | refine AW.exit ?_) | ((with_reducible apply xcond); exact rfl))) | with_reducible (first | refine xthen ?_ | refine xthen_e ?_ | refine xblock_e ?_ | refine xround_e ?_) | (with_reducible intro hc; (try simp only [hcL, reduceCtorEq] at hc); (try (exfalso; omega))) | with_reducible (first | exact trivial | refine And.intro ?_ ?_ | exact rfl) | exact Eq.refl true)
      (refine xfinOwn [0] (by first | exact .inl rfl | exact .inr rfl) rfl (by repeat' (first | exact trivial | exact rfl | refine And.intro ?_ ?_)) (by decide) rfl ?_ ?_ <;> simp -implicitDefEqProofs only [go_sem, hall])
theorem c_heldIntS (v : Int) (n : Nat) (hv : 0 ≤ v ∧ v ≤ 2^40) (hl : n < 2^40) : ACon Try.prog 18 [.d (.lst ((marksN v n).map encN)), .d (.int .i64 v)] [] (Is (.d (.int .i64 (v + n)))) := by
  have hml := marksN_len (v := v) (n := n)
  refine ACon.introW tok (nt := 21) Try.func18 rfl rfl rfl (by kernel_rfl) rfl ?_
  repeat' (first | ((with_reducible apply xsim); (first | ((with_reducible apply xo); exact rfl) | with_reducible apply xend)) | ((with_reducible apply xaw); (first | ((with_reducible apply xstepS); refine AW.step tok rfl ?_) | with_reducible (first | refine AW.seq ?_ | refine AW.block ?_))) | with_reducible exact trivial)
  refine AW.loop (S := fun k : Nat => ⟨[(0, .d (.lst ((marksN v n).map encN))), (1, .d (.int .i64 (v + k))), (5, .d (.int .i64 k))], [], 21, .p 0⟩)
    (Pre := fun k => k ≤ n) (μ := fun k => n - k) 0 (Nat.zero_le _) ?_ ?_
  · (refine xwk (π := []) (by decide) rfl ?_ ?_; (first | exact trivial); repeat' (first | exact renE_n | ((with_reducible apply renE_c); exact rfl; focus (first | (simp -implicitDefEqProofs only [go_sem, Int.natCast_zero, Int.add_zero]; done)))))
  · intro k hk
    by_cases hlt : k < n
    · have hrow := at_map (f := encN) (xs := marksN v n) (k := k) (by omega)
      rw [marksN_at] at hrow
      repeat' (first | ((with_reducible apply xsim); (first | ((with_reducible apply xlenM); exact rfl; exact rfl) | ((with_reducible apply xo); exact rfl) | with_reducible apply xend | ((with_reducible apply xidxL); exact rfl; exact rfl; exact rfl; (first | exact hrow); omega; first | exact rfl | simp only [hsz]))) | ((with_reducible apply xaw); (first | ((with_reducible apply xstepS); refine AW.step tok rfl ?_) | ((with_reducible apply xstep); refine AW.region tok rfl ?_) | with_reducible (first | refine AW.seq ?_ | refine AW.block ?_ | refine AW.skip ?_) | ((with_reducible apply xcond); exact rfl))) | with_reducible (first | refine xthen ?_ | refine xblock ?_) | (with_reducible intro hc; (try simp only [hcL, reduceCtorEq] at hc); (try (exfalso; omega))) | with_reducible (first | exact trivial | refine And.intro ?_ ?_ | exact rfl) | (refine inR_i64.mpr ?_; first | omega | (simp only [List.length_map]; omega)))
      refine round_end (k+1) hlt (by omega) (by (refine xwk (π := []) (by decide) rfl ?_ ?_; (first | exact trivial); repeat' (first | exact renE_n | ((with_reducible apply renE_c); exact rfl; focus (first | (simp -implicitDefEqProofs only [go_sem]; done) | (simp -implicitDefEqProofs only [go_sem]; omega))))))
    · have hk' : k = n := by omega
      subst hk'
      repeat' (first | ((with_reducible apply xsim); (first | ((with_reducible apply xlenM); exact rfl; exact rfl) | ((with_reducible apply xo); exact rfl) | with_reducible apply xend)) | ((with_reducible apply xaw); (first | ((with_reducible apply xstepS); refine AW.step tok rfl ?_) | with_reducible (first | refine AW.seq ?_ | refine AW.ret ?_ | refine AW.exit ?_) | ((with_reducible apply xcond); exact rfl))) | with_reducible (first | refine xthen ?_ | refine xthen_e ?_ | refine xblock_e ?_ | refine xround_e ?_) | (with_reducible intro hc; (try simp only [hcL, reduceCtorEq] at hc); (try (exfalso; omega))) | with_reducible (first | exact trivial | refine And.intro ?_ ?_ | exact rfl))
      (refine xfinIs (by first | exact .inl rfl | exact .inr rfl) rfl (by repeat' (first | exact trivial | exact rfl | refine And.intro ?_ ?_)) rfl ?_ rfl; first | with_reducible exact rfl)

theorem ORows.ints {P : Program} {f : Nat} {args : List V} {ks : List Nat} (h : ACon P f args [] (ORows encK 1 ks)) :
    ACon P f args [] (Own (.msl 0 1 0 (ks.map fun (k : Nat) => (k : Int)).length) [.arr 1 ((ks.map fun (k : Nat) => (k : Int)).map encN)]) := by
  rw [List.length_map, List.map_map]; exact h
end Go.Proofs.Ytpfhnhhkfobjnaa

namespace Go.Fw
theorem xnoblock {P : Program} {i : Nat} {c d : Code} {Q : Exit → St → Prop} {s : St} (h : AW P (.seq (.block i c) d) Q s) : AW P (.seq (.block i c) d) Q s := h
theorem xnoblockT {P : Program} {i : Nat} {c : Code} {Q : Exit → St → Prop} {s : St} (h : AW P (.block i c) Q s) : AW P (.block i c) Q s := h
end Go.Fw

namespace Go.Proofs.Ytpfhnhhkfobjnaa
open Go.Fw

/-- A number that is drawn below n. -/
def Below (n : Int) (r : V) : Prop := ∃ v, r = .d (.int .i64 v) ∧ 0 ≤ v ∧ (1 ≤ n → v < n) ∧ (n < 1 → v = 0)

end Go.Proofs.Ytpfhnhhkfobjnaa

namespace Go.Proofs.Ytpfhnhhkfobjnaa
open Go.Fw

/-- Two rectangles have no points in common. -/
def Apart (a b : Rect) : Prop := min (a.x + a.w) (b.x + b.w) - max a.x b.x ≤ 0 ∨ min (a.y + a.h) (b.y + b.h) - max a.y b.y ≤ 0
end Go.Proofs.Ytpfhnhhkfobjnaa

namespace Go.Proofs.Ytpfhnhhkfobjnaa
open Go.Fw
def Ins (a b : Rect) : Prop := a.x ≤ b.x ∧ a.y ≤ b.y ∧ b.x + b.w ≤ a.x + a.w ∧ b.y + b.h ≤ a.y + a.h
theorem Apart.mono {a b c : Rect} (h : Apart a b) (hi : Ins b c) : Apart a c := by unfold Apart Ins at *; omega
theorem Apart.symm {a b : Rect} (h : Apart a b) : Apart b a := by unfold Apart at *; omega
end Go.Proofs.Ytpfhnhhkfobjnaa

namespace Go.Proofs.Ytpfhnhhkfobjnaa
open Go.Fw
attribute [local irreducible] Go.Fw.aops Go.Fw.arun

/-! Nodes that are smaller than they ask for. -/
theorem filter_len (p : Nat → Bool) (k : Nat) : ((List.range k).filter p).length ≤ k := by
  have := List.length_filter_le p (List.range k)
  simpa using this

/-- What all nodes ask for, one after the other. -/
def wants (t : List Node) : Nat → List Int
  | 0 => []
  | k + 1 => wants t k ++ [(wish t k).1, (wish t k).2]
theorem wants_len (t : List Node) : ∀ k, (wants t k).length = 2 * k
  | 0 => rfl
  | k + 1 => by simp only [wants, List.length_append, wants_len t k, List.length_cons, List.length_nil]; omega
theorem wants_get (t : List Node) {i : Nat} : ∀ k, i < k → (wants t k)[2 * i]? = some (wish t i).1 ∧ (wants t k)[2 * i + 1]? = some (wish t i).2 := by
  intro k
  induction k with
  | zero => intro h; omega
  | succ k ih =>
    intro h
    have hl := wants_len t k
    simp only [wants]
    by_cases e : i = k
    · subst e
      rw [List.getElem?_append_right (by omega), List.getElem?_append_right (by omega), hl]
      simp
    · rw [List.getElem?_append_left (by omega), List.getElem?_append_left (by omega)]
      exact ih (by omega)

theorem c_wantsOf (t : List Node) (hk : TreeK t) : ACon Try.prog 42 [vTree t] [] (Is (.d (.lst ((wants t t.length).map encN)))) := by
  refine ORows.data (sz := 1) (enc := encN) ?_
  have hhi := hk.hi
  refine ACon.introW tok (nt := 27) Try.func42 rfl rfl rfl (by kernel_rfl) rfl ?_
  repeat' (first | ((with_reducible apply xsim); (first | ((with_reducible apply xlenM); exact rfl; exact rfl) | ((with_reducible apply xo); exact rfl) | with_reducible apply xend | ((with_reducible apply xbox); exact rfl; simp only [bkL, Nat.reduceAdd, Nat.reduceSub]) | ((with_reducible apply xbuild); exact rfl; exact rfl; exact rfl; exact rfl; exact rfl; simp only [bkL, Nat.reduceAdd, Nat.reduceSub]) | simp -implicitDefEqProofs only [go_sem, List.length_map])) | ((with_reducible apply xaw); (first | ((with_reducible apply xstepS); refine AW.step tok rfl ?_) | ((with_reducible apply xstep); refine AW.region tok rfl ?_) | with_reducible (first | refine AW.seq ?_ | refine AW.block ?_ | refine AW.skip ?_ | refine AW.ret ?_ | refine AW.exit ?_) | ((with_reducible apply xcond); exact rfl))) | with_reducible (first | refine xthen ?_ | refine xthen_r ?_ | refine xthen_e ?_ | refine xblock ?_ | refine xblock_r ?_ | refine xblock_e ?_ | refine xblock_n rfl ?_ | refine xround_r ?_ | refine xround_e ?_) | (with_reducible intro hc; (try simp only [hcL, reduceCtorEq, List.length_map] at hc); (try (exfalso; omega))) | with_reducible (first | exact trivial | refine And.intro ?_ ?_ | exact rfl | exact Nat.le_refl _) | exact Eq.refl true | exact (rfl : (_ : List Nat) = _) | exact Nat.le_of_ble_eq_true rfl | (refine inR_i64.mpr ?_; first | omega | (simp only [List.length_map, List.length_map]; omega)) | omega)
  refine AW.loop (S := fun k : Nat => ⟨[(1, .oref 0 0), (3, .msl 1 1 0 (2 * k)), (4, .d (.int .i64 k))], [.box [.d (.lst (t.map encNode))], .arr 1 ((wants t k).map encN)], 27, .p 0⟩)
    (Pre := fun k => k ≤ t.length) (μ := fun k => t.length - k) 0 (Nat.zero_le _) ?_ ?_
  · (refine xwk (π := [0, 1]) (by decide) rfl ?_ ?_; (first | exact trivial | simp -implicitDefEqProofs only [go_sem, wants]); repeat' (first | exact renE_n | ((with_reducible apply renE_c); exact rfl; focus (first | with_reducible exact rfl | (simp -implicitDefEqProofs only [go_sem, wants]; done) | (simp -implicitDefEqProofs only [go_sem, wants]; omega)))))
  intro k hkk
  have hl := wants_len t k
  by_cases hlt : k < t.length
  · have c1 := c_sizeOf t hk k hlt
    have hs : wants t (k + 1) = wants t k ++ [(wish t k).1, (wish t k).2] := rfl
    repeat' (first | ((with_reducible apply xsim); (first | ((with_reducible apply xlenM); exact rfl; exact rfl) | ((with_reducible apply xo); exact rfl) | with_reducible apply xend | ((with_reducible apply xbox); exact rfl; simp only [bkL, Nat.reduceAdd, Nat.reduceSub]) | ((with_reducible apply xbuild); exact rfl; exact rfl; exact rfl; exact rfl; exact rfl; simp only [bkL, Nat.reduceAdd, Nat.reduceSub]) | ((with_reducible apply xcallIs); exact rfl; exact rfl; exact c1; exact rfl) | simp -implicitDefEqProofs only [go_sem, List.length_map, hl])) | ((with_reducible apply xaw); (first | ((with_reducible apply xstepS); refine AW.step tok rfl ?_) | ((with_reducible apply xstep); refine AW.region tok rfl ?_) | with_reducible (first | refine AW.seq ?_ | refine AW.block ?_ | refine AW.skip ?_ | refine AW.ret ?_ | refine AW.exit ?_) | ((with_reducible apply xcond); exact rfl))) | with_reducible (first | refine xthen ?_ | refine xthen_r ?_ | refine xthen_e ?_ | refine xblock ?_ | refine xblock_r ?_ | refine xblock_e ?_ | refine xblock_n rfl ?_ | refine xround_r ?_ | refine xround_e ?_) | (with_reducible intro hc; (try simp only [hcL, reduceCtorEq, List.length_map, hl] at hc); (try (exfalso; omega))) | with_reducible (first | exact trivial | refine And.intro ?_ ?_ | exact rfl | exact Nat.le_refl _) | exact Eq.refl true | exact (rfl : (_ : List Nat) = _) | exact Nat.le_of_ble_eq_true rfl | (refine inR_i64.mpr ?_; first | omega | (simp only [List.length_map, List.length_map, hl]; omega)) | omega | ((rcases hc with rfl | rfl <;> rfl)))
    refine round_end (k+1) hlt (by omega) (by (refine xwk (π := [0, 3]) (by decide) rfl ?_ ?_; (first | exact trivial | simp -implicitDefEqProofs only [go_sem, hs, List.map_append, Nat.mul_add]); repeat' (first | exact renE_n | ((with_reducible apply renE_c); exact rfl; focus (first | with_reducible exact rfl | (simp -implicitDefEqProofs only [go_sem, hs, List.map_append, Nat.mul_add]; done) | (simp -implicitDefEqProofs only [go_sem, hs, List.map_append, Nat.mul_add]; omega))))))
  have hk' : k = t.length := by omega
  subst hk'
  repeat' (first | ((with_reducible apply xsim); (first | ((with_reducible apply xlenM); exact rfl; exact rfl) | ((with_reducible apply xo); exact rfl) | with_reducible apply xend | ((with_reducible apply xbox); exact rfl; simp only [bkL, Nat.reduceAdd, Nat.reduceSub]) | ((with_reducible apply xbuild); exact rfl; exact rfl; exact rfl; exact rfl; exact rfl; simp only [bkL, Nat.reduceAdd, Nat.reduceSub]) | simp -implicitDefEqProofs only [go_sem, List.length_map])) | ((with_reducible apply xaw); (first | ((with_reducible apply xstepS); refine AW.step tok rfl ?_) | ((with_reducible apply xstep); refine AW.region tok rfl ?_) | with_reducible (first | refine AW.seq ?_ | refine AW.block ?_ | refine AW.skip ?_ | refine AW.ret ?_ | refine AW.exit ?_) | ((with_reducible apply xcond); exact rfl))) | with_reducible (first | refine xthen ?_ | refine xthen_r ?_ | refine xthen_e ?_ | refine xblock ?_ | refine xblock_r ?_ | refine xblock_e ?_ | refine xblock_n rfl ?_ | refine xround_r ?_ | refine xround_e ?_) | (with_reducible intro hc; (try simp only [hcL, reduceCtorEq, List.length_map] at hc); (try (exfalso; omega))) | with_reducible (first | exact trivial | refine And.intro ?_ ?_ | exact rfl | exact Nat.le_refl _) | exact Eq.refl true | exact (rfl : (_ : List Nat) = _) | exact Nat.le_of_ble_eq_true rfl | (refine inR_i64.mpr ?_; first | omega | (simp only [List.length_map, List.length_map]; omega)) | omega)
  (refine xfinOwn [1] (by first | exact .inl rfl | exact .inr rfl) rfl (by repeat' (first | exact trivial | exact rfl | refine And.intro ?_ ?_)) (by decide) rfl ?_ ?_ <;> simp -implicitDefEqProofs only [go_sem, hl])

end Go.Proofs.Ytpfhnhhkfobjnaa

namespace Go.Fw
/-- An empty slice of data is one value or another. -/
theorem AW.rawNil {P : Program} {c : Code} {Q : Exit → St → Prop} {s : St} (t : Nat) (ht : getB s.env t = .d (.lst [])) (h : ∀ a cap, AW P c Q ⟨(t, .d (.raw (.slice a 0 cap))) :: s.env, s.objs, s.n, s.fx⟩) : AW P c Q s := by
  refine ⟨fun x a w hC => ?_⟩
  obtain ⟨ok, ρ, hI, hF, hE, hn, hd, hx⟩ := hC
  have hv := hE t
  rw [← getB_eq, ht] at hv
  have : ∃ ad cap, a.tmps.getD t undef = .slice ad 0 cap := by
    generalize a.tmps.getD t undef = v at hv ⊢
    cases hv with
    | d hv =>
      cases hv with
      | nil => exact ⟨_, _, rfl⟩
      | lst => exact ⟨_, _, rfl⟩
  obtain ⟨ad, cap, hval⟩ := this
  refine (h ad cap).run x a w ⟨ok, ρ, hI, hF, fun j => ?_, hn, hd, hx⟩
  simp only [getE]
  split
  · rename_i e
    subst e
    rw [hval]
    exact .d (.raw rfl)
  · exact hE j
end Go.Fw

namespace Go.Proofs.Ytpfhnhhkfobjnaa
open Go.Fw
attribute [local irreducible] Go.Fw.aops Go.Fw.arun

theorem c_clone (xs : List Line) (hl : xs.length < 2^40) : ACon Try.prog 63 [.d (.lst (xs.map encLine))] [] (ORows encLine 2 xs) := by
  by_cases hne : xs = []
  · subst hne
    refine ACon.introW tok (nt := 8) Try.func63 rfl rfl rfl (by kernel_rfl) rfl ?_
    refine AW.rawNil 0 rfl ?_
    intro a cap
    cases a with
    | none =>
      repeat' (first | ((with_reducible apply xsim); (first | ((with_reducible apply xo); exact rfl) | with_reducible apply xend | ((with_reducible apply xbuild); exact rfl; exact rfl; exact rfl; exact rfl; exact rfl; simp only [bkL, Nat.reduceAdd, Nat.reduceSub]) | simp -implicitDefEqProofs only [go_sem, Option.isNone_none])) | ((with_reducible apply xaw); (first | ((with_reducible apply xstepS); refine AW.step tok rfl ?_) | ((with_reducible apply xstep); refine AW.region tok rfl ?_) | with_reducible (first | refine AW.seq ?_ | refine AW.block ?_ | refine AW.skip ?_ | refine AW.ret ?_ | refine AW.exit ?_) | ((with_reducible apply xcond); exact rfl))) | with_reducible (first | refine xthen ?_ | refine xthen_r ?_ | refine xthen_e ?_ | refine xblock ?_ | refine xblock_r ?_ | refine xblock_e ?_ | refine xblock_n rfl ?_ | refine xround_r ?_ | refine xround_e ?_) | (with_reducible intro hc; (try simp only [hcL, reduceCtorEq, Option.isNone_none] at hc); (try (exfalso; omega))) | with_reducible (first | exact trivial | refine And.intro ?_ ?_ | exact rfl | exact Nat.le_refl _) | exact Eq.refl true | exact (rfl : (_ : List Nat) = _) | exact Nat.le_of_ble_eq_true rfl | (refine inR_i64.mpr ?_; first | omega | (simp only [List.length_map, Option.isNone_none]; omega)) | omega)
      all_goals
        refine xfinW (Weak.own 2 2 rfl) ?_
        (refine xfinOwn [0] (by first | exact .inl rfl | exact .inr rfl) rfl (by repeat' (first | exact trivial | exact rfl | refine And.intro ?_ ?_)) (by decide) rfl ?_ ?_ <;> simp -implicitDefEqProofs only [go_sem])
    | some a =>
      repeat' (first | ((with_reducible apply xsim); (first | ((with_reducible apply xo); exact rfl) | with_reducible apply xend | ((with_reducible apply xbuild); exact rfl; exact rfl; exact rfl; exact rfl; exact rfl; simp only [bkL, Nat.reduceAdd, Nat.reduceSub]) | simp -implicitDefEqProofs only [go_sem, Option.isNone_some, Bool.false_eq_true])) | ((with_reducible apply xaw); (first | ((with_reducible apply xstepS); refine AW.step tok rfl ?_) | ((with_reducible apply xstep); refine AW.region tok rfl ?_) | with_reducible (first | refine AW.seq ?_ | refine AW.block ?_ | refine AW.skip ?_ | refine AW.ret ?_ | refine AW.exit ?_) | ((with_reducible apply xcond); exact rfl))) | with_reducible (first | refine xthen ?_ | refine xthen_r ?_ | refine xthen_e ?_ | refine xblock ?_ | refine xblock_r ?_ | refine xblock_e ?_ | refine xblock_n rfl ?_ | refine xround_r ?_ | refine xround_e ?_) | (with_reducible intro hc; (try simp only [hcL, reduceCtorEq, Option.isNone_some, Bool.false_eq_true] at hc); (try (exfalso; omega))) | with_reducible (first | exact trivial | refine And.intro ?_ ?_ | exact rfl | exact Nat.le_refl _) | exact Eq.refl true | exact (rfl : (_ : List Nat) = _) | exact Nat.le_of_ble_eq_true rfl | (refine inR_i64.mpr ?_; first | omega | (simp only [List.length_map, Option.isNone_some, Bool.false_eq_true]; omega)) | omega)
      all_goals (refine xfinOwn [1] (by first | exact .inl rfl | exact .inr rfl) rfl (by repeat' (first | exact trivial | exact rfl | refine And.intro ?_ ?_)) (by decide) rfl ?_ ?_ <;> simp -implicitDefEqProofs only [go_sem])
  · have hne' : xs.map encLine ≠ [] := fun he => hne (List.map_eq_nil_iff.1 he)
    refine ACon.introW tok (nt := 8) Try.func63 rfl rfl rfl (by kernel_rfl) rfl ?_
    repeat' (first | ((with_reducible apply xsim); (first | ((with_reducible apply xo); exact rfl) | with_reducible apply xend | ((with_reducible apply xbuild); exact rfl; exact rfl; exact rfl; exact rfl; exact rfl; simp only [bkL, Nat.reduceAdd, Nat.reduceSub]) | simp -implicitDefEqProofs only [go_sem, List.length_map])) | ((with_reducible apply xaw); (first | ((with_reducible apply xstepS); refine AW.step tok rfl ?_) | ((with_reducible apply xstep); refine AW.region tok rfl ?_) | with_reducible (first | refine AW.seq ?_ | refine AW.block ?_ | refine AW.skip ?_ | refine AW.ret ?_ | refine AW.exit ?_) | ((with_reducible apply xcond); exact rfl))) | with_reducible (first | refine xthen ?_ | refine xthen_r ?_ | refine xthen_e ?_ | refine xblock ?_ | refine xblock_r ?_ | refine xblock_e ?_ | refine xblock_n rfl ?_ | refine xround_r ?_ | refine xround_e ?_) | (with_reducible intro hc; (try simp only [hcL, reduceCtorEq, List.length_map] at hc); (try (exfalso; omega))) | with_reducible (first | exact trivial | refine And.intro ?_ ?_ | exact rfl | exact Nat.le_refl _) | exact Eq.refl true | exact (rfl : (_ : List Nat) = _) | exact Nat.le_of_ble_eq_true rfl | (refine inR_i64.mpr ?_; first | omega | (simp only [List.length_map, List.length_map]; omega)) | omega | ((exact hne')))
    all_goals (refine xfinOwn [1] (by first | exact .inl rfl | exact .inr rfl) rfl (by repeat' (first | exact trivial | exact rfl | refine And.intro ?_ ?_)) (by decide) rfl ?_ ?_ <;> simp -implicitDefEqProofs only [go_sem])

theorem asked_rows {t : List Node} {i : Nat} {w h : Int} (hi : i < t.length) : (t.map encNode).set i (encNode (setWH t[i] w h)) = (asked t i w h).map encNode := by
  unfold asked
  rw [nodeAt_eq hi, List.map_set]

set_option maxRecDepth 8000 in
set_option maxHeartbeats 8000000 in
theorem c_asked (t : List Node) (hk : TreeK t) (hL : TreeL t) (i : Nat) (hi : i < t.length) (w h : Int) : ACon Try.prog 40 [vTree t, .d (.int .i64 (i : Int)), .d (.int .i64 w), .d (.int .i64 h)] [] (Is (vTree (asked t i w h))) := by
  have hhi := hk.hi
  have hset := asked_rows (w := w) (h := h) hi
  simp only [encNode, setWH] at hset
  refine ACon.introW tok (nt := 48) Try.func40 rfl rfl rfl (by kernel_rfl) rfl ?_
  repeat' (first | ((with_reducible apply xsim); (first | ((with_reducible apply xlenM); exact rfl; exact rfl) | ((with_reducible apply xo); exact rfl) | ((with_reducible apply xst); exact rfl) | with_reducible apply xend | ((with_reducible apply xalloc); exact rfl; simp only [bkL, Nat.reduceAdd, Nat.reduceSub]) | ((with_reducible apply xbox); exact rfl; simp only [bkL, Nat.reduceAdd, Nat.reduceSub]) | ((with_reducible apply xbuild); exact rfl; exact rfl; exact rfl; exact rfl; exact rfl; simp only [bkL, Nat.reduceAdd, Nat.reduceSub]) | ((with_reducible apply xidxL); exact rfl; exact rfl; exact rfl; exact rfl; omega; first | exact rfl | simp only [hsz]) | ((with_reducible apply xidxM); exact rfl; exact rfl; exact rfl; omega; omega; exact rfl) | ((with_reducible apply xldA); exact rfl; exact rfl; exact rfl; exact rfl; exact rfl) | ((with_reducible apply xstA); exact rfl; exact rfl; exact rfl; exact rfl; exact rfl; exact rfl; exact rfl; exact rfl; exact rfl; (try simp only [List.set_cons_zero, List.set_cons_succ, List.length_map])) | simp -implicitDefEqProofs only [go_sem, List.length_map])) | ((with_reducible apply xaw); (first | ((with_reducible apply xstepS); refine AW.step tok rfl ?_) | ((with_reducible apply xstep); refine AW.region tok rfl ?_) | with_reducible (first | refine AW.seq ?_ | refine AW.block ?_ | refine AW.skip ?_ | refine AW.ret ?_ | refine AW.exit ?_) | ((with_reducible apply xcond); exact rfl) | ((with_reducible apply xdrawS (id := 5)); refine AW.drawS (id := 5) (.q 0 (.q 1 (.q 2 (.q 3 (.q 4 (.q 5 (.q 6 (.e 7 (.q 8 (.e 9 (.fin))))))))))) tok (by kernel_rfl) rfl (by kernel_rfl) ?_) | ((with_reducible apply xdraw (id := 5)); refine AW.draw (id := 5) (.q 0 (.q 1 (.q 2 (.q 3 (.q 4 (.q 5 (.q 6 (.e 7 (.q 8 (.e 9 (.fin))))))))))) tok (by kernel_rfl) rfl (by kernel_rfl) ?_) | ((with_reducible apply xdrawS (id := 8)); refine AW.drawS (id := 8) (.q 0 (.q 1 (.q 2 (.q 3 (.q 5 (.q 6 (.q 7 (.q 8 (.q 9 (.two 4 (.e 10 (.q 11 (.q 12 (.e 13 (.fin))))) 10 (.e 4 (.q 11 (.q 12 (.e 13 (.fin))))))))))))))) tok (by kernel_rfl) rfl (by kernel_rfl) ?_) | ((with_reducible apply xdraw (id := 8)); refine AW.draw (id := 8) (.q 0 (.q 1 (.q 2 (.q 3 (.q 5 (.q 6 (.q 7 (.q 8 (.q 9 (.two 4 (.e 10 (.q 11 (.q 12 (.e 13 (.fin))))) 10 (.e 4 (.q 11 (.q 12 (.e 13 (.fin))))))))))))))) tok (by kernel_rfl) rfl (by kernel_rfl) ?_))) | ((with_reducible apply xarun); (first | ((with_reducible apply xrun_q); exact rfl; exact rfl; exact rfl) | ((with_reducible apply xrun_e); exact rfl) | with_reducible apply xrun_f | ((with_reducible apply xrun_2); exact rfl; exact rfl))) | with_reducible (first | refine xthen ?_ | refine xthen_r ?_ | refine xthen_e ?_ | refine xblock ?_ | refine xblock_r ?_ | refine xblock_e ?_ | refine xblock_n rfl ?_ | refine xround_r ?_ | refine xround_e ?_) | (with_reducible intro hc; (try simp only [hcL, reduceCtorEq, List.length_map] at hc); (try (exfalso; omega))) | with_reducible (first | exact trivial | refine And.intro ?_ ?_ | exact rfl | exact Nat.le_refl _) | exact Eq.refl true | exact (rfl : (_ : List Nat) = _) | exact Nat.le_of_ble_eq_true rfl | (refine inR_i64.mpr ?_; first | omega | (simp only [List.length_map, List.length_map]; omega)) | omega)
  refine AW.weak (Weak.ownBoxCell 2 34 0 rfl rfl) ?_
  refine AW.loop (S := fun k : Nat => ⟨[(1, .d (.int .i64 (i : Int))), (2, .d (.int .i64 w)), (3, .d (.int .i64 h)), (8, .oref 0 0), (9, .oref 1 0), (14, .d (.lst (t.map encNode))), (15, .d (.int .i64 t.length)), (16, .d (.int .i64 k))],
      [.box [.nils], .box [.msl 2 34 0 k], .arr 34 ((t.take k).map encNode)], 48, .p 0⟩)
    (Pre := fun k => k ≤ t.length) (μ := fun k => t.length - k) 0 (Nat.zero_le _) ?_ ?_
  · (refine xwk (π := [1, 2, 3]) (by decide) rfl ?_ ?_; (first | exact trivial | simp -implicitDefEqProofs only [go_sem, List.take_zero]); repeat' (first | exact renE_n | ((with_reducible apply renE_c); exact rfl; focus (first | with_reducible exact rfl | (simp -implicitDefEqProofs only [go_sem, List.take_zero]; done) | (simp -implicitDefEqProofs only [go_sem, List.take_zero]; omega)))))
  intro k hkk
  have htl : (t.take k).length = k := by simp; omega
  by_cases hlt : k < t.length
  · have hrow := at_map (f := encNode) hlt
    have hs : t.take (k + 1) = t.take k ++ [t[k]] := List.take_succ_eq_append_getElem hlt
    have c1 := ORows.data (c_clone t[k].cols (hL.2 k hlt).1)
    have c2 := ORows.data (c_clone t[k].rows (hL.2 k hlt).2)
    repeat' (first | ((with_reducible apply xsim); (first | ((with_reducible apply xlenM); exact rfl; exact rfl) | ((with_reducible apply xo); exact rfl) | ((with_reducible apply xst); exact rfl) | with_reducible apply xend | ((with_reducible apply xalloc); exact rfl; simp only [bkL, Nat.reduceAdd, Nat.reduceSub]) | ((with_reducible apply xbox); exact rfl; simp only [bkL, Nat.reduceAdd, Nat.reduceSub]) | ((with_reducible apply xbuild); exact rfl; exact rfl; exact rfl; exact rfl; exact rfl; simp only [bkL, Nat.reduceAdd, Nat.reduceSub]) | ((with_reducible apply xidxL); exact rfl; exact rfl; exact rfl; (first | exact hrow); omega; first | exact rfl | simp only [hsz]) | ((with_reducible apply xidxM); exact rfl; exact rfl; exact rfl; omega; omega; exact rfl) | ((with_reducible apply xldA); exact rfl; exact rfl; exact rfl; (first | exact hrow); exact rfl) | ((with_reducible apply xstA); exact rfl; exact rfl; exact rfl; exact rfl; (first | exact hrow); exact rfl; exact rfl; exact rfl; exact rfl; (try simp only [List.set_cons_zero, List.set_cons_succ, List.length_map, htl])) | ((with_reducible apply xcallIs); exact rfl; exact rfl; (first | exact c1 | exact c2); exact rfl) | simp -implicitDefEqProofs only [go_sem, List.length_map, htl])) | ((with_reducible apply xaw); (first | ((with_reducible apply xstepS); refine AW.step tok rfl ?_) | ((with_reducible apply xstep); refine AW.region tok rfl ?_) | with_reducible (first | refine AW.seq ?_ | refine AW.block ?_ | refine AW.skip ?_ | refine AW.ret ?_ | refine AW.exit ?_) | ((with_reducible apply xcond); exact rfl) | ((with_reducible apply xdrawS (id := 5)); refine AW.drawS (id := 5) (.q 0 (.q 1 (.q 2 (.q 3 (.q 4 (.q 5 (.q 6 (.e 7 (.q 8 (.e 9 (.fin))))))))))) tok (by kernel_rfl) rfl (by kernel_rfl) ?_) | ((with_reducible apply xdraw (id := 5)); refine AW.draw (id := 5) (.q 0 (.q 1 (.q 2 (.q 3 (.q 4 (.q 5 (.q 6 (.e 7 (.q 8 (.e 9 (.fin))))))))))) tok (by kernel_rfl) rfl (by kernel_rfl) ?_) | ((with_reducible apply xdrawS (id := 8)); refine AW.drawS (id := 8) (.q 0 (.q 1 (.q 2 (.q 3 (.q 5 (.q 6 (.q 7 (.q 8 (.q 9 (.two 4 (.e 10 (.q 11 (.q 12 (.e 13 (.fin))))) 10 (.e 4 (.q 11 (.q 12 (.e 13 (.fin))))))))))))))) tok (by kernel_rfl) rfl (by kernel_rfl) ?_) | ((with_reducible apply xdraw (id := 8)); refine AW.draw (id := 8) (.q 0 (.q 1 (.q 2 (.q 3 (.q 5 (.q 6 (.q 7 (.q 8 (.q 9 (.two 4 (.e 10 (.q 11 (.q 12 (.e 13 (.fin))))) 10 (.e 4 (.q 11 (.q 12 (.e 13 (.fin))))))))))))))) tok (by kernel_rfl) rfl (by kernel_rfl) ?_))) | ((with_reducible apply xarun); (first | ((with_reducible apply xrun_q); exact rfl; exact rfl; exact rfl) | ((with_reducible apply xrun_c); exact rfl; exact rfl; exact rfl; exact rfl; exact rfl; exact rfl; (first | exact c1 | exact c2); exact rfl) | ((with_reducible apply xrun_e); exact rfl) | with_reducible apply xrun_f | ((with_reducible apply xrun_2); exact rfl; exact rfl))) | with_reducible (first | refine xthen ?_ | refine xthen_r ?_ | refine xthen_e ?_ | refine xblock ?_ | refine xblock_r ?_ | refine xblock_e ?_ | refine xblock_n rfl ?_ | refine xround_r ?_ | refine xround_e ?_) | (with_reducible intro hc; (try simp only [hcL, reduceCtorEq, List.length_map, htl] at hc); (try (exfalso; omega))) | with_reducible (first | exact trivial | refine And.intro ?_ ?_ | exact rfl | exact Nat.le_refl _) | exact Eq.refl true | exact (rfl : (_ : List Nat) = _) | exact Nat.le_of_ble_eq_true rfl | (refine inR_i64.mpr ?_; first | omega | (simp only [List.length_map, List.length_map, htl]; omega)) | omega)
    refine round_end (k+1) hlt (by omega) (by (refine xwk (π := [0, 1, 5]) (by decide) rfl ?_ ?_; (first | exact trivial | simp -implicitDefEqProofs only [go_sem, hs, List.map_append]); repeat' (first | exact renE_n | ((with_reducible apply renE_c); exact rfl; focus (first | with_reducible exact rfl | (simp -implicitDefEqProofs only [go_sem, hs, List.map_append]; done) | (simp -implicitDefEqProofs only [go_sem, hs, List.map_append]; omega))))))
  have hk' : k = t.length := by omega
  subst hk'
  rw [List.take_length]
  have hrow := at_map (f := encNode) hi
  have hset1 : ∀ r, ((t.map encNode).set i r)[i]? = some r := fun r => List.getElem?_set_self (by simpa using hi)
  repeat' (first | ((with_reducible apply xsim); (first | ((with_reducible apply xlenM); exact rfl; exact rfl) | ((with_reducible apply xo); exact rfl) | ((with_reducible apply xst); exact rfl) | with_reducible apply xend | ((with_reducible apply xalloc); exact rfl; simp only [bkL, Nat.reduceAdd, Nat.reduceSub]) | ((with_reducible apply xbox); exact rfl; simp only [bkL, Nat.reduceAdd, Nat.reduceSub]) | ((with_reducible apply xbuild); exact rfl; exact rfl; exact rfl; exact rfl; exact rfl; simp only [bkL, Nat.reduceAdd, Nat.reduceSub]) | ((with_reducible apply xidxL); exact rfl; exact rfl; exact rfl; (first | exact hrow | exact (hset1 _)); omega; first | exact rfl | simp only [hsz]) | ((with_reducible apply xidxM); exact rfl; exact rfl; exact rfl; omega; omega; exact rfl) | ((with_reducible apply xldA); exact rfl; exact rfl; exact rfl; (first | exact hrow | exact (hset1 _)); exact rfl) | ((with_reducible apply xstA); exact rfl; exact rfl; exact rfl; exact rfl; (first | exact hrow | exact (hset1 _)); exact rfl; exact rfl; exact rfl; exact rfl; (try simp only [List.set_cons_zero, List.set_cons_succ, List.length_map])) | simp -implicitDefEqProofs only [go_sem, List.length_map])) | ((with_reducible apply xaw); (first | ((with_reducible apply xstepS); refine AW.step tok rfl ?_) | ((with_reducible apply xstep); refine AW.region tok rfl ?_) | with_reducible (first | refine AW.seq ?_ | refine AW.block ?_ | refine AW.skip ?_ | refine AW.ret ?_ | refine AW.exit ?_) | ((with_reducible apply xcond); exact rfl) | ((with_reducible apply xdrawS (id := 5)); refine AW.drawS (id := 5) (.q 0 (.q 1 (.q 2 (.q 3 (.q 4 (.q 5 (.q 6 (.e 7 (.q 8 (.e 9 (.fin))))))))))) tok (by kernel_rfl) rfl (by kernel_rfl) ?_) | ((with_reducible apply xdraw (id := 5)); refine AW.draw (id := 5) (.q 0 (.q 1 (.q 2 (.q 3 (.q 4 (.q 5 (.q 6 (.e 7 (.q 8 (.e 9 (.fin))))))))))) tok (by kernel_rfl) rfl (by kernel_rfl) ?_) | ((with_reducible apply xdrawS (id := 8)); refine AW.drawS (id := 8) (.q 0 (.q 1 (.q 2 (.q 3 (.q 5 (.q 6 (.q 7 (.q 8 (.q 9 (.two 4 (.e 10 (.q 11 (.q 12 (.e 13 (.fin))))) 10 (.e 4 (.q 11 (.q 12 (.e 13 (.fin))))))))))))))) tok (by kernel_rfl) rfl (by kernel_rfl) ?_) | ((with_reducible apply xdraw (id := 8)); refine AW.draw (id := 8) (.q 0 (.q 1 (.q 2 (.q 3 (.q 5 (.q 6 (.q 7 (.q 8 (.q 9 (.two 4 (.e 10 (.q 11 (.q 12 (.e 13 (.fin))))) 10 (.e 4 (.q 11 (.q 12 (.e 13 (.fin))))))))))))))) tok (by kernel_rfl) rfl (by kernel_rfl) ?_))) | ((with_reducible apply xarun); (first | ((with_reducible apply xrun_q); exact rfl; exact rfl; exact rfl) | ((with_reducible apply xrun_e); exact rfl) | with_reducible apply xrun_f | ((with_reducible apply xrun_2); exact rfl; exact rfl))) | with_reducible (first | refine xthen ?_ | refine xthen_r ?_ | refine xthen_e ?_ | refine xblock ?_ | refine xblock_r ?_ | refine xblock_e ?_ | refine xblock_n rfl ?_ | refine xround_r ?_ | refine xround_e ?_) | (with_reducible intro hc; (try simp only [hcL, reduceCtorEq, List.length_map] at hc); (try (exfalso; omega))) | with_reducible (first | exact trivial | refine And.intro ?_ ?_ | exact rfl | exact Nat.le_refl _) | exact Eq.refl true | exact (rfl : (_ : List Nat) = _) | exact Nat.le_of_ble_eq_true rfl | (refine inR_i64.mpr ?_; first | omega | (simp only [List.length_map, List.length_map]; omega)) | omega)
  all_goals
    refine xfinW (Weak.freezeBoxCell 0 2 34 0 rfl rfl rfl (by simp)) ?_
    (refine xfinIs (by first | exact .inl rfl | exact .inr rfl) rfl (by repeat' (first | exact trivial | exact rfl | refine And.intro ?_ ?_)) rfl ?_ rfl; first | with_reducible exact rfl | (simp -implicitDefEqProofs only [go_sem, List.set_set, hset] <;> (first | rfl | omega | exact decide_eq_decide.2 (by omega) | exact decide_eq_false (by omega) | exact decide_eq_true (by omega) | (symm; first | exact decide_eq_false (by omega) | exact decide_eq_true (by omega)) | (rw [Bool.eq_iff_iff]; simp only [boL, reduceCtorEq]; omega))))
end Go.Proofs.Ytpfhnhhkfobjnaa

namespace Go.Proofs.Ytpfhnhhkfobjnaa
open Go.Fw
attribute [local irreducible] Go.Fw.aops Go.Fw.arun

set_option maxRecDepth 8000 in
set_option maxHeartbeats 8000000 in
theorem c_resized (t : List Node) (hk : TreeK t) (hL : TreeL t) (i : Nat) (hi : i < t.length) (w h : Int) : ACon Try.prog 39 [vTree t, .d (.int .i64 (i : Int)), .d (.int .i64 w), .d (.int .i64 h)] [] (Is (vTree (asked t i w h))) := by
  have hhi := hk.hi
  have hset := asked_rows (w := w) (h := h) hi
  simp only [encNode, setWH] at hset
  refine ACon.introW tok (nt := 55) Try.func39 rfl rfl rfl (by kernel_rfl) rfl ?_
  repeat' (first | ((with_reducible apply xsim); (first | ((with_reducible apply xlenM); exact rfl; exact rfl) | ((with_reducible apply xo); exact rfl) | ((with_reducible apply xst); exact rfl) | with_reducible apply xend | ((with_reducible apply xalloc); exact rfl; simp only [bkL, Nat.reduceAdd, Nat.reduceSub]) | ((with_reducible apply xbox); exact rfl; simp only [bkL, Nat.reduceAdd, Nat.reduceSub]) | ((with_reducible apply xbuild); exact rfl; exact rfl; exact rfl; exact rfl; exact rfl; simp only [bkL, Nat.reduceAdd, Nat.reduceSub]) | ((with_reducible apply xidxL); exact rfl; exact rfl; exact rfl; exact rfl; omega; first | exact rfl | simp only [hsz]) | ((with_reducible apply xidxM); exact rfl; exact rfl; exact rfl; omega; omega; exact rfl) | ((with_reducible apply xldA); exact rfl; exact rfl; exact rfl; exact rfl; exact rfl) | ((with_reducible apply xstA); exact rfl; exact rfl; exact rfl; exact rfl; exact rfl; exact rfl; exact rfl; exact rfl; exact rfl; (try simp only [List.set_cons_zero, List.set_cons_succ, List.length_map])) | simp -implicitDefEqProofs only [go_sem, List.length_map])) | ((with_reducible apply xaw); (first | ((with_reducible apply xstepS); refine AW.step tok rfl ?_) | ((with_reducible apply xstep); refine AW.region tok rfl ?_) | with_reducible (first | refine AW.seq ?_ | refine AW.block ?_ | refine AW.skip ?_ | refine AW.ret ?_ | refine AW.exit ?_) | ((with_reducible apply xcond); exact rfl))) | with_reducible (first | refine xthen ?_ | refine xthen_r ?_ | refine xthen_e ?_ | refine xblock ?_ | refine xblock_r ?_ | refine xblock_e ?_ | refine xblock_n rfl ?_ | refine xround_r ?_ | refine xround_e ?_) | (with_reducible intro hc; (try simp only [hcL, reduceCtorEq, List.length_map] at hc); (try (exfalso; omega))) | with_reducible (first | exact trivial | refine And.intro ?_ ?_ | exact rfl | exact Nat.le_refl _) | exact Eq.refl true | exact (rfl : (_ : List Nat) = _) | exact Nat.le_of_ble_eq_true rfl | (refine inR_i64.mpr ?_; first | omega | (simp only [List.length_map, List.length_map]; omega)) | omega)
  refine AW.loop (S := fun k : Nat => ⟨[(1, .d (.int .i64 (i : Int))), (2, .d (.int .i64 w)), (3, .d (.int .i64 h)), (4, .oref 0 0), (8, .oref 1 0), (9, .oref 3 0), (10, .d (.int .i64 k))],
      [.box [.d (.lst (t.map encNode))], .box [.nils], .arr 34 ((t.take k).map encNode), .box [.msl 2 34 0 k]], 55, .p 0⟩)
    (Pre := fun k => k ≤ t.length) (μ := fun k => t.length - k) 0 (Nat.zero_le _) ?_ ?_
  · (refine xwk (π := [0, 1, 2, 3]) (by decide) rfl ?_ ?_; (first | exact trivial | simp -implicitDefEqProofs only [go_sem, List.take_zero]); repeat' (first | exact renE_n | ((with_reducible apply renE_c); exact rfl; focus (first | with_reducible exact rfl | (simp -implicitDefEqProofs only [go_sem, List.take_zero]; done) | (simp -implicitDefEqProofs only [go_sem, List.take_zero]; omega)))))
  intro k hkk
  have htl : (t.take k).length = k := by simp; omega
  by_cases hlt : k < t.length
  · have hrow := at_map (f := encNode) hlt
    have hs : t.take (k + 1) = t.take k ++ [t[k]] := List.take_succ_eq_append_getElem hlt
    have hl1 := (hL.2 k hlt).1
    have hl2 := (hL.2 k hlt).2
    repeat' ((fail_if_success (with_reducible first | apply xnoblock | apply xnoblockT)); first | ((with_reducible apply xsim); (first | ((with_reducible apply xlenM); exact rfl; exact rfl) | ((with_reducible apply xo); exact rfl) | ((with_reducible apply xst); exact rfl) | with_reducible apply xend | ((with_reducible apply xalloc); exact rfl; simp only [bkL, Nat.reduceAdd, Nat.reduceSub]) | ((with_reducible apply xbox); exact rfl; simp only [bkL, Nat.reduceAdd, Nat.reduceSub]) | ((with_reducible apply xbuild); exact rfl; exact rfl; exact rfl; exact rfl; exact rfl; simp only [bkL, Nat.reduceAdd, Nat.reduceSub]) | ((with_reducible apply xidxL); exact rfl; exact rfl; exact rfl; exact rfl; omega; first | exact rfl | simp only [hsz]) | ((with_reducible apply xidxM); exact rfl; exact rfl; exact rfl; omega; omega; exact rfl) | ((with_reducible apply xldA); exact rfl; exact rfl; exact rfl; exact rfl; exact rfl) | ((with_reducible apply xstA); exact rfl; exact rfl; exact rfl; exact rfl; exact rfl; exact rfl; exact rfl; exact rfl; exact rfl; (try simp only [List.set_cons_zero, List.set_cons_succ, List.length_map])) | simp -implicitDefEqProofs only [go_sem, List.length_map])) | ((with_reducible apply xaw); (first | ((with_reducible apply xstepS); refine AW.step tok rfl ?_) | ((with_reducible apply xstep); refine AW.region tok rfl ?_) | with_reducible (first | refine AW.seq ?_ | refine AW.block ?_ | refine AW.skip ?_ | refine AW.ret ?_ | refine AW.exit ?_) | ((with_reducible apply xcond); exact rfl))) | with_reducible (first | refine xthen ?_ | refine xthen_r ?_ | refine xthen_e ?_ | refine xblock ?_ | refine xblock_r ?_ | refine xblock_e ?_ | refine xblock_n rfl ?_ | refine xround_r ?_ | refine xround_e ?_) | (with_reducible intro hc; (try simp only [hcL, reduceCtorEq, List.length_map] at hc); (try (exfalso; omega))) | with_reducible (first | exact trivial | refine And.intro ?_ ?_ | exact rfl | exact Nat.le_refl _) | exact Eq.refl true | exact (rfl : (_ : List Nat) = _) | exact Nat.le_of_ble_eq_true rfl | (refine inR_i64.mpr ?_; first | omega | (simp only [List.length_map, List.length_map]; omega)) | omega)
    refine AW.seq ?_
    refine AW.block ?_
    (refine AW.step tok rfl ?_; repeat' (first | ((with_reducible apply xsim); (first | ((with_reducible apply xlenM); exact rfl; exact rfl) | ((with_reducible apply xo); exact rfl) | ((with_reducible apply xst); exact rfl) | with_reducible apply xend | ((with_reducible apply xalloc); exact rfl; simp only [bkL, Nat.reduceAdd, Nat.reduceSub]) | ((with_reducible apply xbox); exact rfl; simp only [bkL, Nat.reduceAdd, Nat.reduceSub]) | ((with_reducible apply xbuild); exact rfl; exact rfl; exact rfl; exact rfl; exact rfl; simp only [bkL, Nat.reduceAdd, Nat.reduceSub]) | ((with_reducible apply xidxL); exact rfl; exact rfl; exact rfl; (first | exact hrow); omega; first | exact rfl | simp only [hsz]) | ((with_reducible apply xidxM); exact rfl; exact rfl; exact rfl; omega; omega; exact rfl) | ((with_reducible apply xldA); exact rfl; exact rfl; exact rfl; (first | exact hrow); exact rfl) | ((with_reducible apply xstA); exact rfl; exact rfl; exact rfl; exact rfl; (first | exact hrow); exact rfl; exact rfl; exact rfl; exact rfl; (try simp only [List.set_cons_zero, List.set_cons_succ, List.length_map])) | simp -implicitDefEqProofs only [go_sem, List.length_map])) | with_reducible (first | exact trivial | refine And.intro ?_ ?_ | exact rfl) | exact Eq.refl true | exact (rfl : (_ : List Nat) = _) | exact Nat.le_of_ble_eq_true rfl | (refine inR_i64.mpr ?_; first | omega | (simp only [List.length_map, List.length_map]; omega)) | omega))
    (refine AW.step tok rfl ?_; repeat' (first | ((with_reducible apply xsim); (first | ((with_reducible apply xlenM); exact rfl; exact rfl) | ((with_reducible apply xo); exact rfl) | ((with_reducible apply xst); exact rfl) | with_reducible apply xend | ((with_reducible apply xalloc); exact rfl; simp only [bkL, Nat.reduceAdd, Nat.reduceSub]) | ((with_reducible apply xbox); exact rfl; simp only [bkL, Nat.reduceAdd, Nat.reduceSub]) | ((with_reducible apply xbuild); exact rfl; exact rfl; exact rfl; exact rfl; exact rfl; simp only [bkL, Nat.reduceAdd, Nat.reduceSub]) | ((with_reducible apply xidxL); exact rfl; exact rfl; exact rfl; exact rfl; omega; first | exact rfl | simp only [hsz]) | ((with_reducible apply xidxM); exact rfl; exact rfl; exact rfl; omega; omega; exact rfl) | ((with_reducible apply xldA); exact rfl; exact rfl; exact rfl; exact rfl; exact rfl) | ((with_reducible apply xstA); exact rfl; exact rfl; exact rfl; exact rfl; exact rfl; exact rfl; exact rfl; exact rfl; exact rfl; (try simp only [List.set_cons_zero, List.set_cons_succ, List.length_map])) | simp -implicitDefEqProofs only [go_sem, List.length_map])) | with_reducible (first | exact trivial | refine And.intro ?_ ?_ | exact rfl) | exact Eq.refl true | exact (rfl : (_ : List Nat) = _) | exact Nat.le_of_ble_eq_true rfl | (refine inR_i64.mpr ?_; first | omega | (simp only [List.length_map, List.length_map]; omega)) | omega))
    refine AW.weak (Weak.freezeBoxCell 4 6 2 5 rfl rfl rfl (by simp)) ?_
    (refine AW.step tok rfl ?_; repeat' (first | ((with_reducible apply xsim); (first | ((with_reducible apply xlenM); exact rfl; exact rfl) | ((with_reducible apply xo); exact rfl) | ((with_reducible apply xst); exact rfl) | with_reducible apply xend | ((with_reducible apply xalloc); exact rfl; simp only [bkL, Nat.reduceAdd, Nat.reduceSub]) | ((with_reducible apply xbox); exact rfl; simp only [bkL, Nat.reduceAdd, Nat.reduceSub]) | ((with_reducible apply xbuild); exact rfl; exact rfl; exact rfl; exact rfl; exact rfl; simp only [bkL, Nat.reduceAdd, Nat.reduceSub]) | ((with_reducible apply xidxL); exact rfl; exact rfl; exact rfl; exact rfl; omega; first | exact rfl | simp only [hsz]) | ((with_reducible apply xidxM); exact rfl; exact rfl; exact rfl; omega; omega; exact rfl) | ((with_reducible apply xldA); exact rfl; exact rfl; exact rfl; exact rfl; exact rfl) | ((with_reducible apply xstA); exact rfl; exact rfl; exact rfl; exact rfl; exact rfl; exact rfl; exact rfl; exact rfl; exact rfl; (try simp only [List.set_cons_zero, List.set_cons_succ, List.length_map])) | simp -implicitDefEqProofs only [go_sem, List.length_map])) | with_reducible (first | exact trivial | refine And.intro ?_ ?_ | exact rfl) | exact Eq.refl true | exact (rfl : (_ : List Nat) = _) | exact Nat.le_of_ble_eq_true rfl | (refine inR_i64.mpr ?_; first | omega | (simp only [List.length_map, List.length_map]; omega)) | omega))
    refine AW.weak (Weak.freezeBoxCell 4 8 2 6 rfl rfl rfl (by simp)) ?_
    repeat' (first | ((with_reducible apply xsim); (first | ((with_reducible apply xlenM); exact rfl; exact rfl) | ((with_reducible apply xo); exact rfl) | ((with_reducible apply xst); exact rfl) | with_reducible apply xend | ((with_reducible apply xalloc); exact rfl; simp only [bkL, Nat.reduceAdd, Nat.reduceSub]) | ((with_reducible apply xbox); exact rfl; simp only [bkL, Nat.reduceAdd, Nat.reduceSub]) | ((with_reducible apply xbuild); exact rfl; exact rfl; exact rfl; exact rfl; exact rfl; simp only [bkL, Nat.reduceAdd, Nat.reduceSub]) | ((with_reducible apply xidxL); exact rfl; exact rfl; exact rfl; exact rfl; omega; first | exact rfl | simp only [hsz]) | ((with_reducible apply xidxM); exact rfl; exact rfl; exact rfl; omega; omega; exact rfl) | ((with_reducible apply xldA); exact rfl; exact rfl; exact rfl; exact rfl; exact rfl) | ((with_reducible apply xstA); exact rfl; exact rfl; exact rfl; exact rfl; exact rfl; exact rfl; exact rfl; exact rfl; exact rfl; (try simp only [List.set_cons_zero, List.set_cons_succ, List.length_map, htl])) | simp -implicitDefEqProofs only [go_sem, List.length_map, htl])) | ((with_reducible apply xaw); (first | ((with_reducible apply xstepS); refine AW.step tok rfl ?_) | ((with_reducible apply xstep); refine AW.region tok rfl ?_) | with_reducible (first | refine AW.seq ?_ | refine AW.block ?_ | refine AW.skip ?_ | refine AW.ret ?_ | refine AW.exit ?_) | ((with_reducible apply xcond); exact rfl))) | with_reducible (first | refine xthen ?_ | refine xthen_r ?_ | refine xthen_e ?_ | refine xblock ?_ | refine xblock_r ?_ | refine xblock_e ?_ | refine xblock_n rfl ?_ | refine xround_r ?_ | refine xround_e ?_) | (with_reducible intro hc; (try simp only [hcL, reduceCtorEq, List.length_map, htl] at hc); (try (exfalso; omega))) | with_reducible (first | exact trivial | refine And.intro ?_ ?_ | exact rfl | exact Nat.le_refl _) | exact Eq.refl true | exact (rfl : (_ : List Nat) = _) | exact Nat.le_of_ble_eq_true rfl | (refine inR_i64.mpr ?_; first | omega | (simp only [List.length_map, List.length_map, htl]; omega)) | omega)
    refine round_end (k+1) hlt (by omega) (by (refine xwk (π := [0, 1, 10, 3]) (by decide) rfl ?_ ?_; (first | exact trivial | simp -implicitDefEqProofs only [go_sem, hs, List.map_append]); repeat' (first | exact renE_n | ((with_reducible apply renE_c); exact rfl; focus (first | with_reducible exact rfl | (simp -implicitDefEqProofs only [go_sem, hs, List.map_append]; done) | (simp -implicitDefEqProofs only [go_sem, hs, List.map_append]; omega))))))
  have hk' : k = t.length := by omega
  subst hk'
  rw [List.take_length]
  have hrow := at_map (f := encNode) hi
  have hset1 : ∀ r, ((t.map encNode).set i r)[i]? = some r := fun r => List.getElem?_set_self (by simpa using hi)
  repeat' (first | ((with_reducible apply xsim); (first | ((with_reducible apply xlenM); exact rfl; exact rfl) | ((with_reducible apply xo); exact rfl) | ((with_reducible apply xst); exact rfl) | with_reducible apply xend | ((with_reducible apply xalloc); exact rfl; simp only [bkL, Nat.reduceAdd, Nat.reduceSub]) | ((with_reducible apply xbox); exact rfl; simp only [bkL, Nat.reduceAdd, Nat.reduceSub]) | ((with_reducible apply xbuild); exact rfl; exact rfl; exact rfl; exact rfl; exact rfl; simp only [bkL, Nat.reduceAdd, Nat.reduceSub]) | ((with_reducible apply xidxL); exact rfl; exact rfl; exact rfl; (first | exact hrow | exact (hset1 _)); omega; first | exact rfl | simp only [hsz]) | ((with_reducible apply xidxM); exact rfl; exact rfl; exact rfl; omega; omega; exact rfl) | ((with_reducible apply xldA); exact rfl; exact rfl; exact rfl; (first | exact hrow | exact (hset1 _)); exact rfl) | ((with_reducible apply xstA); exact rfl; exact rfl; exact rfl; exact rfl; (first | exact hrow | exact (hset1 _)); exact rfl; exact rfl; exact rfl; exact rfl; (try simp only [List.set_cons_zero, List.set_cons_succ, List.length_map])) | simp -implicitDefEqProofs only [go_sem, List.length_map])) | ((with_reducible apply xaw); (first | ((with_reducible apply xstepS); refine AW.step tok rfl ?_) | ((with_reducible apply xstep); refine AW.region tok rfl ?_) | with_reducible (first | refine AW.seq ?_ | refine AW.block ?_ | refine AW.skip ?_ | refine AW.ret ?_ | refine AW.exit ?_) | ((with_reducible apply xcond); exact rfl))) | with_reducible (first | refine xthen ?_ | refine xthen_r ?_ | refine xthen_e ?_ | refine xblock ?_ | refine xblock_r ?_ | refine xblock_e ?_ | refine xblock_n rfl ?_ | refine xround_r ?_ | refine xround_e ?_) | (with_reducible intro hc; (try simp only [hcL, reduceCtorEq, List.length_map] at hc); (try (exfalso; omega))) | with_reducible (first | exact trivial | refine And.intro ?_ ?_ | exact rfl | exact Nat.le_refl _) | exact Eq.refl true | exact (rfl : (_ : List Nat) = _) | exact Nat.le_of_ble_eq_true rfl | (refine inR_i64.mpr ?_; first | omega | (simp only [List.length_map, List.length_map]; omega)) | omega)
  all_goals
    refine xfinW (Weak.freezeBoxCell 1 2 34 0 rfl rfl rfl (by simp)) ?_
    (refine xfinIs (by first | exact .inl rfl | exact .inr rfl) rfl (by repeat' (first | exact trivial | exact rfl | refine And.intro ?_ ?_)) rfl ?_ rfl; first | with_reducible exact rfl | (simp -implicitDefEqProofs only [go_sem, List.set_set, hset] <;> (first | rfl | omega | exact decide_eq_decide.2 (by omega) | exact decide_eq_false (by omega) | exact decide_eq_true (by omega) | (symm; first | exact decide_eq_false (by omega) | exact decide_eq_true (by omega)) | (rw [Bool.eq_iff_iff]; simp only [boL, reduceCtorEq]; omega))))

/-- The node may ask for the size. -/
def goodW (t : List Node) (i w h : Int) : Bool := goodN t i && decide (0 ≤ w ∧ w ≤ 30) && decide (0 ≤ h ∧ h ≤ 30)
theorem goodW_iff {t : List Node} {i w h : Int} (hg : goodW t i w h = true) : goodN t i = true ∧ (0 ≤ w ∧ w ≤ 30) ∧ (0 ≤ h ∧ h ≤ 30) := by
  simp only [goodW, Bool.and_eq_true, decide_eq_true_eq] at hg
  exact ⟨hg.1.1, hg.1.2, hg.2⟩
theorem c_goodWish (t : List Node) (hL : TreeL t) (i w h : Int) : ACon Try.prog 38 [vTree t, .d (.int .i64 i), .d (.int .i64 w), .d (.int .i64 h)] [] (Is (.d (.bool (goodW t i w h)))) := by
  have c1 := c_goodNode t hL i
  cases hg : goodN t i
  · rw [hg] at c1
    rw [show goodW t i w h = false by rw [goodW, hg]; rfl]
    refine ACon.introW tok (nt := 20) Try.func38 rfl rfl rfl (by kernel_rfl) rfl ?_
    repeat' (first | ((with_reducible apply xsim); (first | ((with_reducible apply xo); exact rfl) | with_reducible apply xend | ((with_reducible apply xguardTS); exact rfl; exact rfl) | ((with_reducible apply xguardS); exact rfl; exact rfl) | ((with_reducible apply xbox); exact rfl; simp only [bkL, Nat.reduceAdd, Nat.reduceSub]) | ((with_reducible apply xcallIs); exact rfl; exact rfl; (first | exact c1 | exact c_inRange _ _ _); exact rfl) | simp -implicitDefEqProofs only [go_sem])) | ((with_reducible apply xaw); (first | ((with_reducible apply xstepS); refine AW.step tok rfl ?_) | ((with_reducible apply xstep); refine AW.region tok rfl ?_) | with_reducible (first | refine AW.seq ?_ | refine AW.block ?_ | refine AW.skip ?_ | refine AW.ret ?_ | refine AW.exit ?_) | ((with_reducible apply xcond); exact rfl))) | with_reducible (first | refine xthen ?_ | refine xthen_r ?_ | refine xthen_e ?_ | refine xblock ?_ | refine xblock_r ?_ | refine xblock_e ?_ | refine xblock_n rfl ?_ | refine xround_r ?_ | refine xround_e ?_) | (with_reducible intro hc; (try simp only [hcL, reduceCtorEq] at hc); (try (exfalso; omega))) | with_reducible (first | exact trivial | refine And.intro ?_ ?_ | exact rfl | exact Nat.le_refl _) | exact Eq.refl true | exact (rfl : (_ : List Nat) = _) | exact Nat.le_of_ble_eq_true rfl | (refine inR_i64.mpr ?_; first | omega | (simp only [List.length_map]; omega)) | omega)
    all_goals (refine xfinIs (by first | exact .inl rfl | exact .inr rfl) rfl (by repeat' (first | exact trivial | exact rfl | refine And.intro ?_ ?_)) rfl ?_ rfl; first | with_reducible exact rfl | (simp -implicitDefEqProofs only [go_sem] <;> (first | rfl | omega | exact decide_eq_decide.2 (by omega) | exact decide_eq_false (by omega) | exact decide_eq_true (by omega) | (symm; first | exact decide_eq_false (by omega) | exact decide_eq_true (by omega)) | (rw [Bool.eq_iff_iff]; simp only [boL, reduceCtorEq]; omega))))
  · rw [hg] at c1
    have e : goodW t i w h = decide ((0 ≤ w ∧ w ≤ 30) ∧ (0 ≤ h ∧ h ≤ 30)) := by rw [goodW, hg, Bool.true_and, ← Bool.decide_and]
    rw [e]
    refine ACon.introW tok (nt := 20) Try.func38 rfl rfl rfl (by kernel_rfl) rfl ?_
    repeat' (first | ((with_reducible apply xsim); (first | ((with_reducible apply xo); exact rfl) | with_reducible apply xend | ((with_reducible apply xguardTS); exact rfl; exact rfl) | ((with_reducible apply xguardS); exact rfl; exact rfl) | ((with_reducible apply xbox); exact rfl; simp only [bkL, Nat.reduceAdd, Nat.reduceSub]) | ((with_reducible apply xcallIs); exact rfl; exact rfl; (first | exact c1 | exact c_inRange _ _ _); exact rfl) | simp -implicitDefEqProofs only [go_sem])) | ((with_reducible apply xaw); (first | ((with_reducible apply xstepS); refine AW.step tok rfl ?_) | ((with_reducible apply xstep); refine AW.region tok rfl ?_) | with_reducible (first | refine AW.seq ?_ | refine AW.block ?_ | refine AW.skip ?_ | refine AW.ret ?_ | refine AW.exit ?_) | ((with_reducible apply xcond); exact rfl))) | with_reducible (first | refine xthen ?_ | refine xthen_r ?_ | refine xthen_e ?_ | refine xblock ?_ | refine xblock_r ?_ | refine xblock_e ?_ | refine xblock_n rfl ?_ | refine xround_r ?_ | refine xround_e ?_) | (with_reducible intro hc; (try simp only [hcL, reduceCtorEq] at hc); (try (exfalso; omega))) | with_reducible (first | exact trivial | refine And.intro ?_ ?_ | exact rfl | exact Nat.le_refl _) | exact Eq.refl true | exact (rfl : (_ : List Nat) = _) | exact Nat.le_of_ble_eq_true rfl | (refine inR_i64.mpr ?_; first | omega | (simp only [List.length_map]; omega)) | omega)
    all_goals (refine xfinIs (by first | exact .inl rfl | exact .inr rfl) rfl (by repeat' (first | exact trivial | exact rfl | refine And.intro ?_ ?_)) rfl ?_ rfl; first | with_reducible exact rfl | (simp -implicitDefEqProofs only [go_sem] <;> (first | rfl | omega | exact decide_eq_decide.2 (by omega) | exact decide_eq_false (by omega) | exact decide_eq_true (by omega) | (symm; first | exact decide_eq_false (by omega) | exact decide_eq_true (by omega)) | (rw [Bool.eq_iff_iff]; simp only [boL, reduceCtorEq]; omega))))
def askT (t : List Node) (i w h : Int) : List Node := if goodW t i w h = true then asked t i.toNat w h else []
def askV (t : List Node) (i w h : Int) : V := .tup [vTree (askT t i w h), .d (.bool (goodW t i w h))]

theorem c_AskI (t : List Node) (hL : TreeL t) (i w h : Int) : ACon Try.prog 22 [vTree t, .d (.int .i64 i), .d (.int .i64 w), .d (.int .i64 h)] [] (Is (askV t i w h)) := by
  have hL1 := hL.1
  have c1 := c_ValidTree t hL
  cases ht : treeOk t
  · rw [ht] at c1
    have hg : goodW t i w h = false := by rw [goodW, goodN, ht]; rfl
    rw [askV, askT, hg]
    refine ACon.introW tok (nt := 38) Try.func22 rfl rfl rfl (by kernel_rfl) rfl ?_
    repeat' (first | ((with_reducible apply xsim); (first | ((with_reducible apply xlenM); exact rfl; exact rfl) | ((with_reducible apply xo); exact rfl) | ((with_reducible apply xst); exact rfl) | with_reducible apply xend | ((with_reducible apply xguardTS); exact rfl; exact rfl) | ((with_reducible apply xguardS); exact rfl; exact rfl) | ((with_reducible apply xalloc); exact rfl; simp only [bkL, Nat.reduceAdd, Nat.reduceSub]) | ((with_reducible apply xbox); exact rfl; simp only [bkL, Nat.reduceAdd, Nat.reduceSub]) | ((with_reducible apply xcallIs); exact rfl; exact rfl; exact c1; exact rfl) | simp -implicitDefEqProofs only [go_sem, List.length_map])) | ((with_reducible apply xaw); (first | ((with_reducible apply xstepS); refine AW.step tok rfl ?_) | ((with_reducible apply xstep); refine AW.region tok rfl ?_) | with_reducible (first | refine AW.seq ?_ | refine AW.block ?_ | refine AW.skip ?_ | refine AW.ret ?_ | refine AW.exit ?_) | ((with_reducible apply xcond); exact rfl))) | with_reducible (first | refine xthen ?_ | refine xthen_r ?_ | refine xthen_e ?_ | refine xblock ?_ | refine xblock_r ?_ | refine xblock_e ?_ | refine xblock_n rfl ?_ | refine xround_r ?_ | refine xround_e ?_) | (with_reducible intro hc; (try simp only [hcL, reduceCtorEq, List.length_map] at hc); (try (exfalso; omega))) | with_reducible (first | exact trivial | refine And.intro ?_ ?_ | exact rfl | exact Nat.le_refl _) | exact Eq.refl true | exact (rfl : (_ : List Nat) = _) | exact Nat.le_of_ble_eq_true rfl | (refine inR_i64.mpr ?_; first | omega | (simp only [List.length_map, List.length_map]; omega)) | omega)
    refine xfinW (Weak.nilBoxCell 1 0 rfl rfl) ?_
    (refine xfinIs (by first | exact .inl rfl | exact .inr rfl) rfl (by repeat' (first | exact trivial | exact rfl | refine And.intro ?_ ?_)) rfl ?_ rfl; first | with_reducible exact rfl | (simp -implicitDefEqProofs only [go_sem, Bool.false_eq_true] <;> (first | rfl | omega | exact decide_eq_decide.2 (by omega) | exact decide_eq_false (by omega) | exact decide_eq_true (by omega) | (symm; first | exact decide_eq_false (by omega) | exact decide_eq_true (by omega)) | (rw [Bool.eq_iff_iff]; simp only [boL, reduceCtorEq]; omega))))
  · rw [ht] at c1
    by_cases hc : (0 ≤ i ∧ i ≤ (t.length : Int) - 1) ∧ (0 ≤ w ∧ w ≤ 30) ∧ (0 ≤ h ∧ h ≤ 30)
    · have hg : goodW t i w h = true := by rw [goodW, goodN, ht, decide_eq_true hc.1, decide_eq_true hc.2.1, decide_eq_true hc.2.2]; rfl
      have c2 := c_asked t (treeK ht) hL i.toNat (by omega) w h
      rw [Int.toNat_of_nonneg hc.1.1] at c2
      rw [askV, askT, if_pos hg, hg]
      refine ACon.introW tok (nt := 38) Try.func22 rfl rfl rfl (by kernel_rfl) rfl ?_
      repeat' (first | ((with_reducible apply xsim); (first | ((with_reducible apply xlenM); exact rfl; exact rfl) | ((with_reducible apply xo); exact rfl) | ((with_reducible apply xst); exact rfl) | with_reducible apply xend | ((with_reducible apply xguardTS); exact rfl; exact rfl) | ((with_reducible apply xguardS); exact rfl; exact rfl) | ((with_reducible apply xalloc); exact rfl; simp only [bkL, Nat.reduceAdd, Nat.reduceSub]) | ((with_reducible apply xbox); exact rfl; simp only [bkL, Nat.reduceAdd, Nat.reduceSub]) | ((with_reducible apply xcallIs); exact rfl; exact rfl; (first | exact c1 | exact c_within _ _ _ | exact c2); exact rfl) | simp -implicitDefEqProofs only [go_sem, List.length_map])) | ((with_reducible apply xaw); (first | ((with_reducible apply xstepS); refine AW.step tok rfl ?_) | ((with_reducible apply xstep); refine AW.region tok rfl ?_) | with_reducible (first | refine AW.seq ?_ | refine AW.block ?_ | refine AW.skip ?_ | refine AW.ret ?_ | refine AW.exit ?_) | ((with_reducible apply xcond); exact rfl))) | with_reducible (first | refine xthen ?_ | refine xthen_r ?_ | refine xthen_e ?_ | refine xblock ?_ | refine xblock_r ?_ | refine xblock_e ?_ | refine xblock_n rfl ?_ | refine xround_r ?_ | refine xround_e ?_) | (with_reducible intro hc; (try simp only [hcL, reduceCtorEq, List.length_map] at hc); (try (exfalso; omega))) | with_reducible (first | exact trivial | refine And.intro ?_ ?_ | exact rfl | exact Nat.le_refl _) | exact Eq.refl true | exact (rfl : (_ : List Nat) = _) | exact Nat.le_of_ble_eq_true rfl | (refine inR_i64.mpr ?_; first | omega | (simp only [List.length_map, List.length_map]; omega)) | omega)
      all_goals (refine xfinIs (by first | exact .inl rfl | exact .inr rfl) rfl (by repeat' (first | exact trivial | exact rfl | refine And.intro ?_ ?_)) rfl ?_ rfl; first | with_reducible exact rfl | (simp -implicitDefEqProofs only [go_sem] <;> (first | rfl | omega | exact decide_eq_decide.2 (by omega) | exact decide_eq_false (by omega) | exact decide_eq_true (by omega) | (symm; first | exact decide_eq_false (by omega) | exact decide_eq_true (by omega)) | (rw [Bool.eq_iff_iff]; simp only [boL, reduceCtorEq]; omega))))
    · have hg : goodW t i w h = false := by
        refine Bool.eq_false_iff.2 fun hh => hc ?_
        simp only [goodW, goodN, Bool.and_eq_true, decide_eq_true_eq] at hh
        exact ⟨hh.1.1.2, hh.1.2, hh.2⟩
      rw [askV, askT, hg]
      refine ACon.introW tok (nt := 38) Try.func22 rfl rfl rfl (by kernel_rfl) rfl ?_
      repeat' (first | ((with_reducible apply xsim); (first | ((with_reducible apply xlenM); exact rfl; exact rfl) | ((with_reducible apply xo); exact rfl) | ((with_reducible apply xst); exact rfl) | with_reducible apply xend | ((with_reducible apply xguardTS); exact rfl; exact rfl) | ((with_reducible apply xguardS); exact rfl; exact rfl) | ((with_reducible apply xalloc); exact rfl; simp only [bkL, Nat.reduceAdd, Nat.reduceSub]) | ((with_reducible apply xbox); exact rfl; simp only [bkL, Nat.reduceAdd, Nat.reduceSub]) | ((with_reducible apply xcallIs); exact rfl; exact rfl; (first | exact c1 | exact c_within _ _ _); exact rfl) | simp -implicitDefEqProofs only [go_sem, List.length_map])) | ((with_reducible apply xaw); (first | ((with_reducible apply xstepS); refine AW.step tok rfl ?_) | ((with_reducible apply xstep); refine AW.region tok rfl ?_) | with_reducible (first | refine AW.seq ?_ | refine AW.block ?_ | refine AW.skip ?_ | refine AW.ret ?_ | refine AW.exit ?_) | ((with_reducible apply xcond); exact rfl))) | with_reducible (first | refine xthen ?_ | refine xthen_r ?_ | refine xthen_e ?_ | refine xblock ?_ | refine xblock_r ?_ | refine xblock_e ?_ | refine xblock_n rfl ?_ | refine xround_r ?_ | refine xround_e ?_) | (with_reducible intro hc; (try simp only [hcL, reduceCtorEq, List.length_map] at hc); (try (exfalso; omega))) | with_reducible (first | exact trivial | refine And.intro ?_ ?_ | exact rfl | exact Nat.le_refl _) | exact Eq.refl true | exact (rfl : (_ : List Nat) = _) | exact Nat.le_of_ble_eq_true rfl | (refine inR_i64.mpr ?_; first | omega | (simp only [List.length_map, List.length_map]; omega)) | omega)
      all_goals
        refine xfinW (Weak.nilBoxCell 1 0 rfl rfl) ?_
        (refine xfinIs (by first | exact .inl rfl | exact .inr rfl) rfl (by repeat' (first | exact trivial | exact rfl | refine And.intro ?_ ?_)) rfl ?_ rfl; first | with_reducible exact rfl | (simp -implicitDefEqProofs only [go_sem, Bool.false_eq_true] <;> (first | rfl | omega | exact decide_eq_decide.2 (by omega) | exact decide_eq_false (by omega) | exact decide_eq_true (by omega) | (symm; first | exact decide_eq_false (by omega) | exact decide_eq_true (by omega)) | (rw [Bool.eq_iff_iff]; simp only [boL, reduceCtorEq]; omega))))

/-! Touched nodes. -/
def isTo (t t' : List Node) (k : Nat) : Bool := decide (wish t k ≠ wish t' k)
def toTo (t t' : List Node) (k : Nat) : List Nat := (List.range k).filter (isTo t t')
theorem toTo_succ {t t' : List Node} {k : Nat} : toTo t t' (k + 1) = toTo t t' k ++ if isTo t t' k = true then [k] else [] := by
  simp only [toTo, List.range_succ, List.filter_append, List.filter_cons, List.filter_nil]
def touchOf (t : List Node) (i w h : Int) : List Nat := if goodW t i w h = true then touched t (asked t i.toNat w h) else []
theorem wish_ne {a b : Int × Int} : a ≠ b ↔ a.1 ≠ b.1 ∨ a.2 ≠ b.2 := by
  constructor
  · intro h
    refine Decidable.byContradiction fun hc => h ?_
    exact Prod.ext (by omega) (by omega)
  · rintro h rfl
    omega

set_option maxRecDepth 8000 in
set_option maxHeartbeats 8000000 in
theorem c_TouchI (t : List Node) (hL : TreeL t) (i w h : Int) : ACon Try.prog 25 [vTree t, .d (.int .i64 i), .d (.int .i64 w), .d (.int .i64 h)] [] (ORows encK 1 (touchOf t i w h)) := by
  have hL1 := hL.1
  have c1 := c_AskI t hL i w h
  cases hg : goodW t i w h
  · rw [askV, hg] at c1
    rw [show touchOf t i w h = [] by rw [touchOf, hg]; rfl]
    refine ACon.introW tok (nt := 59) Try.func25 rfl rfl rfl (by kernel_rfl) rfl ?_
    repeat' (first | ((with_reducible apply xsim); (first | ((with_reducible apply xlenM); exact rfl; exact rfl) | ((with_reducible apply xo); exact rfl) | ((with_reducible apply xst); exact rfl) | with_reducible apply xend | ((with_reducible apply xguardTS); exact rfl; exact rfl) | ((with_reducible apply xguardS); exact rfl; exact rfl) | ((with_reducible apply xalloc); exact rfl; simp only [bkL, Nat.reduceAdd, Nat.reduceSub]) | ((with_reducible apply xbox); exact rfl; simp only [bkL, Nat.reduceAdd, Nat.reduceSub]) | ((with_reducible apply xbuild); exact rfl; exact rfl; exact rfl; exact rfl; exact rfl; simp only [bkL, Nat.reduceAdd, Nat.reduceSub]) | ((with_reducible apply xcallIs); exact rfl; exact rfl; exact c1; exact rfl) | simp -implicitDefEqProofs only [go_sem])) | ((with_reducible apply xaw); (first | ((with_reducible apply xstepS); refine AW.step tok rfl ?_) | ((with_reducible apply xstep); refine AW.region tok rfl ?_) | with_reducible (first | refine AW.seq ?_ | refine AW.block ?_ | refine AW.skip ?_ | refine AW.ret ?_ | refine AW.exit ?_) | ((with_reducible apply xcond); exact rfl))) | with_reducible (first | refine xthen ?_ | refine xthen_r ?_ | refine xthen_e ?_ | refine xblock ?_ | refine xblock_r ?_ | refine xblock_e ?_ | refine xblock_n rfl ?_ | refine xround_r ?_ | refine xround_e ?_) | (with_reducible intro hc; (try simp only [hcL, reduceCtorEq] at hc); (try (exfalso; omega))) | with_reducible (first | exact trivial | refine And.intro ?_ ?_ | exact rfl | exact Nat.le_refl _) | exact Eq.refl true | exact (rfl : (_ : List Nat) = _) | exact Nat.le_of_ble_eq_true rfl | (refine inR_i64.mpr ?_; first | omega | (simp only [List.length_map]; omega)) | omega)
    refine xfinW (Weak.own 8 1 rfl) ?_
    (refine xfinOwn [2] (by first | exact .inl rfl | exact .inr rfl) rfl (by repeat' (first | exact trivial | exact rfl | refine And.intro ?_ ?_)) (by decide) rfl ?_ ?_ <;> simp -implicitDefEqProofs only [go_sem])
  · rw [askV, askT, if_pos hg, hg] at c1
    rw [show touchOf t i w h = touched t (asked t i.toNat w h) by rw [touchOf, if_pos hg]]
    obtain ⟨g1, g2, g3⟩ := goodW_iff hg
    obtain ⟨htr, h0, hi⟩ := goodN_iff.1 g1
    have hk := treeK htr
    have hhi := hk.hi
    have hk2 := treeK (asked_ok htr hi g2 g3)
    have hal := asked_len (t := t) (i := i.toNat) (w := w) (h := h)
    rw [show touched t (asked t i.toNat w h) = toTo t (asked t i.toNat w h) t.length from rfl]
    generalize asked t i.toNat w h = t' at *
    refine ACon.introW tok (nt := 59) Try.func25 rfl rfl rfl (by kernel_rfl) rfl ?_
    repeat' (first | ((with_reducible apply xsim); (first | ((with_reducible apply xlenM); exact rfl; exact rfl) | ((with_reducible apply xo); exact rfl) | ((with_reducible apply xst); exact rfl) | with_reducible apply xend | ((with_reducible apply xguardTS); exact rfl; exact rfl) | ((with_reducible apply xguardS); exact rfl; exact rfl) | ((with_reducible apply xalloc); exact rfl; simp only [bkL, Nat.reduceAdd, Nat.reduceSub]) | ((with_reducible apply xbox); exact rfl; simp only [bkL, Nat.reduceAdd, Nat.reduceSub]) | ((with_reducible apply xbuild); exact rfl; exact rfl; exact rfl; exact rfl; exact rfl; simp only [bkL, Nat.reduceAdd, Nat.reduceSub]) | ((with_reducible apply xcallIs); exact rfl; exact rfl; exact c1; exact rfl) | simp -implicitDefEqProofs only [go_sem, List.length_map])) | ((with_reducible apply xaw); (first | ((with_reducible apply xstepS); refine AW.step tok rfl ?_) | ((with_reducible apply xstep); refine AW.region tok rfl ?_) | with_reducible (first | refine AW.seq ?_ | refine AW.block ?_ | refine AW.skip ?_ | refine AW.ret ?_ | refine AW.exit ?_) | ((with_reducible apply xcond); exact rfl))) | with_reducible (first | refine xthen ?_ | refine xthen_r ?_ | refine xthen_e ?_ | refine xblock ?_ | refine xblock_r ?_ | refine xblock_e ?_ | refine xblock_n rfl ?_ | refine xround_r ?_ | refine xround_e ?_) | (with_reducible intro hc; (try simp only [hcL, reduceCtorEq, List.length_map] at hc); (try (exfalso; omega))) | with_reducible (first | exact trivial | refine And.intro ?_ ?_ | exact rfl | exact Nat.le_refl _) | exact Eq.refl true | exact (rfl : (_ : List Nat) = _) | exact Nat.le_of_ble_eq_true rfl | (refine inR_i64.mpr ?_; first | omega | (simp only [List.length_map, List.length_map]; omega)) | omega)
    refine AW.own 11 1 rfl ?_
    refine AW.loop (S := fun k : Nat => ⟨[(4, .oref 0 0), (9, .oref 1 0), (11, .msl 2 1 0 (toTo t t' k).length), (29, .d (.int .i64 t.length)), (30, .d (.int .i64 k))],
        [.box [.d (.lst (t.map encNode))], .box [.d (.lst (t'.map encNode))], .arr 1 ((toTo t t' k).map encK)], 59, .p 0⟩)
      (Pre := fun k => k ≤ t.length) (μ := fun k => t.length - k) 0 (Nat.zero_le _) ?_ ?_
    · (refine xwk (π := [0, 1, 2]) (by decide) rfl ?_ ?_; (first | exact trivial | simp -implicitDefEqProofs only [go_sem, toTo, List.range_zero, List.filter_nil]); repeat' (first | exact renE_n | ((with_reducible apply renE_c); exact rfl; focus (first | with_reducible exact rfl | (simp -implicitDefEqProofs only [go_sem, toTo, List.range_zero, List.filter_nil]; done) | (simp -implicitDefEqProofs only [go_sem, toTo, List.range_zero, List.filter_nil]; omega)))))
    intro k hkk
    have hcl : (toTo t t' k).length ≤ k := filter_len _ k
    by_cases hlt : k < t.length
    · have c2 := c_request t hk k hlt
      have c3 := c_request t' hk2 k (by omega)
      have hs := toTo_succ (t := t) (t' := t') (k := k)
      by_cases hc : (wish t k).1 ≠ (wish t' k).1 ∨ (wish t k).2 ≠ (wish t' k).2
      · rw [if_pos (show isTo t t' k = true from decide_eq_true (wish_ne.2 hc))] at hs
        repeat' (first | ((with_reducible apply xsim); (first | ((with_reducible apply xlenM); exact rfl; exact rfl) | ((with_reducible apply xo); exact rfl) | ((with_reducible apply xst); exact rfl) | with_reducible apply xend | ((with_reducible apply xguardTS); exact rfl; exact rfl) | ((with_reducible apply xguardS); exact rfl; exact rfl) | ((with_reducible apply xalloc); exact rfl; simp only [bkL, Nat.reduceAdd, Nat.reduceSub]) | ((with_reducible apply xbox); exact rfl; simp only [bkL, Nat.reduceAdd, Nat.reduceSub]) | ((with_reducible apply xbuild); exact rfl; exact rfl; exact rfl; exact rfl; exact rfl; simp only [bkL, Nat.reduceAdd, Nat.reduceSub]) | ((with_reducible apply xcallIs); exact rfl; exact rfl; (first | exact c2 | exact c3); exact rfl) | simp -implicitDefEqProofs only [go_sem, List.length_map])) | ((with_reducible apply xaw); (first | ((with_reducible apply xstepS); refine AW.step tok rfl ?_) | ((with_reducible apply xstep); refine AW.region tok rfl ?_) | with_reducible (first | refine AW.seq ?_ | refine AW.block ?_ | refine AW.skip ?_ | refine AW.ret ?_ | refine AW.exit ?_) | ((with_reducible apply xcond); exact rfl))) | with_reducible (first | refine xthen ?_ | refine xthen_r ?_ | refine xthen_e ?_ | refine xblock ?_ | refine xblock_r ?_ | refine xblock_e ?_ | refine xblock_n rfl ?_ | refine xround_r ?_ | refine xround_e ?_) | (with_reducible intro hc; (try simp only [hcL, reduceCtorEq, List.length_map] at hc); (try (exfalso; omega))) | with_reducible (first | exact trivial | refine And.intro ?_ ?_ | exact rfl | exact Nat.le_refl _) | exact Eq.refl true | exact (rfl : (_ : List Nat) = _) | exact Nat.le_of_ble_eq_true rfl | (refine inR_i64.mpr ?_; first | omega | (simp only [List.length_map, List.length_map]; omega)) | omega)
        all_goals refine round_end (k+1) hlt (by omega) (by (refine xwk (π := [0, 1, 4]) (by decide) rfl ?_ ?_; (first | exact trivial | simp -implicitDefEqProofs only [go_sem, hs, List.map_append, List.length_append]); repeat' (first | exact renE_n | ((with_reducible apply renE_c); exact rfl; focus (first | with_reducible exact rfl | (simp -implicitDefEqProofs only [go_sem, hs, List.map_append, List.length_append]; done) | (simp -implicitDefEqProofs only [go_sem, hs, List.map_append, List.length_append]; omega))))))
      · rw [if_neg (by simp only [isTo, decide_eq_true_eq, wish_ne]; exact hc), List.append_nil] at hs
        repeat' (first | ((with_reducible apply xsim); (first | ((with_reducible apply xlenM); exact rfl; exact rfl) | ((with_reducible apply xo); exact rfl) | ((with_reducible apply xst); exact rfl) | with_reducible apply xend | ((with_reducible apply xguardTS); exact rfl; exact rfl) | ((with_reducible apply xguardS); exact rfl; exact rfl) | ((with_reducible apply xalloc); exact rfl; simp only [bkL, Nat.reduceAdd, Nat.reduceSub]) | ((with_reducible apply xbox); exact rfl; simp only [bkL, Nat.reduceAdd, Nat.reduceSub]) | ((with_reducible apply xbuild); exact rfl; exact rfl; exact rfl; exact rfl; exact rfl; simp only [bkL, Nat.reduceAdd, Nat.reduceSub]) | ((with_reducible apply xcallIs); exact rfl; exact rfl; (first | exact c2 | exact c3); exact rfl) | simp -implicitDefEqProofs only [go_sem, List.length_map])) | ((with_reducible apply xaw); (first | ((with_reducible apply xstepS); refine AW.step tok rfl ?_) | ((with_reducible apply xstep); refine AW.region tok rfl ?_) | with_reducible (first | refine AW.seq ?_ | refine AW.block ?_ | refine AW.skip ?_ | refine AW.ret ?_ | refine AW.exit ?_) | ((with_reducible apply xcond); exact rfl))) | with_reducible (first | refine xthen ?_ | refine xthen_r ?_ | refine xthen_e ?_ | refine xblock ?_ | refine xblock_r ?_ | refine xblock_e ?_ | refine xblock_n rfl ?_ | refine xround_r ?_ | refine xround_e ?_) | (with_reducible intro hc; (try simp only [hcL, reduceCtorEq, List.length_map] at hc); (try (exfalso; omega))) | with_reducible (first | exact trivial | refine And.intro ?_ ?_ | exact rfl | exact Nat.le_refl _) | exact Eq.refl true | exact (rfl : (_ : List Nat) = _) | exact Nat.le_of_ble_eq_true rfl | (refine inR_i64.mpr ?_; first | omega | (simp only [List.length_map, List.length_map]; omega)) | omega)
        all_goals refine round_end (k+1) hlt (by omega) (by (refine xwk (π := [0, 1, 2]) (by decide) rfl ?_ ?_; (first | exact trivial | simp -implicitDefEqProofs only [go_sem, hs]); repeat' (first | exact renE_n | ((with_reducible apply renE_c); exact rfl; focus (first | with_reducible exact rfl | (simp -implicitDefEqProofs only [go_sem, hs]; done) | (simp -implicitDefEqProofs only [go_sem, hs]; omega))))))
    have hk' : k = t.length := by omega
    subst hk'
    repeat' (first | ((with_reducible apply xsim); (first | ((with_reducible apply xlenM); exact rfl; exact rfl) | ((with_reducible apply xo); exact rfl) | ((with_reducible apply xst); exact rfl) | with_reducible apply xend | ((with_reducible apply xguardTS); exact rfl; exact rfl) | ((with_reducible apply xguardS); exact rfl; exact rfl) | ((with_reducible apply xalloc); exact rfl; simp only [bkL, Nat.reduceAdd, Nat.reduceSub]) | ((with_reducible apply xbox); exact rfl; simp only [bkL, Nat.reduceAdd, Nat.reduceSub]) | ((with_reducible apply xbuild); exact rfl; exact rfl; exact rfl; exact rfl; exact rfl; simp only [bkL, Nat.reduceAdd, Nat.reduceSub]) | simp -implicitDefEqProofs only [go_sem, List.length_map])) | ((with_reducible apply xaw); (first | ((with_reducible apply xstepS); refine AW.step tok rfl ?_) | ((with_reducible apply xstep); refine AW.region tok rfl ?_) | with_reducible (first | refine AW.seq ?_ | refine AW.block ?_ | refine AW.skip ?_ | refine AW.ret ?_ | refine AW.exit ?_) | ((with_reducible apply xcond); exact rfl))) | with_reducible (first | refine xthen ?_ | refine xthen_r ?_ | refine xthen_e ?_ | refine xblock ?_ | refine xblock_r ?_ | refine xblock_e ?_ | refine xblock_n rfl ?_ | refine xround_r ?_ | refine xround_e ?_) | (with_reducible intro hc; (try simp only [hcL, reduceCtorEq, List.length_map] at hc); (try (exfalso; omega))) | with_reducible (first | exact trivial | refine And.intro ?_ ?_ | exact rfl | exact Nat.le_refl _) | exact Eq.refl true | exact (rfl : (_ : List Nat) = _) | exact Nat.le_of_ble_eq_true rfl | (refine inR_i64.mpr ?_; first | omega | (simp only [List.length_map, List.length_map]; omega)) | omega)
    (refine xfinOwn [2] (by first | exact .inl rfl | exact .inr rfl) rfl (by repeat' (first | exact trivial | exact rfl | refine And.intro ?_ ?_)) (by decide) rfl ?_ ?_ <;> simp -implicitDefEqProofs only [go_sem])

set_option maxRecDepth 8000 in
set_option maxHeartbeats 8000000 in
theorem c_TouchS (t : List Node) (hL : TreeL t) (i w h : Int) : ACon Try.prog 24 [vTree t, .d (.int .i64 i), .d (.int .i64 w), .d (.int .i64 h)] [] (ORows encK 1 (touchOf t i w h)) := by
  have hL1 := hL.1
  have c1 := c_goodWish t hL i w h
  cases hg : goodW t i w h
  · rw [hg] at c1
    rw [show touchOf t i w h = [] by rw [touchOf, hg]; rfl]
    refine ACon.introW tok (nt := 66) Try.func24 rfl rfl rfl (by kernel_rfl) rfl ?_
    repeat' (first | ((with_reducible apply xsim); (first | ((with_reducible apply xlenM); exact rfl; exact rfl) | ((with_reducible apply xo); exact rfl) | with_reducible apply xend | ((with_reducible apply xguardTS); exact rfl; exact rfl) | ((with_reducible apply xguardS); exact rfl; exact rfl) | ((with_reducible apply xbox); exact rfl; simp only [bkL, Nat.reduceAdd, Nat.reduceSub]) | ((with_reducible apply xbuild); exact rfl; exact rfl; exact rfl; exact rfl; exact rfl; simp only [bkL, Nat.reduceAdd, Nat.reduceSub]) | ((with_reducible apply xidxL); exact rfl; exact rfl; exact rfl; exact rfl; omega; first | exact rfl | simp only [hsz]) | ((with_reducible apply xidxM); exact rfl; exact rfl; exact rfl; omega; omega; exact rfl) | ((with_reducible apply xldA); exact rfl; exact rfl; exact rfl; exact rfl; exact rfl) | ((with_reducible apply xcallIs); exact rfl; exact rfl; exact c1; exact rfl) | simp -implicitDefEqProofs only [go_sem])) | ((with_reducible apply xaw); (first | ((with_reducible apply xstepS); refine AW.step tok rfl ?_) | ((with_reducible apply xstep); refine AW.region tok rfl ?_) | with_reducible (first | refine AW.seq ?_ | refine AW.block ?_ | refine AW.skip ?_ | refine AW.ret ?_ | refine AW.exit ?_) | ((with_reducible apply xcond); exact rfl) | ((with_reducible apply xdrawS (id := 9)); refine AW.drawS (id := 9) (.q 0 (.q 1 (.q 2 (.q 3 (.q 4 (.q 5 (.q 6 (.q 7 (.q 8 (.q 9 (.q 10 (.q 11 (.q 12 (.q 13 (.q 14 (.q 15 (.q 16 (.q 17 (.q 18 (.q 19 (.q 20 (.q 21 (.q 22 (.q 23 (.q 24 (.q 25 (.fin))))))))))))))))))))))))))) tok (by kernel_rfl) rfl (by kernel_rfl) ?_) | ((with_reducible apply xdraw (id := 9)); refine AW.draw (id := 9) (.q 0 (.q 1 (.q 2 (.q 3 (.q 4 (.q 5 (.q 6 (.q 7 (.q 8 (.q 9 (.q 10 (.q 11 (.q 12 (.q 13 (.q 14 (.q 15 (.q 16 (.q 17 (.q 18 (.q 19 (.q 20 (.q 21 (.q 22 (.q 23 (.q 24 (.q 25 (.fin))))))))))))))))))))))))))) tok (by kernel_rfl) rfl (by kernel_rfl) ?_))) | ((with_reducible apply xarun); (first | ((with_reducible apply xrun_q); exact rfl; exact rfl; exact rfl) | ((with_reducible apply xrun_c); exact rfl; exact rfl; exact rfl; exact rfl; exact rfl; exact rfl; exact c1; exact rfl) | ((with_reducible apply xrun_g); exact rfl; exact rfl; exact rfl; exact rfl; exact rfl; exact rfl) | ((with_reducible apply xrun_e); exact rfl) | with_reducible apply xrun_f)) | ((with_reducible apply xcallQ); exact rfl; exact rfl; exact c1; exact rfl) | with_reducible (first | refine xthen ?_ | refine xthen_r ?_ | refine xthen_e ?_ | refine xblock ?_ | refine xblock_r ?_ | refine xblock_e ?_ | refine xblock_n rfl ?_ | refine xround_r ?_ | refine xround_e ?_) | (with_reducible intro hc; (try simp only [hcL, reduceCtorEq] at hc); (try (exfalso; omega))) | with_reducible (first | exact trivial | refine And.intro ?_ ?_ | exact rfl | exact Nat.le_refl _) | exact Eq.refl true | exact (rfl : (_ : List Nat) = _) | exact Nat.le_of_ble_eq_true rfl | (refine inR_i64.mpr ?_; first | omega | (simp only [List.length_map]; omega)) | omega)
    refine xfinW (Weak.own 8 1 rfl) ?_
    (refine xfinOwn [1] (by first | exact .inl rfl | exact .inr rfl) rfl (by repeat' (first | exact trivial | exact rfl | refine And.intro ?_ ?_)) (by decide) rfl ?_ ?_ <;> simp -implicitDefEqProofs only [go_sem])
  · rw [hg] at c1
    rw [show touchOf t i w h = touched t (asked t i.toNat w h) by rw [touchOf, if_pos hg]]
    obtain ⟨g1, g2, g3⟩ := goodW_iff hg
    obtain ⟨htr, h0, hi⟩ := goodN_iff.1 g1
    have hk := treeK htr
    have hhi := hk.hi
    have hk2 := treeK (asked_ok htr hi g2 g3)
    have hal := asked_len (t := t) (i := i.toNat) (w := w) (h := h)
    have c2 := c_resized t hk hL _ hi w h
    rw [Int.toNat_of_nonneg h0] at c2
    rw [show touched t (asked t i.toNat w h) = toTo t (asked t i.toNat w h) t.length from rfl]
    generalize asked t i.toNat w h = t' at *
    have c3 := c_wantsOf t hk
    have c4 := c_wantsOf t' hk2
    have hw1 := wants_len t t.length
    have hw2 := wants_len t' t'.length
    refine ACon.introW tok (nt := 66) Try.func24 rfl rfl rfl (by kernel_rfl) rfl ?_
    repeat' (first | ((with_reducible apply xsim); (first | ((with_reducible apply xlenM); exact rfl; exact rfl) | ((with_reducible apply xo); exact rfl) | with_reducible apply xend | ((with_reducible apply xguardTS); exact rfl; exact rfl) | ((with_reducible apply xguardS); exact rfl; exact rfl) | ((with_reducible apply xbox); exact rfl; simp only [bkL, Nat.reduceAdd, Nat.reduceSub]) | ((with_reducible apply xbuild); exact rfl; exact rfl; exact rfl; exact rfl; exact rfl; simp only [bkL, Nat.reduceAdd, Nat.reduceSub]) | ((with_reducible apply xidxL); exact rfl; exact rfl; exact rfl; exact rfl; omega; first | exact rfl | simp only [hsz]) | ((with_reducible apply xidxM); exact rfl; exact rfl; exact rfl; omega; omega; exact rfl) | ((with_reducible apply xldA); exact rfl; exact rfl; exact rfl; exact rfl; exact rfl) | ((with_reducible apply xcallIs); exact rfl; exact rfl; (first | exact c1 | exact c2 | exact c3 | exact c4); exact rfl) | simp -implicitDefEqProofs only [go_sem, List.length_map])) | ((with_reducible apply xaw); (first | ((with_reducible apply xstepS); refine AW.step tok rfl ?_) | ((with_reducible apply xstep); refine AW.region tok rfl ?_) | with_reducible (first | refine AW.seq ?_ | refine AW.block ?_ | refine AW.skip ?_ | refine AW.ret ?_ | refine AW.exit ?_) | ((with_reducible apply xcond); exact rfl) | ((with_reducible apply xdrawS (id := 9)); refine AW.drawS (id := 9) (.q 0 (.q 1 (.q 2 (.q 3 (.q 4 (.q 5 (.q 6 (.q 7 (.q 8 (.q 9 (.q 10 (.q 11 (.q 12 (.q 13 (.q 14 (.q 15 (.q 16 (.q 17 (.q 18 (.q 19 (.q 20 (.q 21 (.q 22 (.q 23 (.q 24 (.q 25 (.fin))))))))))))))))))))))))))) tok (by kernel_rfl) rfl (by kernel_rfl) ?_) | ((with_reducible apply xdraw (id := 9)); refine AW.draw (id := 9) (.q 0 (.q 1 (.q 2 (.q 3 (.q 4 (.q 5 (.q 6 (.q 7 (.q 8 (.q 9 (.q 10 (.q 11 (.q 12 (.q 13 (.q 14 (.q 15 (.q 16 (.q 17 (.q 18 (.q 19 (.q 20 (.q 21 (.q 22 (.q 23 (.q 24 (.q 25 (.fin))))))))))))))))))))))))))) tok (by kernel_rfl) rfl (by kernel_rfl) ?_))) | ((with_reducible apply xarun); (first | ((with_reducible apply xrun_q); exact rfl; exact rfl; exact rfl) | ((with_reducible apply xrun_c); exact rfl; exact rfl; exact rfl; exact rfl; exact rfl; exact rfl; (first | exact c1 | exact c2 | exact c3 | exact c4); exact rfl) | ((with_reducible apply xrun_g); exact rfl; exact rfl; exact rfl; exact rfl; exact rfl; exact rfl) | ((with_reducible apply xrun_e); exact rfl) | with_reducible apply xrun_f)) | ((with_reducible apply xcallQ); exact rfl; exact rfl; (first | exact c1 | exact c2 | exact c3 | exact c4); exact rfl) | with_reducible (first | refine xthen ?_ | refine xthen_r ?_ | refine xthen_e ?_ | refine xblock ?_ | refine xblock_r ?_ | refine xblock_e ?_ | refine xblock_n rfl ?_ | refine xround_r ?_ | refine xround_e ?_) | (with_reducible intro hc; (try simp only [hcL, reduceCtorEq, List.length_map] at hc); (try (exfalso; omega))) | with_reducible (first | exact trivial | refine And.intro ?_ ?_ | exact rfl | exact Nat.le_refl _) | exact Eq.refl true | exact (rfl : (_ : List Nat) = _) | exact Nat.le_of_ble_eq_true rfl | (refine inR_i64.mpr ?_; first | omega | (simp only [List.length_map, List.length_map]; omega)) | omega)
    refine AW.loop (S := fun k : Nat => ⟨[(4, .oref 0 0), (9, .d (.lst ((wants t t.length).map encN))), (10, .d (.lst ((wants t' t'.length).map encN))), (11, .msl 1 1 0 (toTo t t' k).length), (12, .d (.int .i64 k))],
        [.box [.d (.lst (t.map encNode))], .arr 1 ((toTo t t' k).map encK)], 66, .p 0⟩)
      (Pre := fun k => k ≤ t.length) (μ := fun k => t.length - k) 0 (Nat.zero_le _) ?_ ?_
    · (refine xwk (π := [0, 1]) (by decide) rfl ?_ ?_; (first | exact trivial | simp -implicitDefEqProofs only [go_sem, toTo, List.range_zero, List.filter_nil]); repeat' (first | exact renE_n | ((with_reducible apply renE_c); exact rfl; focus (first | with_reducible exact rfl | (simp -implicitDefEqProofs only [go_sem, toTo, List.range_zero, List.filter_nil]; done) | (simp -implicitDefEqProofs only [go_sem, toTo, List.range_zero, List.filter_nil]; omega)))))
    intro k hkk
    have hcl : (toTo t t' k).length ≤ k := filter_len _ k
    by_cases hlt : k < t.length
    · obtain ⟨p1, p2⟩ := wants_get t t.length hlt
      obtain ⟨q1, q2⟩ := wants_get t' t'.length (i := k) (by omega)
      have w1 : ((wants t t.length).map encN)[((2 : Int) * (k : Int)).toNat]? = some (encN (wish t k).1) := by rw [show ((2 : Int) * (k : Int)).toNat = 2 * k by omega, List.getElem?_map, p1]; rfl
      have w2 : ((wants t t.length).map encN)[((2 : Int) * (k : Int) + 1).toNat]? = some (encN (wish t k).2) := by rw [show ((2 : Int) * (k : Int) + 1).toNat = 2 * k + 1 by omega, List.getElem?_map, p2]; rfl
      have w3 : ((wants t' t'.length).map encN)[((2 : Int) * (k : Int)).toNat]? = some (encN (wish t' k).1) := by rw [show ((2 : Int) * (k : Int)).toNat = 2 * k by omega, List.getElem?_map, q1]; rfl
      have w4 : ((wants t' t'.length).map encN)[((2 : Int) * (k : Int) + 1).toNat]? = some (encN (wish t' k).2) := by rw [show ((2 : Int) * (k : Int) + 1).toNat = 2 * k + 1 by omega, List.getElem?_map, q2]; rfl
      have hs := toTo_succ (t := t) (t' := t') (k := k)
      by_cases hc : (wish t k).1 ≠ (wish t' k).1 ∨ (wish t k).2 ≠ (wish t' k).2
      · rw [if_pos (show isTo t t' k = true from decide_eq_true (wish_ne.2 hc))] at hs
        repeat' (first | ((with_reducible apply xsim); (first | ((with_reducible apply xlenM); exact rfl; exact rfl) | ((with_reducible apply xo); exact rfl) | with_reducible apply xend | ((with_reducible apply xguardTS); exact rfl; exact rfl) | ((with_reducible apply xguardS); exact rfl; exact rfl) | ((with_reducible apply xbox); exact rfl; simp only [bkL, Nat.reduceAdd, Nat.reduceSub]) | ((with_reducible apply xbuild); exact rfl; exact rfl; exact rfl; exact rfl; exact rfl; simp only [bkL, Nat.reduceAdd, Nat.reduceSub]) | ((with_reducible apply xidxL); exact rfl; exact rfl; exact rfl; (first | exact w1 | exact w2 | exact w3 | exact w4); omega; first | exact rfl | simp only [hsz]) | ((with_reducible apply xidxM); exact rfl; exact rfl; exact rfl; omega; omega; exact rfl) | ((with_reducible apply xldA); exact rfl; exact rfl; exact rfl; (first | exact w1 | exact w2 | exact w3 | exact w4); exact rfl) | simp -implicitDefEqProofs only [go_sem, List.length_map])) | ((with_reducible apply xaw); (first | ((with_reducible apply xstepS); refine AW.step tok rfl ?_) | ((with_reducible apply xstep); refine AW.region tok rfl ?_) | with_reducible (first | refine AW.seq ?_ | refine AW.block ?_ | refine AW.skip ?_ | refine AW.ret ?_ | refine AW.exit ?_) | ((with_reducible apply xcond); exact rfl) | ((with_reducible apply xdrawS (id := 9)); refine AW.drawS (id := 9) (.q 0 (.q 1 (.q 2 (.q 3 (.q 4 (.q 5 (.q 6 (.q 7 (.q 8 (.q 9 (.q 10 (.q 11 (.q 12 (.q 13 (.q 14 (.q 15 (.q 16 (.q 17 (.q 18 (.q 19 (.q 20 (.q 21 (.q 22 (.q 23 (.q 24 (.q 25 (.fin))))))))))))))))))))))))))) tok (by kernel_rfl) rfl (by kernel_rfl) ?_) | ((with_reducible apply xdraw (id := 9)); refine AW.draw (id := 9) (.q 0 (.q 1 (.q 2 (.q 3 (.q 4 (.q 5 (.q 6 (.q 7 (.q 8 (.q 9 (.q 10 (.q 11 (.q 12 (.q 13 (.q 14 (.q 15 (.q 16 (.q 17 (.q 18 (.q 19 (.q 20 (.q 21 (.q 22 (.q 23 (.q 24 (.q 25 (.fin))))))))))))))))))))))))))) tok (by kernel_rfl) rfl (by kernel_rfl) ?_))) | ((with_reducible apply xarun); (first | ((with_reducible apply xrun_q); exact rfl; exact rfl; exact rfl) | ((with_reducible apply xrun_e); exact rfl) | with_reducible apply xrun_f)) | with_reducible (first | refine xthen ?_ | refine xthen_r ?_ | refine xthen_e ?_ | refine xblock ?_ | refine xblock_r ?_ | refine xblock_e ?_ | refine xblock_n rfl ?_ | refine xround_r ?_ | refine xround_e ?_) | (with_reducible intro hc; (try simp only [hcL, reduceCtorEq, List.length_map] at hc); (try (exfalso; omega))) | with_reducible (first | exact trivial | refine And.intro ?_ ?_ | exact rfl | exact Nat.le_refl _) | exact Eq.refl true | exact (rfl : (_ : List Nat) = _) | exact Nat.le_of_ble_eq_true rfl | (refine inR_i64.mpr ?_; first | omega | (simp only [List.length_map, List.length_map]; omega)) | omega)
        all_goals refine round_end (k+1) hlt (by omega) (by (refine xwk (π := [0, 3]) (by decide) rfl ?_ ?_; (first | exact trivial | simp -implicitDefEqProofs only [go_sem, hs, List.map_append, List.length_append]); repeat' (first | exact renE_n | ((with_reducible apply renE_c); exact rfl; focus (first | with_reducible exact rfl | (simp -implicitDefEqProofs only [go_sem, hs, List.map_append, List.length_append]; done) | (simp -implicitDefEqProofs only [go_sem, hs, List.map_append, List.length_append]; omega))))))
      · rw [if_neg (by simp only [isTo, decide_eq_true_eq, wish_ne]; exact hc), List.append_nil] at hs
        repeat' (first | ((with_reducible apply xsim); (first | ((with_reducible apply xlenM); exact rfl; exact rfl) | ((with_reducible apply xo); exact rfl) | with_reducible apply xend | ((with_reducible apply xguardTS); exact rfl; exact rfl) | ((with_reducible apply xguardS); exact rfl; exact rfl) | ((with_reducible apply xbox); exact rfl; simp only [bkL, Nat.reduceAdd, Nat.reduceSub]) | ((with_reducible apply xbuild); exact rfl; exact rfl; exact rfl; exact rfl; exact rfl; simp only [bkL, Nat.reduceAdd, Nat.reduceSub]) | ((with_reducible apply xidxL); exact rfl; exact rfl; exact rfl; (first | exact w1 | exact w2 | exact w3 | exact w4); omega; first | exact rfl | simp only [hsz]) | ((with_reducible apply xidxM); exact rfl; exact rfl; exact rfl; omega; omega; exact rfl) | ((with_reducible apply xldA); exact rfl; exact rfl; exact rfl; (first | exact w1 | exact w2 | exact w3 | exact w4); exact rfl) | simp -implicitDefEqProofs only [go_sem, List.length_map])) | ((with_reducible apply xaw); (first | ((with_reducible apply xstepS); refine AW.step tok rfl ?_) | ((with_reducible apply xstep); refine AW.region tok rfl ?_) | with_reducible (first | refine AW.seq ?_ | refine AW.block ?_ | refine AW.skip ?_ | refine AW.ret ?_ | refine AW.exit ?_) | ((with_reducible apply xcond); exact rfl) | ((with_reducible apply xdrawS (id := 9)); refine AW.drawS (id := 9) (.q 0 (.q 1 (.q 2 (.q 3 (.q 4 (.q 5 (.q 6 (.q 7 (.q 8 (.q 9 (.q 10 (.q 11 (.q 12 (.q 13 (.q 14 (.q 15 (.q 16 (.q 17 (.q 18 (.q 19 (.q 20 (.q 21 (.q 22 (.q 23 (.q 24 (.q 25 (.fin))))))))))))))))))))))))))) tok (by kernel_rfl) rfl (by kernel_rfl) ?_) | ((with_reducible apply xdraw (id := 9)); refine AW.draw (id := 9) (.q 0 (.q 1 (.q 2 (.q 3 (.q 4 (.q 5 (.q 6 (.q 7 (.q 8 (.q 9 (.q 10 (.q 11 (.q 12 (.q 13 (.q 14 (.q 15 (.q 16 (.q 17 (.q 18 (.q 19 (.q 20 (.q 21 (.q 22 (.q 23 (.q 24 (.q 25 (.fin))))))))))))))))))))))))))) tok (by kernel_rfl) rfl (by kernel_rfl) ?_))) | ((with_reducible apply xarun); (first | ((with_reducible apply xrun_q); exact rfl; exact rfl; exact rfl) | ((with_reducible apply xrun_e); exact rfl) | with_reducible apply xrun_f)) | with_reducible (first | refine xthen ?_ | refine xthen_r ?_ | refine xthen_e ?_ | refine xblock ?_ | refine xblock_r ?_ | refine xblock_e ?_ | refine xblock_n rfl ?_ | refine xround_r ?_ | refine xround_e ?_) | (with_reducible intro hc; (try simp only [hcL, reduceCtorEq, List.length_map] at hc); (try (exfalso; omega))) | with_reducible (first | exact trivial | refine And.intro ?_ ?_ | exact rfl | exact Nat.le_refl _) | exact Eq.refl true | exact (rfl : (_ : List Nat) = _) | exact Nat.le_of_ble_eq_true rfl | (refine inR_i64.mpr ?_; first | omega | (simp only [List.length_map, List.length_map]; omega)) | omega)
        all_goals refine round_end (k+1) hlt (by omega) (by (refine xwk (π := [0, 1]) (by decide) rfl ?_ ?_; (first | exact trivial | simp -implicitDefEqProofs only [go_sem, hs]); repeat' (first | exact renE_n | ((with_reducible apply renE_c); exact rfl; focus (first | with_reducible exact rfl | (simp -implicitDefEqProofs only [go_sem, hs]; done) | (simp -implicitDefEqProofs only [go_sem, hs]; omega))))))
    have hk' : k = t.length := by omega
    subst hk'
    repeat' (first | ((with_reducible apply xsim); (first | ((with_reducible apply xlenM); exact rfl; exact rfl) | ((with_reducible apply xo); exact rfl) | with_reducible apply xend | ((with_reducible apply xguardTS); exact rfl; exact rfl) | ((with_reducible apply xguardS); exact rfl; exact rfl) | ((with_reducible apply xbox); exact rfl; simp only [bkL, Nat.reduceAdd, Nat.reduceSub]) | ((with_reducible apply xbuild); exact rfl; exact rfl; exact rfl; exact rfl; exact rfl; simp only [bkL, Nat.reduceAdd, Nat.reduceSub]) | ((with_reducible apply xidxL); exact rfl; exact rfl; exact rfl; exact rfl; omega; first | exact rfl | simp only [hsz]) | ((with_reducible apply xidxM); exact rfl; exact rfl; exact rfl; omega; omega; exact rfl) | ((with_reducible apply xldA); exact rfl; exact rfl; exact rfl; exact rfl; exact rfl) | simp -implicitDefEqProofs only [go_sem, List.length_map])) | ((with_reducible apply xaw); (first | ((with_reducible apply xstepS); refine AW.step tok rfl ?_) | ((with_reducible apply xstep); refine AW.region tok rfl ?_) | with_reducible (first | refine AW.seq ?_ | refine AW.block ?_ | refine AW.skip ?_ | refine AW.ret ?_ | refine AW.exit ?_) | ((with_reducible apply xcond); exact rfl) | ((with_reducible apply xdrawS (id := 9)); refine AW.drawS (id := 9) (.q 0 (.q 1 (.q 2 (.q 3 (.q 4 (.q 5 (.q 6 (.q 7 (.q 8 (.q 9 (.q 10 (.q 11 (.q 12 (.q 13 (.q 14 (.q 15 (.q 16 (.q 17 (.q 18 (.q 19 (.q 20 (.q 21 (.q 22 (.q 23 (.q 24 (.q 25 (.fin))))))))))))))))))))))))))) tok (by kernel_rfl) rfl (by kernel_rfl) ?_) | ((with_reducible apply xdraw (id := 9)); refine AW.draw (id := 9) (.q 0 (.q 1 (.q 2 (.q 3 (.q 4 (.q 5 (.q 6 (.q 7 (.q 8 (.q 9 (.q 10 (.q 11 (.q 12 (.q 13 (.q 14 (.q 15 (.q 16 (.q 17 (.q 18 (.q 19 (.q 20 (.q 21 (.q 22 (.q 23 (.q 24 (.q 25 (.fin))))))))))))))))))))))))))) tok (by kernel_rfl) rfl (by kernel_rfl) ?_))) | ((with_reducible apply xarun); (first | ((with_reducible apply xrun_q); exact rfl; exact rfl; exact rfl) | ((with_reducible apply xrun_e); exact rfl) | with_reducible apply xrun_f)) | with_reducible (first | refine xthen ?_ | refine xthen_r ?_ | refine xthen_e ?_ | refine xblock ?_ | refine xblock_r ?_ | refine xblock_e ?_ | refine xblock_n rfl ?_ | refine xround_r ?_ | refine xround_e ?_) | (with_reducible intro hc; (try simp only [hcL, reduceCtorEq, List.length_map] at hc); (try (exfalso; omega))) | with_reducible (first | exact trivial | refine And.intro ?_ ?_ | exact rfl | exact Nat.le_refl _) | exact Eq.refl true | exact (rfl : (_ : List Nat) = _) | exact Nat.le_of_ble_eq_true rfl | (refine inR_i64.mpr ?_; first | omega | (simp only [List.length_map, List.length_map]; omega)) | omega)
    (refine xfinOwn [1] (by first | exact .inl rfl | exact .inr rfl) rfl (by repeat' (first | exact trivial | exact rfl | refine And.intro ?_ ?_)) (by decide) rfl ?_ ?_ <;> simp -implicitDefEqProofs only [go_sem])
end Go.Proofs.Ytpfhnhhkfobjnaa

namespace Go.Proofs.Ytpfhnhhkfobjnaa
open Go.Fw
attribute [local irreducible] Go.Fw.aops Go.Fw.arun

theorem touchOf_len2 {t : List Node} {i w h : Int} : (touchOf t i w h).length < 2^40 := by
  unfold touchOf
  split
  · rename_i hg
    obtain ⟨htr, _, _⟩ := goodN_iff.1 (goodW_iff hg).1
    have := (treeK htr).hi
    have := filter_len (isTo t (asked t i.toNat w h)) t.length
    exact Nat.lt_of_le_of_lt (Nat.le_trans this (treeK htr).hi) (by decide)
  · simp
set_option maxHeartbeats 4000000 in
theorem c_FnExactTouchedBy (t : List Node) (i w h : Int)(ht : okTree t) : ACon Try.prog 7 [vTree t, .d (.int .i64 i), .d (.int .i64 w), .d (.int .i64 h)] [] (Is (.d (.bool true))) := by
  obtain ⟨b1, b2⟩ := okTree_szT ht
  have c1 := c_szTree t b1 b2
  by_cases hz : szT t (2^20) < 0
  · generalize szT t (2^20) = r at *
    refine ACon.introW tok (nt := 84) Try.func7 rfl rfl rfl (by kernel_rfl) rfl ?_
    (refine AW.step tok rfl ?_; repeat' (first | ((with_reducible apply xsim); (first | ((with_reducible apply xo); exact rfl) | with_reducible apply xend | ((with_reducible apply xbox); exact rfl; simp only [bkL, Nat.reduceAdd, Nat.reduceSub]))) | with_reducible (first | exact trivial | refine And.intro ?_ ?_ | exact rfl)))
    refine AW.weak (Weak.freezeBox 4 0 (cells := encTree t) rfl rfl) ?_
    repeat' (first | ((with_reducible apply xsim); (first | ((with_reducible apply xo); exact rfl) | with_reducible apply xend | ((with_reducible apply xcallIs); exact rfl; exact rfl; exact c1; exact rfl))) | ((with_reducible apply xaw); (first | ((with_reducible apply xstepS); refine AW.step tok rfl ?_) | with_reducible (first | refine AW.seq ?_ | refine AW.ret ?_) | ((with_reducible apply xcond); exact rfl))) | with_reducible refine xthen_r ?_ | (with_reducible intro hc; (try simp only [hcL, reduceCtorEq] at hc); (try (exfalso; omega))) | with_reducible (first | exact trivial | refine And.intro ?_ ?_ | exact rfl) | exact Eq.refl true)
    all_goals (refine xfinIs (by first | exact .inl rfl | exact .inr rfl) rfl (by repeat' (first | exact trivial | exact rfl | refine And.intro ?_ ?_)) rfl ?_ rfl; first | with_reducible exact rfl)
  · have l1 := szT_le hz
    have hL := small_L l1
    have c2 := c_toTree t l1.1 l1.2
    have c3 := c_eqTree t b1 b2
    have cI := ORows.ints (c_TouchI t hL i w h)
    have cS := ORows.ints (c_TouchS t hL i w h)
    have hys : ((touchOf t i w h).map fun (k : Nat) => (k : Int)).length < 2^40 := by rw [List.length_map]; exact touchOf_len2
    generalize (touchOf t i w h).map (fun (k : Nat) => (k : Int)) = ys at *
    generalize szT t (2^20) = r at *
    have hn := marksN_len (v := 1) (n := ys.length)
    have htk : List.take ys.length ((marksN 1 ys.length).map encN) = (marksN 1 ys.length).map encN := List.take_of_length_le (by simp [hn])
    refine ACon.introL tok (nt := 84) (fun m => [.agg [.ld m (.lst (t.map encNode))], .d (.int .i64 i), .d (.int .i64 w), .d (.int .i64 h)]) (fun m => ⟨LA.one _, LA.same _, LA.same _, LA.same _,trivial⟩) Try.func7 rfl rfl rfl (by kernel_rfl) rfl ?_
    intro m
    have c4 := c_toTreeH m t l1.1 l1.2
    repeat' (first | ((with_reducible apply xsim); (first | ((with_reducible apply xo); exact rfl) | ((with_reducible apply xst); exact rfl) | with_reducible apply xend | ((with_reducible apply xalloc); exact rfl; simp only [bkL, Nat.reduceAdd, Nat.reduceSub]) | ((with_reducible apply xbox); exact rfl; simp only [bkL, Nat.reduceAdd, Nat.reduceSub]) | ((with_reducible apply xcallHi); exact rfl; exact rfl; exact rfl; exact c4; (first | exact .inl rfl | exact .inr rfl); exact rfl) | ((with_reducible apply xcallIs); exact rfl; exact rfl; (first | exact c1 | exact c2 | exact c3); exact rfl) | ((with_reducible apply xcallLend [3, 1]); exact rfl; exact c_laws.eqIntS ys (by omega); (focus (first | exact rfl | (simp -implicitDefEqProofs only [go_sem, ↓reduceIte, Nat.reduceEqDiff, htk, hn]; done))); exact rfl; exact rfl) | ((with_reducible apply xcallOwn); exact rfl; exact rfl; exact cS; simp only [bkL, Nat.reduceAdd, Nat.reduceSub]) | ((with_reducible apply xcallOwn); exact rfl; exact rfl; exact cI; simp only [bkL, Nat.reduceAdd, Nat.reduceSub]) | simp -implicitDefEqProofs only [go_sem, htk, hn])) | ((with_reducible apply xaw); (first | ((with_reducible apply xstepS); refine AW.step tok rfl ?_) | with_reducible (first | refine AW.seq ?_ | refine AW.skip ?_) | ((with_reducible apply xcond); exact rfl) | ((with_reducible apply xdraw (id := 10)); refine AW.draw (id := 10) (.q 0 (.q 1 (.q 2 (.q 3 (.q 4 (.fin)))))) tok (by kernel_rfl) rfl (by kernel_rfl) ?_))) | ((with_reducible apply xarun); (first | ((with_reducible apply xrun_q); exact rfl; exact rfl; exact rfl) | ((with_reducible apply xrun_c); exact rfl; exact rfl; exact rfl; exact rfl; exact rfl; exact rfl; (first | exact c1 | exact c2 | exact c3); exact rfl) | with_reducible apply xrun_f)) | with_reducible refine xthen ?_ | (with_reducible intro hc; (try simp only [hcL, reduceCtorEq, htk, hn] at hc); (try (exfalso; omega))) | with_reducible (first | exact trivial | refine And.intro ?_ ?_ | exact rfl) | exact Eq.refl true)
    with_reducible apply xcallMk [1, 2, 3, 4, 10, 12] (objs' := [.box [.ld m (.lst (t.map encNode))], .arr 1 (ys.map encN), .dead, .arr 1 (ys.map encN)])
    · exact rfl
    · exact rfl
    · exact c_markTreeW
    · exact wasTree l1.1 l1.2
    · exact IntB.flat
    · exact ⟨⟨rfl, rfl, trivial⟩, loArr (fun _ => rfl), trivial, loArr (fun _ => rfl), trivial⟩
    · repeat' (first | exact trivial | exact rfl | refine And.intro ?_ ?_)
    rintro _ ⟨k1, rfl, k2, k3⟩
    simp -implicitDefEqProofs only [go_sem]
    repeat' (first | ((with_reducible apply xsim); (first | ((with_reducible apply xo); exact rfl) | with_reducible apply xend | ((with_reducible apply xguardS); exact rfl; exact rfl) | ((with_reducible apply xcallHi); exact rfl; exact rfl; exact rfl; exact c4; (first | exact .inl rfl | exact .inr rfl); exact rfl) | ((with_reducible apply xcallLend [3, 1]); exact rfl; exact c_laws.eqIntS ys (by omega); (focus (first | exact rfl | (simp -implicitDefEqProofs only [go_sem, ↓reduceIte, Nat.reduceEqDiff, htk, hn]; done))); exact rfl; exact rfl) | ((with_reducible apply xcallLend [4, 1]); exact rfl; exact c_laws.eqIntS ys (by omega); (focus (first | exact rfl | (simp -implicitDefEqProofs only [go_sem, ↓reduceIte, Nat.reduceEqDiff, htk, hn]; done))); exact rfl; exact rfl) | ((with_reducible apply xcallLend [3]); exact rfl; exact c_heldIntS 1 ys.length (by omega) (by omega); (focus (first | exact rfl | (simp -implicitDefEqProofs only [go_sem, ↓reduceIte, Nat.reduceEqDiff, htk, hn]; done))); exact rfl; exact rfl) | ((with_reducible apply xcallOwn); exact rfl; exact rfl; exact cI; simp only [bkL, Nat.reduceAdd, Nat.reduceSub]) | ((with_reducible apply xcallHand 3); exact rfl; exact rfl; exact c_markIntS ys 1 (by omega) (by omega); (focus (first | exact rfl | (simp -implicitDefEqProofs only [go_sem, ↓reduceIte, Nat.reduceEqDiff, htk, hn]; done))); exact rfl; (first | exact .inl rfl | exact .inr ⟨_, _, rfl⟩); (try simp only [List.set_cons_zero, List.set_cons_succ])))) | ((with_reducible apply xaw); (first | ((with_reducible apply xstepS); refine AW.step tok rfl ?_) | with_reducible (first | refine AW.seq ?_ | refine AW.skip ?_ | refine AW.ret ?_) | ((with_reducible apply xcond); exact rfl))) | with_reducible refine xthen ?_ | (with_reducible intro hc; (try simp only [hcL, reduceCtorEq, htk, hn] at hc); (try (exfalso; omega))) | with_reducible (first | exact trivial | refine And.intro ?_ ?_ | exact rfl) | exact Eq.refl true)
    all_goals (refine xfinIs (by first | exact .inl rfl | exact .inr rfl) rfl (by repeat' (first | exact trivial | exact rfl | refine And.intro ?_ ?_)) rfl ?_ rfl; first | with_reducible exact rfl)
end Go.Proofs.Ytpfhnhhkfobjnaa

