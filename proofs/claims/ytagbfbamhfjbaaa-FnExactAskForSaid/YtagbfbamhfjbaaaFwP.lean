/- The abstract machine over the model and its proofs, joined out of several texts. -/
import Derived.Test.YtagbfbamhfjbaaaFwN

/- Operations one by one, and a region in the text's order. -/
set_option linter.unusedSimpArgs false
set_option linter.unusedVariables false
namespace Go.Fw

def isEff : Op → Bool
  | .alloc _ | .box .. | .buildSlice .. | .store .. | .makeSlice .. => true
  | .call { callee := .builtin .append, .. } => true
  | _ => false

/-- One operation without a guard. -/
def aop (TT : Nat → Option TI) (P : Program) (s : St) (dst : Option Nat) (op : Op) (K : St → Prop) : Prop :=
  match op with
  | .call { callee := .value f, args := args, .. } => (match s.ev f with
    | .d (.fn g cap) => ACall P s g (args.toList.map s.ev ++ cap.map .d) fun y s' => K (s'.put dst y)
    | _ => False)
  | op => if isEff op = true then aef TT s dst op K else pv TT s.ev s.objs op fun v => K (s.put dst v)

/-- One operation, with its guard. -/
def aopg (TT : Nat → Option TI) (P : Program) (ds : List (Option Nat)) (s : St) (o : Oper) (K : St → Prop) : Prop :=
  match o.guard with
  | none => aop TT P s o.dst o.op K
  | some (j, want) => (match ds[j]? with
    | some (some d) => (match getE s.env d with
      | .d (.bool b) => (b = want → aop TT P (s.put (some d) (.d (.bool want))) o.dst o.op K) ∧ (b = (!want) → K ((s.put (some d) (.d (.bool (!want)))).put o.dst (.tup [])))
      | .tup [] => K (s.put o.dst (.tup []))
      | _ => False)
    | _ => False)

/-- One operation without a guard; u: also those that write into data's memory. -/
def aopU (TT : Nat → Option TI) (P : Program) (u : Bool) (s : St) (dst : Option Nat) (op : Op) (K : St → Prop) : Prop :=
  match op with
  | .call { callee := .value f, args := args, argTypes := ts } => aop TT P s dst (.call { callee := .value f, args := args, argTypes := ts }) K ∨ u = true ∧ (match s.ev f with
    | .d (.fn g cap) => ACallX P s g (args.toList.map s.ev ++ cap.map .d) fun y s' => K (s'.put dst y)
    | _ => False)
  | .store t x v => aop TT P s dst (.store t x v) K ∨ u = true ∧ aopSt TT s dst t x v K
  | op => aop TT P s dst op K

/-- One operation, with its guard. -/
def aopgU (TT : Nat → Option TI) (P : Program) (ds : List (Option Nat) × Bool) (s : St) (o : Oper) (K : St → Prop) : Prop :=
  match o.guard with
  | none => aopU TT P ds.2 s o.dst o.op K
  | some (j, want) => (match ds.1[j]? with
    | some (some d) => (match getE s.env d with
      | .d (.bool b) => (b = want → aopU TT P ds.2 (s.put (some d) (.d (.bool want))) o.dst o.op K) ∧ (b = (!want) → K ((s.put (some d) (.d (.bool (!want)))).put o.dst (.tup [])))
      | .tup [] => K (s.put o.dst (.tup []))
      | _ => False)
    | _ => False)

def aops (TT : Nat → Option TI) (P : Program) (ds : List (Option Nat) × Bool) : List Oper → St → (St → Prop) → Prop
  | [], s, K => K s
  | o :: os, s, K => aopgU TT P ds s o fun s' => aops TT P ds os s' K

theorem aopU_false {TT : Nat → Option TI} {P : Program} {s : St} {dst : Option Nat} {op : Op} {K : St → Prop} (h : aopU TT P false s dst op K) : aop TT P s dst op K := by
  unfold aopU at h
  split at h
  · exact h.elim id (fun h => by cases h.1)
  · exact h.elim id (fun h => by cases h.1)
  · exact h

theorem aopU_of {TT : Nat → Option TI} {P : Program} {u : Bool} {s : St} {dst : Option Nat} {op : Op} {K : St → Prop} (h : aop TT P s dst op K) : aopU TT P u s dst op K := by
  unfold aopU
  split
  · exact .inl h
  · exact .inl h
  · exact h

theorem aopgU_false {TT : Nat → Option TI} {P : Program} {ds : List (Option Nat)} {s : St} {o : Oper} {K : St → Prop} (h : aopgU TT P (ds, false) s o K) : aopg TT P ds s o K := by
  obtain ⟨dst, op, ty, pos, af, g⟩ := o
  cases g with
  | none => exact aopU_false h
  | some q =>
    obtain ⟨j, want⟩ := q
    unfold aopgU at h
    unfold aopg
    simp only at h ⊢
    split at h
    · split at h
      · exact ⟨fun e => aopU_false (h.1 e), h.2⟩
      · exact h
      · exact h.elim
    · exact h.elim

def regB (n : Nat) (ops : List Oper) : Bool := ops.all fun o => match o.dst with | some d => decide (d < n) | none => true

section
variable {P : Program} {TT : Nat → Option TI} {w w' : World} {ok : Nat → Prop} {ρ : List (Option Nat)} {x : Ctx} {s : St} {a : Act}

theorem aef_sound (hT : TOk P TT) {K : St → Prop} {o : Oper} (hC : CCk x s a w ok ρ) (hdst : ∀ d, o.dst = some d → d < s.n) (h : aef TT s o.dst o.op K) : Ends P x K a o.dst (execOp a.eval o) w := by
  obtain ⟨hI, hF, hE, hn, hd, hx⟩ := hC
  unfold aef at h
  unfold execOp
  split at h
  · rename_i t ho
    rw [ho]
    split at h
    · rename_i ti ht
      exact alloc_sound hT hI hF hE hn hd hx hdst ht h
    · exact h.elim
  · rename_i t y ho
    rw [ho]
    split at h
    · rename_i cs hc
      exact box_sound hI hF hE hn hd hx hdst hc h
    · exact h.elim
  · rename_i t len parts ho
    rw [ho]
    split at h
    · rename_i e he
      obtain ⟨h1, h2, h⟩ := h
      split at h
      · rename_i rows hr
        exact buildSlice_sound hT hI hF hE hn hd hx hdst he h1 h2 hr h
      · exact h.elim
    · exact h.elim
  · rename_i t y v ho
    rw [ho]
    split at h
    · rename_i ti new ht hc
      obtain ⟨h1, h2, h⟩ := h
      exact store_sound hT hI hF hE hn hd hx h1 ht hc h2 h
    · exact h.elim
  · rename_i t l c ho
    rw [ho]
    split at h
    · rename_i e he
      split at h
      · rename_i n m z h1 h2 h3
        obtain ⟨rfl, h4, h5, h6, h⟩ := h
        exact makeSlice_sound hT hI hF hE hn hd hx hdst he h1 h2 h3 h4 h5 h6 h
      · exact h.elim
    · exact h.elim
  · rename_i args ts ho
    rw [ho]
    split at h
    · rename_i xo yo t u h1 h2
      obtain ⟨args⟩ := args
      obtain ⟨ts⟩ := ts
      simp only at h1 h2
      subst h1 h2
      split at h
      · rename_i e he
        obtain ⟨h3, h⟩ := h
        split at h
        · rename_i new hs
          obtain ⟨h4, h5, h⟩ := h
          have := append_sound (ty := o.type) hT hI hF hE hn hd hx hdst he h3 hs h4 h5 h
          have e : (⟨[xo, yo]⟩ : Array Operand).map a.eval = #[a.eval xo, a.eval yo] := by simp
          unfold Ends at this ⊢
          simp only [resolve, invoke, builtin, Sem.run_bind, Sem.run_pure, Result.andThen_ok, e] at this ⊢
          exact this
        · exact h.elim
      · exact h.elim
    · exact h.elim
  · exact h.elim

theorem CCk.put {dst : Option Nat} {V0 : V} {v : Value} (hC : CCk x s a w ok ρ) (hv : VRep w ok ρ V0 v) (hdst : ∀ d, dst = some d → d < s.n) : CCk x (s.put dst V0) (a.put dst v) w ok ρ := by
  obtain ⟨hI, hF, hE, hn, hd, hx⟩ := hC
  exact ⟨by rw [St.put_objs]; exact hI, by rw [St.put_objs]; exact hF, put_rep hE hv (fun d hd' => by rw [hn]; exact hdst d hd'), by rw [put_size, hn, St.put_n], by rw [put_defers]; exact hd, by rw [St.put_fx]; exact hx⟩

theorem CCk.cc (hC : CCk x s a w ok ρ) : CC x s a w := CC_iff.2 ⟨ok, ρ, hC⟩

theorem aop_sound (hT : TOk P TT) {K : St → Prop} {o : Oper} {Q : Exit → Act → World → Prop} (hC : CCk x s a w ok ρ) (hdst : ∀ d, o.dst = some d → d < s.n) (h : aop TT P s o.dst o.op K)
    {next : Act → World → Prop} (hnext : ∀ s' v w', K s' → CC x s' (a.put o.dst v) w' → next (a.put o.dst v) w') : o.wp P a w next Q := by
  unfold aop at h
  split at h
  · rename_i f args ts ho
    have hE := hC.env
    have hf := ev_rep hE f
    split at h
    · rename_i g cap hfe
      rw [hfe] at hf
      generalize hfv : a.eval f = fv at hf
      cases hf with | d hf =>
      cases hf with | @fn _ _ _ cv hn hcap =>
      obtain ⟨hcal, hcalls⟩ := call_sound (vs := (args.toList.map a.eval).toArray ++ cv) hC (by simp; omega) (fun i y hi => by
        rcases Nat.lt_or_ge i args.size with hlt | hge
        · rw [List.getElem?_append_left (by simpa using hlt), List.getElem?_map] at hi
          have hz : args.toList[i]? = some args[i] := by simp [hlt]
          rw [hz] at hi
          obtain rfl : s.ev args[i] = y := by simpa using hi
          have e : ((args.toList.map a.eval).toArray ++ cv).getD i undef = a.eval args[i] := by
            simp only [Array.getD_eq_getD_getElem?]
            rw [Array.getElem?_append_left (by simpa using hlt)]
            simp [hlt]
          rw [e]
          exact ev_rep hE _
        · rw [List.getElem?_append_right (by simpa using hge), List.getElem?_map] at hi
          simp only [List.length_map, Array.length_toList] at hi
          cases hz : cap[i - args.size]? with
          | none => rw [hz] at hi; simp at hi
          | some d =>
            rw [hz] at hi
            obtain rfl : V.d d = y := by simpa using hi
            have e : ((args.toList.map a.eval).toArray ++ cv).getD i undef = cv.getD (i - args.size) undef := by
              simp only [Array.getD_eq_getD_getElem?]
              rw [Array.getElem?_append_right (by simpa using hge)]
              simp
            rw [e]
            exact .d (hcap _ _ hz)) h
      have hexec : (execOp a.eval o).run P w = .ok (.enter g ((args.toList.map a.eval).toArray ++ cv)) w := by
        unfold execOp
        rw [ho]
        unfold callable at hcal
        cases hfn : P.funcs[g]? with
        | none => rw [hfn] at hcal; simp at hcal
        | some fn =>
          rw [hfn] at hcal
          simp only [Bool.and_eq_true, bne_iff_ne, ne_eq] at hcal
          have hbody : fn.body.isNone = false := by cases hb : fn.body <;> simp_all
          have hname : (fn.name == "runtime.NumGoroutine") = false := by simpa using hcal.1
          have hargs : args.map a.eval = (args.toList.map a.eval).toArray := by apply Array.ext'; rw [Array.toList_map]
          simp only [resolve, hfv, Deferred.ofValue, invoke, callFunc, Sem.run_bind, Sem.run_pure, Result.andThen_ok, run_program, hfn, hname, hbody, Bool.false_eq_true, if_false, hargs, Array.empty_append]
      show o.upon P a next Q _
      rw [hexec]
      show Calls P g _ w _
      refine hcalls.mono ?_
      rintro e w'' ⟨v, rfl, y, s', ok2, ρ2, hK, h1, h2, h3, hC2, hV⟩
      refine hnext _ _ _ hK (CCk.cc (hC2.put hV (fun d hd => by rw [h2]; exact hdst d hd)))
    · exact h.elim
  · split at h
    · rename_i he
      rcases aef_sound hT hC hdst h with ⟨v, w'', hr, s', hK, hCC⟩ | ⟨w'', hr, s', hK, hCC⟩
      · show o.upon P a next Q _
        rw [hr]
        exact hnext _ _ _ hK hCC
      · show o.upon P a next Q _
        rw [hr]
        exact hnext _ _ _ hK hCC
    · obtain ⟨y, v, hK, hr, hV⟩ := pv_sound hT (fun q => ev_rep hC.env q) hC.inv o h
      show o.upon P a next Q _
      rw [hr]
      exact hnext _ _ _ hK (hC.put hV hdst).cc

theorem aopU_sound (hT : TOk P TT) {K : St → Prop} {o : Oper} {Q : Exit → Act → World → Prop} {u : Bool} (hC : CCk x s a w ok ρ) (hdst : ∀ d, o.dst = some d → d < s.n) (h : aopU TT P u s o.dst o.op K)
    {next : Act → World → Prop} (hnext : ∀ s' v w', K s' → CC x s' (a.put o.dst v) w' → next (a.put o.dst v) w') : o.wp P a w next Q := by
  unfold aopU at h
  split at h
  · rename_i f args ts ho
    rcases h with h | ⟨_, h⟩
    · exact aop_sound hT hC hdst (by rw [ho]; exact h) hnext
    have hE := hC.env
    have hf := ev_rep hE f
    split at h
    · rename_i g cap hfe
      rw [hfe] at hf
      generalize hfv : a.eval f = fv at hf
      cases hf with | d hf =>
      cases hf with | @fn _ _ _ cv hn hcap =>
      obtain ⟨hcal, hcalls⟩ := callX_sound (vs := (args.toList.map a.eval).toArray ++ cv) hC (by simp; omega) (fun i y hi => by
        rcases Nat.lt_or_ge i args.size with hlt | hge
        · rw [List.getElem?_append_left (by simpa using hlt), List.getElem?_map] at hi
          have hz : args.toList[i]? = some args[i] := by simp [hlt]
          rw [hz] at hi
          obtain rfl : s.ev args[i] = y := by simpa using hi
          have e : ((args.toList.map a.eval).toArray ++ cv).getD i undef = a.eval args[i] := by
            simp only [Array.getD_eq_getD_getElem?]
            rw [Array.getElem?_append_left (by simpa using hlt)]
            simp [hlt]
          rw [e]
          exact ev_rep hE _
        · rw [List.getElem?_append_right (by simpa using hge), List.getElem?_map] at hi
          simp only [List.length_map, Array.length_toList] at hi
          cases hz : cap[i - args.size]? with
          | none => rw [hz] at hi; simp at hi
          | some d =>
            rw [hz] at hi
            obtain rfl : V.d d = y := by simpa using hi
            have e : ((args.toList.map a.eval).toArray ++ cv).getD i undef = cv.getD (i - args.size) undef := by
              simp only [Array.getD_eq_getD_getElem?]
              rw [Array.getElem?_append_right (by simpa using hge)]
              simp
            rw [e]
            exact .d (hcap _ _ hz)) h
      have hexec : (execOp a.eval o).run P w = .ok (.enter g ((args.toList.map a.eval).toArray ++ cv)) w := by
        unfold execOp
        rw [ho]
        unfold callable at hcal
        cases hfn : P.funcs[g]? with
        | none => rw [hfn] at hcal; simp at hcal
        | some fn =>
          rw [hfn] at hcal
          simp only [Bool.and_eq_true, bne_iff_ne, ne_eq] at hcal
          have hbody : fn.body.isNone = false := by cases hb : fn.body <;> simp_all
          have hname : (fn.name == "runtime.NumGoroutine") = false := by simpa using hcal.1
          have hargs : args.map a.eval = (args.toList.map a.eval).toArray := by apply Array.ext'; rw [Array.toList_map]
          simp only [resolve, hfv, Deferred.ofValue, invoke, callFunc, Sem.run_bind, Sem.run_pure, Result.andThen_ok, run_program, hfn, hname, hbody, Bool.false_eq_true, if_false, hargs, Array.empty_append]
      show o.upon P a next Q _
      rw [hexec]
      show Calls P g _ w _
      refine hcalls.mono ?_
      rintro e w'' ⟨v, rfl, y, s', ok2, ρ2, hK, h2, hC2, hV⟩
      refine hnext _ _ _ hK (CCk.cc (hC2.put hV (fun d hd => by rw [h2]; exact hdst d hd)))
    · exact h.elim
  · rename_i t y v ho
    rcases h with h | ⟨_, h⟩
    · exact aop_sound hT hC hdst (by rw [ho]; exact h) hnext
    obtain ⟨h1, w', h2, h3, h4⟩ := aopSt_sound hT hC h
    show o.upon P a next Q _
    unfold execOp
    rw [ho]
    simp only
    rw [h2]
    have e : a = a.put o.dst undef := by rw [h1]; rfl
    show next (a.put o.dst undef) w'
    refine hnext _ _ _ h3 ?_
    rw [← e]; exact h4.cc
  · exact aop_sound hT hC hdst h hnext

theorem aops_sound (hT : TOk P TT) {ops : Array Oper} {Q : Exit → St → Prop} {n : Nat} {u : Bool} (hb : regB n ops.toList = true) :
    ∀ (l : List Oper) (k : Nat) (s : St) (a : Act) (w : World), (∀ j, l[j]? = ops[k + j]?) → a.tmps.size = n → aops TT P (ops.toList.map (·.dst), u) l s (Q .normal) → CC x s a w →
      wpOps P ops (fun e a' w' => ∃ s', Q e s' ∧ CC x s' a' w') (List.range' k l.length) a w := by
  intro l
  induction l with
  | nil =>
    intro k s a w _ _ h hC
    exact ⟨s, h, hC⟩
  | cons o l ih =>
    intro k s a w hl hn h hC
    have hk : ops[k]? = some o := by have := hl 0; simpa using this.symm
    have hl' : ∀ j, l[j]? = ops[k + 1 + j]? := fun j => by have := hl (j + 1); rw [show k + 1 + j = k + (j + 1) by omega]; simpa using this
    have hdst : ∀ d, o.dst = some d → d < n := by
      intro d hd
      have hm : o ∈ ops.toList := by rw [List.mem_iff_getElem?]; exact ⟨k, by simpa using hk⟩
      have := List.all_eq_true.1 hb o hm
      rw [hd] at this
      simpa using this
    obtain ⟨ok, ρ, hCk⟩ := CC_iff.1 hC
    have hsn : s.n = n := by rw [← hCk.size]; exact hn
    simp only [List.length_cons, List.range'_succ, wpOps, hk]
    simp only [aops] at h
    unfold aopgU at h
    split at h
    · rename_i hg
      have hw : Region.wanted o (yielded ops a.tmps) = true := by simp [Region.wanted, hg]
      rw [if_pos hw]
      refine .inl (aopU_sound hT hCk (fun d hd => by rw [hsn]; exact hdst d hd) h (fun s' v w' hK hC' => ?_))
      exact ih (k + 1) s' _ w' hl' (by rw [put_size]; exact hn) hK hC'
    · rename_i j want hg
      split at h
      · rename_i d hd
        split at h
        · rename_i b hbv
          obtain ⟨h1, h2⟩ := h
          have hv := hCk.env d
          rw [hbv] at hv
          have hbe := hv.bool_eq
          have hoj : (ops[j]?).bind (·.dst) = some d := by
            rw [List.getElem?_map] at hd
            cases hoj : ops[j]? with
            | none => simp [hoj] at hd
            | some oj => simp [hoj] at hd; simp [hd]
          have hdl : d < a.tmps.size := by
            cases hoj2 : ops[j]? with
            | none => rw [hoj2] at hoj; simp at hoj
            | some oj =>
              rw [hoj2] at hoj
              have hm : oj ∈ ops.toList := by rw [List.mem_iff_getElem?]; exact ⟨j, by simpa using hoj2⟩
              have := List.all_eq_true.1 hb oj hm
              simp only [Option.bind_some] at hoj
              rw [hoj] at this
              rw [hn]
              simpa using this
          have hyield : yielded ops a.tmps j = some b := by
            simp only [yielded, hoj, Option.bind_some]
            have : a.tmps[d]? = some (.bool b) := by
              rw [Array.getElem?_eq_getElem hdl]
              simp [Array.getD, hdl] at hbe
              rw [hbe]
            rw [this]
          have hfix : ∀ c, b = c → CCk x (s.put (some d) (.d (.bool c))) a w ok ρ := by
            intro c hc
            subst hc
            obtain ⟨hI, hF, hE, hn', hd', hx⟩ := hCk
            refine ⟨hI, hF, fun q => ?_, hn', hd', hx⟩
            simp only [St.put, getE]
            split
            · rename_i e; subst e; rw [hbe]; exact .d .bool
            · exact hE q
          by_cases hbw : b = want
          · have hw : Region.wanted o (yielded ops a.tmps) = true := by simp [Region.wanted, hg, hyield, hbw]
            rw [if_pos hw]
            refine .inl (aopU_sound hT (hfix want hbw) (fun d' hd' => by rw [St.put_n, hsn]; exact hdst d' hd') (h1 hbw) (fun s' v w' hK hC' => ?_))
            exact ih (k + 1) s' _ w' hl' (by rw [put_size]; exact hn) hK hC'
          · have hbw' : b = !want := by cases b <;> cases want <;> simp_all
            have hw : ¬ Region.wanted o (yielded ops a.tmps) = true := by simp [Region.wanted, hg, hyield, hbw]
            rw [if_neg hw]
            refine ih (k + 1) _ _ w hl' (by rw [put_size]; exact hn) (h2 hbw') ?_
            exact ((hfix _ hbw').put skip_rep (fun d' hd' => by rw [St.put_n, hsn]; exact hdst d' hd')).cc
        · rename_i hbv
          have hv := hCk.env d
          rw [hbv] at hv
          have hbe := skip_eq hv
          have hoj : (ops[j]?).bind (·.dst) = some d := by
            rw [List.getElem?_map] at hd
            cases hoj : ops[j]? with
            | none => simp [hoj] at hd
            | some oj => simp [hoj] at hd; simp [hd]
          have hyield : yielded ops a.tmps j = none := by
            simp only [yielded, hoj, Option.bind_some]
            cases ht : a.tmps[d]? with
            | none => rfl
            | some u =>
              have : u = undef := by rw [← hbe]; simp [Array.getD_eq_getD_getElem?, ht]
              subst this; rfl
          have hw : ¬ Region.wanted o (yielded ops a.tmps) = true := by simp [Region.wanted, hg, hyield]
          rw [if_neg hw]
          refine ih (k + 1) _ _ w hl' (by rw [put_size]; exact hn) h ?_
          exact (hCk.put skip_rep (fun d' hd' => by rw [hsn]; exact hdst d' hd')).cc
        · exact h.elim
      · exact h.elim

end
end Go.Fw

/- Code: the rules by which a function's body is gone through on the abstract machine. -/
set_option linter.unusedSimpArgs false
set_option linter.unusedVariables false
namespace Go.Fw

/-- From the state s on, the code ends in a state of which Q speaks. -/
structure AW (P : Program) (c : Code) (Q : Exit → St → Prop) (s : St) : Prop where
  run : ∀ x a w, CC x s a w → c.wp P (fun e a' w' => ∃ s', Q e s' ∧ CC x s' a' w') a w

/-- All that s stands for is stood for by s'. -/
structure Weak (s s' : St) : Prop where
  run : ∀ x a w, CC x s a w → CC x s' a w

theorem Weak.refl (s : St) : Weak s s := ⟨fun _ _ _ h => h⟩
theorem Weak.trans {s s' s'' : St} (h : Weak s s') (h' : Weak s' s'') : Weak s s'' := ⟨fun x a w hC => h'.run x a w (h.run x a w hC)⟩

section
variable {P : Program} {TT : Nat → Option TI} {Q : Exit → St → Prop} {s : St}

theorem AW.mono {c : Code} {Q' : Exit → St → Prop} (h : AW P c Q s) (hq : ∀ e s', Q e s' → Q' e s') : AW P c Q' s :=
  ⟨fun x a w hC => wp_mono (h.run x a w hC) fun _ _ _ ⟨s', h1, h2⟩ => ⟨s', hq _ _ h1, h2⟩⟩

theorem AW.weak {c : Code} {s' : St} (hw : Weak s s') (h : AW P c Q s') : AW P c Q s := ⟨fun x a w hC => h.run x a w (hw.run x a w hC)⟩

theorem AW.skip (h : Q .normal s) : AW P .skip Q s := ⟨fun x a w hC => wp_skip ⟨s, h, hC⟩⟩
theorem AW.ret (h : Q .ret s) : AW P .ret Q s := ⟨fun x a w hC => wp_ret ⟨s, h, hC⟩⟩
theorem AW.exit {id : Nat} (h : Q (.exit id) s) : AW P (.exit id) Q s := ⟨fun x a w hC => wp_exit ⟨s, h, hC⟩⟩

/-- What is asked of the first of two codes. -/
def thenQ (P : Program) (b : Code) (Q : Exit → St → Prop) : Exit → St → Prop
  | .normal, s => AW P b Q s
  | e, s => Q e s

theorem AW.seq {c d : Code} (h : AW P c (thenQ P d Q) s) : AW P (.seq c d) Q s := by
  refine ⟨fun x a w hC => ?_⟩
  refine wp_seq (wp_mono (h.run x a w hC) ?_)
  rintro e a' w' ⟨s', h1, h2⟩
  cases e with
  | normal => exact h1.run x a' w' h2
  | _ => exact ⟨s', h1, h2⟩

theorem AW.region (hT : TOk P TT) {id : Nat} {l : List Oper} (hb : regB s.n l = true) (h : aops TT P (l.map (·.dst), true) l s (Q .normal)) : AW P (.region id ⟨l⟩ false) Q s := by
  refine ⟨fun x a w hC => ?_⟩
  have hn : a.tmps.size = s.n := by obtain ⟨ok, ρ, h⟩ := CC_iff.1 hC; exact h.size
  refine wp_region ?_
  have := aops_sound (ops := ⟨l⟩) hT hb l 0 s a w (fun j => by simp) hn h hC
  rwa [← List.range_eq_range'] at this

/-- A region, and what follows it. -/
theorem AW.step (hT : TOk P TT) {id : Nat} {l : List Oper} {c : Code} (hb : regB s.n l = true) (h : aops TT P (l.map (·.dst), true) l s fun s' => AW P c Q s') : AW P (.seq (.region id ⟨l⟩ false) c) Q s :=
  .seq (.region hT hb h)

theorem AW.cond {c : Operand} {d e : Code} {t : Bool} (hc : s.ev c = .d (.bool t)) (h1 : t = true → AW P d Q s) (h2 : t = false → AW P e Q s) : AW P (.cond c d e) Q s := by
  refine ⟨fun x a w hC => ?_⟩
  obtain ⟨ok, ρ, hk⟩ := CC_iff.1 hC
  have hv := ev_rep hk.env c
  rw [hc] at hv
  exact wp_cond_split (hv.bool_eq) (fun h => (h1 h).run x a w hC) (fun h => (h2 h).run x a w hC)

/-- What is asked of a block's code. -/
def blockQ (id : Nat) (Q : Exit → St → Prop) : Exit → St → Prop
  | .exit i, s => if i = id then Q .normal s else Q (.exit i) s
  | e, s => Q e s

theorem AW.block {id : Nat} {c : Code} (h : AW P c (blockQ id Q) s) : AW P (.block id c) Q s := by
  refine ⟨fun x a w hC => ?_⟩
  refine wp_block (wp_mono (h.run x a w hC) ?_)
  rintro e a' w' ⟨s', h1, h2⟩
  cases e with
  | exit i =>
    simp only [blockQ, Exit.inBlock] at h1 ⊢
    split
    · rename_i he; rw [if_pos he] at h1; exact ⟨s', h1, h2⟩
    · rename_i he; rw [if_neg he] at h1; exact ⟨s', h1, h2⟩
  | _ => exact ⟨s', h1, h2⟩

/-- What is asked of a loop's round. -/
def roundQ {α : Type} (S : α → St) (Pre : α → Prop) (μ : α → Nat) (i : α) (Q : Exit → St → Prop) : Exit → St → Prop
  | .normal, s => ∃ j, Pre j ∧ μ j < μ i ∧ Weak s (S j)
  | e, s => Q e s

theorem AW.loop {α : Type} {c : Code} (S : α → St) (Pre : α → Prop) (μ : α → Nat) (i0 : α) (hp : Pre i0) (hw : Weak s (S i0))
    (round : ∀ i, Pre i → AW P c (roundQ S Pre μ i Q) (S i)) : AW P (.loop c) Q s := by
  refine ⟨fun x a w hC => ?_⟩
  let I : Act → World → Prop := fun a w => ∃ i, Pre i ∧ CC x (S i) a w
  have hmin : ∀ a w, I a w → ∃ i, Pre i ∧ CC x (S i) a w ∧ ∀ j, Pre j → CC x (S j) a w → μ i ≤ μ j := by
    intro a w ⟨i, h1, h2⟩
    have key : ∀ n i, μ i = n → Pre i → CC x (S i) a w → ∃ i, Pre i ∧ CC x (S i) a w ∧ ∀ j, Pre j → CC x (S j) a w → μ i ≤ μ j := by
      intro n
      induction n using Nat.strongRecOn with
      | _ n ih =>
        intro i hn h1 h2
        by_cases hb : ∃ j, Pre j ∧ CC x (S j) a w ∧ μ j < μ i
        · obtain ⟨j, e1, e2, e3⟩ := hb
          exact ih (μ j) (hn ▸ e3) j rfl e1 e2
        · exact ⟨i, h1, h2, fun j e1 e2 => Nat.le_of_not_lt fun hlt => hb ⟨j, e1, e2, hlt⟩⟩
    exact key _ i rfl h1 h2
  let m : Act → World → Nat := fun a w => open Classical in if h : I a w then μ (Classical.choose (hmin a w h)) else 0
  refine wp_loop I m ⟨i0, hp, hw.run x a w hC⟩ ?_
  intro a w hI
  have hch := Classical.choose_spec (hmin a w hI)
  have hm : m a w = μ (Classical.choose (hmin a w hI)) := by simp only [m]; rw [dif_pos hI]
  obtain ⟨h1, h2, _⟩ := hch
  refine wp_mono ((round _ h1).run x a w h2) ?_
  rintro e a' w' ⟨s', h3, h4⟩
  cases e with
  | normal =>
    obtain ⟨j, e1, e2, e3⟩ := h3
    have hI' : I a' w' := ⟨j, e1, e3.run x a' w' h4⟩
    refine ⟨hI', ?_⟩
    have hch' := Classical.choose_spec (hmin a' w' hI')
    have hm' : m a' w' = μ (Classical.choose (hmin a' w' hI')) := by simp only [m]; rw [dif_pos hI']
    rw [hm, hm']
    exact Nat.lt_of_le_of_lt (hch'.2.2 j e1 (e3.run x a' w' h4)) e2
  | _ => exact ⟨s', h3, h4⟩

/-! ### A weaker state: other names for objects, fewer slots -/

mutual
/-- The value under the old names of objects. -/
def renV (π : List Nat) : V → Option V
  | .msl j sz off len => (π[j]?).map fun i => .msl i sz off len
  | .oref j off => (π[j]?).map fun i => .oref i off
  | .aref j sz i off => (π[j]?).map fun k => .aref k sz i off
  | .agg cs => (renVs π cs).map .agg
  | .tup cs => (renVs π cs).map .tup
  | .d x => some (.d x)
  | .nils => some .nils
  | .any => some .any
  | .hd n x => some (.hd n x)
  | .ld n x => some (.ld n x)
  | .iv lo hi x => some (.iv lo hi x)
def renVs (π : List Nat) : List V → Option (List V)
  | [] => some []
  | c :: cs => match renV π c, renVs π cs with
    | some x, some xs => some (x :: xs)
    | _, _ => none
end

def renO (π : List Nat) : O → Option O
  | .box cells => (renVs π cells).map .box
  | o => some o

/-- The objects os are those of objs with the numbers π. -/
def renOs (π : List Nat) (objs : List O) : List Nat → List O → Prop
  | [], [] => True
  | i :: is, o :: os => (o = .dead ∧ i < objs.length ∨ ∃ o', renO π o = some o' ∧ objs[i]? = some o') ∧ renOs π objs is os
  | _, _ => False

theorem renVs_get {π : List Nat} : ∀ {cs xs : List V}, renVs π cs = some xs → xs.length = cs.length ∧ ∀ (i : Nat) c, cs[i]? = some c → ∃ y, xs[i]? = some y ∧ renV π c = some y
  | [], xs, h => by obtain rfl : [] = xs := by simpa [renVs] using h
                    simp
  | c :: cs, xs, h => by
    simp only [renVs] at h
    split at h
    · rename_i y ys h1 h2
      obtain rfl : y :: ys = xs := by simpa using h
      obtain ⟨h3, h4⟩ := renVs_get h2
      refine ⟨by simp [h3], fun i c' hi => ?_⟩
      cases i with
      | zero => obtain rfl : c = c' := by simpa using hi
                exact ⟨y, rfl, h1⟩
      | succ i => exact h4 i c' (by simpa using hi)
    · simp at h

theorem renV_sound {w : World} {ok : Nat → Prop} {ρ ρ' : List (Option Nat)} {π : List Nat} (hρ : ∀ (j i : Nat) (b : Option Nat), π[j]? = some i → ρ[i]? = some b → ρ'[j]? = some b) {y : V} {v : Value}
    (h : VRep w ok ρ y v) : ∀ {y' : V}, renV π y' = some y → VRep w ok ρ' y' v := by
  have hm : ∀ (j : Nat) (f : Nat → V) (y : V), (π[j]?).map f = some y → ∃ i, π[j]? = some i ∧ f i = y := by
    intro j f y h
    cases hj : π[j]? with
    | none => rw [hj] at h; simp at h
    | some i => rw [hj] at h; exact ⟨i, rfl, by simpa using h⟩
  have hvs : ∀ (f : List V → V) (cs : List V) (y : V), (renVs π cs).map f = some y → ∃ xs, renVs π cs = some xs ∧ f xs = y := by
    intro f cs y h
    cases hj : renVs π cs with
    | none => rw [hj] at h; simp at h
    | some i => rw [hj] at h; exact ⟨i, rfl, by simpa using h⟩
  induction h with
  | d h =>
    intro y' hy
    cases y' <;> simp only [renV] at hy
    all_goals first
      | (obtain ⟨i, e1, e2⟩ := hm _ _ _ hy; cases e2; done)
      | (obtain ⟨i, e1, e2⟩ := hvs _ _ _ hy; cases e2; done)
      | (simp at hy; done)
      | (cases hy; exact .d h)
  | oref h =>
    intro y' hy
    cases y' <;> simp only [renV] at hy
    all_goals first
      | (obtain ⟨i, e1, e2⟩ := hm _ _ _ hy; cases e2; exact .oref (hρ _ _ _ e1 h))
      | (obtain ⟨i, e1, e2⟩ := hm _ _ _ hy; cases e2; done)
      | (obtain ⟨i, e1, e2⟩ := hvs _ _ _ hy; cases e2; done)
      | (simp at hy; done)
  | aref h =>
    intro y' hy
    cases y' <;> simp only [renV] at hy
    all_goals first
      | (obtain ⟨i, e1, e2⟩ := hm _ _ _ hy; cases e2; exact .aref (hρ _ _ _ e1 h))
      | (obtain ⟨i, e1, e2⟩ := hm _ _ _ hy; cases e2; done)
      | (obtain ⟨i, e1, e2⟩ := hvs _ _ _ hy; cases e2; done)
      | (simp at hy; done)
  | msl h hc hs hn =>
    intro y' hy
    cases y' <;> simp only [renV] at hy
    all_goals first
      | (obtain ⟨i, e1, e2⟩ := hm _ _ _ hy; cases e2; exact .msl (hρ _ _ _ e1 h) hc hs hn)
      | (obtain ⟨i, e1, e2⟩ := hm _ _ _ hy; cases e2; done)
      | (obtain ⟨i, e1, e2⟩ := hvs _ _ _ hy; cases e2; done)
      | (simp at hy; done)
  | msl0 h =>
    intro y' hy
    cases y' <;> simp only [renV] at hy
    all_goals first
      | (obtain ⟨i, e1, e2⟩ := hm _ _ _ hy; cases e2; exact .msl0 (List.getElem?_eq_some_iff.1 (hρ _ _ _ e1 (List.getElem?_eq_getElem h))).1)
      | (obtain ⟨i, e1, e2⟩ := hm _ _ _ hy; cases e2; done)
      | (obtain ⟨i, e1, e2⟩ := hvs _ _ _ hy; cases e2; done)
      | (simp at hy; done)
  | nils =>
    intro y' hy
    cases y' <;> simp only [renV] at hy
    all_goals first
      | (obtain ⟨i, e1, e2⟩ := hm _ _ _ hy; cases e2; done)
      | (obtain ⟨i, e1, e2⟩ := hvs _ _ _ hy; cases e2; done)
      | exact .nils
      | (simp at hy; done)
  | @agg cs vs hn h ih =>
    intro y' hy
    cases y' <;> simp only [renV] at hy
    all_goals first
      | (obtain ⟨i, e1, e2⟩ := hm _ _ _ hy; cases e2; done)
      | (simp at hy; done)
      | (obtain ⟨i, e1, e2⟩ := hvs _ _ _ hy
         cases e2
         obtain ⟨g1, g2⟩ := renVs_get e1
         refine .agg (by omega) (fun k c hk => ?_)
         obtain ⟨c', f1, f2⟩ := g2 k c hk
         exact ih k c' f1 f2)
      | (obtain ⟨i, e1, e2⟩ := hvs _ _ _ hy; cases e2; done)
  | @tup cs vs hn h ih =>
    intro y' hy
    cases y' <;> simp only [renV] at hy
    all_goals first
      | (obtain ⟨i, e1, e2⟩ := hm _ _ _ hy; cases e2; done)
      | (simp at hy; done)
      | (obtain ⟨i, e1, e2⟩ := hvs _ _ _ hy
         cases e2
         obtain ⟨g1, g2⟩ := renVs_get e1
         refine .tup (by omega) (fun k c hk => ?_)
         obtain ⟨c', f1, f2⟩ := g2 k c hk
         exact ih k c' f1 f2)
      | (obtain ⟨i, e1, e2⟩ := hvs _ _ _ hy; cases e2; done)
  | any =>
    intro y' hy
    cases y' <;> simp only [renV] at hy
    all_goals first
      | (obtain ⟨i, e1, e2⟩ := hm _ _ _ hy; cases e2; done)
      | (obtain ⟨i, e1, e2⟩ := hvs _ _ _ hy; cases e2; done)
      | exact .any
      | (simp at hy; done)
  | hd h0 =>
    intro y' hy
    cases y' <;> simp only [renV] at hy
    all_goals first
      | (obtain ⟨i, e1, e2⟩ := hm _ _ _ hy; cases e2; done)
      | (obtain ⟨i, e1, e2⟩ := hvs _ _ _ hy; cases e2; done)
      | (simp only [Option.some.injEq, V.hd.injEq] at hy; obtain ⟨rfl, rfl⟩ := hy; exact .hd h0)
      | (simp at hy; done)
  | ld h0 =>
    intro y' hy
    cases y' <;> simp only [renV] at hy
    all_goals first
      | (obtain ⟨i, e1, e2⟩ := hm _ _ _ hy; cases e2; done)
      | (obtain ⟨i, e1, e2⟩ := hvs _ _ _ hy; cases e2; done)
      | (simp only [Option.some.injEq, V.ld.injEq] at hy; obtain ⟨rfl, rfl⟩ := hy; exact .ld h0)
      | (simp at hy; done)
  | iv h0 =>
    intro y' hy
    cases y' <;> simp only [renV] at hy
    all_goals first
      | (obtain ⟨i, e1, e2⟩ := hm _ _ _ hy; cases e2; done)
      | (obtain ⟨i, e1, e2⟩ := hvs _ _ _ hy; cases e2; done)
      | (simp only [Option.some.injEq, V.iv.injEq] at hy; obtain ⟨rfl, rfl, rfl⟩ := hy; exact .iv h0)
      | (simp at hy; done)

theorem renOs_get {π : List Nat} {objs : List O} : ∀ {is : List Nat} {os : List O}, renOs π objs is os → os.length = is.length ∧ ∀ (j : Nat) o, os[j]? = some o → ∃ i, is[j]? = some i ∧ (o = .dead ∧ i < objs.length ∨ ∃ o', renO π o = some o' ∧ objs[i]? = some o')
  | [], [], _ => by simp
  | [], _ :: _, h => by simp [renOs] at h
  | _ :: _, [], h => by simp [renOs] at h
  | i :: is, o :: os, h => by
    simp only [renOs] at h
    obtain ⟨h3, h4⟩ := renOs_get h.2
    refine ⟨by simp [h3], fun j o' hj => ?_⟩
    cases j with
    | zero => obtain rfl : o = o' := by simpa using hj
              exact ⟨i, rfl, h.1⟩
    | succ j => exact h4 j o' (by simpa using hj)

theorem renO_live {π : List Nat} {o o' : O} (h : renO π o = some o') : o'.live = o.live := by
  cases o with
  | dead => obtain rfl : _ = o' := by simpa [renO] using h
            rfl
  | arr => obtain rfl : _ = o' := by simpa [renO] using h
           rfl
  | box cells =>
    simp only [renO] at h
    cases hc : renVs π cells with
    | none => rw [hc] at h; simp at h
    | some xs => rw [hc] at h; obtain rfl : _ = o' := by simpa using h
                 rfl

/-- The objects under new names. -/
theorem ren_core {w : World} {ok : Nat → Prop} {ρ : List (Option Nat)} {objs os : List O} {x : Ctx} {π : List Nat} {fx : Nat} (hI : Inv w ok ρ objs) (hF : Frm x w ok ρ objs) (hx : x.objs.length = fx)
    (hnd : π.Nodup) (hid : ∀ i, i < fx → π[i]? = some i) (ho : renOs π objs π os) :
    ∃ ρ', Inv w ok ρ' os ∧ Frm x w ok ρ' os ∧ ∀ (y y' : V) (v : Value), renV π y' = some y → VRep w ok ρ y v → VRep w ok ρ' y' v := by
  obtain ⟨hl, hg⟩ := renOs_get ho
  let ρ' := π.map fun i => (ρ[i]?).getD none
  have hρ : ∀ (j i : Nat) (b : Option Nat), π[j]? = some i → ρ[i]? = some b → ρ'[j]? = some b := by
    intro j i b h1 h2; simp [ρ', h1, h2]
  have hlv : ∀ (j : Nat) (o : O), os[j]? = some o → o.live = true → ∃ i o', π[j]? = some i ∧ renO π o = some o' ∧ objs[i]? = some o' ∧ o'.live = true := by
    intro j o hj hlo
    obtain ⟨i, e1, e2⟩ := hg j o hj
    rcases e2 with ⟨rfl, _⟩ | ⟨o', e2, e3⟩
    · simp [O.live] at hlo
    · exact ⟨i, o', e1, e2, e3, by rw [renO_live e2]; exact hlo⟩
  have hρb : ∀ (j i b : Nat), π[j]? = some i → ρ'[j]? = some (some b) → ρ[i]? = some (some b) := by
    intro j i b h1 h2
    simp only [ρ', List.getElem?_map, h1, Option.map_some, Option.some.injEq] at h2
    cases hr : ρ[i]? with
    | none => rw [hr] at h2; simp at h2
    | some q => rw [hr] at h2; simp at h2; rw [h2]
  refine ⟨ρ', ⟨by simp [ρ', hl], hI.okb, ?_, ?_, ?_⟩, ⟨hF.os, hF.tape, hF.output, hF.size, hF.block, hF.shape, hF.okup, ?_, ?_, ?_, hF.unf, hF.pres⟩, fun y y' v h1 h2 => renV_sound hρ h2 h1⟩
  · intro j o hj
    obtain ⟨i, e1, e2⟩ := hg j o hj
    rcases e2 with ⟨rfl, _⟩ | ⟨o', e2, e3⟩
    · trivial
    · have := hI.own i o' e3
      cases o with
      | dead => trivial
      | arr sz rows =>
        obtain rfl : _ = o' := by simpa [renO] using e2
        obtain ⟨h0, h⟩ := this
        refine ⟨h0, ?_⟩
        rcases h with ⟨h1, h2⟩ | ⟨b, cs, t, h1, h2, h3, h4⟩
        · exact .inl ⟨h1, hρ _ _ _ e1 h2⟩
        · exact .inr ⟨b, cs, t, hρ _ _ _ e1 h1, h2, h3, h4⟩
      | box cells =>
        simp only [renO] at e2
        cases hc : renVs π cells with
        | none => rw [hc] at e2; simp at e2
        | some xs =>
          rw [hc] at e2
          obtain rfl : _ = o' := by simpa using e2
          obtain ⟨g1, g2⟩ := renVs_get hc
          obtain ⟨b, cs, t, h1, h2, h3, h4⟩ := this
          refine ⟨b, cs, t, hρ _ _ _ e1 h1, h2, by omega, fun k c hk => ?_⟩
          obtain ⟨c', f1, f2⟩ := g2 k c hk
          exact renV_sound hρ (h4 k c' f1) f2
  · intro i j oi oj b hi hj hli hlj hbi hbj
    obtain ⟨p, o1, e1, e2, e3, e4⟩ := hlv i oi hi hli
    obtain ⟨q, o2, f1, f2, f3, f4⟩ := hlv j oj hj hlj
    have := hI.dis p q o1 o2 b e3 f3 e4 f4 (hρb _ _ _ e1 hbi) (hρb _ _ _ f1 hbj)
    subst this
    exact (List.getElem?_inj (List.getElem?_eq_some_iff.1 e1).1 hnd).1 (e1.trans f1.symm)
  · intro j o b hj hlo hb
    obtain ⟨i, o', e1, e2, e3, e4⟩ := hlv j o hj hlo
    exact hI.nok i o' b e3 e4 (hρb _ _ _ e1 hb)
  · intro b hb
    rcases hF.okdn b hb with h | h | ⟨i, o, h1, h2, h3, h4⟩
    · exact .inl h
    · exact .inr (.inl h)
    · refine .inr (.inr ⟨i, o, h1, h2, h3, ?_⟩)
      have hi : i < fx := by have := (List.getElem?_eq_some_iff.1 h1).1; omega
      have hπ := hid i hi
      have hil : i < os.length := by have := (List.getElem?_eq_some_iff.1 hπ).1; omega
      obtain ⟨k, e1, e2⟩ := hg i _ (List.getElem?_eq_getElem hil)
      rw [hπ] at e1
      obtain rfl : i = k := by simpa using e1
      rcases e2 with ⟨e2, _⟩ | ⟨o', e2, e3⟩
      · rw [List.getElem?_eq_getElem hil, e2]
      · rw [h4] at e3
        obtain rfl : O.dead = o' := by simpa using e3
        have : os[i] = .dead := by
          cases hoi : os[i] with
          | dead => rfl
          | arr => rw [hoi] at e2; simp [renO] at e2
          | box cells => rw [hoi] at e2; simp only [renO] at e2; cases hc : renVs π cells <;> rw [hc] at e2 <;> simp at e2
        rw [List.getElem?_eq_getElem hil, this]
  · intro i b hlt h
    exact hρ i i b (hid i (by omega)) (hF.rho i b hlt h)
  · intro j o b hj hlo hb
    obtain ⟨i, o', e1, e2, e3, e4⟩ := hlv j o hj hlo
    exact hF.own i o' b e3 e4 (hρb _ _ _ e1 hb)

/-- The slots of env hold, under the old names, what they held. -/
def renE (π : List Nat) (env0 : List (Nat × V)) : List (Nat × V) → Prop
  | [] => True
  | (j, y) :: e => renV π y = some (getE env0 j) ∧ renE π env0 e

theorem renE_get {π : List Nat} {env0 : List (Nat × V)} : ∀ {e : List (Nat × V)}, renE π env0 e → ∀ j, getE e j = .any ∨ renV π (getE e j) = some (getE env0 j)
  | [], _, j => .inl rfl
  | (i, y) :: e, h, j => by
    simp only [renE] at h
    simp only [getE]
    split
    · rename_i he; subst he; exact .inr h.1
    · exact renE_get h.2 j

def idsB : Nat → List Nat → Bool
  | 0, _ => true
  | n + 1, π => π[n]? == some n && idsB n π

theorem idsB_get : ∀ {n : Nat} {π : List Nat}, idsB n π = true → ∀ i, i < n → π[i]? = some i
  | 0, _, _, i, h => by omega
  | n + 1, π, hb, i, h => by
    simp only [idsB, Bool.and_eq_true, beq_iff_eq] at hb
    by_cases e : i = n
    · subst e; exact hb.1
    · exact idsB_get hb.2 i (by omega)

/-- A weaker state, by the numbers π that its objects had. -/
theorem Weak.of {s s' : St} (π : List Nat) (hn : s'.n = s.n) (hfx : s'.fx = s.fx) (hnd : π.Nodup) (hid : idsB s.fx.k π = true) (ho : renOs π s.objs π s'.objs) (he : renE π s.env s'.env) : Weak s s' := by
  refine ⟨fun x a w hC => ?_⟩
  obtain ⟨ok, ρ, hI, hF, hE, h1, h2, h3⟩ := CC_iff.1 hC
  obtain ⟨ρ', hI', hF', hV⟩ := ren_core hI hF h3.1 hnd (idsB_get hid) ho
  refine CC_iff.2 ⟨ok, ρ', hI', hF', fun j => ?_, by rw [hn]; exact h1, h2, by rw [hfx]; exact h3⟩
  rcases renE_get he j with h | h
  · rw [h]; exact .any
  · exact hV _ _ _ h (hE j)

/-! ### A function's contract out of its body -/

/-- The results' values. -/
def ares (TT : Nat → Option TI) (s : St) : List ResultVar → (List V → Prop) → Prop
  | [], K => K []
  | .tmp t :: r, K => ares TT s r fun vs => K (getE s.env t :: vs)
  | .cell a t :: r, K => match TT t with
    | some ti => ald ti s.objs (getE s.env a) fun v => ares TT s r fun vs => K (v :: vs)
    | none => False

def oneOf : List V → V
  | [v] => v
  | vs => .tup vs

/-- A result's value. -/
def resF (tmps : Array Value) : ResultVar → Sem Value
  | .tmp t => pure (tmps.getD t undef)
  | .cell c t => do loadVar t (← asAddr (tmps.getD c undef))

theorem ares_sound (hT : TOk P TT) {x : Ctx} {a : Act} {w : World} {ok : Nat → Prop} {ρ : List (Option Nat)} (hC : CCk x s a w ok ρ) : ∀ (l : List ResultVar) (K : List V → Prop), ares TT s l K →
    ∃ (ys : List V) (vs : List Value), K ys ∧ (l.mapM (resF a.tmps)).run P w = .ok vs w ∧ vs.length = ys.length ∧
      ∀ (i : Nat) y, ys[i]? = some y → VRep w ok ρ y (vs.getD i undef)
  | [], K, h => ⟨[], [], h, rfl, rfl, by simp⟩
  | .tmp t :: r, K, h => by
    obtain ⟨ys, vs, h1, h2, h3, h4⟩ := ares_sound hT hC r _ h
    refine ⟨_, a.tmps.getD t undef :: vs, h1, by simp only [List.mapM_cons, resF, Sem.run_bind, Sem.run_pure, Result.andThen_ok, h2], by simp [h3], fun i y hi => ?_⟩
    cases i with
    | zero => obtain rfl : _ = y := by simpa using hi
              exact hC.env t
    | succ i => simpa using h4 i y (by simpa using hi)
  | .cell c t :: r, K, h => by
    simp only [ares] at h
    split at h
    · rename_i ti ht
      obtain ⟨y0, v0, hK, hr, hv⟩ := ald_sound (hT.facts ht) hC.inv h (hC.env c)
      obtain ⟨ys, vs, h1, h2, h3, h4⟩ := ares_sound hT hC r _ hK
      have hr2 : (do loadVar t (← asAddr (a.tmps.getD c undef)) : Sem Value).run P w = .ok v0 w := by
        generalize a.tmps.getD c undef = q at hr
        cases q <;> simp [Instr.loadAt, Instr.sureAddr, asAddr] at hr ⊢
        rename_i ad
        cases ad <;> simp at hr ⊢
        exact hr
      refine ⟨_, v0 :: vs, h1, ?_, by simp [h3], fun i y hi => ?_⟩
      · simp only [List.mapM_cons, resF, Sem.run_bind] at hr2 ⊢
        simp only [hr2, Result.andThen_ok, h2]
        rfl
      cases i with
      | zero => obtain rfl : _ = y := by simpa using hi
                exact hv
      | succ i => simpa using h4 i y (by simpa using hi)
    · exact h.elim

/-- What is asked of a body's end: the result and the objects that go back, under the names that the caller's contract has. -/
def endQ (TT : Nat → Option TI) (res : List ResultVar) (Post : V → List O → Prop) (e : Exit) (s : St) : Prop :=
  (match e with | .normal | .ret => True | _ => False) ∧
  ares TT s res fun vs => ∃ (π : List Nat) (y : V) (os : List O), π.Nodup ∧ idsB s.fx.k π = true ∧ renOs π s.objs π os ∧ renV π y = some (oneOf vs) ∧ Post y os

def args0 (i : Nat) : List V → List (Nat × V)
  | [] => []
  | v :: vs => (i, v) :: args0 (i + 1) vs

theorem args0_get : ∀ (vs : List V) (i j : Nat), getE (args0 i vs) j = if i ≤ j ∧ j < i + vs.length then vs.getD (j - i) .any else .any
  | [], i, j => by simp [args0, getE]
  | v :: vs, i, j => by
    simp only [args0, getE]
    by_cases e : i = j
    · subst e; simp
    · rw [if_neg e, args0_get vs (i + 1) j]
      by_cases c : i + 1 ≤ j ∧ j < i + 1 + vs.length
      · rw [if_pos c, if_pos (by simp only [List.length_cons]; omega), show j - i = (j - (i + 1)) + 1 by omega]; simp
      · rw [if_neg c, if_neg (by simp only [List.length_cons]; omega)]

theorem calls_intro (hT : TOk P TT) {f nt : Nat} {fn : Func} {c : Code} {res : List ResultVar} {args : List V} {objs : List O} {Post : V → List O → Prop} {fx : FX} (hf : P.funcs[f]? = some fn) (hb : fn.body = some c)
    (hr : fn.results = ⟨res⟩) (hnt : fn.ntmps = nt) (hn : Nat.ble args.length nt = true) (h : AW P c (endQ TT res Post) ⟨args0 0 args, objs, nt, fx⟩)
    (w : World) (ok : Nat → Prop) (ρ : List (Option Nat)) (vs : Array Value) (hfx : FxOk ⟨w, ok, ρ, objs, fx.wr, fx.kp⟩ fx) (hI : Inv w ok ρ objs) (hs : vs.size = args.length) (hv : ∀ (i : Nat) x, args[i]? = some x → VRep w ok ρ x (vs.getD i undef)) :
    Calls P f vs w fun e w' => ∃ v r objs' ok' ρ', e = .returned v ∧ Post r objs' ∧ Inv w' ok' ρ' objs' ∧ VRep w' ok' ρ' r v ∧ Frm ⟨w, ok, ρ, objs, fx.wr, fx.kp⟩ w' ok' ρ' objs' := by
  have hn := Nat.le_of_ble_eq_true hn
  subst hnt
  have hres0 : res = fn.results.toList := by rw [hr]
  subst hres0
  refine calls_of_wp hf hb ?_
  have hC : CC ⟨w, ok, ρ, objs, fx.wr, fx.kp⟩ ⟨args0 0 args, objs, fn.ntmps, fx⟩ { tmps := vs ++ Array.replicate (fn.ntmps - vs.size) undef, defers := [] } w := by
    refine CC_iff.2 ⟨ok, ρ, hI, ⟨rfl, rfl, rfl, Nat.le_refl _, fun _ _ _ _ => rfl, fun _ _ h => h, fun _ h => h, fun _ h => .inl h, fun _ _ _ h => h, fun i o b h1 h2 h3 => .inr ⟨i, o, h1, h2, h3⟩, fun _ h => .inl h, fun _ _ => .same fun _ _ => rfl⟩, fun j => ?_, by simp; omega, rfl, hfx⟩
    rw [args0_get]
    split
    · rename_i hj
      have hjl : j < args.length := by omega
      have := hv j _ (List.getElem?_eq_getElem hjl)
      have e1 : args.getD (j - 0) .any = args[j] := by simp [List.getD_eq_getElem?_getD, hjl]
      have e2 : (vs ++ Array.replicate (fn.ntmps - vs.size) undef).getD j undef = vs.getD j undef := by
        simp only [Array.getD_eq_getD_getElem?]
        rw [Array.getElem?_append_left (by omega)]
      rw [e1, e2]; exact this
    · exact .any
  refine wp_mono (h.run _ _ w hC) ?_
  rintro e a' w' ⟨s', ⟨he, hres⟩, hC'⟩
  obtain ⟨ok', ρ', hCk⟩ := CC_iff.1 hC'
  obtain ⟨ys, us, ⟨π, y, os, p1, p2, p3, p4, p5⟩, r1, r2, r3⟩ := ares_sound hT hCk _ _ hres
  have hrun : (results fn a'.tmps).run P w' = .ok (if h : us.length = 1 then us[0] else .tuple us.toArray) w' := by
    unfold results
    rw [Array.mapM_eq_mapM_toList]
    have key : ∀ g : ResultVar → Sem Value, (∀ r, g r = resF a'.tmps r) → (fn.results.toList.mapM g).run P w' = .ok us w' := fun g hg => by rw [funext hg]; exact r1
    simp only [Sem.run_bind, Sem.run_map]
    rw [key _ (fun r => by cases r <;> rfl)]
    simp only [Result.andThen_ok, Sem.run_pure]
    congr 1
  have hV : VRep w' ok' ρ' (oneOf ys) (if h : us.length = 1 then us[0] else .tuple us.toArray) := by
    have htup : VRep w' ok' ρ' (.tup ys) (.tuple us.toArray) := .tup (by simp [r2]) (fun i c hi => by have := r3 i c hi; simpa [Array.getD_eq_getD_getElem?, List.getD_eq_getElem?_getD] using this)
    clear hres r1 hrun p4
    match ys, us, r2, r3, htup with
    | [], [], _, _, htup => simpa [oneOf] using htup
    | [y], [u], _, r3, _ => have := r3 0 y rfl; simpa [oneOf] using this
    | y1 :: y2 :: ys, u1 :: u2 :: us, _, _, htup => simpa [oneOf] using htup
  obtain ⟨ρ2, hI2, hF2, hV2⟩ := ren_core hCk.inv hCk.frm hCk.fx.1 p1 (idsB_get p2) p3
  have hfin : ∃ v r objs' ok' ρ', Ending.returned (if h : us.length = 1 then us[0] else .tuple us.toArray) = .returned v ∧ Post r objs' ∧ Inv w' ok' ρ' objs' ∧ VRep w' ok' ρ' r v ∧ Frm ⟨w, ok, ρ, objs, fx.wr, fx.kp⟩ w' ok' ρ' objs' :=
    ⟨_, y, os, ok', ρ2, rfl, p5, hI2, hV2 _ _ _ p4 hV, hF2⟩
  cases e with
  | normal => exact ⟨hCk.defers, _, hrun, hfin⟩
  | ret => exact ⟨hCk.defers, _, hrun, hfin⟩
  | exit => exact he.elim
  | goto => exact he.elim
  | panic => exact he.elim
  | outgrown => exact he.elim


theorem ACon.intro (hT : TOk P TT) {f nt : Nat} {fn : Func} {c : Code} {res : List ResultVar} {args : List V} {objs : List O} {Post : V → List O → Prop} (hf : P.funcs[f]? = some fn) (hb : fn.body = some c)
    (hr : fn.results = ⟨res⟩) (hnt : fn.ntmps = nt) (hc : callable P f = true) (hn : Nat.ble args.length nt = true) (h : AW P c (endQ TT res Post) ⟨args0 0 args, objs, nt, .p objs.length⟩) : ACon P f args objs Post :=
  ⟨hc, fun w ok ρ vs hI hs hv => calls_intro hT hf hb hr hnt hn h w ok ρ vs ⟨rfl, ⟨rfl, rfl⟩, trivial⟩ hI hs hv⟩

end
end Go.Fw
