/- Operations one by one, and a region in the text's order. -/
import Derived.Test.YtemihgpcodcjgaaFwN
set_option linter.unusedSimpArgs false
set_option linter.unusedVariables false
namespace Go.Fw

def isEff : Op → Bool
  | .alloc _ | .box .. | .buildSlice .. | .store .. | .makeSlice .. => true
  | .call { callee := .builtin .append, .. } => true
  | _ => false

/-- One operation without a guard. -/
def aop (TT : Nat → Option TI) (P : Program) (s : St) (dst : Option Nat) (op : Op) (K : St → Prop) : Prop :=
  match op with
  | .call { callee := .value f, args := args, .. } => (match s.ev f with
    | .d (.fn g cap) => ACall P s g (args.toList.map s.ev ++ cap.map .d) fun y s' => K (s'.put dst y)
    | _ => False)
  | op => if isEff op = true then aef TT s dst op K else pv TT s.ev s.objs op fun v => K (s.put dst v)

/-- One operation, with its guard. -/
def aopg (TT : Nat → Option TI) (P : Program) (ds : List (Option Nat)) (s : St) (o : Oper) (K : St → Prop) : Prop :=
  match o.guard with
  | none => aop TT P s o.dst o.op K
  | some (j, want) => (match ds[j]? with
    | some (some d) => (match getE s.env d with
      | .d (.bool b) => (b = want → aop TT P (s.put (some d) (.d (.bool want))) o.dst o.op K) ∧ (b = (!want) → K ((s.put (some d) (.d (.bool (!want)))).put o.dst .any))
      | _ => False)
    | _ => False)

def aops (TT : Nat → Option TI) (P : Program) (ds : List (Option Nat)) : List Oper → St → (St → Prop) → Prop
  | [], s, K => K s
  | o :: os, s, K => aopg TT P ds s o fun s' => aops TT P ds os s' K

def regB (n : Nat) (ops : List Oper) : Bool := ops.all fun o => match o.dst with | some d => decide (d < n) | none => true

section
variable {P : Program} {TT : Nat → Option TI} {w w' : World} {ok : Nat → Prop} {ρ : List (Option Nat)} {x : Ctx} {s : St} {a : Act}

theorem aef_sound (hT : TOk P TT) {K : St → Prop} {o : Oper} (hC : CCk x s a w ok ρ) (hdst : ∀ d, o.dst = some d → d < s.n) (h : aef TT s o.dst o.op K) : Ends P x K a o.dst (execOp a.eval o) w := by
  obtain ⟨hI, hF, hE, hn, hd, hx⟩ := hC
  unfold aef at h
  unfold execOp
  split at h
  · rename_i t ho
    rw [ho]
    split at h
    · rename_i ti ht
      exact alloc_sound hT hI hF hE hn hd hx hdst ht h
    · exact h.elim
  · rename_i t y ho
    rw [ho]
    split at h
    · rename_i cs hc
      exact box_sound hI hF hE hn hd hx hdst hc h
    · exact h.elim
  · rename_i t len parts ho
    rw [ho]
    split at h
    · rename_i e he
      obtain ⟨h1, h2, h⟩ := h
      split at h
      · rename_i rows hr
        exact buildSlice_sound hT hI hF hE hn hd hx hdst he h1 h2 hr h
      · exact h.elim
    · exact h.elim
  · rename_i t y v ho
    rw [ho]
    split at h
    · rename_i ti new ht hc
      obtain ⟨h1, h2, h⟩ := h
      exact store_sound hT hI hF hE hn hd hx h1 ht hc h2 h
    · exact h.elim
  · rename_i t l c ho
    rw [ho]
    split at h
    · rename_i e he
      split at h
      · rename_i n m z h1 h2 h3
        obtain ⟨rfl, h4, h5, h6, h⟩ := h
        exact makeSlice_sound hT hI hF hE hn hd hx hdst he h1 h2 h3 h4 h5 h6 h
      · exact h.elim
    · exact h.elim
  · rename_i args ts ho
    rw [ho]
    split at h
    · rename_i xo yo t u h1 h2
      obtain ⟨args⟩ := args
      obtain ⟨ts⟩ := ts
      simp only at h1 h2
      subst h1 h2
      split at h
      · rename_i e he
        obtain ⟨h3, h⟩ := h
        split at h
        · rename_i new hs
          obtain ⟨h4, h5, h⟩ := h
          have := append_sound (ty := o.type) hT hI hF hE hn hd hx hdst he h3 hs h4 h5 h
          have e : (⟨[xo, yo]⟩ : Array Operand).map a.eval = #[a.eval xo, a.eval yo] := by simp
          unfold Ends at this ⊢
          simp only [resolve, invoke, builtin, Sem.run_bind, Sem.run_pure, Result.andThen_ok, e] at this ⊢
          exact this
        · exact h.elim
      · exact h.elim
    · exact h.elim
  · exact h.elim

theorem CCk.put {dst : Option Nat} {V0 : V} {v : Value} (hC : CCk x s a w ok ρ) (hv : VRep w ok ρ V0 v) (hdst : ∀ d, dst = some d → d < s.n) : CCk x (s.put dst V0) (a.put dst v) w ok ρ := by
  obtain ⟨hI, hF, hE, hn, hd, hx⟩ := hC
  exact ⟨by rw [St.put_objs]; exact hI, by rw [St.put_objs]; exact hF, put_rep hE hv (fun d hd' => by rw [hn]; exact hdst d hd'), by rw [put_size, hn, St.put_n], by rw [put_defers]; exact hd, by rw [St.put_fx]; exact hx⟩

theorem CCk.cc (hC : CCk x s a w ok ρ) : CC x s a w := CC_iff.2 ⟨ok, ρ, hC⟩

theorem aop_sound (hT : TOk P TT) {K : St → Prop} {o : Oper} {Q : Exit → Act → World → Prop} (hC : CCk x s a w ok ρ) (hdst : ∀ d, o.dst = some d → d < s.n) (h : aop TT P s o.dst o.op K)
    {next : Act → World → Prop} (hnext : ∀ s' v w', K s' → CC x s' (a.put o.dst v) w' → next (a.put o.dst v) w') : o.wp P a w next Q := by
  unfold aop at h
  split at h
  · rename_i f args ts ho
    have hE := hC.env
    have hf := ev_rep hE f
    split at h
    · rename_i g cap hfe
      rw [hfe] at hf
      generalize hfv : a.eval f = fv at hf
      cases hf with | d hf =>
      cases hf with | @fn _ _ cv hn hcap =>
      obtain ⟨hcal, hcalls⟩ := call_sound (vs := (args.toList.map a.eval).toArray ++ cv) hC (by simp; omega) (fun i y hi => by
        rcases Nat.lt_or_ge i args.size with hlt | hge
        · rw [List.getElem?_append_left (by simpa using hlt), List.getElem?_map] at hi
          have hz : args.toList[i]? = some args[i] := by simp [hlt]
          rw [hz] at hi
          obtain rfl : s.ev args[i] = y := by simpa using hi
          have e : ((args.toList.map a.eval).toArray ++ cv).getD i undef = a.eval args[i] := by
            simp only [Array.getD_eq_getD_getElem?]
            rw [Array.getElem?_append_left (by simpa using hlt)]
            simp [hlt]
          rw [e]
          exact ev_rep hE _
        · rw [List.getElem?_append_right (by simpa using hge), List.getElem?_map] at hi
          simp only [List.length_map, Array.length_toList] at hi
          cases hz : cap[i - args.size]? with
          | none => rw [hz] at hi; simp at hi
          | some d =>
            rw [hz] at hi
            obtain rfl : V.d d = y := by simpa using hi
            have e : ((args.toList.map a.eval).toArray ++ cv).getD i undef = cv.getD (i - args.size) undef := by
              simp only [Array.getD_eq_getD_getElem?]
              rw [Array.getElem?_append_right (by simpa using hge)]
              simp
            rw [e]
            exact .d (hcap _ _ hz)) h
      have hexec : (execOp a.eval o).run P w = .ok (.enter g ((args.toList.map a.eval).toArray ++ cv)) w := by
        unfold execOp
        rw [ho]
        unfold callable at hcal
        cases hfn : P.funcs[g]? with
        | none => rw [hfn] at hcal; simp at hcal
        | some fn =>
          rw [hfn] at hcal
          simp only [Bool.and_eq_true, bne_iff_ne, ne_eq] at hcal
          have hbody : fn.body.isNone = false := by cases hb : fn.body <;> simp_all
          have hname : (fn.name == "runtime.NumGoroutine") = false := by simpa using hcal.1
          have hargs : args.map a.eval = (args.toList.map a.eval).toArray := by apply Array.ext'; rw [Array.toList_map]
          simp only [resolve, hfv, Deferred.ofValue, invoke, callFunc, Sem.run_bind, Sem.run_pure, Result.andThen_ok, run_program, hfn, hname, hbody, Bool.false_eq_true, if_false, hargs, Array.empty_append]
      show o.upon P a next Q _
      rw [hexec]
      show Calls P g _ w _
      refine hcalls.mono ?_
      rintro e w'' ⟨v, rfl, y, s', ok2, ρ2, hK, h1, h2, h3, hC2, hV⟩
      refine hnext _ _ _ hK (CCk.cc (hC2.put hV (fun d hd => by rw [h2]; exact hdst d hd)))
    · exact h.elim
  · split at h
    · rename_i he
      rcases aef_sound hT hC hdst h with ⟨v, w'', hr, s', hK, hCC⟩ | ⟨w'', hr, s', hK, hCC⟩
      · show o.upon P a next Q _
        rw [hr]
        exact hnext _ _ _ hK hCC
      · show o.upon P a next Q _
        rw [hr]
        exact hnext _ _ _ hK hCC
    · obtain ⟨y, v, hK, hr, hV⟩ := pv_sound hT (fun q => ev_rep hC.env q) hC.inv o h
      show o.upon P a next Q _
      rw [hr]
      exact hnext _ _ _ hK (hC.put hV hdst).cc

theorem aops_sound (hT : TOk P TT) {ops : Array Oper} {Q : Exit → St → Prop} {n : Nat} (hb : regB n ops.toList = true) :
    ∀ (l : List Oper) (k : Nat) (s : St) (a : Act) (w : World), (∀ j, l[j]? = ops[k + j]?) → a.tmps.size = n → aops TT P (ops.toList.map (·.dst)) l s (Q .normal) → CC x s a w →
      wpOps P ops (fun e a' w' => ∃ s', Q e s' ∧ CC x s' a' w') (List.range' k l.length) a w := by
  intro l
  induction l with
  | nil =>
    intro k s a w _ _ h hC
    exact ⟨s, h, hC⟩
  | cons o l ih =>
    intro k s a w hl hn h hC
    have hk : ops[k]? = some o := by have := hl 0; simpa using this.symm
    have hl' : ∀ j, l[j]? = ops[k + 1 + j]? := fun j => by have := hl (j + 1); rw [show k + 1 + j = k + (j + 1) by omega]; simpa using this
    have hdst : ∀ d, o.dst = some d → d < n := by
      intro d hd
      have hm : o ∈ ops.toList := by rw [List.mem_iff_getElem?]; exact ⟨k, by simpa using hk⟩
      have := List.all_eq_true.1 hb o hm
      rw [hd] at this
      simpa using this
    obtain ⟨ok, ρ, hCk⟩ := CC_iff.1 hC
    have hsn : s.n = n := by rw [← hCk.size]; exact hn
    simp only [List.length_cons, List.range'_succ, wpOps, hk]
    simp only [aops] at h
    unfold aopg at h
    split at h
    · rename_i hg
      have hw : Region.wanted o (yielded ops a.tmps) = true := by simp [Region.wanted, hg]
      rw [if_pos hw]
      refine .inl (aop_sound hT hCk (fun d hd => by rw [hsn]; exact hdst d hd) h (fun s' v w' hK hC' => ?_))
      exact ih (k + 1) s' _ w' hl' (by rw [put_size]; exact hn) hK hC'
    · rename_i j want hg
      split at h
      · rename_i d hd
        split at h
        · rename_i b hbv
          obtain ⟨h1, h2⟩ := h
          have hv := hCk.env d
          rw [hbv] at hv
          have hbe := hv.bool_eq
          have hoj : (ops[j]?).bind (·.dst) = some d := by
            rw [List.getElem?_map] at hd
            cases hoj : ops[j]? with
            | none => simp [hoj] at hd
            | some oj => simp [hoj] at hd; simp [hd]
          have hdl : d < a.tmps.size := by
            cases hoj2 : ops[j]? with
            | none => rw [hoj2] at hoj; simp at hoj
            | some oj =>
              rw [hoj2] at hoj
              have hm : oj ∈ ops.toList := by rw [List.mem_iff_getElem?]; exact ⟨j, by simpa using hoj2⟩
              have := List.all_eq_true.1 hb oj hm
              simp only [Option.bind_some] at hoj
              rw [hoj] at this
              rw [hn]
              simpa using this
          have hyield : yielded ops a.tmps j = some b := by
            simp only [yielded, hoj, Option.bind_some]
            have : a.tmps[d]? = some (.bool b) := by
              rw [Array.getElem?_eq_getElem hdl]
              simp [Array.getD, hdl] at hbe
              rw [hbe]
            rw [this]
          have hfix : ∀ c, b = c → CCk x (s.put (some d) (.d (.bool c))) a w ok ρ := by
            intro c hc
            subst hc
            obtain ⟨hI, hF, hE, hn', hd', hx⟩ := hCk
            refine ⟨hI, hF, fun q => ?_, hn', hd', hx⟩
            simp only [St.put, getE]
            split
            · rename_i e; subst e; rw [hbe]; exact .d .bool
            · exact hE q
          by_cases hbw : b = want
          · have hw : Region.wanted o (yielded ops a.tmps) = true := by simp [Region.wanted, hg, hyield, hbw]
            rw [if_pos hw]
            refine .inl (aop_sound hT (hfix want hbw) (fun d' hd' => by rw [St.put_n, hsn]; exact hdst d' hd') (h1 hbw) (fun s' v w' hK hC' => ?_))
            exact ih (k + 1) s' _ w' hl' (by rw [put_size]; exact hn) hK hC'
          · have hbw' : b = !want := by cases b <;> cases want <;> simp_all
            have hw : ¬ Region.wanted o (yielded ops a.tmps) = true := by simp [Region.wanted, hg, hyield, hbw]
            rw [if_neg hw]
            refine ih (k + 1) _ _ w hl' (by rw [put_size]; exact hn) (h2 hbw') ?_
            exact ((hfix _ hbw').put .any (fun d' hd' => by rw [St.put_n, hsn]; exact hdst d' hd')).cc
        · exact h.elim
      · exact h.elim

end
end Go.Fw
