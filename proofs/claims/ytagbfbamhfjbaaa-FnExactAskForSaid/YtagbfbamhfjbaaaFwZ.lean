/- The abstract machine over the model and its proofs, joined out of several texts. -/
import Derived.Test.YtagbfbamhfjbaaaFwW

/- Regions whose order is drawn: the plan by which a region is gone through, and the rule for code. -/
set_option linter.unusedSimpArgs false
set_option linter.unusedVariables false
namespace Go.Fw

inductive Plan where
  | fin
  | q (i : Nat) (p : Plan)
  | b (i : Nat) (p : Plan)
  | l (i : Nat) (p : Plan)
  | e (i : Nat) (p : Plan)
  | two (i : Nat) (p : Plan) (j : Nat) (r : Plan)
  | three (i : Nat) (p : Plan) (j : Nat) (r : Plan) (k : Nat) (t : Plan)

/-- One operation that is put off. -/
def aone (TT : Nat → Option TI) (P : Program) (ops : List Oper) (o : Oper) (s : St) (K : St → Prop) : Prop :=
  match callOf o.op with
  | some (f, args) => (match o.guard with
    | none => ACallQ P s (s.ev f) (args.map s.ev) fun v => K (s.put o.dst v)
    | some (j, want) => (match (ops.map (·.dst))[j]? with
      | some (some d) => (match getE s.env d with
        | .d (.bool b) => (b = want → ACallQ P s (s.ev f) (args.map s.ev) fun v => K (s.put o.dst v)) ∧ (b = (!want) → K (s.put o.dst (.tup [])))
        | .tup [] => K (s.put o.dst (.tup []))
        | _ => False)
      | _ => False))
  | none => isEff o.op = false ∧ aops TT P (ops.map (·.dst), false) [o] s K

def arun (TT : Nat → Option TI) (P : Program) (ops : List Oper) : Plan → St → (St → Prop) → Prop
  | .fin, s, K => K s
  | .q i p, s, K => (match ops[i]? with
    | some o => aone TT P ops o s fun s' => arun TT P ops p s' K
    | none => False)
  | .b i p, s, K => (match ops[i]? with
    | some o => aopqB TT s o fun v => arun TT P ops p (s.put o.dst v) K
    | none => False)
  | .l i p, s, K => (match ops[i]? with
    | some o => aopqE TT s o fun v => arun TT P ops p (s.put o.dst v) K
    | none => False)
  | .e i p, s, K => (match ops[i]? with
    | some o => aops TT P (ops.map (·.dst), false) [o] s fun s' => arun TT P ops p s' K
    | none => False)
  | .two i p j r, s, K => (match ops[i]?, ops[j]? with
    | some o, some o' => (aops TT P (ops.map (·.dst), false) [o] s fun s' => arun TT P ops p s' K) ∧ (aops TT P (ops.map (·.dst), false) [o'] s fun s' => arun TT P ops r s' K)
    | _, _ => False)
  | .three i p j r k t, s, K => (match ops[i]?, ops[j]?, ops[k]? with
    | some o, some o', some o'' => (aops TT P (ops.map (·.dst), false) [o] s fun s' => arun TT P ops p s' K) ∧ (aops TT P (ops.map (·.dst), false) [o'] s fun s' => arun TT P ops r s' K) ∧
      (aops TT P (ops.map (·.dst), false) [o''] s fun s' => arun TT P ops t s' K)
    | _, _, _ => False)

/-- The loads of data that are put off. -/
def lsOf : Plan → List Nat
  | .fin => []
  | .q _ p | .b _ p | .e _ p => lsOf p
  | .l i p => i :: lsOf p
  | .two _ p _ r => lsOf p ++ lsOf r
  | .three _ p _ r _ t => lsOf p ++ lsOf r ++ lsOf t

def pOk (ops : Array Oper) (ls : List Nat) : Plan → Nat → Array Bool → List Nat → Bool
  | .fin, _, l, pend => allOk ops l pend []
  | .q i p, f, l, pend => Nat.ble 1 f && (odst ops i).isSome && quietOk ops l pend i && !ls.contains i && pOk ops ls p (f - 1) l (pend ++ [i])
  | .l i p, f, l, pend => Nat.ble 1 f && (odst ops i).isSome && quietOk ops l pend i && pOk ops ls p (f - 1) l (pend ++ [i])
  | .b i p, f, l, pend => Nat.ble 1 f && (odst ops i).isSome && quietOk ops l pend i && !ls.contains i && pOk ops ls p (f - 1) l (pend ++ [i])
  | .e i p, f, l, pend => Nat.ble 1 f && allOk ops l pend [i] && nowOk ops ls l pend i && pOk ops ls p (f - 1) (setAll l (done ops pend i)) (later ops pend i)
  | .two i p j r, f, l, pend => Nat.ble 1 f && allOk ops l pend [i, j] && (nowOk ops ls l pend i && pOk ops ls p (f - 1) (setAll l (done ops pend i)) (later ops pend i)) &&
    (nowOk ops ls l pend j && pOk ops ls r (f - 1) (setAll l (done ops pend j)) (later ops pend j))
  | .three i p j r k t, f, l, pend => Nat.ble 1 f && allOk ops l pend [i, j, k] && (nowOk ops ls l pend i && pOk ops ls p (f - 1) (setAll l (done ops pend i)) (later ops pend i)) &&
    (nowOk ops ls l pend j && pOk ops ls r (f - 1) (setAll l (done ops pend j)) (later ops pend j)) && (nowOk ops ls l pend k && pOk ops ls t (f - 1) (setAll l (done ops pend k)) (later ops pend k))

section
variable {P : Program} {TT : Nat → Option TI} {x : Ctx} {n : Nat}

theorem Sim.put {s s' : St} (h : Sim s s') (dst : Option Nat) (v : V) : Sim (s.put dst v) (s'.put dst v) :=
  ⟨fun j => by rw [getE_put, getE_put, h.1 j], by rw [St.put_objs, St.put_objs]; exact h.2.1, by rw [St.put_n, St.put_n]; exact h.2.2.1, by rw [St.put_fx, St.put_fx]; exact h.2.2.2⟩
theorem Sim.ev {s s' : St} (h : Sim s s') (o : Operand) : s'.ev o = s.ev o := by
  cases o with
  | tmp t => exact (h.1 t).symm
  | const v => rfl
  | global g => rfl
  | func f => rfl
theorem Sim.fix {s : St} {d : Nat} {v : V} (h : getE s.env d = v) : Sim (s.put (some d) v) s :=
  ⟨fun j => by rw [getE_put]; split; (rename_i e; rw [← h]; exact congrArg _ (Option.some.inj e)); rfl, rfl, rfl, rfl⟩

theorem Vld.sim {ops : Array Oper} {ls : List Nat} {s s' : St} (h : Sim s s') {i : Nat} (hV : Vld TT P ops ls s' i) : Vld TT P ops ls s i := by
  obtain ⟨o, d, h1, h2, h3⟩ := hV
  refine ⟨o, d, h1, h2, fun s'' ho hl => ?_⟩
  rw [h.1 d]
  exact h3 s'' (fun hr hn => by rw [← h.2.1]; exact ho hr hn) fun t ht => by rw [hl t ht, h.1 t]

theorem JA.sim {ops : Array Oper} {ls : List Nat} {K : St → Prop} {f : Nat} {l : Array Bool} {pend : List Nat} {s s' : St} (h : JA TT P ops ls x n K f l pend s) (hs : Sim s s') : JA TT P ops ls x n K f l pend s' := by
  intro hsz hV l hl hag hcl Q hQ a w hn hC
  refine h hsz (fun i hi => ⟨(hV i hi).1, (hV i hi).2.sim hs⟩) l hl hag hcl Q hQ a w hn ?_
  have : Sim (hid (tsOf ops l pend) s') (hid (tsOf ops l pend) s) := ⟨fun t => by rw [getE_hid, getE_hid, hs.1 t], hs.2.1.symm, hs.2.2.1.symm, hs.2.2.2.symm⟩
  exact this.cc hC

theorem aone_q {ops : List Oper} {o : Oper} {s : St} {K : St → Prop} {K' : V → Prop} (hK : ∀ s' v, K s' → Sim s' (s.put o.dst v) → K' v) (h : aone TT P ops o s K) : aopqg TT P (ops.map (·.dst)) s o K' := by
  unfold aone at h
  unfold aopqg
  split at h
  · rename_i f args hc
    have q : ∀ {F F' : V → Prop}, (∀ v, F v → F' v) → ACallQ P s (s.ev f) (args.map s.ev) F → aopq TT P s o.op F' := by
      intro F F' hF hq
      unfold aopq
      rw [hc]
      obtain ⟨g, cap, R, args', h1, h2, h3, h4, h5⟩ := hq
      exact ⟨g, cap, R, args', h1, h2, h3, h4, hF _ h5⟩
    split at h
    · rename_i hg
      rw [hg]
      exact q (fun v hv => hK _ v hv (Sim.refl _)) h
    · rename_i j want hg
      rw [hg]
      simp only
      split at h
      · rename_i d hd
        simp only [hd]
        split at h
        · rename_i b hb
          rw [hb]
          exact ⟨fun e => q (fun v hv => hK _ v hv (Sim.refl _)) (h.1 e), fun e => hK _ _ (h.2 e) (Sim.refl _)⟩
        · rename_i hb
          rw [hb]
          exact hK _ _ h (Sim.refl _)
        · exact h.elim
      · exact h.elim
  · rename_i hc
    obtain ⟨he, h⟩ := h
    have q : ∀ {s' : St} {F : St → Prop} {F' : V → Prop}, Sim s' s → (∀ v, F (s'.put o.dst v) → F' v) → aop TT P s' o.dst o.op F → aopq TT P s o.op F' := by
      intro s' F F' hs hF hq
      unfold aopq
      rw [hc]
      rw [aop_pure hc he] at hq
      refine ⟨he, ?_⟩
      rw [← hs.2.1]
      exact pv_mono hF (pv_frame (fun p _ => hs.ev p) hq)
    simp only [aops] at h
    have h := aopgU_false h
    unfold aopg at h
    split at h
    · rename_i hg
      rw [hg]
      exact q (Sim.refl s) (fun v hv => hK _ v hv (Sim.refl _)) h
    · rename_i j want hg
      rw [hg]
      simp only
      split at h
      · rename_i d hd
        simp only [hd]
        split at h
        · rename_i b hb
          rw [hb]
          refine ⟨fun e => ?_, fun e => ?_⟩
          · have hf := Sim.fix (s := s) (d := d) (v := .d (.bool want)) (by rw [hb, e])
            exact q hf (fun v hv => hK _ v hv (hf.put _ _)) (h.1 e)
          · have hf := Sim.fix (s := s) (d := d) (v := .d (.bool (!want))) (by rw [hb, e])
            exact hK _ _ (h.2 e) (hf.put _ _)
        · rename_i hb
          rw [hb]
          exact hK _ _ h (Sim.refl _)
        · exact h.elim
      · exact h.elim

theorem aopg_imp {ds : List (Option Nat)} {o : Oper} {s : St} {K K' : St → Prop} (hK : ∀ s, K s → K' s) (h : aopg TT P ds s o K) : aopg TT P ds s o K' := by
  unfold aopg at h ⊢
  split at h
  · exact aop_imp hK h
  · split at h
    · split at h
      · exact ⟨fun e => aop_imp hK (h.1 e), fun e => hK _ (h.2 e)⟩
      · exact hK _ h
      · exact h.elim
    · exact h.elim

theorem arun_ja (hT : TOk P TT) {ops : List Oper} {ls : List Nat} (hb : regB n ops = true) {K : St → Prop} : ∀ (p : Plan) (f : Nat) (l : Array Bool) (pend : List Nat) (s : St), pOk ⟨ops⟩ ls p f l pend = true → arun TT P ops p s K →
    JA TT P ⟨ops⟩ ls x n K f l pend s := by
  have one : ∀ {i : Nat} {o : Oper} {l : Array Bool} {pend : List Nat} {s : St} {F : St → Prop}, ops[i]? = some o → nowOk ⟨ops⟩ ls l pend i = true → aops TT P (ops.map (·.dst), false) [o] s F → aop TT P s o.dst o.op F := by
    intro i o l pend s F ho hn h
    have ho' : (⟨ops⟩ : Array Oper)[i]? = some o := by simpa using ho
    simp only [nowOk, ho', Bool.and_eq_true, Option.isNone_iff_eq_none] at hn
    simp only [aops] at h
    have h := aopgU_false h
    unfold aopg at h
    rw [hn.1.1.1] at h
    exact h
  intro p
  induction p with
  | fin =>
    intro f l pend s hp h
    exact JA.fin hT hb hp h
  | q i p ih =>
    intro f l pend s hp h
    simp only [pOk, Bool.and_eq_true] at hp
    obtain ⟨⟨⟨⟨h1, h2⟩, h3⟩, h5⟩, h4⟩ := hp
    have h5 : i ∉ ls := by simpa using h5
    cases f with
    | zero => cases h1
    | succ f =>
      simp only [arun] at h
      split at h
      · rename_i o ho
        have ho' : (⟨ops⟩ : Array Oper)[i]? = some o := by simpa using ho
        exact JA.quiet ho' (by simpa [odst, ho'] using h2) h3 h5 (.inr (aone_q (fun s' v hk hs => (ih _ _ _ _ h4 hk).sim hs) h))
      · exact h.elim
  | b i p ih =>
    intro f l pend s hp h
    simp only [pOk, Bool.and_eq_true] at hp
    obtain ⟨⟨⟨⟨h1, h2⟩, h3⟩, h5⟩, h4⟩ := hp
    have h5 : i ∉ ls := by simpa using h5
    cases f with
    | zero => cases h1
    | succ f =>
      simp only [arun] at h
      split at h
      · rename_i o ho
        have ho' : (⟨ops⟩ : Array Oper)[i]? = some o := by simpa using ho
        obtain ⟨hg, t, len, parts, e, rows, q1, q2, q3, q4, q5, q6⟩ := h
        exact JA.quiet ho' (by simpa [odst, ho'] using h2) h3 h5 (.inl ⟨hg, t, len, parts, e, rows, q1, q2, q3, q4, q5, ih _ _ _ _ h4 q6⟩)
      · exact h.elim
  | l i p ih =>
    intro f l pend s hp h
    simp only [pOk, Bool.and_eq_true] at hp
    obtain ⟨⟨⟨h1, h2⟩, h3⟩, h4⟩ := hp
    cases f with
    | zero => cases h1
    | succ f =>
      simp only [arun] at h
      split at h
      · rename_i o ho
        have ho' : (⟨ops⟩ : Array Oper)[i]? = some o := by simpa using ho
        obtain ⟨q1, q2, q3, q4⟩ := h
        exact JA.quietE ho' (by simpa [odst, ho'] using h2) h3 ⟨q1, q2, q3, pv_mono (fun v hv => ih _ _ _ _ h4 hv) q4⟩
      · exact h.elim
  | e i p ih =>
    intro f l pend s hp h
    simp only [pOk, Bool.and_eq_true] at hp
    obtain ⟨⟨⟨h1, h2⟩, h3⟩, h4⟩ := hp
    cases f with
    | zero => cases h1
    | succ f =>
      simp only [arun] at h
      split at h
      · rename_i o ho
        refine JA.now hT hb h2 (by simp) fun e he => ?_
        obtain rfl := List.mem_singleton.1 he
        exact ⟨h3, o, by simpa using ho, aop_imp (fun s' hs => ih _ _ _ _ h4 hs) (one ho h3 h)⟩
      · exact h.elim
  | two i p j r ih1 ih2 =>
    intro f l pend s hp h
    simp only [pOk, Bool.and_eq_true] at hp
    obtain ⟨⟨⟨h1, h2⟩, h3, h4⟩, h5, h6⟩ := hp
    cases f with
    | zero => cases h1
    | succ f =>
      simp only [arun] at h
      split at h
      · rename_i o o' ho ho'
        refine JA.now hT hb h2 (by simp) fun e he => ?_
        simp only [List.mem_cons, List.not_mem_nil, or_false] at he
        rcases he with rfl | rfl
        · exact ⟨h3, o, by simpa using ho, aop_imp (fun s' hs => ih1 _ _ _ _ h4 hs) (one ho h3 h.1)⟩
        · exact ⟨h5, o', by simpa using ho', aop_imp (fun s' hs => ih2 _ _ _ _ h6 hs) (one ho' h5 h.2)⟩
      · exact h.elim
  | three i p j r k t ih1 ih2 ih3 =>
    intro f l pend s hp h
    simp only [pOk, Bool.and_eq_true] at hp
    obtain ⟨⟨⟨⟨h1, h2⟩, h3, h4⟩, h5, h6⟩, h7, h8⟩ := hp
    cases f with
    | zero => cases h1
    | succ f =>
      simp only [arun] at h
      split at h
      · rename_i o o' o'' ho ho' ho''
        refine JA.now hT hb h2 (by simp) fun e he => ?_
        simp only [List.mem_cons, List.not_mem_nil, or_false] at he
        rcases he with rfl | rfl | rfl
        · exact ⟨h3, o, by simpa using ho, aop_imp (fun s' hs => ih1 _ _ _ _ h4 hs) (one ho h3 h.1)⟩
        · exact ⟨h5, o', by simpa using ho', aop_imp (fun s' hs => ih2 _ _ _ _ h6 hs) (one ho' h5 h.2.1)⟩
        · exact ⟨h7, o'', by simpa using ho'', aop_imp (fun s' hs => ih3 _ _ _ _ h8 hs) (one ho'' h7 h.2.2)⟩
      · exact h.elim

theorem ACallX_imp {P : Program} {s : St} {f : Nat} {args : List V} {K K' : V → St → Prop} (hK : ∀ v s, K v s → K' v s) (h : ACallX P s f args K) : ACallX P s f args K' := by
  rcases h with h | h
  · refine .inl ?_
    rcases h with ⟨n, args', h1, h2, h3⟩ | ⟨args', h1, h2, h3, h0, h4⟩ | ⟨n, args', ls, objs', h1, h2, h3, h4, h5⟩
    · exact .inl ⟨n, args', h1, h2, h3.mono fun _ _ h => hK _ _ h⟩
    · exact .inr (.inl ⟨args', h1, h2, h3, h0, h4.mono fun _ _ ⟨x, e, f, h⟩ => ⟨x, e, f, hK _ _ h⟩⟩)
    · exact .inr (.inr ⟨n, args', ls, objs', h1, h2, h3, h4, h5.mono fun _ _ ⟨x, e, f, h⟩ => ⟨x, e, f, hK _ _ h⟩⟩)
  · refine .inr ?_
    rcases h with ⟨n, h1, hc, h2⟩ | ⟨n, lo, hi, args', ls, objs', h1, h2, h3, h4, h5, h6⟩ | ⟨bo, sz, q, szA, rows, i, j, r, ls, fl, h1, h2, h3, h4, h5, h6, h7, h8, h9, h10⟩ | ⟨id, szA, rows, args', ls, lo, h1, h2, h3, h4, h5, h6, h7, h8, h9⟩
    · refine .inl ⟨n, h1, hc, fun m hm hb ha => ?_⟩
      obtain ⟨env', objs', args', g1, g2, g3, g4⟩ := h2 m hm hb ha
      exact ⟨env', objs', args', g1, g2, g3, g4.mono fun _ _ h => hK _ _ h⟩
    · exact .inr (.inl ⟨n, lo, hi, args', ls, objs', h1, h2, h3, h4, h5, h6.mono fun _ _ ⟨x, e, f, h⟩ => ⟨x, e, f, hK _ _ h⟩⟩)
    · exact .inr (.inr (.inl ⟨bo, sz, q, szA, rows, i, j, r, ls, fl, h1, h2, h3, h4, h5, h6, h7, h8, h9, h10.mono fun _ _ ⟨x, q', e1, e2, e3, e4, e5, h⟩ => ⟨x, q', e1, e2, e3, e4, e5, hK _ _ h⟩⟩))
    · exact .inr (.inr (.inr ⟨id, szA, rows, args', ls, lo, h1, h2, h3, h4, h5, h6, h7, h8, h9.mono fun _ _ ⟨x, rows', e1, e2, e3, e4, h⟩ => ⟨x, rows', e1, e2, e3, e4, hK _ _ h⟩⟩))

theorem aopSt_imp {TT : Nat → Option TI} {s : St} {dst : Option Nat} {t : TypeId} {x v : Operand} {K K' : St → Prop} (hK : ∀ s, K s → K' s) (h : aopSt TT s dst t x v K) : aopSt TT s dst t x v K' := by
  unfold aopSt at h ⊢
  obtain ⟨h1, h2, h3, h4, h5, h⟩ := h
  refine ⟨h1, h2, h3, h4, h5, ?_⟩
  split at h
  · exact ⟨h.1, hK _ h.2⟩
  · exact hK _ h
  · exact h.elim

theorem aopU_imp {P : Program} {TT : Nat → Option TI} {u : Bool} {s : St} {dst : Option Nat} {op : Op} {K K' : St → Prop} (hK : ∀ s, K s → K' s) (h : aopU TT P u s dst op K) : aopU TT P u s dst op K' := by
  unfold aopU at h ⊢
  split at h
  · refine h.imp (fun h => aop_imp hK h) (fun ⟨e, h⟩ => ⟨e, ?_⟩)
    split at h
    · exact ACallX_imp (fun v s h => hK _ h) h
    · exact h.elim
  · exact h.imp (fun h => aop_imp hK h) (fun ⟨e, h⟩ => ⟨e, aopSt_imp hK h⟩)
  · exact aop_imp hK h

theorem aopgU_imp {P : Program} {TT : Nat → Option TI} {ds : List (Option Nat) × Bool} {o : Oper} {s : St} {K K' : St → Prop} (hK : ∀ s, K s → K' s) (h : aopgU TT P ds s o K) : aopgU TT P ds s o K' := by
  unfold aopgU at h ⊢
  split at h
  · exact aopU_imp hK h
  · split at h
    · split at h
      · exact ⟨fun e => aopU_imp hK (h.1 e), fun e => hK _ (h.2 e)⟩
      · exact hK _ h
      · exact h.elim
    · exact h.elim

theorem aops_imp {P : Program} {TT : Nat → Option TI} {ds : List (Option Nat) × Bool} : ∀ {l : List Oper} {s : St} {K K' : St → Prop}, (∀ s, K s → K' s) → aops TT P ds l s K → aops TT P ds l s K'
  | [], _, _, _, hK, h => hK _ h
  | _ :: _, _, _, _, hK, h => aopgU_imp (fun _ hs => aops_imp hK hs) h

theorem aone_mono {ops : List Oper} {o : Oper} {s : St} {K K' : St → Prop} (hK : ∀ s, K s → K' s) (h : aone TT P ops o s K) : aone TT P ops o s K' := by
  have q : ∀ {s : St} {fv : V} {args : List V} {F F' : V → Prop}, (∀ v, F v → F' v) → ACallQ P s fv args F → ACallQ P s fv args F' :=
    fun hF ⟨g, cap, R, args', h1, h2, h3, h4, h5⟩ => ⟨g, cap, R, args', h1, h2, h3, h4, hF _ h5⟩
  unfold aone at h ⊢
  split at h
  · split at h
    · exact q (fun v hv => hK _ hv) h
    · split at h
      · split at h
        · exact ⟨fun e => q (fun v hv => hK _ hv) (h.1 e), fun e => hK _ (h.2 e)⟩
        · exact hK _ h
        · exact h.elim
      · exact h.elim
  · exact ⟨h.1, aops_imp hK h.2⟩

theorem arun_mono {ops : List Oper} {K K' : St → Prop} (hK : ∀ s, K s → K' s) : ∀ (p : Plan) {s : St}, arun TT P ops p s K → arun TT P ops p s K' := by
  intro p
  induction p with
  | fin => intro s h; exact hK s h
  | q i p ih =>
    intro s h
    simp only [arun] at h ⊢
    split at h
    · exact aone_mono (fun s hs => ih hs) h
    · exact h.elim
  | l i p ih =>
    intro s h
    simp only [arun] at h ⊢
    split at h
    · obtain ⟨q1, q2, q3, q4⟩ := h
      exact ⟨q1, q2, q3, pv_mono (fun v hv => ih hv) q4⟩
    · exact h.elim
  | b i p ih =>
    intro s h
    simp only [arun] at h ⊢
    split at h
    · obtain ⟨hg, t, len, parts, e, rows, q1, q2, q3, q4, q5, q6⟩ := h
      exact ⟨hg, t, len, parts, e, rows, q1, q2, q3, q4, q5, ih q6⟩
    · exact h.elim
  | e i p ih =>
    intro s h
    simp only [arun] at h ⊢
    split at h
    · exact aops_imp (fun s hs => ih hs) h
    · exact h.elim
  | two i p j r ih1 ih2 =>
    intro s h
    simp only [arun] at h ⊢
    split at h
    · exact ⟨aops_imp (fun s hs => ih1 hs) h.1, aops_imp (fun s hs => ih2 hs) h.2⟩
    · exact h.elim
  | three i p j r k t ih1 ih2 ih3 =>
    intro s h
    simp only [arun] at h ⊢
    split at h
    · exact ⟨aops_imp (fun s hs => ih1 hs) h.1, aops_imp (fun s hs => ih2 hs) h.2.1, aops_imp (fun s hs => ih3 hs) h.2.2⟩
    · exact h.elim

/-- A region whose order is drawn. -/
theorem AW.draw {Q : Exit → St → Prop} {s : St} (p : Plan) (hT : TOk P TT) (hm : P.follows .mixedOrders = true) {id : Nat} {l : List Oper} (hb : regB s.n l = true)
    (hp : pOk ⟨l⟩ (lsOf p) p l.length (Array.replicate l.length false) [] = true) (h : arun TT P l p s (Q .normal)) : AW P (.region id ⟨l⟩ true) Q s := by
  refine ⟨fun x a w hC => ?_⟩
  have hn : a.tmps.size = s.n := by obtain ⟨ok, ρ, h⟩ := CC_iff.1 hC; exact h.size
  refine wp_region_any hm ?_
  refine arun_ja (x := x) (ls := lsOf p) hT hb p _ _ _ s hp h (by simp) (fun i hi => by cases hi) _ (by simp) (fun _ _ => rfl) (fun i hi => by cases hi) _ (fun a w h => h) a _ hn ?_
  obtain ⟨ok, ρ, c1, c2, c3, c4, c5, c6⟩ := hC
  have ho : ∀ (id : Nat) (o : O), ORep w ok ρ id o → ORep { w with drawn := w.drawn + 1 } ok ρ id o := fun id o h => h.mono (fun _ _ => rfl) (fun _ h => h) (fun _ _ h => h) (fun _ _ h => h) (fun _ _ _ => rfl)
  exact ⟨ok, ρ, ⟨c1.1, c1.2, fun id o h => ho id o (c1.3 id o h), c1.4, c1.5⟩, ⟨c2.1, c2.2, c2.3, c2.4, c2.5, c2.6, c2.7, c2.8, c2.9, c2.10, fun b h => (c2.11 b h).imp_right (fun ⟨cs, t, e⟩ => ⟨cs, t, e⟩), c2.12⟩,
    fun j => (c3 j).mono (fun _ _ => rfl) (fun _ h => h) (fun _ _ h => h) (fun _ _ h => h), c4, c5, c6⟩

theorem AW.drawS {Q : Exit → St → Prop} {s : St} (p : Plan) (hT : TOk P TT) (hm : P.follows .mixedOrders = true) {id : Nat} {l : List Oper} {c : Code} (hb : regB s.n l = true)
    (hp : pOk ⟨l⟩ (lsOf p) p l.length (Array.replicate l.length false) [] = true) (h : arun TT P l p s fun s' => AW P c Q s') : AW P (.seq (.region id ⟨l⟩ true) c) Q s :=
  .seq (.draw p hT hm hb hp h)

/-- A nil slice is taken for one of an own array without rows. -/
theorem Weak.own {s : St} (t sz : Nat) (ht : getE s.env t = .nils) : Weak s ⟨(t, .msl s.objs.length sz 0 0) :: s.env, s.objs ++ [.arr sz []], s.n, s.fx⟩ := by
  refine ⟨fun x a w hC => ?_⟩
  obtain ⟨ok, ρ, hI, hF, hE, hn, hd, hx⟩ := hC
  obtain ⟨h1, h2, h3⟩ := step_new (w' := w) hI hF (Nat.le_refl _) (fun _ _ => rfl) rfl rfl rfl none (fun b hb => by cases hb)
    (o := .arr sz []) ⟨fun r hr => (by cases hr), .inl ⟨rfl, (by rw [← hI.len]; simp)⟩⟩
  refine ⟨ok, ρ ++ [none], h1, h2, fun j => ?_, hn, hd, hx⟩
  simp only [getE]
  split
  · rename_i e
    subst e
    have := hE t
    rw [ht] at this
    generalize a.tmps.getD t undef = v at this ⊢
    cases this
    exact .msl0 (by rw [List.length_append, hI.len]; simp)
  · exact h3 _ _ (hE j)

/-- A nil slice is taken for one of an own array without rows. -/
theorem AW.own {Q : Exit → St → Prop} {s : St} {c : Code} (t sz : Nat) (ht : getE s.env t = .nils) (h : AW P c Q ⟨(t, .msl s.objs.length sz 0 0) :: s.env, s.objs ++ [.arr sz []], s.n, s.fx⟩) : AW P c Q s :=
  .weak (Weak.own t sz ht) h

/-- A region whose order is drawn, behind which all goes on from the state S. -/
theorem AW.drawW {Q : Exit → St → Prop} {s : St} (S : St) (p : Plan) (hT : TOk P TT) (hm : P.follows .mixedOrders = true) {id : Nat} {l : List Oper} {c : Code} (hb : regB s.n l = true)
    (hp : pOk ⟨l⟩ (lsOf p) p l.length (Array.replicate l.length false) [] = true) (h : arun TT P l p s fun s' => Weak s' S) (hc : AW P c Q S) : AW P (.seq (.region id ⟨l⟩ true) c) Q s := by
  refine AW.seq ⟨fun x a w hC => ?_⟩
  refine wp_mono ((AW.draw (Q := fun e s' => e = .normal ∧ Weak s' S) p hT hm hb hp (arun_mono (fun s' hs => ⟨rfl, hs⟩) p h)).run x a w hC) ?_
  rintro e a' w' ⟨s', ⟨rfl, h1⟩, h2⟩
  exact ⟨S, hc, h1.run x a' w' h2⟩

theorem ACallQ.of {s : St} {g : Nat} {cap : List D} {args args' : List V} {R : V} {K : V → Prop} (h : argVs s.objs [] [] (args ++ cap.map .d) = some args') (hc : ACon P g args' [] (Is R)) (hr : noRef R = true)
    (hK : K R) : ACallQ P s (.d (.fn g cap)) args K := ⟨g, cap, R, args', rfl, h, hc, hr, hK⟩

end

section
variable {P : Program} {TT : Nat → Option TI} {s s' : St} {ops : List Oper} {K : St → Prop} {i j k : Nat} {p r t : Plan} {o : Oper}
attribute [go_sem] callOf isEff
@[congr] theorem aone_congr (h : s = s') : aone TT P ops o s K = aone TT P ops o s' K := by rw [h]
@[congr] theorem arun_congr (h : s = s') : arun TT P ops p s K = arun TT P ops p s' K := by rw [h]
@[congr] theorem ACallQ_congr {fv fv' : V} {args args' : List V} {K : V → Prop} (h : s = s') (h1 : fv = fv') (h2 : args = args') : ACallQ P s fv args K = ACallQ P s' fv' args' K := by rw [h, h1, h2]
/-- The rest of the plan. -/
def contR (TT : Nat → Option TI) (P : Program) (ops : List Oper) (p : Plan) (K : St → Prop) : St → Prop := fun s => arun TT P ops p s K
@[congr] theorem contR_congr (h : s = s') : contR TT P ops p K s = contR TT P ops p K s' := by rw [h]
@[go_sem] theorem contR_eq : contR TT P ops p K s = arun TT P ops p s K := rfl
def contO (dst : Option Nat) (s : St) (K : St → Prop) : V → Prop := fun v => K (s.put dst v)
@[congr] theorem contO_congr {dst : Option Nat} {v v' : V} (h : s = s') (h' : v = v') : contO dst s K v = contO dst s' K v' := by rw [h, h']
@[go_sem] theorem contO_eq {dst : Option Nat} {v : V} : contO dst s K v = K (s.put dst v) := rfl
@[go_sem] theorem arun_fin : arun TT P ops .fin s K = K s := rfl
@[go_sem] theorem arun_q : arun TT P ops (.q i p) s K = match ops[i]? with
    | some o => aone TT P ops o s (contR TT P ops p K)
    | none => False := rfl
@[go_sem] theorem arun_e : arun TT P ops (.e i p) s K = match ops[i]? with
    | some o => aops TT P (ops.map (·.dst), false) [o] s (contR TT P ops p K)
    | none => False := rfl
@[go_sem] theorem arun_two : arun TT P ops (.two i p j r) s K = match ops[i]?, ops[j]? with
    | some o, some o' => (aops TT P (ops.map (·.dst), false) [o] s (contR TT P ops p K)) ∧ (aops TT P (ops.map (·.dst), false) [o'] s (contR TT P ops r K))
    | _, _ => False := rfl
@[go_sem] theorem arun_three : arun TT P ops (.three i p j r k t) s K = match ops[i]?, ops[j]?, ops[k]? with
    | some o, some o', some o'' => (aops TT P (ops.map (·.dst), false) [o] s (contR TT P ops p K)) ∧ (aops TT P (ops.map (·.dst), false) [o'] s (contR TT P ops r K)) ∧
      (aops TT P (ops.map (·.dst), false) [o''] s (contR TT P ops t K))
    | _, _, _ => False := rfl
@[go_sem] theorem aone_eq : aone TT P ops o s K = match callOf o.op with
  | some (f, args) => (match o.guard with
    | none => ACallQ P s (s.ev f) (args.map s.ev) (contO o.dst s K)
    | some (j, want) => (match (ops.map (·.dst))[j]? with
      | some (some d) => (match getE s.env d with
        | .d (.bool b) => (b = want → ACallQ P s (s.ev f) (args.map s.ev) (contO o.dst s K)) ∧ (b = (!want) → K (s.put o.dst (.tup [])))
        | .tup [] => K (s.put o.dst (.tup []))
        | _ => False)
      | _ => False))
  | none => isEff o.op = false ∧ aops TT P (ops.map (·.dst), false) [o] s K := rfl
end
attribute [go_sem] List.mem_cons List.not_mem_nil List.getElem?_nil Nat.sub_zero Nat.add_zero Nat.le_refl List.length_map Nat.zero_add List.drop_nil List.mem_singleton forall_eq take_one exists_eq' exists_eq or_true true_or false_or or_false false_and and_false List.getElem?_cons_zero List.getElem?_cons_succ List.length_cons List.length_nil List.map_cons List.map_nil List.append_nil List.nil_append List.cons_append List.drop_zero List.drop_succ_cons List.take_succ_cons List.take_zero List.set_cons_zero List.set_cons_succ Option.map_some Option.map_none Bool.not_true Bool.not_false decide_eq_true_eq decide_eq_false_iff_not true_and and_true forall_const true_implies false_implies Option.some.injEq V.d.injEq D.bool.injEq D.int.injEq D.str.injEq V.agg.injEq V.tup.injEq List.cons.injEq Int.natCast_add Int.cast_ofNat_Int Int.toNat_natCast implies_true and_self if_true if_false
end Go.Fw

/- An own object that becomes data: it is never written again. -/
set_option linter.unusedSimpArgs false
set_option linter.unusedVariables false
namespace Go.Fw

section
variable {P : Program} {w w' : World} {ok : Nat → Prop} {ρ : List (Option Nat)} {objs : List O} {x : Ctx}

/-- The blocks of data behind an object's freezing. -/
def okF (ok : Nat → Prop) (ρ : List (Option Nat)) (id : Nat) (b : Nat) : Prop := ok b ∨ ρ[id]? = some (some b)

theorem step_freezeO (hI : Inv w ok ρ objs) (hF : Frm x w ok ρ objs) {id : Nat} {o : O} (hid : objs[id]? = some o) (hlo : o.live = true) :
    Inv w (okF ok ρ id) ρ (objs.set id .dead) ∧ Frm x w (okF ok ρ id) ρ (objs.set id .dead) := by
  have hlt := (List.getElem?_eq_some_iff.1 hid).1
  have hset : ∀ (i : Nat) (q : O), (objs.set id .dead)[i]? = some q → q = .dead ∨ (i ≠ id ∧ objs[i]? = some q) := by
    intro i q h
    by_cases e : i = id
    · subst e; rw [List.getElem?_set_self hlt] at h; exact .inl (by simpa using h.symm)
    · rw [List.getElem?_set_ne (Ne.symm e)] at h; exact .inr ⟨e, h⟩
  have hlv : ∀ (i : Nat) (q : O), (objs.set id .dead)[i]? = some q → q.live = true → i ≠ id ∧ objs[i]? = some q := by
    intro i q h hq
    rcases hset i q h with rfl | h
    · simp [O.live] at hq
    · exact h
  refine ⟨⟨by simp [hI.len], fun b hb => ?_, ?_, ?_, ?_⟩, ⟨hF.os, hF.tape, hF.output, hF.size, hF.block, hF.shape, fun b hb => .inl (hF.okup b hb), ?_, hF.rho, ?_, fun b hb => ?_, hF.pres⟩⟩
  · rcases hb with hb | hb
    · exact hI.okb b hb
    · exact hI.live_lt hid hlo hb
  · intro i q h
    rcases hset i q h with rfl | ⟨_, h⟩
    · trivial
    · exact (hI.own i q h).mono (fun _ _ => rfl) (fun _ h => .inl h) (fun _ _ h => h) (fun _ _ h => h) (fun _ _ _ => rfl)
  · intro i j oi oj k hi hj hli hlj
    exact hI.dis i j oi oj k (hlv _ _ hi hli).2 (hlv _ _ hj hlj).2 hli hlj
  · intro i q k hi hq hk hok
    obtain ⟨e1, e2⟩ := hlv _ _ hi hq
    rcases hok with hok | hok
    · exact hI.nok i q k e2 hq hk hok
    · exact e1 (hI.dis i id q _ k e2 hid hq hlo hk hok)
  · intro k h
    rcases h with h | h
    · rcases hF.okdn k h with h | h | ⟨i, q, h1, h2, h3, h4⟩
      · exact .inl h
      · exact .inr (.inl h)
      · refine .inr (.inr ⟨i, q, h1, h2, h3, ?_⟩)
        have := (List.getElem?_eq_some_iff.1 h4).1
        rw [List.getElem?_set]
        split
        · first | rfl | rw [if_pos (by omega)]
        · exact h4
    · rcases hF.own id _ k hid hlo h with h' | ⟨i0, o0, h1, h2, h3⟩
      · exact .inr (.inl h')
      · have hi0 : i0 < x.objs.length := (List.getElem?_eq_some_iff.1 h1).1
        have hr := hF.rho i0 _ hi0 h3
        have hl0 : i0 < objs.length := by rw [← hI.len]; exact (List.getElem?_eq_some_iff.1 hr).1
        refine .inr (.inr ⟨i0, o0, h1, h2, h3, ?_⟩)
        cases ho : objs[i0]'hl0 with
        | dead =>
          by_cases e : i0 = id
          · subst e; rw [List.getElem?_set_self hlt]
          · rw [List.getElem?_set_ne (Ne.symm e), List.getElem?_eq_getElem hl0, ho]
        | box cells =>
          have := hI.dis i0 id _ _ k (List.getElem?_eq_getElem hl0) hid (by rw [ho]; rfl) hlo hr h
          subst this; rw [List.getElem?_set_self hlt]
        | arr sz' rows' =>
          have := hI.dis i0 id _ _ k (List.getElem?_eq_getElem hl0) hid (by rw [ho]; rfl) hlo hr h
          subst this; rw [List.getElem?_set_self hlt]
  · intro i q k hi hq hk
    exact hF.own i q k (hlv _ _ hi hq).2 hq hk
  · rcases hb with hb | hb
    · exact hF.unf b hb
    · refine .inr ?_
      have := hI.own id o hid
      cases o with
      | dead => simp [O.live] at hlo
      | box cells =>
        obtain ⟨b', cs, t, h1, h2, _⟩ := this
        obtain rfl : b = b' := by rw [hb] at h1; simpa using h1
        exact ⟨cs, t, h2⟩
      | arr sz rows =>
        obtain ⟨_, ⟨_, h2⟩ | ⟨b', cs, t, h1, h2, _⟩⟩ := this
        · rw [hb] at h2; simp at h2
        · obtain rfl : b = b' := by rw [hb] at h1; simpa using h1
          exact ⟨cs, t, h2⟩

theorem step_freeze (hI : Inv w ok ρ objs) (hF : Frm x w ok ρ objs) {id sz : Nat} {rows : List (List D)} (hid : objs[id]? = some (.arr sz rows)) :
    Inv w (okF ok ρ id) ρ (objs.set id .dead) ∧ Frm x w (okF ok ρ id) ρ (objs.set id .dead) := step_freezeO hI hF hid rfl

theorem freeze_box (hI : Inv w ok ρ objs) {id : Nat} {cells : List D} (ho : objs[id]? = some (.box (cells.map .d))) {v : Value} (h : VRep w ok ρ (.oref id 0) v) : DRep w (okF ok ρ id) (.ptr cells) v := by
  obtain ⟨b, cs, t, o1, o2, o3, o4⟩ := hI.own _ _ ho
  cases h with
  | oref h =>
    rw [o1] at h
    cases h
    refine .ptr (vs := fun j => cs.getD j undef) (.inr o1) (fun j y hj => ?_) (fun j y hj => ?_)
    · have hjl := (List.getElem?_eq_some_iff.1 hj).1
      have hlt : j < cs.size := by rw [o3, List.length_map]; exact hjl
      simp [World.cell?, o2, Array.getD, hlt]
    · have := o4 j (.d y) (by rw [List.getElem?_map, hj]; rfl)
      generalize cs.getD j undef = u at this ⊢
      cases this with
      | d h => exact h.mono (fun _ _ => rfl) (fun _ h => .inl h)

/-- A variable that is never written again is data. -/
theorem Weak.freezeBox {s : St} (t id : Nat) {cells : List D} (ht : getE s.env t = .oref id 0) (ho : s.objs[id]? = some (.box (cells.map .d))) :
    Weak s ⟨(t, .d (.ptr cells)) :: s.env, s.objs.set id .dead, s.n, s.fx⟩ := by
  refine ⟨fun x a w hC => ?_⟩
  obtain ⟨ok, ρ, hI, hF, hE, hn, hd, hx⟩ := hC
  obtain ⟨h1, h2⟩ := step_freezeO hI hF ho rfl
  refine ⟨okF ok ρ id, ρ, h1, h2, fun j => ?_, hn, hd, hx⟩
  have hm : ∀ {y v}, VRep w ok ρ y v → VRep w (okF ok ρ id) ρ y v := fun h => h.mono (fun _ _ => rfl) (fun _ h => .inl h) (fun _ _ h => h) (fun _ _ h => h)
  simp only [getE]
  split
  · rename_i e
    subst e
    have := hE t
    rw [ht] at this
    exact .d (freeze_box hI ho this)
  · exact hm (hE j)

/-- The value behind the freezing of the object id. -/
def frzV (id sz : Nat) (rows : List (List D)) : V → V → Prop
  | .msl j sz' off len, y => (j = id ∧ sz' = sz ∧ off + len ≤ rows.length ∧ y = .d (.lst ((rows.drop off).take len))) ∨ y = .msl j sz' off len
  | v, y => y = v

theorem freeze_rep (hI : Inv w ok ρ objs) {id sz off len : Nat} {rows : List (List D)} (ho : objs[id]? = some (.arr sz rows)) (hle : off + len ≤ rows.length) {v : Value}
    (h : VRep w ok ρ (.msl id sz off len) v) : DRep w (okF ok ρ id) (.lst ((rows.drop off).take len)) v := by
  obtain ⟨h0, h1⟩ := hI.own _ _ ho
  cases h with
  | @msl _ _ _ _ cap b t n h hc hs hn =>
    rcases h1 with ⟨_, e2⟩ | ⟨b', cs, bt, o1, o2, o3, o4⟩
    · rw [h] at e2; simp at e2
    rw [o1] at h
    obtain rfl : b' = b := by simpa using h
    have hlen : ((rows.drop off).take len).length = len := by simp; omega
    have hd : DRep w (okF ok ρ id) (.lst ((rows.drop off).take len)) (.slice (some ⟨b', off * sz, none⟩) ((rows.drop off).take len).length cap) := by
      refine .lst (sz := sz) (vs := fun i j => cs.getD ((off + i) * sz + j) undef) (.inr o1) (fun r hr => h0 r (List.mem_of_mem_drop (List.mem_of_mem_take hr))) (by omega) (fun i j r y hi hj => ?_) (fun i j r y hi hj => ?_)
      all_goals
        rw [List.getElem?_take] at hi
        split at hi
        case isFalse => simp at hi
        rw [List.getElem?_drop] at hi
      · have hil := (List.getElem?_eq_some_iff.1 hi).1
        have hjl : j < sz := by have := (List.getElem?_eq_some_iff.1 hj).1; have := h0 r (List.mem_of_getElem? hi); omega
        have hlt := row_lt (sz := sz) hil hjl
        have hlt2 : (off + i) * sz + j < cs.size := by omega
        rw [show off * sz + (i * sz + j) = (off + i) * sz + j by rw [Nat.add_mul]; omega]
        simp [World.cell?, o2, Array.getD, hlt2]
      · exact (o4 _ _ _ _ hi hj).mono (fun _ _ => rfl) (fun _ h => .inl h)
    rwa [hlen] at hd
  | msl0 h => rw [List.take_zero]; exact .nil

/-- The slots t, which hold all of the object's rows (or a part), hold data. -/
theorem Weak.freeze {s : St} (t id sz off len : Nat) {rows : List (List D)} (ht : getE s.env t = .msl id sz off len) (ho : s.objs[id]? = some (.arr sz rows)) (hl : off + len ≤ rows.length) :
    Weak s ⟨(t, .d (.lst ((rows.drop off).take len))) :: s.env, s.objs.set id .dead, s.n, s.fx⟩ := by
  refine ⟨fun x a w hC => ?_⟩
  obtain ⟨ok, ρ, hI, hF, hE, hn, hd, hx⟩ := hC
  obtain ⟨h1, h2⟩ := step_freeze hI hF ho
  refine ⟨okF ok ρ id, ρ, h1, h2, fun j => ?_, hn, hd, hx⟩
  have hm : ∀ {y v}, VRep w ok ρ y v → VRep w (okF ok ρ id) ρ y v := fun h => h.mono (fun _ _ => rfl) (fun _ h => .inl h) (fun _ _ h => h) (fun _ _ h => h)
  simp only [getE]
  split
  · rename_i e
    subst e
    have := hE t
    rw [ht] at this
    exact .d (freeze_rep hI ho hl this)
  · exact hm (hE j)

/-- All rows of the object. -/
theorem AW.freeze {Q : Exit → St → Prop} {s : St} {c : Code} (t id sz : Nat) {len : Nat} {rows : List (List D)} (ht : getE s.env t = .msl id sz 0 len) (ho : s.objs[id]? = some (.arr sz rows)) (hl : len = rows.length)
    (h : AW P c Q ⟨(t, .d (.lst rows)) :: s.env, s.objs.set id .dead, s.n, s.fx⟩) : AW P c Q s := by
  have := Weak.freeze t id sz 0 len ht ho (by omega)
  rw [List.drop_zero, hl, List.take_length] at this
  exact .weak this h

/-- A nil slice is data. -/
theorem Weak.nil {s : St} (t : Nat) (ht : getE s.env t = .nils) : Weak s ⟨(t, .d (.lst [])) :: s.env, s.objs, s.n, s.fx⟩ := by
  refine ⟨fun x a w hC => ?_⟩
  obtain ⟨ok, ρ, hI, hF, hE, hn, hd, hx⟩ := hC
  refine ⟨ok, ρ, hI, hF, fun j => ?_, hn, hd, hx⟩
  simp only [getE]
  split
  · rename_i e
    subst e
    have := hE t
    rw [ht] at this
    generalize a.tmps.getD t undef = v at this ⊢
    cases this
    exact .d .nil
  · exact hE j

theorem AW.nil {Q : Exit → St → Prop} {s : St} {c : Code} (t : Nat) (ht : getE s.env t = .nils) (h : AW P c Q ⟨(t, .d (.lst [])) :: s.env, s.objs, s.n, s.fx⟩) : AW P c Q s := .weak (Weak.nil t ht) h

/-- A slot inside a struct is frozen. -/
theorem Weak.freezeIn {s : St} (t id sz len : Nat) {rows : List (List D)} {cs : List V} (i : Nat) (ht : getE s.env t = .agg cs) (hi : cs[i]? = some (.msl id sz 0 len)) (ho : s.objs[id]? = some (.arr sz rows)) (hl : len = rows.length) :
    Weak s ⟨(t, .agg (cs.set i (.d (.lst rows)))) :: s.env, s.objs.set id .dead, s.n, s.fx⟩ := by
  refine ⟨fun x a w hC => ?_⟩
  obtain ⟨ok, ρ, hI, hF, hE, hn, hd, hx⟩ := hC
  obtain ⟨h1, h2⟩ := step_freeze hI hF ho
  refine ⟨okF ok ρ id, ρ, h1, h2, fun j => ?_, hn, hd, hx⟩
  have hm : ∀ {y v}, VRep w ok ρ y v → VRep w (okF ok ρ id) ρ y v := fun h => h.mono (fun _ _ => rfl) (fun _ h => .inl h) (fun _ _ h => h) (fun _ _ h => h)
  simp only [getE]
  split
  · rename_i e
    subst e
    have := hE t
    rw [ht] at this
    generalize a.tmps.getD t undef = v at this ⊢
    cases this with
    | agg hn' hv =>
      refine .agg (by rw [List.length_set]; exact hn') fun k c hk => ?_
      rw [List.getElem?_set] at hk
      split at hk
      · rename_i e
        subst e
        split at hk
        · obtain rfl : V.d (.lst rows) = c := by simpa using hk
          have hr := freeze_rep hI ho (off := 0) (len := len) (by omega) (hv _ _ hi)
          rw [List.drop_zero, hl, List.take_length] at hr
          exact .d hr
        · simp at hk
      · exact hm (hv _ _ hk)
  · exact hm (hE j)

/-- A nil slice inside a struct is data. -/
theorem Weak.nilIn {s : St} (t : Nat) {cs : List V} (i : Nat) (ht : getE s.env t = .agg cs) (hi : cs[i]? = some .nils) :
    Weak s ⟨(t, .agg (cs.set i (.d (.lst [])))) :: s.env, s.objs, s.n, s.fx⟩ := by
  refine ⟨fun x a w hC => ?_⟩
  obtain ⟨ok, ρ, hI, hF, hE, hn, hd, hx⟩ := hC
  refine ⟨ok, ρ, hI, hF, fun j => ?_, hn, hd, hx⟩
  simp only [getE]
  split
  · rename_i e
    subst e
    have := hE t
    rw [ht] at this
    generalize a.tmps.getD t undef = v at this ⊢
    cases this with
    | agg hn' hv =>
      refine .agg (by rw [List.length_set]; exact hn') fun k c hk => ?_
      rw [List.getElem?_set] at hk
      split at hk
      · rename_i e
        subst e
        split at hk
        · obtain rfl : V.d (.lst []) = c := by simpa using hk
          have := hv _ _ hi
          generalize Array.getD _ _ _ = u at this ⊢
          cases this
          exact .d .nil
        · simp at hk
      · exact hv _ _ hk
  · exact hE j

end

def St.keep (s : St) (ls : List Nat) : St := ⟨keepE s.env ls, s.objs, s.n, s.fx⟩

theorem keepE_get {e : List (Nat × V)} : ∀ (ls : List Nat) (j : Nat), getE (keepE e ls) j = .any ∨ getE (keepE e ls) j = getE e j
  | [], j => .inl rfl
  | i :: ls, j => by
    simp only [keepE, getE]
    split
    · rename_i h; subst h; exact .inr rfl
    · exact keepE_get ls j

theorem Weak.keep {s : St} (ls : List Nat) : Weak s (s.keep ls) := by
  refine ⟨fun x a w hC => ?_⟩
  obtain ⟨ok, ρ, hI, hF, hE, hn, hd, hx⟩ := hC
  refine ⟨ok, ρ, hI, hF, fun j => ?_, hn, hd, hx⟩
  rcases keepE_get (e := s.env) ls j with h | h
  · show VRep w ok ρ (getE (keepE s.env ls) j) _
    rw [h]; exact .any
  · show VRep w ok ρ (getE (keepE s.env ls) j) _
    rw [h]; exact hE j

/-- The slots that are read behind the region id. -/
def lvOf (lv : List (List Nat)) (id : Nat) : List Nat := (lv[id]?).getD []

/-- A region, and what follows it, with the slots that are still read. -/
theorem AW.stepL {P : Program} {TT : Nat → Option TI} {Q : Exit → St → Prop} {s : St} (lv : List (List Nat)) (hT : TOk P TT) {id : Nat} {l : List Oper} {c : Code} (hb : regB s.n l = true)
    (h : aops TT P (l.map (·.dst), true) l s fun s' => AW P c Q (s'.keep (lvOf lv id))) : AW P (.seq (.region id ⟨l⟩ false) c) Q s := by
  refine AW.seq ((AW.region (Q := fun e s' => e = .normal ∧ AW P c Q (s'.keep (lvOf lv id))) hT hb (aops_imp (fun s' hs => ⟨rfl, hs⟩) h)).mono ?_)
  rintro e s' ⟨rfl, h⟩
  exact .weak (Weak.keep _) h

theorem AW.drawSL {P : Program} {TT : Nat → Option TI} {Q : Exit → St → Prop} {s : St} (lv : List (List Nat)) (p : Plan) (hT : TOk P TT) (hm : P.follows .mixedOrders = true) {id : Nat} {l : List Oper} {c : Code} (hb : regB s.n l = true)
    (hp : pOk ⟨l⟩ (lsOf p) p l.length (Array.replicate l.length false) [] = true) (h : arun TT P l p s fun s' => AW P c Q (s'.keep (lvOf lv id))) : AW P (.seq (.region id ⟨l⟩ true) c) Q s := by
  refine AW.seq ((AW.draw (Q := fun e s' => e = .normal ∧ AW P c Q (s'.keep (lvOf lv id))) p hT hm hb hp (arun_mono (fun s' hs => ⟨rfl, hs⟩) p h)).mono ?_)
  rintro e s' ⟨rfl, h⟩
  exact .weak (Weak.keep _) h

attribute [go_sem] keepE St.keep lvOf Option.getD_some Option.getD_none

/-- The result is R, and the objects OS go back. -/
def Own (R : V) (OS : List O) : V → List O → Prop := fun r os => r = R ∧ os = OS

theorem fin_own {objs OS : List O} {z R : V} (π : List Nat) (hn : π.Nodup) (ho : renOs π objs π OS) (h : renV π R = some z) : ∃ (π : List Nat) (y : V) (os : List O), π.Nodup ∧ renOs π objs π os ∧ renV π y = some z ∧ Own R OS y os :=
  ⟨π, R, OS, hn, ho, h, rfl, rfl⟩

/-- A call that hands over no object and lends none, of a function that gives new objects. -/
theorem ACall.own {P : Program} {s : St} {f : Nat} {args args' : List V} {K : V → St → Prop} {R : V} {OS : List O} (h : argVs s.objs [] [] args = some args')
    (hc : ACon P f args' [] (Own R OS)) (hK : K (backV [] s.objs.length R) { s with objs := s.objs ++ OS.map (backO [] s.objs.length) }) : ACall P s f args K := by
  refine ACall.pure h (hc.mono ?_)
  rintro r os ⟨rfl, rfl⟩
  exact hK

/-- A call that lends objects, of a function that gives new objects. -/
theorem ACall.ownLend {P : Program} {s : St} {f : Nat} {args args' : List V} {K : V → St → Prop} {R : V} {OS : List O} (bs : List Nat) (h : argVs s.objs [] bs args = some args')
    (hc : ACon P f args' [] (Own R OS)) (hf : flatV R = true ∧ ∀ o ∈ OS, flatO o) (hK : K (backV [] s.objs.length R) { s with objs := s.objs ++ OS.map (backO [] s.objs.length) }) : ACall P s f args K := by
  refine ACall.lend bs h (hc.mono ?_)
  rintro r os ⟨rfl, rfl⟩
  exact ⟨hf, hK⟩

/-- A call that hands over objects. -/
theorem ACall.hand {P : Program} {s : St} {f : Nat} {args args' : List V} {os0 os1 : List O} {K : V → St → Prop} {Q : V → List O → Prop} (ids : List Nat) (h : argVs s.objs ids [] args = some args') (hn : ids.Nodup)
    (hg : getO s.objs ids = some os0) (ho : argOs s.objs ids [] os0 = some os1) (hl : ∀ o ∈ os0, o.live = true) (hc : ACon P f args' os1 Q)
    (hK : ∀ r os, Q r os → K (backV ids s.objs.length r) { s with objs := backs ids s.objs.length s.objs os }) : ACall P s f args K :=
  ⟨ids, [], args', os0, os1, h, hn, by simp, hg, ho, hl, hc.mono fun r os hq => ⟨.inl rfl, hK r os hq⟩⟩

@[go_sem] theorem flatO_arr {sz : Nat} {rows : List (List D)} : flatO (.arr sz rows) = ∀ r ∈ rows, ∀ x ∈ r, x.flat = true := rfl
@[go_sem] theorem flatO_box {cs : List V} : flatO (.box cs) = (flatVs cs = true) := rfl
@[go_sem] theorem flatO_dead : flatO .dead = True := rfl
attribute [go_sem] List.forall_mem_map List.forall_mem_cons

end Go.Fw

/- The abstract machine's steps as functions whose values the unifier reckons: going through a region without simp. -/
set_option linter.unusedSimpArgs false
set_option linter.unusedVariables false
namespace Go.Fw

def getB : List (Nat × V) → Nat → V
  | [], _ => .any
  | (i, v) :: e, j => match Nat.beq i j with
    | true => v
    | false => getB e j

theorem getB_eq : ∀ (e : List (Nat × V)) (j : Nat), getB e j = getE e j
  | [], _ => rfl
  | (i, v) :: e, j => by
    simp only [getB, getE]
    rw [getB_eq e j]
    cases h : Nat.beq i j with
    | true => rw [if_pos (Nat.eq_of_beq_eq_true h)]
    | false => rw [if_neg (Nat.ne_of_beq_eq_false h)]

def evB (env : List (Nat × V)) : Operand → V
  | .tmp t => getB env t
  | .const v => constV v
  | .global _ => .any
  | .func f => .d (.fn f [])

theorem evB_eq {env : List (Nat × V)} {objs : List O} {n : Nat} {fx : FX} (o : Operand) : evB env o = St.ev ⟨env, objs, n, fx⟩ o := by
  cases o <;> simp [evB, St.ev, getB_eq]

inductive PR where
  | no
  | ok (v : V) (side : Prop)

def PR.holds (r : PR) (K : V → Prop) : Prop :=
  match r with
  | .no => False
  | .ok v s => s ∧ K v

/-- The value, in a form that shows its kind. -/
def force {α : Type} (v : V) (k : V → α) : α :=
  match v with
  | .d x => (match x with
    | .int k' n => k (.d (.int k' n))
    | .bool b => k (.d (.bool b))
    | .str s => k (.d (.str s))
    | .raw v => k (.d (.raw v))
    | .lst rows => k (.d (.lst rows))
    | .ptr cells => k (.d (.ptr cells))
    | .fn f cap => k (.d (.fn f cap))
    | .wint k' => k (.d (.wint k'))
    | .wbool => k (.d .wbool)
    | .wx row mx => k (.d (.wx row mx))
    | .hi n x => k (.d (.hi n x))
    | .bl b sz rows => k (.d (.bl b sz rows)))
  | .oref id off => k (.oref id off)
  | .aref id sz i off => k (.aref id sz i off)
  | .msl id sz off len => k (.msl id sz off len)
  | .nils => k .nils
  | .agg cs => k (.agg cs)
  | .tup vs => k (.tup vs)
  | .any => k .any
  | .hd n x => k (.hd n x)
  | .ld n x => k (.ld n x)
  | .iv lo hi x => k (.iv lo hi x)

theorem force_eq {α : Type} (v : V) (k : V → α) : force v k = k v := by
  cases v with
  | d x => cases x <;> rfl
  | _ => rfl

def forceL {α : Type} : List V → (List V → α) → α
  | [], k => k []
  | v :: vs, k => force v fun v' => forceL vs fun vs' => k (v' :: vs')

theorem forceL_eq {α : Type} : ∀ (vs : List V) (k : List V → α), forceL vs k = k vs
  | [], _ => rfl
  | v :: vs, k => by simp only [forceL, force_eq, forceL_eq vs]

def ibinB (op : BinOp) (k : IntKind) (a b : Int) : PR :=
  match op with
  | .add => .ok (.d (.int k (a + b))) (inR k (a + b))
  | .sub => .ok (.d (.int k (a - b))) (inR k (a - b))
  | .mul => .ok (.d (.int k (a * b))) (inR k (a * b))
  | .quo => .ok (.d (.int k (a.tdiv b))) (b ≠ 0 ∧ inR k (a.tdiv b))
  | .rem => .ok (.d (.int k (a.tmod b))) (b ≠ 0)
  | .and => .ok (.d (.int k (ibits .and k a b))) True
  | .or => .ok (.d (.int k (ibits .or k a b))) True
  | .xor => .ok (.d (.int k (ibits .xor k a b))) True
  | .andNot => .ok (.d (.int k (ibits .andNot k a b))) True
  | .eql => .ok (.d (.bool (decide (a = b)))) True
  | .neq => .ok (.d (.bool (decide (a ≠ b)))) True
  | .lss => .ok (.d (.bool (decide (a < b)))) True
  | .leq => .ok (.d (.bool (decide (a ≤ b)))) True
  | .gtr => .ok (.d (.bool (decide (a > b)))) True
  | .geq => .ok (.d (.bool (decide (a ≥ b)))) True
  | _ => .no

theorem ibinB_sound {op : BinOp} {k : IntKind} {a b : Int} {K : V → Prop} (h : (ibinB op k a b).holds K) : ibin op k a b K := by
  unfold ibinB at h
  split at h <;> simp only [PR.holds] at h <;> simp only [ibin] <;> first | exact h | exact h.2 | exact ⟨h.1.1, h.1.2, h.2⟩ | exact h.elim

def abinB (TT : Nat → Option TI) (op : BinOp) (t : TypeId) (x y : V) : PR :=
  match x with
  | .d (.int k a) => (match y with
    | .d (.int k' b) => (match ibinB op k a b with
      | .ok v s => .ok v (k = k' ∧ s)
      | .no => .no)
    | _ => .no)
  | .d (.str a) => (match y with
    | .d (.str b) => (match op with
      | .add => .ok (.d (.str (a ++ b))) (a.length + b.length < 2 ^ 63)
      | .eql => .ok (.d (.bool (decide (a = b)))) True
      | .neq => .ok (.d (.bool (decide (a ≠ b)))) True
      | _ => .no)
    | _ => .no)
  | .d (.bool a) => (match y with
    | .d (.bool b) => (match op with
      | .eql => .ok (.d (.bool (a == b))) (isBool (TT t) = true)
      | .neq => .ok (.d (.bool (a != b))) (isBool (TT t) = true)
      | _ => .no)
    | _ => .no)
  | .agg as => (match y with
    | .agg bs => (match eqCs (cmpKs (TT t)) as bs with
      | some r => (match op with
        | .eql => .ok (.d (.bool r)) True
        | .neq => .ok (.d (.bool (!r))) True
        | _ => .no)
      | none => .no)
    | _ => .no)
  | .d (.lst rows) => (match y with
    | .nils => (match op with
      | .eql => .ok (.d (.bool false)) (isSlice (TT t) = true ∧ rows ≠ [])
      | .neq => .ok (.d (.bool true)) (isSlice (TT t) = true ∧ rows ≠ [])
      | _ => .no)
    | _ => .no)
  | .d (.raw (.slice a _ _)) => (match y with
    | .nils => (match op with
      | .eql => .ok (.d (.bool a.isNone)) (isSlice (TT t) = true)
      | .neq => .ok (.d (.bool (!a.isNone))) (isSlice (TT t) = true)
      | _ => .no)
    | _ => .no)
  | .nils => (match y with
    | .nils => (match op with
      | .eql => .ok (.d (.bool true)) (isSlice (TT t) = true)
      | .neq => .ok (.d (.bool false)) (isSlice (TT t) = true)
      | _ => .no)
    | _ => .no)
  | .msl _ _ _ len => (match y with
    | .nils => (match op with
      | .eql => .ok (.d (.bool false)) (isSlice (TT t) = true ∧ 0 < len)
      | .neq => .ok (.d (.bool true)) (isSlice (TT t) = true ∧ 0 < len)
      | _ => .no)
    | _ => .no)
  | _ => .no

theorem abinB_sound {TT : Nat → Option TI} {op : BinOp} {t : TypeId} {x y : V} {K : V → Prop} (h : (abinB TT op t x y).holds K) : abin TT op t x y K := by
  unfold abinB at h
  unfold abin
  split at h
  · split at h
    · split at h
      · rename_i k a _ k' b _ v s hi
        obtain ⟨⟨h1, h2⟩, h3⟩ := h
        exact ⟨h1, ibinB_sound (by rw [hi]; exact ⟨h2, h3⟩)⟩
      · exact h.elim
    · exact h.elim
  · split at h
    · split at h
      · exact h
      · exact h.2
      · exact h.2
      · exact h.elim
    · exact h.elim
  · split at h
    · split at h
      · exact h
      · exact h
      · exact h.elim
    · exact h.elim
  · split at h
    · split at h
      · rename_i r hr
        split at h
        · simp only [hr]; exact h.2
        · simp only [hr]; exact h.2
        · exact h.elim
      · exact h.elim
    · exact h.elim
  · split at h
    · split at h
      · exact ⟨h.1.1, h.1.2, h.2⟩
      · exact ⟨h.1.1, h.1.2, h.2⟩
      · exact h.elim
    · exact h.elim
  · split at h
    · split at h
      · exact ⟨h.1, h.2⟩
      · exact ⟨h.1, h.2⟩
      · exact h.elim
    · exact h.elim
  · split at h
    · split at h
      · exact ⟨h.1, h.2⟩
      · exact ⟨h.1, h.2⟩
      · exact h.elim
    · exact h.elim
  · split at h
    · split at h
      · exact ⟨h.1.1, h.1.2, h.2⟩
      · exact ⟨h.1.1, h.1.2, h.2⟩
      · exact h.elim
    · exact h.elim
  · exact h.elim

def ldCellsB (ti : TI) (cs : List V) : PR :=
  match ti.kind with
  | .struct .. => forceL (cs.take ti.size) fun r => .ok (.agg r) (Nat.ble ti.size cs.length = true)
  | _ => (match cs with
    | c :: _ => force c fun c => .ok c True
    | [] => .no)

theorem ldCellsB_sound {ti : TI} {cs : List V} {K : V → Prop} (h : (ldCellsB ti cs).holds K) : ldCells ti cs K := by
  unfold ldCellsB at h
  unfold ldCells
  split at h
  · rename_i hk; rw [forceL_eq] at h; simp only [hk]; exact ⟨Nat.le_of_ble_eq_true h.1, h.2⟩
  · rename_i hk
    cases cs with
    | nil => exact h.elim
    | cons c cs =>
      simp only [force_eq] at h
      split
      · rename_i hk2; exact (hk _ _ hk2).elim
      · exact h.2

def aldB (ti : TI) (objs : List O) (x : V) : PR :=
  match x with
  | .oref id off => (match objs[id]? with
    | some (.box cells) => ldCellsB ti (cells.drop off)
    | _ => .no)
  | .d (.ptr cells) => ldCellsB ti (cells.map .d)
  | _ => .no

theorem aldB_sound {ti : TI} {objs : List O} {x : V} {K : V → Prop} (h : (aldB ti objs x).holds K) : ald ti objs x K := by
  unfold aldB at h
  unfold ald
  split at h
  · split at h
    · rename_i ho; simp only [ho]; exact ldCellsB_sound h
    · exact h.elim
  · exact ldCellsB_sound h
  · exact h.elim

def afldB (off : Nat) (x : V) : PR :=
  match x with
  | .oref id o => .ok (.oref id (o + off)) True
  | .aref id sz i o => .ok (.aref id sz i (o + off)) True
  | .d (.ptr cells) => .ok (.d (.ptr (cells.drop off))) True
  | _ => .no

theorem afldB_sound {off : Nat} {x : V} {K : V → Prop} (h : (afldB off x).holds K) : afld off x K := by
  unfold afldB at h
  unfold afld
  split at h
  · exact h.2
  · exact h.2
  · exact h.2
  · exact h.elim

def evL {α : Type} (env : List (Nat × V)) : List Operand → (List V → α) → α
  | [], k => k []
  | o :: os, k => force (evB env o) fun v => evL env os fun vs => k (v :: vs)

theorem evL_eq {α : Type} (env : List (Nat × V)) : ∀ (os : List Operand) (k : List V → α), evL env os k = k (os.map (evB env))
  | [], _ => rfl
  | o :: os, k => by simp only [evL, force_eq, evL_eq env os, List.map_cons]

/-- The step's value, if it is one of those that are reckoned here. -/
def pvB (TT : Nat → Option TI) (env : List (Nat × V)) (objs : List O) (op : Op) : PR :=
  match op with
  | .move x => force (evB env x) fun v => .ok v True
  | .assign x => force (evB env x) fun v => .ok v True
  | .pick c a b => (match evB env c with
    | .d (.bool true) => force (evB env a) fun v => .ok v True
    | .d (.bool false) => force (evB env b) fun v => .ok v True
    | _ => .no)
  | .nilCheck x => (match evB env x with
    | .oref id off => .ok (.oref id off) True
    | .aref id sz i off => .ok (.aref id sz i off) True
    | .d (.ptr cells) => .ok (.d (.ptr cells)) True
    | _ => .no)
  | .load t x => (match TT t with
    | some ti => aldB ti objs (evB env x)
    | none => .no)
  | .binOp op t x y _ => abinB TT op t (evB env x) (evB env y)
  | .unOp op _ x => (match op with
    | .not => (match evB env x with
      | .d (.bool b) => .ok (.d (.bool (!b))) True
      | _ => .no)
    | .neg => (match evB env x with
      | .d (.int k n) => .ok (.d (.int k (0 - n))) (inR k (0 - n))
      | _ => .no)
    | _ => .no)
  | .convert s t x => (match TT t with
    | some { kind := .int k, .. } => (match evB env x with
      | .d (.int _ n) => .ok (.d (.int k n)) ((TT s).isSome = true ∧ inR k n)
      | _ => .no)
    | _ => .no)
  | .fieldAddr t x f => (match fieldOf (TT t) f with
    | some (off, _) => afldB off (evB env x)
    | none => .no)
  | .field t x f => (match fieldOf (TT t) f with
    | some (off, sz, true) => (match evB env x with
      | .agg cs => forceL ((cs.drop off).take sz) fun r => .ok (.agg r) (Nat.ble (off + sz) cs.length = true)
      | _ => .no)
    | some (off, _, false) => (match evB env x with
      | .agg cs => (match cs[off]? with
        | some c => force c fun c => .ok c True
        | none => .no)
      | _ => .no)
    | _ => .no)
  | .extract x i => (match evB env x with
    | .tup vs => (match vs[i]? with
      | some v => force v fun v => .ok v True
      | none => .no)
    | _ => .no)
  | .build t parts => (match TT t with
    | some { kind := .struct flds _, zero := z, .. } => (match abuild flds z (parts.toList.map fun p => (p.1, evB env p.2)) with
      | some cs => forceL cs fun cs => .ok (.agg cs) True
      | none => .no)
    | _ => .no)
  | .call { callee := .builtin .len, args := args, argTypes := ts } => (match args.toList with
    | [x] => (match ts.toList with
      | [t] => (match evB env x with
        | .d (.str s) => .ok (.d (.int .i64 s.length)) (isStr (TT t) = true)
        | .d (.lst rows) => .ok (.d (.int .i64 rows.length)) (isSlice (TT t) = true)
        | .msl _ _ _ len => .ok (.d (.int .i64 len)) (isSlice (TT t) = true)
        | .nils => .ok (.d (.int .i64 0)) (isSlice (TT t) = true)
        | _ => .no)
      | _ => .no)
    | _ => .no)
  | .call { callee := .builtin .max, args := args, .. } => (match args.toList with
    | [x, y] => (match evB env x with
      | .d (.int k a) => (match evB env y with
        | .d (.int _ b) => .ok (.d (.int k (max a b))) True
        | _ => .no)
      | _ => .no)
    | _ => .no)
  | .call { callee := .builtin .min, args := args, .. } => (match args.toList with
    | [x, y] => (match evB env x with
      | .d (.int k a) => (match evB env y with
        | .d (.int _ b) => .ok (.d (.int k (min a b))) True
        | _ => .no)
      | _ => .no)
    | _ => .no)
  | _ => .no

theorem pvB_sound {TT : Nat → Option TI} {env : List (Nat × V)} {objs : List O} {n : Nat} {fx : FX} {op : Op} {K : V → Prop} (h : (pvB TT env objs op).holds K) : pv TT (St.ev ⟨env, objs, n, fx⟩) objs op K := by
  have hev : ∀ o, evB env o = St.ev ⟨env, objs, n, fx⟩ o := fun o => evB_eq o
  unfold pvB at h
  split at h <;> try simp only [force_eq, forceL_eq, hev] at h
  all_goals try simp only [pv]
  all_goals try exact h.2
  all_goals try exact h.elim
  · split at h
    · rename_i hc; rw [hc]; exact h.2
    · rename_i hc; rw [hc]; exact h.2
    · exact h.elim
  · split at h
    · rename_i hc; rw [hc]; exact h.2
    · rename_i hc; rw [hc]; exact h.2
    · rename_i hc; rw [hc]; exact h.2
    · exact h.elim
  · split at h
    · rename_i hc; rw [hc]; exact aldB_sound h
    · exact h.elim
  · exact abinB_sound h
  · unfold aun
    split at h
    · split at h
      · rename_i hc; rw [hc]; exact h.2
      · exact h.elim
    · split at h
      · rename_i hc; rw [hc]; exact h
      · exact h.elim
    · exact h.elim
  · split at h
    · rename_i hc
      split at h
      · rename_i hx; rw [hc, hx]; exact ⟨h.1.1, h.1.2, h.2⟩
      · exact h.elim
    · exact h.elim
  · split at h
    · rename_i hc; rw [hc]; exact afldB_sound h
    · exact h.elim
  · split at h
    · rename_i hc
      split at h
      · rename_i hx; rw [hc, hx]; exact ⟨Nat.le_of_ble_eq_true h.1, h.2⟩
      · exact h.elim
    · rename_i hc
      split at h
      · rename_i hx
        split at h
        · rename_i hy; rw [hc, hx]; simp only [hy]; exact h.2
        · exact h.elim
      · exact h.elim
    · exact h.elim
  · split at h
    · rename_i hx
      split at h
      · rename_i hy; rw [hx]; simp only [hy]; exact h.2
      · exact h.elim
    · exact h.elim
  · split at h
    · rename_i hc
      split at h
      · rename_i hy; rw [hc]; simp only [hy]; exact h.2
      · exact h.elim
    · exact h.elim
  · split at h
    · rename_i hx
      split at h
      · rename_i ht
        simp only [hx, ht]
        unfold alen
        split at h
        · rename_i hc; rw [hc]; exact h
        · rename_i hc; rw [hc]; exact h
        · rename_i hc; rw [hc]; exact h
        · rename_i hc; rw [hc]; exact h
        · exact h.elim
      · exact h.elim
    · exact h.elim
  · split at h
    · rename_i hx
      try simp only [hx]
      split at h
      · rename_i hc
        split at h
        · rename_i hd; rw [hc, hd]; exact h.2
        · exact h.elim
      · exact h.elim
    · exact h.elim
  · split at h
    · rename_i hx
      try simp only [hx]
      split at h
      · rename_i hc
        split at h
        · rename_i hd; rw [hc, hd]; exact h.2
        · exact h.elim
      · exact h.elim
    · exact h.elim

/-- One operation without a guard that turns no memory. -/
theorem xo {P : Program} {TT : Nat → Option TI} {ds : List (Option Nat) × Bool} {op : Op} {d : Nat} {ty : TypeId} {pos : String} {af : Array Edge} {os : List Oper} {env : List (Nat × V)} {objs : List O} {n : Nat} {fx : FX} {K : St → Prop} {v : V} {side : Prop}
    (h : pvB TT env objs op = .ok v side) (hs : side) (hk : aops TT P ds os ⟨(d, v) :: env, objs, n, fx⟩ K) : aops TT P ds (⟨some d, op, ty, pos, af, none⟩ :: os) ⟨env, objs, n, fx⟩ K := by
  have hp := pvB_sound (n := n) (fx := fx) (K := fun v => aops TT P ds os ⟨(d, v) :: env, objs, n, fx⟩ K) (by rw [h]; exact ⟨hs, hk⟩)
  have he : isEff op = false := by
    cases op <;> try rfl
    all_goals try (simp [pvB] at h; done)
    rename_i c
    obtain ⟨callee, args, ts⟩ := c
    cases callee <;> try rfl
    rename_i b
    cases b <;> first | rfl | (simp [pvB] at h; done)
  have hnc : ∀ f args ts, op ≠ .call { callee := .value f, args := args, argTypes := ts } := by
    intro f args ts e
    subst e
    simp [pvB] at h
  show aopgU TT P ds _ _ _
  refine aopU_of ?_
  unfold aop
  simp only
  split
  · rename_i hh; rw [he] at hh; cases hh
  · exact hp

/-- A list with another element at the place. -/
def setK {α β : Type} : List α → Nat → α → (List α → β) → β → β
  | [], _, _, _, z => z
  | _ :: xs, 0, y, k, _ => k (y :: xs)
  | x :: xs, i + 1, y, k, z => setK xs i y (fun r => k (x :: r)) z

theorem setK_eq {α β : Type} : ∀ (xs : List α) (i : Nat) (y : α) (k : List α → β) (z : β), i < xs.length → setK xs i y k z = k (xs.set i y)
  | [], _, _, _, _, h => by simp at h
  | x :: xs, 0, y, k, z, _ => rfl
  | x :: xs, i + 1, y, k, z, h => by
    simp only [setK, List.set_cons_succ]
    exact setK_eq xs i y _ z (by simpa using h)
theorem setK_no {α β : Type} : ∀ (xs : List α) (i : Nat) (y : α) (k : List α → β) (z : β), xs.length ≤ i → setK xs i y k z = z
  | [], _, _, _, _, _ => rfl
  | x :: xs, 0, y, k, z, h => by simp at h
  | x :: xs, i + 1, y, k, z, h => by
    simp only [setK]
    exact setK_no xs i y _ z (by simpa using h)

/-- Several elements from the place on. -/
def setsK {γ β : Type} : List γ → Nat → List γ → (List γ → β) → β → β
  | cs, _, [], k, _ => k cs
  | cs, i, y :: ys, k, z => setK cs i y (fun cs => setsK cs (i + 1) ys k z) z

theorem putAt_cons {cs : List V} {i : Nat} {y : V} {ys : List V} (h : i + (y :: ys).length ≤ cs.length) : putAt cs i (y :: ys) = putAt (cs.set i y) (i + 1) ys := by
  simp only [List.length_cons] at h
  unfold putAt
  rw [List.take_succ_eq_append_getElem (by rw [List.length_set]; omega), List.drop_set_of_lt (by omega), List.getElem_set_self]
  simp only [List.length_cons]
  rw [show i + (ys.length + 1) = i + 1 + ys.length by omega, List.take_set, List.set_eq_of_length_le (by simp; omega)]
  simp

theorem putD_cons {cs : List D} {i : Nat} {y : D} {ys : List D} (h : i + (y :: ys).length ≤ cs.length) : putD cs i (y :: ys) = putD (cs.set i y) (i + 1) ys := by
  simp only [List.length_cons] at h
  unfold putD
  rw [List.take_succ_eq_append_getElem (by rw [List.length_set]; omega), List.drop_set_of_lt (by omega), List.getElem_set_self]
  simp only [List.length_cons]
  rw [show i + (ys.length + 1) = i + 1 + ys.length by omega, List.take_set, List.set_eq_of_length_le (by simp; omega)]
  simp

theorem setsKD_eq {β : Type} : ∀ (new cs : List D) (i : Nat) (k : List D → β) (z : β), i + new.length ≤ cs.length → setsK cs i new k z = k (putD cs i new)
  | [], cs, i, k, z, h => by simp [setsK, putD]
  | y :: ys, cs, i, k, z, h => by
    simp only [List.length_cons] at h
    simp only [setsK]
    rw [setK_eq _ _ _ _ _ (by omega), setsKD_eq ys _ _ _ _ (by rw [List.length_set]; omega), putD_cons (by simp only [List.length_cons]; omega)]

theorem setsK_eq {β : Type} : ∀ (new cs : List V) (i : Nat) (k : List V → β) (z : β), i + new.length ≤ cs.length → setsK cs i new k z = k (putAt cs i new)
  | [], cs, i, k, z, h => by simp [setsK, putAt]
  | y :: ys, cs, i, k, z, h => by
    simp only [List.length_cons] at h
    simp only [setsK]
    rw [setK_eq _ _ _ _ _ (by omega), setsK_eq ys _ _ _ _ (by rw [List.length_set]; omega), putAt_cons (by simp only [List.length_cons]; omega)]

inductive ER where
  | no
  | ok (objs : List O) (side : Prop)

def cellsB (v : V) : Option (List V) :=
  match v with
  | .agg cs => forceL cs fun cs => if scaAll cs = true then some cs else none
  | v => force v fun v => if scaB v = true then some [v] else none

theorem cellsB_eq (v : V) : cellsB v = v.cells := by
  cases v <;> simp only [cellsB, V.cells, forceL_eq, force_eq]

/-- A store into a variable. -/
def stB (TT : Nat → Option TI) (env : List (Nat × V)) (objs : List O) (t : TypeId) (x v : Operand) : ER :=
  match TT t with
  | some ti => (match cellsB (evB env v) with
    | some new => (match evB env x with
      | .oref id off => (match objs[id]? with
        | some (.box cells) => setsK cells off new (fun cells' => setK objs id (.box cells') (fun objs' => .ok objs' (Nat.beq new.length ti.size = true ∧ Nat.ble (off + new.length) cells.length = true)) .no) .no
        | _ => .no)
      | _ => .no)
    | none => .no)
  | none => .no

theorem xst {P : Program} {TT : Nat → Option TI} {ds : List (Option Nat) × Bool} {t : TypeId} {x v : Operand} {ty : TypeId} {pos : String} {af : Array Edge} {os : List Oper} {env : List (Nat × V)} {objs objs' : List O} {n : Nat} {fx : FX} {K : St → Prop} {side : Prop}
    (h : stB TT env objs t x v = .ok objs' side) (hs : side) (hk : aops TT P ds os ⟨env, objs', n, fx⟩ K) : aops TT P ds (⟨none, .store t x v, ty, pos, af, none⟩ :: os) ⟨env, objs, n, fx⟩ K := by
  have hev : ∀ o, evB env o = St.ev ⟨env, objs, n, fx⟩ o := fun o => evB_eq o
  refine aops_store ?_
  unfold stB at h
  simp only [hev, cellsB_eq] at h
  split at h
  · rename_i ti ht
    split at h
    · rename_i new hn
      split at h
      · rename_i id off hx
        split at h
        · rename_i cells hc
          have hid := (List.getElem?_eq_some_iff.1 hc).1
          rcases Nat.lt_or_ge cells.length (off + new.length) with hl | hl
          · exfalso
            have : ∀ (new cs : List V) (i : Nat) (k : List V → ER), (∀ c, k c = .no ∨ ∃ o, k c = .ok o (Nat.beq new.length ti.size = true ∧ False)) → True := fun _ _ _ _ _ => trivial
            -- the store does not fit
            have hb : ∀ (new cs : List V) (i : Nat) (k : List V → ER), cs.length < i + new.length → new ≠ [] → setsK cs i new k .no = .no := by
              intro new
              induction new with
              | nil => intro cs i k _ hne; exact absurd rfl hne
              | cons y ys ih =>
                intro cs i k hlt _
                simp only [setsK]
                rcases Nat.lt_or_ge i cs.length with hi | hi
                · rw [setK_eq _ _ _ _ _ hi]
                  cases ys with
                  | nil => simp at hlt; omega
                  | cons z zs => exact ih _ _ _ (by rw [List.length_set]; simp only [List.length_cons] at hlt ⊢; omega) (by simp)
                · exact setK_no _ _ _ _ _ hi
            cases new with
            | nil =>
              simp only [setsK] at h
              rw [setK_eq _ _ _ _ _ hid] at h
              injection h with h1 h2
              rw [← h2] at hs
              have := Nat.le_of_ble_eq_true hs.2
              omega
            | cons y ys =>
              rw [hb _ _ _ _ hl (by simp)] at h
              cases h
          · rw [setsK_eq _ _ _ _ _ hl, setK_eq _ _ _ _ _ hid] at h
            injection h with h1 h2
            rw [← h2] at hs
            simp only [ht, hn, hx, hc]
            refine ⟨trivial, Nat.eq_of_beq_eq_true hs.1, hl, ?_⟩
            rw [← h1] at hk
            exact hk
        · cases h
      · cases h
    · cases h
  · cases h

theorem xalloc {P : Program} {TT : Nat → Option TI} {ds : List (Option Nat) × Bool} {d : Nat} {t : TypeId} {ty : TypeId} {pos : String} {af : Array Edge} {os : List Oper} {env : List (Nat × V)} {objs : List O} {n : Nat} {fx : FX} {K : St → Prop} {k : TK} {sz by' : Nat} {z : List V}
    (h : TT t = some ⟨k, sz, by', z⟩) (hk : aops TT P ds os ⟨(d, .oref objs.length 0) :: env, objs ++ [.box z], n, fx⟩ K) : aops TT P ds (⟨some d, .alloc t, ty, pos, af, none⟩ :: os) ⟨env, objs, n, fx⟩ K := by
  rw [aops_alloc, h]; exact hk

theorem xbox {P : Program} {TT : Nat → Option TI} {ds : List (Option Nat) × Bool} {d : Nat} {t : TypeId} {x : Operand} {ty : TypeId} {pos : String} {af : Array Edge} {os : List Oper} {env : List (Nat × V)} {objs : List O} {n : Nat} {fx : FX} {K : St → Prop} {cs : List V}
    (h : cellsB (evB env x) = some cs) (hk : aops TT P ds os ⟨(d, .oref objs.length 0) :: env, objs ++ [.box cs], n, fx⟩ K) : aops TT P ds (⟨some d, .box t x, ty, pos, af, none⟩ :: os) ⟨env, objs, n, fx⟩ K := by
  have hev : evB env x = St.ev ⟨env, objs, n, fx⟩ x := evB_eq x
  rw [aops_box]
  rw [cellsB_eq, hev] at h
  rw [h]; exact hk

theorem xguard {P : Program} {TT : Nat → Option TI} {ds : List (Option Nat) × Bool} {dst : Option Nat} {op : Op} {j : Nat} {b c : Bool} {d : Nat} {ty : TypeId} {pos : String} {af : Array Edge} {os : List Oper} {env : List (Nat × V)} {objs : List O} {n : Nat} {fx : FX} {K : St → Prop}
    (hd : ds.1[j]? = some (some d)) (hc : getB env d = .d (.bool c)) (h1 : c = b → aops TT P ds (⟨dst, op, ty, pos, af, none⟩ :: os) ⟨(d, .d (.bool b)) :: env, objs, n, fx⟩ K)
    (h2 : c = (!b) → aops TT P ds os (St.put ⟨(d, .d (.bool (!b))) :: env, objs, n, fx⟩ dst (.tup [])) K) : aops TT P ds (⟨dst, op, ty, pos, af, some (j, b)⟩ :: os) ⟨env, objs, n, fx⟩ K := by
  rw [getB_eq] at hc
  rw [aops_guard, hd]
  simp only [hc]
  exact ⟨h1, h2⟩

/-- An operation behind one that was passed over is passed over. -/
theorem xguardT {P : Program} {TT : Nat → Option TI} {ds : List (Option Nat) × Bool} {dst : Option Nat} {op : Op} {j : Nat} {b : Bool} {d : Nat} {ty : TypeId} {pos : String} {af : Array Edge} {os : List Oper} {env : List (Nat × V)} {objs : List O} {n : Nat} {fx : FX} {K : St → Prop}
    (hd : ds.1[j]? = some (some d)) (hc : getB env d = .tup []) (h2 : aops TT P ds os (St.put ⟨env, objs, n, fx⟩ dst (.tup [])) K) : aops TT P ds (⟨dst, op, ty, pos, af, some (j, b)⟩ :: os) ⟨env, objs, n, fx⟩ K := by
  rw [getB_eq] at hc
  rw [aops_guard, hd]
  simp only [hc]
  exact h2
theorem xguardTS {P : Program} {TT : Nat → Option TI} {ds : List (Option Nat) × Bool} {d' : Nat} {op : Op} {j : Nat} {b : Bool} {d : Nat} {ty : TypeId} {pos : String} {af : Array Edge} {os : List Oper} {env : List (Nat × V)} {objs : List O} {n : Nat} {fx : FX} {K : St → Prop}
    (hd : ds.1[j]? = some (some d)) (hc : getB env d = .tup []) (h2 : aops TT P ds os ⟨(d', .tup []) :: env, objs, n, fx⟩ K) : aops TT P ds (⟨some d', op, ty, pos, af, some (j, b)⟩ :: os) ⟨env, objs, n, fx⟩ K := xguardT hd hc h2
theorem xguardTN {P : Program} {TT : Nat → Option TI} {ds : List (Option Nat) × Bool} {op : Op} {j : Nat} {b : Bool} {d : Nat} {ty : TypeId} {pos : String} {af : Array Edge} {os : List Oper} {env : List (Nat × V)} {objs : List O} {n : Nat} {fx : FX} {K : St → Prop}
    (hd : ds.1[j]? = some (some d)) (hc : getB env d = .tup []) (h2 : aops TT P ds os ⟨env, objs, n, fx⟩ K) : aops TT P ds (⟨none, op, ty, pos, af, some (j, b)⟩ :: os) ⟨env, objs, n, fx⟩ K := xguardT hd hc h2

theorem xcond {P : Program} {c : Operand} {d e : Code} {Q : Exit → St → Prop} {env : List (Nat × V)} {objs : List O} {n : Nat} {fx : FX} {t : Bool} (hc : evB env c = .d (.bool t)) (h1 : t = true → AW P d Q ⟨env, objs, n, fx⟩) (h2 : t = false → AW P e Q ⟨env, objs, n, fx⟩) :
    AW P (.cond c d e) Q ⟨env, objs, n, fx⟩ := AW.cond (by rw [← evB_eq]; exact hc) h1 h2


/-! ### Calls -/

def callB (env : List (Nat × V)) (f : Operand) (args : List Operand) : Option (Nat × List V) :=
  match evB env f with
  | .d (.fn g cap) => evL env args fun vs => forceL (vs ++ cap.map .d) fun vs => some (g, vs)
  | _ => none

section
variable {P : Program} {TT : Nat → Option TI} {ds : List (Option Nat) × Bool} {dst : Option Nat} {d : Nat} {ty : TypeId} {pos : String} {af : Array Edge} {os : List Oper} {env : List (Nat × V)} {objs : List O} {n : Nat} {fx : FX} {K : St → Prop}
  {f : Operand} {args : Array Operand} {ts : Array TypeId} {g : Nat} {vs args' : List V} {R : V} {OS : List O}

theorem xcall (h : callB env f args.toList = some (g, vs)) (hc : ACall P ⟨env, objs, n, fx⟩ g vs fun y s' => aops TT P ds os (s'.put dst y) K) :
    aops TT P ds (⟨dst, .call { callee := .value f, args := args, argTypes := ts }, ty, pos, af, none⟩ :: os) ⟨env, objs, n, fx⟩ K := by
  have hev : evB env = St.ev ⟨env, objs, n, fx⟩ := funext fun o => evB_eq o
  refine aops_call ?_
  unfold callB at h
  split at h
  · rename_i g' cap hf
    rw [evL_eq, forceL_eq] at h
    obtain ⟨rfl, rfl⟩ : g' = g ∧ args.toList.map (evB env) ++ cap.map .d = vs := by simpa using h
    rw [hev] at hf hc
    rw [hf]
    exact hc
  · cases h

theorem xcallIs (h : callB env f args.toList = some (g, vs)) (ha : argVs objs [] [] vs = some args') (hc : ACon P g args' [] (Is R)) (hr : noRef R = true) (hk : aops TT P ds os ⟨(d, R) :: env, objs, n, fx⟩ K) :
    aops TT P ds (⟨some d, .call { callee := .value f, args := args, argTypes := ts }, ty, pos, af, none⟩ :: os) ⟨env, objs, n, fx⟩ K :=
  xcall h (ACall.is ha hc (by rw [noRef_back hr]; exact hk))

theorem xcallLend (bs : List Nat) (h : callB env f args.toList = some (g, vs)) (hc : ACon P g args' [] (Is R)) (ha : argVs objs [] bs vs = some args') (hr : noRef R = true) (hf : flatV R = true) (hk : aops TT P ds os ⟨(d, R) :: env, objs, n, fx⟩ K) :
    aops TT P ds (⟨some d, .call { callee := .value f, args := args, argTypes := ts }, ty, pos, af, none⟩ :: os) ⟨env, objs, n, fx⟩ K :=
  xcall h (ACall.isLend bs ha hc hf (by rw [noRef_back hr]; exact hk))

theorem xcallOwn (h : callB env f args.toList = some (g, vs)) (ha : argVs objs [] [] vs = some args') (hc : ACon P g args' [] (Own R OS)) (hk : aops TT P ds os ⟨(d, backV [] objs.length R) :: env, objs ++ OS.map (backO [] objs.length), n, fx⟩ K) :
    aops TT P ds (⟨some d, .call { callee := .value f, args := args, argTypes := ts }, ty, pos, af, none⟩ :: os) ⟨env, objs, n, fx⟩ K :=
  xcall h (ACall.own ha hc hk)

theorem xcallOwnLend (bs : List Nat) (h : callB env f args.toList = some (g, vs)) (hc : ACon P g args' [] (Own R OS)) (ha : argVs objs [] bs vs = some args') (hf : flatV R = true ∧ ∀ o ∈ OS, flatO o)
    (hk : aops TT P ds os ⟨(d, backV [] objs.length R) :: env, objs ++ OS.map (backO [] objs.length), n, fx⟩ K) :
    aops TT P ds (⟨some d, .call { callee := .value f, args := args, argTypes := ts }, ty, pos, af, none⟩ :: os) ⟨env, objs, n, fx⟩ K :=
  xcall h (ACall.ownLend bs ha hc hf hk)

/-- A function that reads of a reader: its place goes on from lo to at most hi; the result is data. -/
def Rd (code : D) (lo hi : Int) (R : V → Prop) : V → List O → Prop := fun r os => ∃ p : Int, lo ≤ p ∧ p ≤ hi ∧ os = [.box [.d code, .d (.int .i64 p)]] ∧ noRef r = true ∧ R r

theorem xcallRd {i : Nat} {code : D} {p lo hi : Int} {Q : V → Prop} (h : callB env f args.toList = some (g, .oref i 0 :: vs)) (ho : objs[i]? = some (.box [.d code, .d (.int .i64 p)])) (ha : argVs objs [i] [] vs = some args')
    (hc : ACon P g (.oref 0 0 :: args') [.box [.d code, .d (.int .i64 p)]] (Rd code lo hi Q))
    (hk : ∀ r p', lo ≤ p' → p' ≤ hi → Q r → aops TT P ds os ⟨(d, r) :: env, objs.set i (.box [.d code, .d (.int .i64 p')]), n, fx⟩ K) :
    aops TT P ds (⟨some d, .call { callee := .value f, args := args, argTypes := ts }, ty, pos, af, none⟩ :: os) ⟨env, objs, n, fx⟩ K := by
  refine xcall h (ACall.hand [i] (args' := .oref 0 0 :: args') (by simp [argVs, argV, idx, ha]) (by simp) (os0 := [.box [.d code, .d (.int .i64 p)]]) (os1 := [.box [.d code, .d (.int .i64 p)]]) (by simp [getO, ho]) rfl (by simp [O.live]) hc ?_)
  rintro r os' ⟨p', h1, h2, rfl, hn, hq⟩
  have hb : ∀ {v : V}, noRef v = true → backV [i] objs.length v = v := by
    have key : ∀ (ids : List Nat) (n : Nat), (∀ v : V, noRef v = true → backV ids n v = v) := by
      intro ids n v
      have := @V.rec (motive_1 := fun v => noRef v = true → backV ids n v = v) (motive_2 := fun vs => noRefs vs = true → backVs ids n vs = vs)
        (fun x _ => rfl) (fun _ _ h => by simp [noRef] at h) (fun _ _ _ _ h => by simp [noRef] at h) (fun _ _ _ _ h => by simp [noRef] at h) (fun _ => rfl)
        (fun cs ih h => by simp only [noRef] at h; simp only [backV, ih h]) (fun cs ih h => by simp only [noRef] at h; simp only [backV, ih h]) (fun _ => rfl) (fun _ _ _ => rfl) (fun _ _ _ => rfl) (fun _ _ _ _ => rfl)
        (fun _ => rfl) (fun v vs h1 h2 h => by simp only [noRefs, Bool.and_eq_true] at h; simp only [backVs, h1 h.1, h2 h.2])
      exact this v
    exact fun {v} h => key _ _ v h
  rw [hb hn]
  have := hk r p' h1 h2 hq
  simpa [backs, backO, backVs, backV, St.put] using this

/-! ### Slices -/

def idxAdd (off m : Nat) : Nat := match off with
  | 0 => m
  | off + 1 => off + 1 + m
@[go_sem] theorem idxAdd_zero (m : Nat) : idxAdd 0 m = m := rfl
theorem idxAdd_eq (off m : Nat) : idxAdd off m = off + m := by cases off <;> simp [idxAdd]

theorem xidxL {t : TypeId} {x i : Operand} {e : TI} {rows : List (List D)} {k : IntKind} {m : Int} {r : List D} (he : elemOf TT t = some e) (hx : evB env x = .d (.lst rows)) (hi : evB env i = .d (.int k m)) (hr : rows[m.toNat]? = some r) (h0 : 0 ≤ m) (hl : r.length = e.size)
    (hk : aops TT P ds os ⟨(d, .d (.ptr r)) :: env, objs, n, fx⟩ K) : aops TT P ds (⟨some d, .indexAddr t x i, ty, pos, af, none⟩ :: os) ⟨env, objs, n, fx⟩ K := by
  rw [aops_indexAddr, he]
  rw [evB_eq (objs := objs) (n := n) (fx := fx)] at hx hi
  simp only [hx, hi, aidx, hr]
  exact ⟨h0, hl, hk⟩

theorem xidxM {t : TypeId} {x i : Operand} {e : TI} {id sz off len : Nat} {k : IntKind} {m : Int} (he : elemOf TT t = some e) (hx : evB env x = .msl id sz off len) (hi : evB env i = .d (.int k m)) (h0 : 0 ≤ m) (h1 : m < len) (hs : sz = e.size)
    (hk : aops TT P ds os ⟨(d, .aref id sz (idxAdd off m.toNat) 0) :: env, objs, n, fx⟩ K) : aops TT P ds (⟨some d, .indexAddr t x i, ty, pos, af, none⟩ :: os) ⟨env, objs, n, fx⟩ K := by
  rw [aops_indexAddr, he]
  rw [evB_eq (objs := objs) (n := n) (fx := fx)] at hx hi
  rw [idxAdd_eq] at hk
  simp only [hx, hi, aidx]
  exact ⟨h0, h1, hs, hk⟩

theorem xldA {t : TypeId} {x : Operand} {ti : TI} {id sz i off : Nat} {rows : List (List D)} {r : List D} {v : V} {side : Prop} (ht : TT t = some ti) (hx : evB env x = .aref id sz i off) (ho : objs[id]? = some (.arr sz rows)) (hr : rows[i]? = some r)
    (hv : ldCellsB ti ((r.drop off).map .d) = .ok v side) (hs : side) (hk : aops TT P ds os ⟨(d, v) :: env, objs, n, fx⟩ K) : aops TT P ds (⟨some d, .load t x, ty, pos, af, none⟩ :: os) ⟨env, objs, n, fx⟩ K := by
  rw [aops_load, ht]
  rw [evB_eq (objs := objs) (n := n) (fx := fx)] at hx
  simp only [hx, ald, ho, hr]
  exact ⟨trivial, ldCellsB_sound (by rw [hv]; exact ⟨hs, hk⟩)⟩

theorem xstA {t : TypeId} {x v : Operand} {ti : TI} {id sz i off : Nat} {rows : List (List D)} {r xs r' : List D} {new : List V} (ht : TT t = some ti) (hv : cellsB (evB env v) = some new) (hx : evB env x = .aref id sz i off) (ho : objs[id]? = some (.arr sz rows)) (hr : rows[i]? = some r)
    (hd : toDs new = some xs) (hs : setsK r off xs some none = some r') (h1 : new.length = ti.size) (h2 : Nat.ble (off + xs.length) r.length = true)
    (hk : aops TT P ds os ⟨env, objs.set id (.arr sz (rows.set i r')), n, fx⟩ K) : aops TT P ds (⟨none, .store t x v, ty, pos, af, none⟩ :: os) ⟨env, objs, n, fx⟩ K := by
  refine aops_store ?_
  rw [ht]
  rw [evB_eq (objs := objs) (n := n) (fx := fx)] at hx
  rw [cellsB_eq, evB_eq (objs := objs) (n := n) (fx := fx)] at hv
  have h2 := Nat.le_of_ble_eq_true h2
  rw [setsKD_eq _ _ _ _ _ h2] at hs
  cases hs
  simp only [hv, hx, ho, hr, hd]
  exact ⟨trivial, h1, trivial, h2, hk⟩

/-- A part of a slice that is data. -/
theorem xslc {t : TypeId} {x : Operand} {lo hi : Option Operand} {e : TI} {rows : List (List D)} {l h : Nat} (he : elemOf TT t = some e) (hx : evB env x = .d (.lst rows)) (hlo : abd (lo.map (evB env)) 0 = some l) (hhi : abd (hi.map (evB env)) rows.length = some h)
    (hsz : ∀ r ∈ rows, r.length = e.size) (h1 : l ≤ h) (h2 : h ≤ rows.length) (hk : aops TT P ds os ⟨(d, .d (.lst ((rows.take h).drop l))) :: env, objs, n, fx⟩ K) :
    aops TT P ds (⟨some d, .slice t x lo hi none, ty, pos, af, none⟩ :: os) ⟨env, objs, n, fx⟩ K := by
  have hev : evB env = St.ev ⟨env, objs, n, fx⟩ := funext fun o => evB_eq o
  rw [aops_slice]
  rw [hev] at hx hlo hhi
  rw [hx]
  unfold aslc
  simp only
  rw [hlo, hhi]
  exact ⟨⟨e, he, hsz⟩, h1, h2, hk⟩

theorem xslcLo {α : Type} {t : TypeId} {x lo : Operand} {e : TI} {xs : List α} {enc : α → List D} {k : IntKind} {m : Int} (he : elemOf TT t = some e) (hx : evB env x = .d (.lst (xs.map enc))) (hlo : evB env lo = .d (.int k m))
    (hsz : ∀ r ∈ xs.map enc, r.length = e.size) (h : 0 ≤ m ∧ m ≤ xs.length) (hk : aops TT P ds os ⟨(d, .d (.lst ((xs.drop m.toNat).map enc))) :: env, objs, n, fx⟩ K) :
    aops TT P ds (⟨some d, .slice t x (some lo) none none, ty, pos, af, none⟩ :: os) ⟨env, objs, n, fx⟩ K := by
  refine xslc (l := m.toNat) (h := (xs.map enc).length) he hx (by simp [abd, hlo, h.1]) (by simp [abd]) hsz (by rw [List.length_map]; omega) (Nat.le_refl _) ?_
  rw [List.take_length, ← List.map_drop]; exact hk

theorem xslcHi {α : Type} {t : TypeId} {x hi : Operand} {e : TI} {xs : List α} {enc : α → List D} {k : IntKind} {m : Int} (he : elemOf TT t = some e) (hx : evB env x = .d (.lst (xs.map enc))) (hhi : evB env hi = .d (.int k m))
    (hsz : ∀ r ∈ xs.map enc, r.length = e.size) (h : 0 ≤ m ∧ m ≤ xs.length) (hk : aops TT P ds os ⟨(d, .d (.lst ((xs.take m.toNat).map enc))) :: env, objs, n, fx⟩ K) :
    aops TT P ds (⟨some d, .slice t x none (some hi) none, ty, pos, af, none⟩ :: os) ⟨env, objs, n, fx⟩ K := by
  refine xslc (l := 0) (h := m.toNat) he hx (by simp [abd]) (by simp [abd, hhi, h.1]) hsz (Nat.zero_le _) (by rw [List.length_map]; omega) ?_
  rw [List.drop_zero, ← List.map_take]; exact hk

theorem xslcB {α : Type} {t : TypeId} {x lo hi : Operand} {e : TI} {xs : List α} {enc : α → List D} {k k' : IntKind} {m m' : Int} (he : elemOf TT t = some e) (hx : evB env x = .d (.lst (xs.map enc))) (hlo : evB env lo = .d (.int k m)) (hhi : evB env hi = .d (.int k' m'))
    (hsz : ∀ r ∈ xs.map enc, r.length = e.size) (h : 0 ≤ m ∧ m ≤ m' ∧ m' ≤ xs.length) (hk : aops TT P ds os ⟨(d, .d (.lst (((xs.drop m.toNat).take (m'.toNat - m.toNat)).map enc))) :: env, objs, n, fx⟩ K) :
    aops TT P ds (⟨some d, .slice t x (some lo) (some hi) none, ty, pos, af, none⟩ :: os) ⟨env, objs, n, fx⟩ K := by
  refine xslc (l := m.toNat) (h := m'.toNat) he hx (by simp [abd, hlo, h.1]) (by simp [abd, hhi, show 0 ≤ m' by omega]) hsz (by omega) (by rw [List.length_map]; omega) ?_
  rw [List.drop_take, ← List.map_drop, ← List.map_take]; exact hk

/-- What is not reckoned otherwise. -/
theorem xsim {l : List Oper} {s : St} (h : aops TT P ds l s K) : aops TT P ds l s K := h

end

theorem xend {P : Program} {TT : Nat → Option TI} {ds : List (Option Nat) × Bool} {s : St} {K : St → Prop} (h : K s) : aops TT P ds [] s K := h

/-! ### What follows a code's end -/

section
variable {P : Program} {b : Code} {Q : Exit → St → Prop} {s : St} {i id : Nat}
theorem xthen (h : AW P b Q s) : thenQ P b Q .normal s := h
theorem xthen_r (h : Q .ret s) : thenQ P b Q .ret s := h
theorem xthen_e (h : Q (.exit i) s) : thenQ P b Q (.exit i) s := h
theorem xblock (h : Q .normal s) : blockQ id Q .normal s := h
theorem xblock_r (h : Q .ret s) : blockQ id Q .ret s := h
theorem xblock_e (h : Q .normal s) : blockQ id Q (.exit id) s := by simpa [blockQ] using h
theorem xblock_n (hn : Nat.beq i id = false) (h : Q (.exit i) s) : blockQ id Q (.exit i) s := by
  simp only [blockQ]; rw [if_neg (Nat.ne_of_beq_eq_false hn)]; exact h
theorem xround_r {α : Type} {S : α → St} {Pre : α → Prop} {μ : α → Nat} {j : α} (h : Q .ret s) : roundQ S Pre μ j Q .ret s := h
theorem xround_e {α : Type} {S : α → St} {Pre : α → Prop} {μ : α → Nat} {j : α} (h : Q (.exit i) s) : roundQ S Pre μ j Q (.exit i) s := h
end

def resB (TT : Nat → Option TI) (env : List (Nat × V)) (objs : List O) : List ResultVar → (List V → PR) → PR
  | [], k => k []
  | .tmp t :: r, k => force (getB env t) fun v => resB TT env objs r fun vs => k (v :: vs)
  | .cell a t :: r, k => match TT t with
    | some ti => (match aldB ti objs (getB env a) with
      | .ok v s => (match resB TT env objs r (fun vs => k (v :: vs)) with
        | .ok v' s' => .ok v' (s ∧ s')
        | .no => .no)
      | .no => .no)
    | none => .no

theorem resB_sound {TT : Nat → Option TI} {env : List (Nat × V)} {objs : List O} {n : Nat} {fx : FX} : ∀ (res : List ResultVar) (k : List V → PR) (K : List V → Prop), (∀ vs, (k vs).holds (fun _ => True) → K vs) → (resB TT env objs res k).holds (fun _ => True) → ares TT ⟨env, objs, n, fx⟩ res K
  | [], k, K, hk, h => hk _ h
  | .tmp t :: r, k, K, hk, h => by
    simp only [resB, force_eq] at h
    simp only [ares]
    rw [← getB_eq]
    exact resB_sound r _ _ (fun vs hv => hk _ hv) h
  | .cell a t :: r, k, K, hk, h => by
    simp only [resB] at h
    simp only [ares]
    split at h
    · rename_i ti ht
      rw [ht]
      split at h
      · rename_i v s hv
        split at h
        · rename_i v' s' hr
          obtain ⟨⟨h1, h2⟩, _⟩ := h
          refine aldB_sound ?_
          rw [← getB_eq, hv]
          exact ⟨h1, resB_sound r _ _ (fun vs hv => hk _ hv) (by rw [hr]; exact ⟨h2, trivial⟩)⟩
        · exact h.elim
      · exact h.elim
    · exact h.elim

def oneB (v : V) : List V → PR
  | [u] => .ok .any (u = v)
  | vs => .ok .any (V.tup vs = v)

def outB (vs : List V) : PR :=
  match vs with
  | [] => .ok (.tup []) True
  | [u] => .ok u True
  | u :: w :: vs => .ok (.tup (u :: w :: vs)) True

theorem outB_eq (vs : List V) : outB vs = .ok (oneOf vs) True := by
  match vs with
  | [] => rfl
  | [u] => rfl
  | u :: w :: vs => rfl

/-- What is asked of a body's end, of a state that may be weakened first. -/
def endW (TT : Nat → Option TI) (res : List ResultVar) (Post : V → List O → Prop) (e : Exit) (s : St) : Prop := ∃ s', Weak s s' ∧ endQ TT res Post e s'

theorem endW.of {TT : Nat → Option TI} {res : List ResultVar} {Post : V → List O → Prop} {e : Exit} {s : St} (h : endQ TT res Post e s) : endW TT res Post e s := ⟨s, Weak.refl s, h⟩
theorem xfinW {TT : Nat → Option TI} {res : List ResultVar} {Post : V → List O → Prop} {e : Exit} {s s' : St} (hw : Weak s s') (h : endW TT res Post e s') : endW TT res Post e s := by
  obtain ⟨s'', h1, h2⟩ := h
  exact ⟨s'', hw.trans h1, h2⟩

theorem ACon.introW {P : Program} {TT : Nat → Option TI} (hT : TOk P TT) {f nt : Nat} {fn : Func} {c : Code} {res : List ResultVar} {args : List V} {objs : List O} {Post : V → List O → Prop} (hf : P.funcs[f]? = some fn) (hb : fn.body = some c)
    (hr : fn.results = ⟨res⟩) (hnt : fn.ntmps = nt) (hc : callable P f = true) (hn : Nat.ble args.length nt = true) (h : AW P c (endW TT res Post) ⟨args0 0 args, objs, nt, .p objs.length⟩) : ACon P f args objs Post := by
  refine ACon.intro hT hf hb hr hnt hc hn ⟨fun x a w hC => ?_⟩
  refine wp_mono (h.run x a w hC) ?_
  rintro e a' w' ⟨s', ⟨s'', h1, h2⟩, h3⟩
  exact ⟨s'', h2, h1.run _ _ _ h3⟩

section
variable {TT : Nat → Option TI} {env : List (Nat × V)} {objs : List O} {n : Nat} {fx : FX} {res : List ResultVar} {v R : V} {side : Prop} {Post : V → List O → Prop}

theorem xfinK0 {e : Exit} (he : e = .normal ∨ e = .ret) (h : resB TT env objs res outB = .ok v side) (hs : side)
    (hp : ∃ (π : List Nat) (y : V) (os : List O), π.Nodup ∧ idsB fx.k π = true ∧ renOs π objs π os ∧ renV π y = some v ∧ Post y os) : endQ TT res Post e ⟨env, objs, n, fx⟩ := by
  refine ⟨by rcases he with rfl | rfl <;> trivial, ?_⟩
  have key : ∀ (res : List ResultVar) (k : List V → PR) (v : V) (side : Prop), (∀ vs, k vs = .no ∨ ∃ s, k vs = .ok (oneOf vs) s ∨ True) → True := fun _ _ _ _ _ => trivial
  -- the value that is reckoned is the results' own
  have hres : ∀ (res : List ResultVar) (pre : List V) (v : V) (side : Prop), resB TT env objs res (fun vs => outB (pre ++ vs)) = .ok v side → side → ares TT ⟨env, objs, n, fx⟩ res fun vs => oneOf (pre ++ vs) = v := by
    intro res
    induction res with
    | nil =>
      intro pre v side h hs
      simp only [resB, outB_eq] at h
      injection h
    | cons r res ih =>
      intro pre v side h hs
      cases r with
      | tmp t =>
        simp only [resB, force_eq] at h
        simp only [ares]
        rw [← getB_eq]
        have := ih (pre ++ [getB env t]) v side (by simpa using h) hs
        simpa using this
      | cell a t =>
        simp only [resB] at h
        simp only [ares]
        split at h
        · rename_i ti ht
          rw [ht]
          split at h
          · rename_i v1 s1 hv1
            split at h
            · rename_i v2 s2 hr
              injection h with h1 h2
              subst h1
              rw [← h2] at hs
              refine aldB_sound ?_
              rw [← getB_eq, hv1]
              refine ⟨hs.1, ?_⟩
              have := ih (pre ++ [v1]) v2 s2 (by simpa using hr) hs.2
              simpa using this
            · cases h
          · cases h
        · cases h
  have ares_mono : ∀ (res : List ResultVar) (s : St) (K K' : List V → Prop), (∀ vs, K vs → K' vs) → ares TT s res K → ares TT s res K' := by
    intro res
    induction res with
    | nil => intro s K K' hk h; exact hk _ h
    | cons r res ih =>
      intro s K K' hk h
      cases r with
      | tmp t => exact ih s _ _ (fun vs hv => hk _ hv) h
      | cell a t =>
        simp only [ares] at h ⊢
        split at h
        · rename_i ti ht
          exact ald_mo _ _ (fun v hv => ih s _ _ (fun vs hv => hk _ hv) hv) h
        · exact h.elim
  refine ares_mono _ _ _ _ (fun vs hv => ?_) (hres res [] v side (by simpa using h) hs)
  rw [List.nil_append] at hv
  rw [hv]
  exact hp

theorem xfinK {e : Exit} (he : e = .normal ∨ e = .ret) (h : resB TT env objs res outB = .ok v side) (hs : side)
    (hp : ∃ (π : List Nat) (y : V) (os : List O), π.Nodup ∧ idsB fx.k π = true ∧ renOs π objs π os ∧ renV π y = some v ∧ Post y os) : endW TT res Post e ⟨env, objs, n, fx⟩ := .of (xfinK0 he h hs hp)

theorem xfinIs {e : Exit} (he : e = .normal ∨ e = .ret) (h : resB TT env objs res outB = .ok v side) (hs : side) (hR : noRef R = true) (hv : R = v) (hfx : idsB fx.k [] = true) : endW TT res (Is R) e ⟨env, objs, n, fx⟩ := by
  refine xfinK he h hs ⟨[], R, [], List.nodup_nil, hfx, by cases objs <;> trivial, ?_, rfl, rfl⟩
  rw [← hv]
  have key : ∀ v : V, noRef v = true → renV [] v = some v := by
    intro v
    have := @V.rec (motive_1 := fun v => noRef v = true → renV [] v = some v) (motive_2 := fun vs => noRefs vs = true → renVs [] vs = some vs)
      (fun x _ => rfl) (fun _ _ h => by simp [noRef] at h) (fun _ _ _ _ h => by simp [noRef] at h) (fun _ _ _ _ h => by simp [noRef] at h) (fun _ => rfl)
      (fun cs ih h => by simp only [noRef] at h; simp only [renV, ih h, Option.map_some]) (fun cs ih h => by simp only [noRef] at h; simp only [renV, ih h, Option.map_some]) (fun _ => rfl) (fun _ _ _ => rfl) (fun _ _ _ => rfl) (fun _ _ _ _ => rfl)
      (fun _ => rfl) (fun v vs h1 h2 h => by simp only [noRefs, Bool.and_eq_true] at h; simp only [renVs, h1 h.1, h2 h.2])
    exact this v
  exact key R hR

/-- A loop's state out of the state behind a round: slot by slot. -/
theorem renE_c {π : List Nat} {env0 e : List (Nat × V)} {j : Nat} {y v : V} (h1 : force (getB env0 j) some = some v) (h2 : renV π y = some v) (h3 : renE π env0 e) : renE π env0 ((j, y) :: e) := by
  rw [force_eq, getB_eq] at h1
  exact ⟨by rw [h2, ← h1], h3⟩
theorem xwk {π : List Nat} {env env' : List (Nat × V)} {objs objs' : List O} {n : Nat} {fx : FX} (hnd : π.Nodup) (hid : idsB fx.k π = true) (ho : renOs π objs π objs') (he : renE π env env') : Weak ⟨env, objs, n, fx⟩ ⟨env', objs', n, fx⟩ :=
  Weak.of π rfl rfl hnd hid ho he
theorem renE_n {π : List Nat} {env0 : List (Nat × V)} : renE π env0 [] := trivial

end

/-! ### Regions whose order is drawn -/

section
variable {P : Program} {TT : Nat → Option TI} {ops : List Oper} {K : St → Prop} {s : St} {i j k : Nat} {p r t : Plan} {o o' o'' : Oper}

theorem xrun_f (h : K s) : arun TT P ops .fin s K := h
theorem xrun_e (h : ops[i]? = some o) (hk : aops TT P (ops.map (·.dst), false) [o] s fun s' => arun TT P ops p s' K) : arun TT P ops (.e i p) s K := by
  simp only [arun, h]; exact hk
theorem xrun_q (h : ops[i]? = some o) (hc : callOf o.op = none) (he : isEff o.op = false) (hk : aops TT P (ops.map (·.dst), false) [o] s fun s' => arun TT P ops p s' K) : arun TT P ops (.q i p) s K := by
  simp only [arun, h, aone, hc]; exact ⟨he, hk⟩
theorem xrun_c {env : List (Nat × V)} {objs : List O} {n : Nat} {fx : FX} {f : Operand} {args : List Operand} {g : Nat} {vs args' : List V} {R : V} {d : Nat} (h : ops[i]? = some o) (hc : callOf o.op = some (f, args)) (hg : o.guard = none) (hd : o.dst = some d) (hb : callB env f args = some (g, vs))
    (ha : argVs objs [] [] vs = some args') (hcon : ACon P g args' [] (Is R)) (hr : noRef R = true) (hk : arun TT P ops p ⟨(d, R) :: env, objs, n, fx⟩ K) : arun TT P ops (.q i p) ⟨env, objs, n, fx⟩ K := by
  have hev : evB env = St.ev ⟨env, objs, n, fx⟩ := funext fun o => evB_eq o
  simp only [arun, h, aone, hc, hg]
  unfold callB at hb
  split at hb
  · rename_i g' cap hf
    rw [evL_eq, forceL_eq] at hb
    obtain ⟨rfl, rfl⟩ : g' = g ∧ args.map (evB env) ++ cap.map .d = vs := by simpa using hb
    rw [hev] at hf ha
    rw [hf]
    refine ACallQ.of ha hcon hr ?_
    rw [hd]; exact hk
  · cases hb
theorem xrun_2 (h : ops[i]? = some o) (h' : ops[j]? = some o') (hk : aops TT P (ops.map (·.dst), false) [o] s fun s' => arun TT P ops p s' K) (hk' : aops TT P (ops.map (·.dst), false) [o'] s fun s' => arun TT P ops r s' K) : arun TT P ops (.two i p j r) s K := by
  simp only [arun, h, h']; exact ⟨hk, hk'⟩
theorem xrun_3 (h : ops[i]? = some o) (h' : ops[j]? = some o') (h'' : ops[k]? = some o'') (hk : aops TT P (ops.map (·.dst), false) [o] s fun s' => arun TT P ops p s' K) (hk' : aops TT P (ops.map (·.dst), false) [o'] s fun s' => arun TT P ops r s' K)
    (hk'' : aops TT P (ops.map (·.dst), false) [o''] s fun s' => arun TT P ops t s' K) : arun TT P ops (.three i p j r k t) s K := by
  simp only [arun, h, h', h'']; exact ⟨hk, hk', hk''⟩
end

attribute [go_sem] Bool.and_self Bool.true_and Bool.and_true Bool.and_false Bool.false_and

theorem xdrawS {P : Program} {id : Nat} {ops : Array Oper} {c : Code} {Q : Exit → St → Prop} {s : St} (h : AW P (.seq (.region id ops true) c) Q s) : AW P (.seq (.region id ops true) c) Q s := h
theorem xdraw {P : Program} {id : Nat} {ops : Array Oper} {Q : Exit → St → Prop} {s : St} (h : AW P (.region id ops true) Q s) : AW P (.region id ops true) Q s := h
theorem xstepS {P : Program} {id : Nat} {ops : Array Oper} {c : Code} {Q : Exit → St → Prop} {s : St} (h : AW P (.seq (.region id ops false) c) Q s) : AW P (.seq (.region id ops false) c) Q s := h
theorem xstep {P : Program} {id : Nat} {ops : Array Oper} {Q : Exit → St → Prop} {s : St} (h : AW P (.region id ops false) Q s) : AW P (.region id ops false) Q s := h

theorem xarun {P : Program} {TT : Nat → Option TI} {ops : List Oper} {p : Plan} {K : St → Prop} {s : St} (h : arun TT P ops p s K) : arun TT P ops p s K := h
theorem xaw {P : Program} {c : Code} {Q : Exit → St → Prop} {s : St} (h : AW P c Q s) : AW P c Q s := h

theorem xfinOwn {TT : Nat → Option TI} {env : List (Nat × V)} {objs OS : List O} {n : Nat} {fx : FX} {res : List ResultVar} {v R : V} {side : Prop} {e : Exit} (π : List Nat) (he : e = .normal ∨ e = .ret) (h : resB TT env objs res outB = .ok v side) (hs : side)
    (hn : π.Nodup) (hi : idsB fx.k π = true) (ho : renOs π objs π OS) (hr : renV π R = some v) : endW TT res (Own R OS) e ⟨env, objs, n, fx⟩ :=
  xfinK he h hs ⟨π, R, OS, hn, hi, ho, hr, rfl, rfl⟩

theorem xlenM {P : Program} {TT : Nat → Option TI} {ds : List (Option Nat) × Bool} {d : Nat} {ty : TypeId} {pos : String} {af : Array Edge} {os : List Oper} {env : List (Nat × V)} {objs : List O} {n : Nat} {fx : FX} {K : St → Prop} {α : Type} {xs : List α} {enc : α → List D} {x : Operand} {t : TypeId}
    (hx : evB env x = .d (.lst (xs.map enc))) (ht : isSlice (TT t) = true) (hk : aops TT P ds os ⟨(d, .d (.int .i64 xs.length)) :: env, objs, n, fx⟩ K) :
    aops TT P ds (⟨some d, .call { callee := .builtin .len, args := #[x], argTypes := #[t] }, ty, pos, af, none⟩ :: os) ⟨env, objs, n, fx⟩ K := by
  rw [aops_len]
  rw [evB_eq (objs := objs) (n := n) (fx := fx)] at hx
  simp only [hx, alen, List.length_map]
  exact ⟨ht, hk⟩

/-- A call that hands over one array. -/
theorem xcallHand {P : Program} {TT : Nat → Option TI} {ds : List (Option Nat) × Bool} {d : Nat} {ty : TypeId} {pos : String} {af : Array Edge} {os : List Oper} {env : List (Nat × V)} {objs : List O} {n : Nat} {fx : FX} {K : St → Prop} {f : Operand} {args : Array Operand} {ts : Array TypeId} {g : Nat} {vs args' : List V} {R : V} {o1 : O}
    (i : Nat) {sz : Nat} {rows : List (List D)} (h : callB env f args.toList = some (g, vs)) (ho : objs[i]? = some (.arr sz rows)) (hc : ACon P g args' [.arr sz rows] (Own R [o1])) (ha : argVs objs [i] [] vs = some args') (hr : noRef R = true)
    (h1 : o1 = .dead ∨ ∃ sz rows, o1 = .arr sz rows) (hk : aops TT P ds os ⟨(d, R) :: env, objs.set i o1, n, fx⟩ K) :
    aops TT P ds (⟨some d, .call { callee := .value f, args := args, argTypes := ts }, ty, pos, af, none⟩ :: os) ⟨env, objs, n, fx⟩ K := by
  refine xcall h (ACall.hand [i] ha (by simp) (os0 := [.arr sz rows]) (os1 := [.arr sz rows]) (by simp [getO, ho]) rfl (by simp [O.live]) hc ?_)
  rintro r os' ⟨rfl, rfl⟩
  have hb : ∀ (v : V), noRef v = true → backV [i] objs.length v = v := by
    intro v
    have := @V.rec (motive_1 := fun v => noRef v = true → backV [i] objs.length v = v) (motive_2 := fun vs => noRefs vs = true → backVs [i] objs.length vs = vs)
      (fun x _ => rfl) (fun _ _ h => by simp [noRef] at h) (fun _ _ _ _ h => by simp [noRef] at h) (fun _ _ _ _ h => by simp [noRef] at h) (fun _ => rfl)
      (fun cs ih h => by simp only [noRef] at h; simp only [backV, ih h]) (fun cs ih h => by simp only [noRef] at h; simp only [backV, ih h]) (fun _ => rfl) (fun _ _ _ => rfl) (fun _ _ _ => rfl) (fun _ _ _ _ => rfl)
      (fun _ => rfl) (fun v vs h1 h2 h => by simp only [noRefs, Bool.and_eq_true] at h; simp only [backVs, h1 h.1, h2 h.2])
    exact this v
  rw [hb _ hr]
  have hbo : backO [i] objs.length o1 = o1 := by
    rcases h1 with rfl | ⟨sz', rows', rfl⟩ <;> rfl
  simpa [backs, hbo, St.put] using hk

theorem flat1 {α : Type} {sz : Nat} {xs : List α} {enc : α → List D} (h : ∀ a, (enc a).all D.flat = true) : ∀ o ∈ [O.arr sz (xs.map enc)], flatO o := by
  intro o ho
  obtain rfl := List.mem_singleton.1 ho
  intro r hr x hx
  obtain ⟨a, _, rfl⟩ := List.mem_map.1 hr
  exact List.all_eq_true.1 (h a) x hx

/-! ### Readers -/

/-- A byte of the input. -/
structure Byte where
  v : Int
  h : 0 ≤ v ∧ v < 256
@[go_sem] def encByte (b : Byte) : List D := [.int .u8 b.v]
@[go_sem] def encInt (n : Int) : List D := [.int .i64 n]

theorem inR_byte (b : Byte) : inR .i64 b.v := inR_i64.mpr (by have := b.h; omega)
theorem atI {α β : Type} {f : α → β} {xs : List α} {m : Int} (h : 0 ≤ m ∧ m < xs.length) : (xs.map f)[m.toNat]? = some (f (xs[m.toNat]'(by omega))) := by
  rw [List.getElem?_map, List.getElem?_eq_getElem (by omega), Option.map_some]

theorem noRef_ren {π : List Nat} : ∀ v : V, noRef v = true → renV π v = some v := by
  intro v
  have := @V.rec (motive_1 := fun v => noRef v = true → renV π v = some v) (motive_2 := fun vs => noRefs vs = true → renVs π vs = some vs)
    (fun x _ => rfl) (fun _ _ h => by simp [noRef] at h) (fun _ _ _ _ h => by simp [noRef] at h) (fun _ _ _ _ h => by simp [noRef] at h) (fun _ => rfl)
    (fun cs ih h => by simp only [noRef] at h; simp only [renV, ih h, Option.map_some]) (fun cs ih h => by simp only [noRef] at h; simp only [renV, ih h, Option.map_some]) (fun _ => rfl) (fun _ _ _ => rfl) (fun _ _ _ => rfl) (fun _ _ _ _ => rfl)
    (fun _ => rfl) (fun v vs h1 h2 h => by simp only [noRefs, Bool.and_eq_true] at h; simp only [renVs, h1 h.1, h2 h.2])
  exact this v
theorem noRef_backI {ids : List Nat} {n : Nat} : ∀ v : V, noRef v = true → backV ids n v = v := by
  intro v
  have := @V.rec (motive_1 := fun v => noRef v = true → backV ids n v = v) (motive_2 := fun vs => noRefs vs = true → backVs ids n vs = vs)
    (fun x _ => rfl) (fun _ _ h => by simp [noRef] at h) (fun _ _ _ _ h => by simp [noRef] at h) (fun _ _ _ _ h => by simp [noRef] at h) (fun _ => rfl)
    (fun cs ih h => by simp only [noRef] at h; simp only [backV, ih h]) (fun cs ih h => by simp only [noRef] at h; simp only [backV, ih h]) (fun _ => rfl) (fun _ _ _ => rfl) (fun _ _ _ => rfl) (fun _ _ _ _ => rfl)
    (fun _ => rfl) (fun v vs h1 h2 h => by simp only [noRefs, Bool.and_eq_true] at h; simp only [backVs, h1 h.1, h2 h.2])
  exact this v

/-- A reader at p. -/
def rdr (code : D) (p : Int) : O := .box [.d code, .d (.int .i64 p)]

theorem xfinRd {TT : Nat → Option TI} {env : List (Nat × V)} {rest : List O} {n : Nat} {res : List ResultVar} {v : V} {side : Prop} {e : Exit} {code : D} {p lo hi : Int} {Q : V → Prop} (he : e = .normal ∨ e = .ret)
    (h : resB TT env (.box [.d code, .d (.int .i64 p)] :: rest) res outB = .ok v side) (hs : side) (hr : noRef v = true) (h1 : lo ≤ p) (h2 : p ≤ hi) (hq : Q v) :
    endW TT res (Rd code lo hi Q) e ⟨env, .box [.d code, .d (.int .i64 p)] :: rest, n, .p 1⟩ :=
  xfinK he h hs ⟨[0], v, [.box [.d code, .d (.int .i64 p)]], by decide, rfl, ⟨.inr ⟨_, rfl, rfl⟩, trivial⟩, noRef_ren v hr, p, h1, h2, rfl, hr, hq⟩

/-- One of the numbers of a slice that is handed over with the reader. -/
def Rd2 (code : D) (lo hi : Int) (R : V → Prop) : V → List O → Prop := fun r os => ∃ p : Int, lo ≤ p ∧ p ≤ hi ∧ os = [.box [.d code, .d (.int .i64 p)], .dead] ∧ noRef r = true ∧ R r

theorem xfinRd2 {TT : Nat → Option TI} {env : List (Nat × V)} {o : O} {rest : List O} {n : Nat} {res : List ResultVar} {v : V} {side : Prop} {e : Exit} {code : D} {p lo hi : Int} {Q : V → Prop} (he : e = .normal ∨ e = .ret)
    (h : resB TT env (.box [.d code, .d (.int .i64 p)] :: o :: rest) res outB = .ok v side) (hs : side) (hr : noRef v = true) (h1 : lo ≤ p) (h2 : p ≤ hi) (hq : Q v) :
    endW TT res (Rd2 code lo hi Q) e ⟨env, .box [.d code, .d (.int .i64 p)] :: o :: rest, n, .p 2⟩ :=
  xfinK he h hs ⟨[0, 1], v, [.box [.d code, .d (.int .i64 p)], .dead], by decide, rfl, ⟨.inr ⟨_, rfl, rfl⟩, .inl ⟨rfl, by simp⟩, trivial⟩, noRef_ren v hr, p, h1, h2, rfl, hr, hq⟩

theorem xcallOne {P : Program} {TT : Nat → Option TI} {ds : List (Option Nat) × Bool} {d : Nat} {ty : TypeId} {pos : String} {af : Array Edge} {os : List Oper} {env : List (Nat × V)} {objs : List O} {n : Nat} {fx : FX} {K : St → Prop} {f : Operand} {args : Array Operand} {ts : Array TypeId} {g : Nat}
    {i j sz len : Nat} {rows : List (List D)} {code : D} {p lo hi : Int} {Q : V → Prop} (h : callB env f args.toList = some (g, [.oref i 0, .msl j sz 0 len])) (ho : objs[i]? = some (.box [.d code, .d (.int .i64 p)])) (ho2 : objs[j]? = some (.arr sz rows)) (hij : Nat.beq j i = false)
    (hc : ACon P g [.oref 0 0, .msl 1 sz 0 len] [.box [.d code, .d (.int .i64 p)], .arr sz rows] (Rd2 code lo hi Q))
    (hk : ∀ r p', lo ≤ p' → p' ≤ hi → Q r → aops TT P ds os ⟨(d, r) :: env, (objs.set i (.box [.d code, .d (.int .i64 p')])).set j .dead, n, fx⟩ K) :
    aops TT P ds (⟨some d, .call { callee := .value f, args := args, argTypes := ts }, ty, pos, af, none⟩ :: os) ⟨env, objs, n, fx⟩ K := by
  have hne := Nat.ne_of_beq_eq_false hij
  refine xcall h (ACall.hand [i, j] (args' := [.oref 0 0, .msl 1 sz 0 len]) ?_ (by simp [Ne.symm hne]) (os0 := [.box [.d code, .d (.int .i64 p)], .arr sz rows]) (os1 := [.box [.d code, .d (.int .i64 p)], .arr sz rows]) (by simp [getO, ho, ho2]) rfl (by simp [O.live]) hc ?_)
  · simp [argVs, argV, idx, Ne.symm hne]
  · rintro r os' ⟨p', h1, h2, rfl, hn, hq⟩
    rw [noRef_backI r hn]
    have := hk r p' h1 h2 hq
    simpa [backs, backO, backVs, backV, St.put] using this

def unInts {β : Type} : List (List D) → (List Int → β) → β → β
  | [], k, _ => k []
  | [.int .i64 n] :: r, k, z => unInts r (fun ns => k (n :: ns)) z
  | _, _, z => z

theorem unInts_some : ∀ {rows : List (List D)} {zs : List Int}, unInts rows some none = some zs → rows = zs.map encInt := by
  have key : ∀ (rows : List (List D)) (k : List Int → Option (List Int)) (zs : List Int), unInts rows k none = some zs → ∃ ns, rows = ns.map encInt ∧ k ns = some zs := by
    intro rows
    induction rows with
    | nil => intro k zs h; exact ⟨[], rfl, h⟩
    | cons r rows ih =>
      intro k zs h
      by_cases hr : ∃ n, r = [.int .i64 n]
      · obtain ⟨n, rfl⟩ := hr
        obtain ⟨ns, h1, h2⟩ := ih (fun ns => k (n :: ns)) zs h
        exact ⟨n :: ns, by rw [h1]; rfl, h2⟩
      · have : unInts (r :: rows) k none = none := by
          unfold unInts
          split
          · rename_i hh; cases hh
          · rename_i hh; exact absurd ⟨_, (List.cons.inj hh).1⟩ hr
          · rfl
        rw [this] at h
        cases h
  intro rows zs h
  obtain ⟨ns, h1, h2⟩ := key rows some zs h
  cases h2
  exact h1

/-! ### A slice that is written out -/

def dsB {β : Type} : List V → (List D → β) → β → β
  | [], k, _ => k []
  | v :: vs, k, z => match v with
    | .d x => dsB vs (fun xs => k (x :: xs)) z
    | .nils => dsB vs (fun xs => k (.lst [] :: xs)) z
    | _ => z

def rowsB {β : Type} : List V → (List (List D) → β) → β → β
  | [], k, _ => k []
  | v :: vs, k, z => match v with
    | .agg cs => dsB cs (fun r => rowsB vs (fun rs => k (r :: rs)) z) z
    | .d x => rowsB vs (fun rs => k ([x] :: rs)) z
    | _ => z

theorem dsB_some : ∀ (vs : List V) (k : List D → Option (List (List D))) (q : List (List D)), dsB vs k none = some q → ∃ xs, toDs vs = some xs ∧ scaAll vs = true ∧ k xs = some q
  | [], k, q, h => ⟨[], rfl, rfl, h⟩
  | v :: vs, k, q, h => by
    simp only [dsB] at h
    split at h
    · obtain ⟨xs, h1, h2, h3⟩ := dsB_some vs _ _ h
      exact ⟨_ :: xs, by simp [toDs, V.toD, h1], by simp [scaAll, scaB, h2], h3⟩
    · obtain ⟨xs, h1, h2, h3⟩ := dsB_some vs _ _ h
      exact ⟨_ :: xs, by simp [toDs, V.toD, h1], by simp [scaAll, scaB, h2], h3⟩
    · cases h

theorem rowsB_some {sz : Nat} : ∀ (vs : List V) (k : List (List D) → Option (List (List D))) (q : List (List D)), rowsB vs k none = some q → ∃ rs, k rs = some q ∧ ((∀ r ∈ rs, r.length = sz) → rowsOf sz vs = some rs)
  | [], k, q, h => ⟨[], h, fun _ => rfl⟩
  | v :: vs, k, q, h => by
    simp only [rowsB] at h
    split at h
    · rename_i cs
      obtain ⟨xs, h1, h2, h3⟩ := dsB_some cs _ _ h
      obtain ⟨rs, h4, h5⟩ := rowsB_some (sz := sz) vs _ _ h3
      refine ⟨xs :: rs, h4, fun hl => ?_⟩
      have hx := hl xs (by simp)
      simp [rowsOf, V.cells, h2, h1, hx, h5 (fun r hr => hl r (by simp [hr]))]
    · rename_i x
      obtain ⟨rs, h4, h5⟩ := rowsB_some (sz := sz) vs _ _ h
      refine ⟨[x] :: rs, h4, fun hl => ?_⟩
      have hx : [x].length = sz := hl [x] (by simp)
      have hx' : 1 = sz := hx
      simp [rowsOf, V.cells, scaB, toDs, V.toD, hx', h5 (fun r hr => hl r (by simp [hr]))]
    · cases h

theorem xbuild {P : Program} {TT : Nat → Option TI} {ds : List (Option Nat) × Bool} {d : Nat} {ty : TypeId} {pos : String} {af : Array Edge} {os : List Oper} {env : List (Nat × V)} {objs : List O} {n : Nat} {fx : FX} {K : St → Prop} {t : TypeId} {len : Nat} {parts : Array (Nat × Operand)} {e : TI} {rows : List (List D)}
    (he : elemOf TT t = some e) (hr : evL env (parts.toList.map (·.2)) (fun vs => rowsB vs some none) = some rows) (hp : parts.toList.map (·.1) = List.range len) (hl : (rows.all fun r => Nat.beq r.length e.size) = true) (hs : Nat.ble (len * e.size) (2 ^ 24) = true)
    (hk : aops TT P ds os ⟨(d, .msl objs.length e.size 0 len) :: env, objs ++ [.arr e.size rows], n, fx⟩ K) : aops TT P ds (⟨some d, .buildSlice t len parts, ty, pos, af, none⟩ :: os) ⟨env, objs, n, fx⟩ K := by
  have hev : evB env = St.ev ⟨env, objs, n, fx⟩ := funext fun o => evB_eq o
  rw [aops_buildSlice, he]
  rw [evL_eq, hev, List.map_map] at hr
  obtain ⟨rs, h1, h2⟩ := rowsB_some (sz := e.size) _ _ _ hr
  cases h1
  have h3 := h2 fun r hr' => Nat.eq_of_beq_eq_true (List.all_eq_true.1 hl r hr')
  refine ⟨hp, Nat.le_of_ble_eq_true hs, ?_⟩
  rw [show (parts.toList.map fun p => St.ev ⟨env, objs, n, fx⟩ p.2) = parts.toList.map (St.ev ⟨env, objs, n, fx⟩ ∘ fun x => x.2) from rfl, h3]
  exact hk

section
variable {P : Program} {TT : Nat → Option TI} {ops : List Oper} {K : St → Prop} {i : Nat} {p : Plan} {o : Oper}
theorem xrun_l {env : List (Nat × V)} {objs : List O} {n : Nat} {fx : FX} {d : Nat} {v : V} {side : Prop} (h : ops[i]? = some o) (hc : callOf o.op = none) (he : isEff o.op = false) (hg : o.guard = none) (hd : o.dst = some d)
    (hv : pvB TT env [] o.op = .ok v side) (hs : side) (hk : arun TT P ops p ⟨(d, v) :: env, objs, n, fx⟩ K) : arun TT P ops (.l i p) ⟨env, objs, n, fx⟩ K := by
  simp only [arun, h]
  refine ⟨hg, hc, he, ?_⟩
  have := pvB_sound (n := n) (fx := fx) (K := fun v => arun TT P ops p ⟨(d, v) :: env, objs, n, fx⟩ K) (by rw [hv]; exact ⟨hs, hk⟩)
  rw [hd]
  exact this
theorem xrun_b {env : List (Nat × V)} {objs : List O} {n : Nat} {fx : FX} {d : Nat} {t : TypeId} {len : Nat} {parts : Array (Nat × Operand)} {e : TI} {rows : List (List D)} (h : ops[i]? = some o) (hop : o.op = .buildSlice t len parts) (hg : o.guard = none) (hd : o.dst = some d)
    (he : elemOf TT t = some e) (hr : evL env (parts.toList.map (·.2)) (fun vs => rowsB vs some none) = some rows) (hp : parts.toList.map (·.1) = List.range len) (hl : (rows.all fun r => Nat.beq r.length e.size) = true) (hs : Nat.ble (len * e.size) (2 ^ 24) = true)
    (hk : arun TT P ops p ⟨(d, .d (.lst rows)) :: env, objs, n, fx⟩ K) : arun TT P ops (.b i p) ⟨env, objs, n, fx⟩ K := by
  have hev : evB env = St.ev ⟨env, objs, n, fx⟩ := funext fun o => evB_eq o
  simp only [arun, h]
  rw [evL_eq, hev, List.map_map] at hr
  obtain ⟨rs, h1, h2⟩ := rowsB_some (sz := e.size) _ _ _ hr
  cases h1
  have h3 := h2 fun r hr' => Nat.eq_of_beq_eq_true (List.all_eq_true.1 hl r hr')
  refine ⟨hg, t, len, parts, e, rows, hop, he, hp, Nat.le_of_ble_eq_true hs, h3, ?_⟩
  rw [hd]
  exact hk
end

/-! ### Contracts whose objects are given up or get other names -/

theorem ACon.frz {P : Program} {f : Nat} {args : List V} {objs : List O} {Post Post' : V → List O → Prop} (h : ACon P f args objs Post)
    (hp : ∀ r os, Post r os → ∃ id sz rows, r = .msl id sz 0 rows.length ∧ os[id]? = some (.arr sz rows) ∧ Post' (.d (.lst rows)) (os.set id .dead)) : ACon P f args objs Post' := by
  refine ⟨h.1, fun w ok ρ vs hI hs hv => ?_⟩
  refine (h.2 w ok ρ vs hI hs hv).mono ?_
  rintro e w' ⟨v, r, os, ok', ρ', h1, h2, h3, h4, h5⟩
  obtain ⟨id, sz, rows, rfl, ho, hq⟩ := hp _ _ h2
  obtain ⟨g1, g2⟩ := step_freeze h3 h5 ho
  have := freeze_rep h3 ho (off := 0) (len := rows.length) (by omega) h4
  rw [List.drop_zero, List.take_length] at this
  exact ⟨v, _, _, _, ρ', h1, hq, g1, .d this, g2⟩

theorem ACon.ren {P : Program} {f : Nat} {args : List V} {objs : List O} {Post Post' : V → List O → Prop} (h : ACon P f args objs Post)
    (hp : ∀ r os, Post r os → ∃ (π : List Nat) (r' : V) (os' : List O), π.Nodup ∧ idsB objs.length π = true ∧ renOs π os π os' ∧ renV π r' = some r ∧ Post' r' os') : ACon P f args objs Post' := by
  refine ⟨h.1, fun w ok ρ vs hI hs hv => ?_⟩
  refine (h.2 w ok ρ vs hI hs hv).mono ?_
  rintro e w' ⟨v, r, os, ok', ρ', h1, h2, h3, h4, h5⟩
  obtain ⟨π, r', os', q1, q2, q3, q4, q5⟩ := hp _ _ h2
  obtain ⟨ρ2, g1, g2, g3⟩ := ren_core h3 h5 rfl q1 (idsB_get q2) q3
  exact ⟨v, r', os', ok', ρ2, h1, q5, g1, g3 _ _ _ q4 h4, g2⟩

/-- Some value that is data. -/
def Sm (Q : V → Prop) : V → List O → Prop := fun r os => os = [] ∧ noRef r = true ∧ Q r

/-- A reader's function that gives a new slice of rows. -/
def RdA {α : Type} (code : D) (lo hi : Int) (sz : Nat) (enc : α → List D) (Q : List α → Prop) : V → List O → Prop := fun r os =>
  ∃ (p : Int) (xs : List α), lo ≤ p ∧ p ≤ hi ∧ r = .msl 1 sz 0 xs.length ∧ os = [.box [.d code, .d (.int .i64 p)], .arr sz (xs.map enc)] ∧ Q xs

/-- The same as data. -/
def RowsOf {α : Type} (enc : α → List D) (Q : List α → Prop) (r : V) : Prop := ∃ xs : List α, r = .d (.lst (xs.map enc)) ∧ Q xs

theorem RdA.data {α : Type} {P : Program} {f : Nat} {args : List V} {o : O} {code : D} {lo hi : Int} {sz : Nat} {enc : α → List D} {Q : List α → Prop} (h : ACon P f args [o] (RdA code lo hi sz enc Q)) :
    ACon P f args [o] (Rd code lo hi (RowsOf enc Q)) := by
  have h2 : ACon P f args [o] (fun r os => ∃ (p : Int) (xs : List α), lo ≤ p ∧ p ≤ hi ∧ r = .d (.lst (xs.map enc)) ∧ os = [.box [.d code, .d (.int .i64 p)], .dead] ∧ Q xs) := by
    refine h.frz ?_
    rintro r os ⟨p, xs, h1, h2, rfl, rfl, h3⟩
    exact ⟨1, sz, xs.map enc, by rw [List.length_map], rfl, p, xs, h1, h2, rfl, rfl, h3⟩
  refine h2.ren ?_
  rintro r os ⟨p, xs, h1, h2, rfl, rfl, h3⟩
  exact ⟨[0], .d (.lst (xs.map enc)), [.box [.d code, .d (.int .i64 p)]], by decide, rfl, ⟨.inr ⟨_, rfl, rfl⟩, trivial⟩, rfl, p, h1, h2, rfl, rfl, xs, rfl, h3⟩

section
variable {P : Program} {TT : Nat → Option TI} {ds : List (Option Nat) × Bool} {dst : Option Nat} {d : Nat} {ty : TypeId} {pos : String} {af : Array Edge} {os : List Oper} {env : List (Nat × V)} {objs : List O} {n : Nat} {fx : FX} {K : St → Prop}
  {f : Operand} {args : Array Operand} {ts : Array TypeId} {g : Nat} {vs args' : List V}

theorem xcallSm {Q : V → Prop} (h : callB env f args.toList = some (g, vs)) (ha : argVs objs [] [] vs = some args') (hc : ACon P g args' [] (Sm Q)) (hk : ∀ r, Q r → aops TT P ds os ⟨(d, r) :: env, objs, n, fx⟩ K) :
    aops TT P ds (⟨some d, .call { callee := .value f, args := args, argTypes := ts }, ty, pos, af, none⟩ :: os) ⟨env, objs, n, fx⟩ K := by
  refine xcall h (ACall.pure ha (hc.mono ?_))
  rintro r os' ⟨rfl, hn, hq⟩
  rw [noRef_back hn]
  simpa [St.put] using hk r hq

theorem xcallRdA {α : Type} {i sz : Nat} {enc : α → List D} {code : D} {p lo hi : Int} {Q : List α → Prop} (h : callB env f args.toList = some (g, .oref i 0 :: vs)) (ho : objs[i]? = some (.box [.d code, .d (.int .i64 p)])) (ha : argVs objs [i] [] vs = some args')
    (hc : ACon P g (.oref 0 0 :: args') [.box [.d code, .d (.int .i64 p)]] (RdA code lo hi sz enc Q))
    (hk : ∀ p' xs, lo ≤ p' → p' ≤ hi → Q xs → aops TT P ds os ⟨(d, .msl objs.length sz 0 xs.length) :: env, objs.set i (.box [.d code, .d (.int .i64 p')]) ++ [.arr sz (xs.map enc)], n, fx⟩ K) :
    aops TT P ds (⟨some d, .call { callee := .value f, args := args, argTypes := ts }, ty, pos, af, none⟩ :: os) ⟨env, objs, n, fx⟩ K := by
  refine xcall h (ACall.hand [i] (args' := .oref 0 0 :: args') (by simp [argVs, argV, idx, ha]) (by simp) (os0 := [.box [.d code, .d (.int .i64 p)]]) (os1 := [.box [.d code, .d (.int .i64 p)]]) (by simp [getO, ho]) rfl (by simp [O.live]) hc ?_)
  rintro r os' ⟨p', xs, h1, h2, rfl, rfl, hq⟩
  have := hk p' xs h1 h2 hq
  simpa [backs, backO, backVs, backV, backId, St.put] using this

end

theorem xfinSm {TT : Nat → Option TI} {env : List (Nat × V)} {objs : List O} {n : Nat} {res : List ResultVar} {v : V} {side : Prop} {e : Exit} {Q : V → Prop} (he : e = .normal ∨ e = .ret)
    (h : resB TT env objs res outB = .ok v side) (hs : side) (hr : noRef v = true) (hq : Q v) : endW TT res (Sm Q) e ⟨env, objs, n, .p 0⟩ :=
  xfinK he h hs ⟨[], v, [], by decide, rfl, by cases objs <;> trivial, noRef_ren v hr, rfl, hr, hq⟩

theorem xfinRdA {α : Type} {TT : Nat → Option TI} {env : List (Nat × V)} {objs : List O} {n j : Nat} {res : List ResultVar} {sz len : Nat} {side : Prop} {e : Exit} {code : D} {p lo hi : Int} {enc : α → List D} {Q : List α → Prop} {xs : List α} (he : e = .normal ∨ e = .ret)
    (h : resB TT env objs res outB = .ok (.msl j sz 0 len) side) (hs : side) (h0 : objs[0]? = some (.box [.d code, .d (.int .i64 p)])) (hj : objs[j]? = some (.arr sz (xs.map enc))) (hne : Nat.beq 0 j = false) (hl : len = xs.length) (h1 : lo ≤ p) (h2 : p ≤ hi) (hq : Q xs) :
    endW TT res (RdA code lo hi sz enc Q) e ⟨env, objs, n, .p 1⟩ := by
  have hne := Nat.ne_of_beq_eq_false hne
  subst hl
  exact xfinK he h hs ⟨[0, j], .msl 1 sz 0 xs.length, [.box [.d code, .d (.int .i64 p)], .arr sz (xs.map enc)], by simp [hne], rfl, ⟨.inr ⟨_, rfl, h0⟩, .inr ⟨_, rfl, hj⟩, trivial⟩, rfl, p, xs, h1, h2, rfl, rfl, hq⟩

theorem xguardS {P : Program} {TT : Nat → Option TI} {ds : List (Option Nat) × Bool} {d' : Nat} {op : Op} {j : Nat} {b c : Bool} {d : Nat} {ty : TypeId} {pos : String} {af : Array Edge} {os : List Oper} {env : List (Nat × V)} {objs : List O} {n : Nat} {fx : FX} {K : St → Prop}
    (hd : ds.1[j]? = some (some d)) (hc : getB env d = .d (.bool c)) (h1 : c = b → aops TT P ds (⟨some d', op, ty, pos, af, none⟩ :: os) ⟨(d, .d (.bool b)) :: env, objs, n, fx⟩ K)
    (h2 : c = (!b) → aops TT P ds os ⟨(d', .tup []) :: (d, .d (.bool (!b))) :: env, objs, n, fx⟩ K) : aops TT P ds (⟨some d', op, ty, pos, af, some (j, b)⟩ :: os) ⟨env, objs, n, fx⟩ K := xguard hd hc h1 h2
theorem xguardN {P : Program} {TT : Nat → Option TI} {ds : List (Option Nat) × Bool} {op : Op} {j : Nat} {b c : Bool} {d : Nat} {ty : TypeId} {pos : String} {af : Array Edge} {os : List Oper} {env : List (Nat × V)} {objs : List O} {n : Nat} {fx : FX} {K : St → Prop}
    (hd : ds.1[j]? = some (some d)) (hc : getB env d = .d (.bool c)) (h1 : c = b → aops TT P ds (⟨none, op, ty, pos, af, none⟩ :: os) ⟨(d, .d (.bool b)) :: env, objs, n, fx⟩ K)
    (h2 : c = (!b) → aops TT P ds os ⟨(d, .d (.bool (!b))) :: env, objs, n, fx⟩ K) : aops TT P ds (⟨none, op, ty, pos, af, some (j, b)⟩ :: os) ⟨env, objs, n, fx⟩ K := xguard hd hc h1 h2

section
variable {P : Program} {TT : Nat → Option TI} {ops : List Oper} {K : St → Prop} {i j k : Nat} {p : Plan} {o : Oper}

theorem xrun_g {env : List (Nat × V)} {objs : List O} {n : Nat} {fx : FX} {f : Operand} {args : List Operand} {want b : Bool} {d dj : Nat} (h : ops[i]? = some o) (hc : callOf o.op = some (f, args)) (hg : o.guard = some (j, want)) (hd : o.dst = some d) (hj : (ops.map (·.dst))[j]? = some (some dj)) (hv : getB env dj = .d (.bool b))
    (h1 : b = want → ACallQ P ⟨env, objs, n, fx⟩ (St.ev ⟨env, objs, n, fx⟩ f) (args.map (St.ev ⟨env, objs, n, fx⟩)) fun v => arun TT P ops p ⟨(d, v) :: env, objs, n, fx⟩ K) (h2 : b = (!want) → arun TT P ops p ⟨(d, .tup []) :: env, objs, n, fx⟩ K) :
    arun TT P ops (.q i p) ⟨env, objs, n, fx⟩ K := by
  rw [getB_eq] at hv
  simp only [arun, h, aone, hc, hg, hj, hv, hd]
  exact ⟨h1, h2⟩
theorem xcallQ {env : List (Nat × V)} {objs : List O} {n : Nat} {fx : FX} {f : Operand} {args : List Operand} {g : Nat} {vs args' : List V} {R : V} {K : V → Prop} (hb : callB env f args = some (g, vs)) (ha : argVs objs [] [] vs = some args') (hcon : ACon P g args' [] (Is R)) (hr : noRef R = true) (hk : K R) :
    ACallQ P ⟨env, objs, n, fx⟩ (St.ev ⟨env, objs, n, fx⟩ f) (args.map (St.ev ⟨env, objs, n, fx⟩)) K := by
  have hev : evB env = St.ev ⟨env, objs, n, fx⟩ := funext fun o => evB_eq o
  unfold callB at hb
  split at hb
  · rename_i g' cap hf
    rw [evL_eq, forceL_eq] at hb
    obtain ⟨rfl, rfl⟩ : g' = g ∧ args.map (evB env) ++ cap.map .d = vs := by simpa using hb
    rw [hev] at hf ha
    rw [hf]
    exact ACallQ.of ha hcon hr hk
  · cases hb
end

section
variable {P : Program} {TT : Nat → Option TI} {ds : List (Option Nat) × Bool} {d : Nat} {ty : TypeId} {pos : String} {af : Array Edge} {os : List Oper} {env : List (Nat × V)} {objs : List O} {n : Nat} {fx : FX} {K : St → Prop}

/-- Parts of an own slice. -/
theorem xslcM {t : TypeId} {x : Operand} {lo hi : Option Operand} {id sz off len l h : Nat} (he : (elemOf TT t).map (·.size) = some sz) (hx : evB env x = .msl id sz off len) (hlo : abd (lo.map (evB env)) 0 = some l) (hhi : abd (hi.map (evB env)) len = some h)
    (h1 : l ≤ h) (h2 : h ≤ len) (hk : aops TT P ds os ⟨(d, .msl id sz (off + l) (h - l)) :: env, objs, n, fx⟩ K) :
    aops TT P ds (⟨some d, .slice t x lo hi none, ty, pos, af, none⟩ :: os) ⟨env, objs, n, fx⟩ K := by
  have hev : evB env = St.ev ⟨env, objs, n, fx⟩ := funext fun o => evB_eq o
  rw [aops_slice]
  rw [hev] at hx hlo hhi
  rw [hx]
  unfold aslc
  simp only
  rw [hlo, hhi]
  exact ⟨he, h1, h2, hk⟩
theorem xslcMHi {t : TypeId} {x hi : Operand} {id sz off len : Nat} {k : IntKind} {m : Int} (he : (elemOf TT t).map (·.size) = some sz) (hx : evB env x = .msl id sz off len) (hhi : evB env hi = .d (.int k m)) (h : 0 ≤ m ∧ m ≤ len)
    (hk : aops TT P ds os ⟨(d, .msl id sz off m.toNat) :: env, objs, n, fx⟩ K) : aops TT P ds (⟨some d, .slice t x none (some hi) none, ty, pos, af, none⟩ :: os) ⟨env, objs, n, fx⟩ K :=
  xslcM (l := 0) (h := m.toNat) he hx (by simp [abd]) (by simp [abd, hhi, h.1]) (Nat.zero_le _) (by omega) hk
theorem xslcMLo {t : TypeId} {x lo : Operand} {id sz off len : Nat} {k : IntKind} {m : Int} (he : (elemOf TT t).map (·.size) = some sz) (hx : evB env x = .msl id sz off len) (hlo : evB env lo = .d (.int k m)) (h : 0 ≤ m ∧ m ≤ len)
    (hk : aops TT P ds os ⟨(d, .msl id sz (idxAdd off m.toNat) (len - m.toNat)) :: env, objs, n, fx⟩ K) : aops TT P ds (⟨some d, .slice t x (some lo) none none, ty, pos, af, none⟩ :: os) ⟨env, objs, n, fx⟩ K :=
  xslcM (l := m.toNat) (h := len) he hx (by simp [abd, hlo, h.1]) (by simp [abd]) (by omega) (Nat.le_refl _) (by rw [← idxAdd_eq]; exact hk)
theorem xslcMB {t : TypeId} {x lo hi : Operand} {id sz off len : Nat} {k k' : IntKind} {m m' : Int} (he : (elemOf TT t).map (·.size) = some sz) (hx : evB env x = .msl id sz off len) (hlo : evB env lo = .d (.int k m)) (hhi : evB env hi = .d (.int k' m')) (h : 0 ≤ m ∧ m ≤ m' ∧ m' ≤ len)
    (hk : aops TT P ds os ⟨(d, .msl id sz (idxAdd off m.toNat) (m'.toNat - m.toNat)) :: env, objs, n, fx⟩ K) : aops TT P ds (⟨some d, .slice t x (some lo) (some hi) none, ty, pos, af, none⟩ :: os) ⟨env, objs, n, fx⟩ K :=
  xslcM (l := m.toNat) (h := m'.toNat) he hx (by simp [abd, hlo, h.1]) (by simp [abd, hhi, show 0 ≤ m' by omega]) (by omega) (by omega) (by rw [← idxAdd_eq]; exact hk)
end

/-- A struct that is built of single cells, one after the other. -/
def bldK (flds : List (Nat × Nat × Bool)) (n : Nat) : List V → List (Nat × V) → Option (List V)
  | cs, [] => some cs
  | cs, (i, v) :: rest => match flds[i]? with
    | some (off, 1, _) => (match cellsB v with
      | some [x] => if Nat.blt off n = true then bldK flds n (cs.set off x) rest else none
      | _ => none)
    | _ => none
theorem bldK_eq {flds : List (Nat × Nat × Bool)} {n : Nat} : ∀ (parts : List (Nat × V)) (cs out : List V), cs.length = n → bldK flds n cs parts = some out → abuild flds cs parts = some out := by
  intro parts
  induction parts with
  | nil => intro cs out _ h; exact h
  | cons p rest ih =>
    obtain ⟨i, v⟩ := p
    intro cs out hn h
    simp only [bldK] at h
    split at h
    · rename_i off b hf
      split at h
      · rename_i x hv
        split at h
        · rename_i hlt
          have hlt : off + 1 ≤ n := Nat.le_of_ble_eq_true hlt
          have h2 := ih _ _ (by rw [List.length_set]; exact hn) h
          rw [cellsB_eq] at hv
          simp only [abuild, hf, hv]
          rw [if_pos ⟨rfl, by omega⟩]
          have e : putAt cs off [x] = cs.set off x := by
            rw [List.set_eq_take_append_cons_drop, if_pos (by omega)]
            simp [putAt]
          rw [e]; exact h2
        · cases h
      · cases h
    · cases h
theorem xbld {P : Program} {TT : Nat → Option TI} {ds : List (Option Nat) × Bool} {d : Nat} {t ty : TypeId} {parts : Array (Nat × Operand)} {pos : String} {af : Array Edge} {os : List Oper} {env : List (Nat × V)} {objs : List O} {n : Nat} {fx : FX} {K : St → Prop} {ti : TI} {flds : List (Nat × Nat × Bool)} {q : List Nat} {out : List V}
    (ht : TT t = some ti) (hf : ti.kind = .struct flds q) (hb : bldK flds ti.zero.length ti.zero (parts.toList.map fun p => (p.1, evB env p.2)) = some out) (hk : aops TT P ds os ⟨(d, .agg out) :: env, objs, n, fx⟩ K) :
    aops TT P ds (⟨some d, .build t parts, ty, pos, af, none⟩ :: os) ⟨env, objs, n, fx⟩ K := by
  have hev : evB env = St.ev ⟨env, objs, n, fx⟩ := funext fun o => evB_eq o
  obtain ⟨kind, size, bytes, zero⟩ := ti
  dsimp only at hf hb
  subst hf
  rw [aops_build, ht]
  simp only
  rw [hev] at hb
  rw [bldK_eq _ _ _ rfl hb]
  exact hk

/-- An own slice in a cell of an own box becomes data. -/
theorem Weak.freezeBoxCell {s : St} (b id sz : Nat) {len : Nat} {rows : List (List D)} {cells : List V} (i : Nat) (hb : s.objs[b]? = some (.box cells)) (hi : cells[i]? = some (.msl id sz 0 len)) (ho : s.objs[id]? = some (.arr sz rows)) (hl : len = rows.length) :
    Weak s ⟨s.env, (s.objs.set id .dead).set b (.box (cells.set i (.d (.lst rows)))), s.n, s.fx⟩ := by
  refine ⟨fun x a w hC => ?_⟩
  obtain ⟨ok, ρ, hI, hF, hE, hn, hd, hx⟩ := hC
  obtain ⟨h1, h2⟩ := step_freeze hI hF ho
  have hm : ∀ {y v}, VRep w ok ρ y v → VRep w (okF ok ρ id) ρ y v := fun h => h.mono (fun _ _ => rfl) (fun _ h => .inl h) (fun _ _ h => h) (fun _ _ h => h)
  have hne : id ≠ b := by rintro rfl; rw [hb] at ho; cases ho
  obtain ⟨blk, cs, t, r1, r2, r3, r4⟩ := hI.own _ _ hb
  have hb' : (s.objs.set id .dead)[b]? = some (.box cells) := by rw [List.getElem?_set_ne hne]; exact hb
  have hor : ORep w (okF ok ρ id) ρ b (.box (cells.set i (.d (.lst rows)))) := by
    refine ⟨blk, cs, t, r1, r2, by rw [List.length_set]; exact r3, fun j c hj => ?_⟩
    rw [List.getElem?_set] at hj
    split at hj
    · rename_i e
      subst e
      split at hj
      · obtain rfl : V.d (.lst rows) = c := by simpa using hj
        have hr := freeze_rep hI ho (off := 0) (len := len) (by omega) (r4 _ _ hi)
        rw [List.drop_zero, hl, List.take_length] at hr
        exact .d hr
      · simp at hj
    · exact hm (r4 _ _ hj)
  obtain ⟨g1, g2, g3⟩ := step_write (w' := w) h1 h2 hb' rfl r1 rfl (fun _ _ => rfl) rfl rfl rfl rfl hor rfl
  exact ⟨okF ok ρ id, ρ, g1, g2, fun j => g3 _ _ (hm (hE j)), hn, hd, hx⟩
/-- A nil slice in a cell of an own box is data. -/
theorem Weak.nilBoxCell {s : St} (b : Nat) {cells : List V} (i : Nat) (hb : s.objs[b]? = some (.box cells)) (hi : cells[i]? = some .nils) : Weak s ⟨s.env, s.objs.set b (.box (cells.set i (.d (.lst [])))), s.n, s.fx⟩ := by
  refine ⟨fun x a w hC => ?_⟩
  obtain ⟨ok, ρ, hI, hF, hE, hn, hd, hx⟩ := hC
  obtain ⟨blk, cs, t, r1, r2, r3, r4⟩ := hI.own _ _ hb
  have hor : ORep w ok ρ b (.box (cells.set i (.d (.lst [])))) := by
    refine ⟨blk, cs, t, r1, r2, by rw [List.length_set]; exact r3, fun j c hj => ?_⟩
    rw [List.getElem?_set] at hj
    split at hj
    · rename_i e
      subst e
      split at hj
      · obtain rfl : V.d (.lst []) = c := by simpa using hj
        have := r4 _ _ hi
        generalize Array.getD _ _ _ = u at this ⊢
        cases this
        exact .d .nil
      · simp at hj
    · exact r4 _ _ hj
  obtain ⟨g1, g2, g3⟩ := step_write (w' := w) hI hF hb rfl r1 rfl (fun _ _ => rfl) rfl rfl rfl rfl hor rfl
  exact ⟨ok, ρ, g1, g2, fun j => g3 _ _ (hE j), hn, hd, hx⟩

theorem Weak.freezeA {env : List (Nat × V)} {objs : List O} {n : Nat} {fx : FX} (t id sz : Nat) {len : Nat} {rows : List (List D)} (ht : getB env t = .msl id sz 0 len) (ho : objs[id]? = some (.arr sz rows)) (hl : len = rows.length) :
    Weak ⟨env, objs, n, fx⟩ ⟨(t, .d (.lst rows)) :: env, objs.set id .dead, n, fx⟩ := by
  rw [getB_eq] at ht
  have := Weak.freeze (s := ⟨env, objs, n, fx⟩) t id sz 0 len ht ho (by omega)
  rw [List.drop_zero, hl, List.take_length] at this
  exact this

/-- A function value. -/
theorem xmkf {P : Program} {TT : Nat → Option TI} {ds : List (Option Nat) × Bool} {d : Nat} {ty : TypeId} {pos : String} {af : Array Edge} {os : List Oper} {env : List (Nat × V)} {objs : List O} {n : Nat} {fx : FX} {K : St → Prop} {f : Nat} {cap : Array Operand} {xs : List D}
    (h : evL env cap.toList toDs = some xs) (hk : aops TT P ds os ⟨(d, .d (.fn f xs)) :: env, objs, n, fx⟩ K) : aops TT P ds (⟨some d, .makeFunc (.func f) #[] cap, ty, pos, af, none⟩ :: os) ⟨env, objs, n, fx⟩ K := by
  have hev : evB env = St.ev ⟨env, objs, n, fx⟩ := funext fun o => evB_eq o
  rw [aops_makeFunc]
  rw [evL_eq, hev] at h
  rw [h]
  exact ⟨rfl, hk⟩

end Go.Fw

/- Functions that give data of new memory; functions that write into data's memory; laws that call them. -/
set_option linter.unusedSimpArgs false
set_option linter.unusedVariables false
namespace Go.Fw

theorem AXon.introW {P : Program} {TT : Nat → Option TI} (hT : TOk P TT) {fx : FX} {f nt : Nat} {fn : Func} {c : Code} {res : List ResultVar} {args : List V} {Post : V → List O → Prop} (hf : P.funcs[f]? = some fn) (hb : fn.body = some c)
    (hr : fn.results = ⟨res⟩) (hnt : fn.ntmps = nt) (hc : callable P f = true) (hn : Nat.ble args.length nt = true) (h : AW P c (endW TT res Post) ⟨args0 0 args, [], nt, fx⟩) : AXon P fx f args Post := by
  refine ⟨hc, fun w ok vs hx hI hs hv => ?_⟩
  refine calls_intro hT hf hb hr hnt hn (Post := Post) ⟨fun x a w hC => ?_⟩ w ok [] vs hx ⟨rfl, hI, fun i o h => by simp at h, fun i j oi oj b h => by simp at h, fun i o b h => by simp at h⟩ hs hv
  refine wp_mono (h.run x a w hC) ?_
  rintro e a' w' ⟨s', ⟨s'', h1, h2⟩, h3⟩
  exact ⟨s'', h2, h1.run _ _ _ h3⟩

theorem LA.same {n : Nat} (v : V) : LA n v v := fun _ _ _ _ _ h => h
theorem LA.one {n : Nat} (x : D) : LA n (.agg [.d x]) (.agg [.ld n x]) := by
  intro w ok ρ u hb h
  cases h with
  | agg hn hh =>
    refine .agg hn (fun i c hc => ?_)
    cases i with
    | zero =>
      have := hh 0 _ rfl
      obtain rfl : _ = c := by simpa using hc
      generalize Array.getD _ _ _ = u at this ⊢
      cases this with | d h => exact .ld (h.mono (fun _ _ => rfl) (fun b h => ⟨h, hb b h⟩))
    | succ i => simp at hc

/-- A law's body, with the memory that it starts with. -/
theorem ACon.introL {P : Program} {TT : Nat → Option TI} (hT : TOk P TT) {f nt : Nat} {fn : Func} {c : Code} {res : List ResultVar} {args : List V} {Post : V → List O → Prop} (args' : Nat → List V) (hl : ∀ n, LAs n args (args' n)) (hf : P.funcs[f]? = some fn) (hb : fn.body = some c)
    (hr : fn.results = ⟨res⟩) (hnt : fn.ntmps = nt) (hc : callable P f = true) (hn : Nat.ble args.length nt = true) (h : ∀ n, AW P c (endW TT res Post) ⟨args0 0 (args' n), [], nt, .law n⟩) : ACon P f args [] Post := by
  refine ⟨hc, fun w ok ρ vs hI hs hv => ?_⟩
  obtain ⟨l1, l2⟩ := LAs_get (hl w.heap.size)
  refine calls_intro hT hf hb hr hnt (by rw [l1]; exact hn) (Post := Post) (fx := .law w.heap.size) ⟨fun x a w hC => ?_⟩ w ok ρ vs ⟨rfl, ⟨rfl, rfl⟩, rfl, hI.okb⟩ hI (by omega) (fun i y hi => ?_)
  · refine wp_mono ((h _).run x a w hC) ?_
    rintro e a' w' ⟨s', ⟨s'', h1, h2⟩, h3⟩
    exact ⟨s'', h2, h1.run _ _ _ h3⟩
  · obtain ⟨y0, e1, e2⟩ := l2 i y hi
    exact e2 w ok ρ _ hI.okb (hv i y0 e1)

theorem AXon.of_con {P : Program} {fx : FX} {f : Nat} {args : List V} {Post : V → List O → Prop} (h : ACon P f args [] Post) (hw : fx.wr = false) : AXon P fx f args Post := by
  refine ⟨h.1, fun w ok vs hx hI hs hv => ?_⟩
  have hk : fx.kp = true := by cases fx <;> first | rfl | cases hw
  rw [hw, hk]
  exact h.2 w ok [] vs ⟨rfl, hI, fun i o h => by simp at h, fun i j oi oj b h => by simp at h, fun i o b h => by simp at h⟩ hs hv

/-- A row whose parts may be data of memory from n on; and the row as data. -/
def SR (n : Nat) : List D → List D → Prop
  | [], [] => True
  | x' :: r', x :: r => (x' = x ∧ x.flat = true ∨ x' = .hi n x) ∧ SR n r' r
  | _, _ => False

theorem SR_get {n : Nat} : ∀ {r' r : List D}, SR n r' r → r'.length = r.length ∧ ∀ (j : Nat) x, r[j]? = some x → ∃ x', r'[j]? = some x' ∧ (x' = x ∧ x.flat = true ∨ x' = .hi n x)
  | [], [], _ => by simp
  | [], _ :: _, h => by simp [SR] at h
  | _ :: _, [], h => by simp [SR] at h
  | x' :: r', x :: r, h => by
    simp only [SR] at h
    obtain ⟨h1, h2⟩ := SR_get h.2
    refine ⟨by simp [h1], fun i u hi => ?_⟩
    cases i with
    | zero => obtain rfl : x = u := by simpa using hi
              exact ⟨x', rfl, h.1⟩
    | succ i => exact h2 i u (by simpa using hi)

/-- A new slice of rows is data of new memory. -/
theorem AXon.data {α : Type} {P : Program} {n f : Nat} {args : List V} {sz : Nat} {enc' enc : α → List D} {xs : List α} (h : AXon P (.hi n) f args (Own (.msl 0 sz 0 xs.length) [.arr sz (xs.map enc')])) (he : ∀ a, SR n (enc' a) (enc a)) :
    AXon P (.hi n) f args (Is (.hd n (.lst (xs.map enc)))) := by
  refine ⟨h.1, fun w ok vs hx hI hs hv => ?_⟩
  refine (h.2 w ok vs hx hI hs hv).mono ?_
  rintro e w' ⟨v, r, os, ok', ρ', h1, ⟨rfl, rfl⟩, h3, h4, h5⟩
  obtain ⟨g1, g2⟩ := step_freeze h3 h5 (id := 0) (sz := sz) (rows := xs.map enc') rfl
  have hn : n ≤ w.heap.size := hx.2.2
  obtain ⟨hr0, hr1⟩ := h3.own 0 _ rfl
  have hd : DRep w' (fun b => okF ok' ρ' 0 b ∧ n ≤ b) (.lst (xs.map enc)) v := by
    generalize hL : xs.length = L at h4
    cases h4 with
    | @msl _ _ _ _ cap b t m h hc hs' hm =>
      rcases hr1 with ⟨_, e2⟩ | ⟨b', cs, bt, o1, o2, o3, o4⟩
      · rw [h] at e2; simp at e2
      rw [o1] at h
      obtain rfl : b' = b := by simpa using h
      have hb : n ≤ b' := by
        rcases h5.own 0 _ b' rfl rfl o1 with h | ⟨i0, o0, h1, _⟩
        · have h : w.heap.size ≤ b' := h
          omega
        · simp at h1
      have hd : DRep w' (fun b => okF ok' ρ' 0 b ∧ n ≤ b) (.lst (xs.map enc)) (.slice (some ⟨b', 0 * sz, none⟩) (xs.map enc).length cap) := by
        refine .lst (sz := sz) (vs := fun i j => cs.getD (i * sz + j) undef) ⟨.inr o1, hb⟩ (fun r hr => ?_) (by rw [List.length_map]; omega) (fun i j r y hi hj => ?_) (fun i j r y hi hj => ?_)
        · obtain ⟨a, ha, rfl⟩ := List.mem_map.1 hr
          rw [← (SR_get (he a)).1]
          exact hr0 _ (List.mem_map_of_mem ha)
        all_goals
          rw [List.getElem?_map, Option.map_eq_some_iff] at hi
          obtain ⟨a, ha, rfl⟩ := hi
          obtain ⟨e1, e2⟩ := SR_get (he a)
          obtain ⟨x', f1, f2⟩ := e2 j y hj
          have hi' : (xs.map enc')[i]? = some (enc' a) := by rw [List.getElem?_map, ha]; rfl
        · have hil := (List.getElem?_eq_some_iff.1 hi').1
          have hjl : j < sz := by have := (List.getElem?_eq_some_iff.1 f1).1; have := hr0 _ (List.mem_of_getElem? hi'); omega
          have hlt := row_lt (sz := sz) hil hjl
          have hlt2 : i * sz + j < cs.size := by omega
          rw [show 0 * sz + (i * sz + j) = i * sz + j by omega]
          simp [World.cell?, o2, Array.getD, hlt2]
        · have := o4 i j _ _ hi' f1
          rcases f2 with ⟨rfl, hf⟩ | rfl
          · exact this.of_flat hf
          · cases this with | hi this => exact this.mono (fun _ _ => rfl) (fun b hb => ⟨.inl hb.1, hb.2⟩)
      rwa [List.length_map, hL] at hd
    | @msl0 _ _ _ a h =>
      obtain rfl : xs = [] := List.eq_nil_of_length_eq_zero hL
      exact .nil
  obtain ⟨ρ2, k1, k2, k3⟩ := ren_core (π := []) (os := []) (fx := 0) g1 g2 rfl List.nodup_nil (fun i h => by omega) (by trivial)
  exact ⟨v, _, [], _, ρ2, h1, ⟨rfl, rfl⟩, k1, k3 _ (.hd n (.lst (xs.map enc))) _ rfl (.hd hd), k2⟩

/-- Data of which less is told. -/
theorem WA.one {n : Nat} {t W : D} (h : ∀ w ok v, DRep w ok t v → DRep w ok W v) : WA n (.agg [.hd n t]) (.agg [.d W]) := by
  intro w ok ρ u hr
  cases hr with
  | agg hn hh =>
    refine .agg hn (fun i c hc => ?_)
    cases i with
    | zero =>
      have := hh 0 _ rfl
      obtain rfl : _ = c := by simpa using hc
      generalize Array.getD _ _ _ = u at this ⊢
      cases this with | hd h' => exact .d (h _ _ _ h')
    | succ i => simp at hc
theorem WA.flat {n : Nat} {x : D} (h : x.flat = true) : WA n (.d x) (.d x) := by
  intro w ok ρ u hr
  cases hr with | d h' => exact .d (h'.of_flat h)

/-- Less is told of a row. -/
def WR : List D → List D → Prop
  | [], [] => True
  | x :: r, y :: s => (∀ w ok v, DRep w ok x v → DRep w ok y v) ∧ WR r s
  | _, _ => False
theorem WR_get : ∀ {r s : List D}, WR r s → r.length = s.length ∧ ∀ (j : Nat) y, s[j]? = some y → ∃ x, r[j]? = some x ∧ ∀ w ok v, DRep w ok x v → DRep w ok y v
  | [], [], _ => by simp
  | [], _ :: _, h => by simp [WR] at h
  | _ :: _, [], h => by simp [WR] at h
  | x' :: r', x :: r, h => by
    simp only [WR] at h
    obtain ⟨h1, h2⟩ := WR_get h.2
    refine ⟨by simp [h1], fun i u hi => ?_⟩
    cases i with
    | zero => obtain rfl : x = u := by simpa using hi
              exact ⟨x', rfl, h.1⟩
    | succ i => exact h2 i u (by simpa using hi)

theorem wd_int {k : IntKind} {n : Int} : ∀ w ok v, DRep w ok (.int k n) v → DRep w ok (.wint k) v := by
  intro w ok v h; cases h; exact .wint
theorem wd_bool {b : Bool} : ∀ w ok v, DRep w ok (.bool b) v → DRep w ok .wbool v := by
  intro w ok v h; cases h; exact .wbool
theorem wd_lst {α : Type} {enc : α → List D} {row : List D} {xs : List α} {mx : Nat} (he : ∀ a ∈ xs, WR (enc a) row) (hl : xs.length ≤ mx) : ∀ w ok v, DRep w ok (.lst (xs.map enc)) v → DRep w ok (.wx row mx) v := by
  intro w ok v h
  refine .wx (L := xs.length) hl ?_
  generalize hrs : xs.map enc = rs at h
  cases h with
  | nil =>
    obtain rfl : xs = [] := by simpa using hrs
    exact .nil
  | @lst _ rows sz b off cap vs hok hsz hcap hc hd =>
    subst hrs
    have e : (xs.map enc).length = ((List.replicate xs.length ()).map fun _ => row).length := by simp
    rw [e]
    have key : ∀ (i j : Nat) (r : List D) (y : D), ((List.replicate xs.length ()).map fun _ => row)[i]? = some r → r[j]? = some y → ∃ (a : α) (x : D), (xs.map enc)[i]? = some (enc a) ∧ (enc a)[j]? = some x ∧ ∀ w ok v, DRep w ok x v → DRep w ok y v := by
      intro i j r y hi hj
      rw [List.getElem?_map, Option.map_eq_some_iff] at hi
      obtain ⟨u, hu, rfl⟩ := hi
      have hil : i < xs.length := by have := (List.getElem?_eq_some_iff.1 hu).1; simpa using this
      obtain ⟨x, e1, e2⟩ := (WR_get (he _ (List.getElem_mem hil))).2 j y hj
      exact ⟨xs[i], x, by rw [List.getElem?_map, List.getElem?_eq_getElem hil]; rfl, e1, e2⟩
    refine .lst (sz := sz) (vs := vs) hok (fun r hr => ?_) (by rw [← e]; exact hcap) (fun i j r y hi hj => ?_) (fun i j r y hi hj => ?_)
    · obtain ⟨u, hu, rfl⟩ := List.mem_map.1 hr
      have hne : xs ≠ [] := by rintro rfl; simp at hu
      obtain ⟨a, ha⟩ := List.exists_mem_of_ne_nil xs hne
      rw [← (WR_get (he a ha)).1]
      exact hsz _ (List.mem_map_of_mem ha)
    · obtain ⟨a, x, h1, h2, _⟩ := key i j r y hi hj
      exact hc i j _ _ h1 h2
    · obtain ⟨a, x, h1, h2, h3⟩ := key i j r y hi hj
      exact h3 _ _ _ (hd i j _ _ h1 h2)

/-- A body that takes a slice of unknown length, for each length. -/
theorem AXon.opened {P : Program} {fx : FX} {f : Nat} {row : List D} {mx : Nat} {rest : List V} {Post : V → List O → Prop} (hc : callable P f = true) (h : ∀ L, L ≤ mx → AXon P fx f (.d (.lst ((List.replicate L ()).map fun _ => row)) :: rest) Post) :
    AXon P fx f (.d (.wx row mx) :: rest) Post := by
  refine ⟨hc, fun w ok vs hx hI hs hv => ?_⟩
  have h0 := hv 0 _ rfl
  generalize hu : vs.getD 0 undef = u at h0
  cases h0 with | d h0 =>
  cases h0 with | @wx _ _ _ L _ hl h0 =>
  refine (h L hl).2 w ok vs hx hI hs (fun i x hi => ?_)
  cases i with
  | zero => obtain rfl := Option.some.inj hi
            rw [hu]; exact .d h0
  | succ i => exact hv (i + 1) x (by simpa using hi)

section
variable {P : Program} {TT : Nat → Option TI} {ds : List (Option Nat) × Bool} {dst : Option Nat} {d : Nat} {ty : TypeId} {pos : String} {af : Array Edge} {os : List Oper} {env : List (Nat × V)} {objs : List O} {n : Nat} {fx : FX} {K : St → Prop}
  {f : Operand} {args : Array Operand} {ts : Array TypeId} {g : Nat} {vs args' : List V} {R : V} {OS : List O}

theorem xcallX (hu : ds.2 = true) (h : callB env f args.toList = some (g, vs)) (hc : ACallX P ⟨env, objs, n, fx⟩ g vs fun y s' => aops TT P ds os (s'.put dst y) K) :
    aops TT P ds (⟨dst, .call { callee := .value f, args := args, argTypes := ts }, ty, pos, af, none⟩ :: os) ⟨env, objs, n, fx⟩ K := by
  have hev : evB env = St.ev ⟨env, objs, n, fx⟩ := funext fun o => evB_eq o
  refine aops_callX hu ?_
  unfold callB at h
  split at h
  · rename_i g' cap hf
    rw [evL_eq, forceL_eq] at h
    obtain ⟨rfl, rfl⟩ : g' = g ∧ args.toList.map (evB env) ++ cap.map .d = vs := by simpa using h
    rw [hev] at hf hc
    rw [hf]
    exact hc
  · cases h

/-- A call of a function that gives data of new memory. -/
theorem xcallHi {m : Nat} (hu : ds.2 = true) (h : callB env f args.toList = some (g, vs)) (ha : argVs objs [] [] vs = some args') (hc : AXon P (.hi m) g args' (Is R)) (hx : fx = .law m ∨ fx = .hi m) (hr : noRef R = true) (hk : aops TT P ds os ⟨(d, R) :: env, objs, n, fx⟩ K) :
    aops TT P ds (⟨some d, .call { callee := .value f, args := args, argTypes := ts }, ty, pos, af, none⟩ :: os) ⟨env, objs, n, fx⟩ K := by
  refine xcallX hu h (.inl (.inl ⟨m, args', hx, ha, hc.mono ?_⟩))
  rintro r os' ⟨rfl, rfl⟩
  rw [noRef_backI r hr]
  simpa [backs, St.put] using hk

/-- In a body that writes its data's memory: a call of another one. -/
theorem xcallW {Q : V → Prop} (hu : ds.2 = true) (h : callB env f args.toList = some (g, vs)) (ha : argVs objs [] [] vs = some args') (hc : AXon P .wild g args' (Sm Q)) (hq : ∀ r, Q r → ∃ x : D, r = .d x ∧ x.flat = true) (hO : WO objs) (hE : WE env) (hk : ∀ r, Q r → aops TT P ds os ⟨(d, r) :: env, objs, n, .wild⟩ K) :
    aops TT P ds (⟨some d, .call { callee := .value f, args := args, argTypes := ts }, ty, pos, af, none⟩ :: os) ⟨env, objs, n, .wild⟩ K := by
  refine xcallX hu h (.inl (.inr (.inl ⟨args', rfl, hO, hE, ha, hc.mono ?_⟩)))
  rintro r os' ⟨rfl, _, hqr⟩
  obtain ⟨x, rfl, hf⟩ := hq r hqr
  exact ⟨x, rfl, hf, hk _ hqr⟩

/-- In a law's body: a call of such a function with data of new memory; ls, objs': what is still known. -/
theorem xcallMk {m : Nat} {Q : V → Prop} {objs' : List O} (ls : List Nat) (hu : ds.2 = true) (h : callB env f args.toList = some (g, vs)) (hc : AXon P .wild g args' (Sm Q)) (ha : WAs m vs args') (hq : ∀ r, Q r → ∃ x : D, r = .d x ∧ x.flat = true) (hO : loOs m objs objs') (hE : keepP m env ls)
    (hk : ∀ r, Q r → aops TT P ds os ⟨(d, r) :: keepE env ls, objs', n, .law m⟩ K) :
    aops TT P ds (⟨some d, .call { callee := .value f, args := args, argTypes := ts }, ty, pos, af, none⟩ :: os) ⟨env, objs, n, .law m⟩ K := by
  refine xcallX hu h (.inl (.inr (.inr ⟨m, args', ls, objs', rfl, ha, hO, hE, hc.mono ?_⟩)))
  rintro r os' ⟨rfl, _, hqr⟩
  obtain ⟨x, rfl, hf⟩ := hq r hqr
  exact ⟨x, rfl, hf, hk _ hqr⟩

/-- A call of a function in the mode hi, whatever it gives. -/
theorem xcallHiE {m : Nat} {Post : V → List O → Prop} (hu : ds.2 = true) (h : callB env f args.toList = some (g, vs)) (ha : argVs objs [] [] vs = some args') (hc : AXon P (.hi m) g args' Post) (hx : fx = .law m ∨ fx = .hi m)
    (hk : ∀ r oz, Post r oz → aops TT P ds os ⟨(d, backV [] objs.length r) :: env, objs ++ oz.map (backO [] objs.length), n, fx⟩ K) :
    aops TT P ds (⟨some d, .call { callee := .value f, args := args, argTypes := ts }, ty, pos, af, none⟩ :: os) ⟨env, objs, n, fx⟩ K := by
  refine xcallX hu h (.inl (.inl ⟨m, args', hx, ha, hc.mono ?_⟩))
  intro r oz hp
  simpa [backs, St.put] using hk r oz hp

/-- The slots of e' tell less than those of e, and that their memory is older than m. -/
def cvE (m : Nat) (e : List (Nat × V)) : List (Nat × V) → Prop
  | [] => True
  | (j, v) :: r => LA m (getE e j) v ∧ cvE m e r
theorem cvE_get {m : Nat} {e : List (Nat × V)} : ∀ {e' : List (Nat × V)}, cvE m e e' → ∀ j, LA m (getE e j) (getE e' j)
  | [], _, j => fun _ _ _ _ _ _ => .any
  | (i, v) :: r, h, j => by
    simp only [getE]
    split
    · rename_i e; subst e; exact h.1
    · exact cvE_get h.2 j

/-- A call of a function that gives data of memory from now on. -/
theorem xcallHiM {n0 : Nat} (hu : ds.2 = true) (h : callB env f args.toList = some (g, vs)) (hx : fx = .law n0 ∨ fx = .hi n0) (hcal : callable P g = true)
    (hc : ∀ m, n0 ≤ m → (∀ b, KnownB ⟨env, objs, n, fx⟩ b → b < m) → (∀ k, KnownA ⟨env, objs, n, fx⟩ k → k < m) → ∃ env' objs' args', cvE m env env' ∧ cvOs m objs objs' ∧ argVs objs [] [] vs = some args' ∧ AXon P (.hi m) g args' fun r oz => aops TT P ds os ⟨(d, backV [] objs.length r) :: env', objs' ++ oz.map (backO [] objs.length), n, fx⟩ K) :
    aops TT P ds (⟨some d, .call { callee := .value f, args := args, argTypes := ts }, ty, pos, af, none⟩ :: os) ⟨env, objs, n, fx⟩ K := by
  refine xcallX hu h (.inr (.inl ⟨n0, hx, hcal, fun m hm hb hA => ?_⟩))
  obtain ⟨env', objs', args', h1, h2, h3, h4⟩ := hc m hm hb hA
  refine ⟨env', objs', args', cvE_get h1, h2, h3, h4.mono ?_⟩
  intro r oz hp
  simpa [backs, St.put] using hp

/-- In a law's body: a call of a function that writes data of memory from lo to hi. -/
theorem xcallMkR {n0 lo hi : Nat} {Q : V → Prop} {objs' : List O} (ls : List Nat) (hu : ds.2 = true) (h : callB env f args.toList = some (g, vs)) (hnl : n0 ≤ lo) (hc : AXon P .wild g args' (Sm Q)) (ha : WBs lo hi vs args') (hq : ∀ r, Q r → ∃ x : D, r = .d x ∧ x.flat = true) (hO : loBOs lo hi objs objs') (hE : keepB lo hi env ls)
    (hk : ∀ r, Q r → aops TT P ds os ⟨(d, r) :: keepE env ls, objs', n, .law n0⟩ K) :
    aops TT P ds (⟨some d, .call { callee := .value f, args := args, argTypes := ts }, ty, pos, af, none⟩ :: os) ⟨env, objs, n, .law n0⟩ K := by
  refine xcallX hu h (.inr (.inr (.inl ⟨n0, lo, hi, args', ls, objs', rfl, hnl, ha, hO, hE, hc.mono ?_⟩)))
  rintro r oz ⟨rfl, _, hqr⟩
  obtain ⟨x, rfl, hf⟩ := hq r hqr
  exact ⟨x, rfl, hf, hk _ hqr⟩

/-- A call with named data, which the callee writes. -/
theorem xcallBl {bo : Option Nat} {sz szA i j : Nat} {q q' rows : List (List D)} {r fl : List D} {y : D} (ls : List Nat) (hu : ds.2 = true) (h : callB env f args.toList = some (g, .d (.bl bo sz q) :: fl.map .d)) (hc : ACon P g (.msl 0 sz 0 q.length :: fl.map .d) [.arr sz q] (Own (.d y) [.arr sz q']))
    (hri : rows[i]? = some r) (hrj : r[j]? = some (.bl bo sz q)) (hfl : ∀ x ∈ fl, x.flat = true) (hok : okRows rows) (hsep : ∀ i' j' r' b' sz' q', rows[i']? = some r' → r'[j']? = some (.bl (some b') sz' q') → ¬ (i' = i ∧ j' = j) → bo ≠ some b')
    (hkp : ∀ k ∈ ls, flatV (getE env k) = true) (hy : y.flat = true) (hql : q'.length = q.length) (hqf : ∀ r ∈ q', ∀ x ∈ r, x.flat = true)
    (hk : aops TT P ds os ⟨(d, .d y) :: keepE env ls, [.arr szA (rows.set i (r.set j (.bl bo sz q')))], n, .bw⟩ K) :
    aops TT P ds (⟨some d, .call { callee := .value f, args := args, argTypes := ts }, ty, pos, af, none⟩ :: os) ⟨env, [.arr szA rows], n, .bw⟩ K := by
  refine xcallX hu h (.inr (.inr (.inr (.inl ⟨bo, sz, q, szA, rows, i, j, r, ls, fl, rfl, rfl, hri, hrj, rfl, hfl, hok, hsep, hkp, hc.mono ?_⟩))))
  rintro z oz ⟨rfl, rfl⟩
  exact ⟨y, q', rfl, hy, rfl, hql, hqf, hk⟩

/-- A call that hands over an object with named data, which the callee writes. -/
theorem xcallBw {id szA lo : Nat} {rows rows' : List (List D)} {y : D} (ls : List Nat) (hu : ds.2 = true) (h : callB env f args.toList = some (g, vs)) (hid : objs[id]? = some (.arr szA rows)) (ha : argVs objs [id] [] vs = some args') (hc : AZon P g args' szA rows (Own (.d y) [.arr szA rows']))
    (hm : (fx = .bw ∧ id = 0) ∨ ∃ n, fx = .law n ∧ n ≤ lo) (hlo : ∀ b, BlIn rows b → lo ≤ b) (hok : okRows rows) (hot : otO lo id 0 objs) (hfa : flatVs args' = true) (hkp : keepP lo env ls) (hy : y.flat = true) (hok' : okRows rows')
    (hk : aops TT P ds os ⟨(d, .d y) :: keepE env ls, objs.set id (.arr szA rows'), n, fx⟩ K) :
    aops TT P ds (⟨some d, .call { callee := .value f, args := args, argTypes := ts }, ty, pos, af, none⟩ :: os) ⟨env, objs, n, fx⟩ K := by
  refine xcallX hu h (.inr (.inr (.inr (.inr ⟨id, szA, rows, args', ls, lo, hid, hm, hlo, hok, hot, ha, hfa, hkp, hc.mono ?_⟩))))
  rintro z oz ⟨rfl, rfl⟩
  exact ⟨y, rows', rfl, hy, rfl, hok', hk⟩

/-- A number, or a truth value, is written into data's memory. -/
theorem xstW {t : TypeId} {x v : Operand} {ti : TI} {k : IntKind} {m : Int} {cells : List D} (hu : ds.2 = true) (ht : TT t = some ti) (hs : ti.size = 1) (hx : evB env x = .d (.ptr (.wint k :: cells))) (hv : evB env v = .d (.int k m)) (hO : WO objs) (hE : WE env)
    (hk : aops TT P ds os ⟨env, objs, n, .wild⟩ K) : aops TT P ds (⟨none, .store t x v, ty, pos, af, none⟩ :: os) ⟨env, objs, n, .wild⟩ K := by
  rw [evB_eq (objs := objs) (n := n) (fx := .wild)] at hx hv
  refine aops_storeW hu ⟨rfl, rfl, hO, hE, by rw [ht]; exact hs, ?_⟩
  rw [hx, hv]
  exact ⟨rfl, hk⟩
theorem xstWb {t : TypeId} {x v : Operand} {ti : TI} {b : Bool} {cells : List D} (hu : ds.2 = true) (ht : TT t = some ti) (hs : ti.size = 1) (hx : evB env x = .d (.ptr (.wbool :: cells))) (hv : evB env v = .d (.bool b)) (hO : WO objs) (hE : WE env)
    (hk : aops TT P ds os ⟨env, objs, n, .wild⟩ K) : aops TT P ds (⟨none, .store t x v, ty, pos, af, none⟩ :: os) ⟨env, objs, n, .wild⟩ K := by
  rw [evB_eq (objs := objs) (n := n) (fx := .wild)] at hx hv
  refine aops_storeW hu ⟨rfl, rfl, hO, hE, by rw [ht]; exact hs, ?_⟩
  rw [hx, hv]
  exact hk
end

/-- Some number between these. -/
def IntB (lo hi : Int) : V → Prop := fun r => ∃ k : Int, r = .d (.int .i64 k) ∧ lo ≤ k ∧ k ≤ hi
theorem IntB.flat {lo hi : Int} : ∀ r, IntB lo hi r → ∃ x : D, r = .d x ∧ x.flat = true := by
  rintro r ⟨k, rfl, _⟩; exact ⟨_, rfl, rfl⟩
theorem wv_rep {row : List D} (h : wsCs row = true) {L : Nat} : wvB (.d (.lst ((List.replicate L ()).map fun _ => row))) = true := by
  simp only [wvB, wsB, wsRs_rep h, Bool.or_true]
theorem rep_at {row : List D} {L j : Nat} (h : j < L) : ((List.replicate L ()).map fun _ => row)[j]? = some row := by
  rw [List.getElem?_map, List.getElem?_eq_getElem (by simpa using h)]; rfl
theorem loArr {α : Type} {n sz : Nat} {xs : List α} {enc : α → List D} (h : ∀ a, (enc a).all D.flat = true) : loO n (.arr sz (xs.map enc)) (.arr sz (xs.map enc)) := by
  refine ⟨rfl, fun r hr x hx => ?_⟩
  obtain ⟨a, _, rfl⟩ := List.mem_map.1 hr
  exact List.all_eq_true.1 (h a) x hx

/-! What simp is told over and over, under short names. -/
theorem bkL : (∀ (ids : List Nat) (n j sz off len : Nat), backV ids n (.msl j sz off len) = .msl (backId ids n j) sz off len) ∧ (∀ (ids : List Nat) (n j off : Nat), backV ids n (.oref j off) = .oref (backId ids n j) off) ∧
    (∀ (ids : List Nat) (n j sz i off : Nat), backV ids n (.aref j sz i off) = .aref (backId ids n j) sz i off) ∧ (∀ (ids : List Nat) (n : Nat) (cs : List V), backV ids n (.agg cs) = .agg (backVs ids n cs)) ∧
    (∀ (ids : List Nat) (n : Nat) (cs : List V), backV ids n (.tup cs) = .tup (backVs ids n cs)) ∧ (∀ (ids : List Nat) (n : Nat) (x : D), backV ids n (.d x) = .d x) ∧ (∀ (ids : List Nat) (n : Nat), backV ids n .nils = .nils) ∧ (∀ (ids : List Nat) (n : Nat), backV ids n .any = .any) ∧
    (∀ (ids : List Nat) (n : Nat), backVs ids n [] = []) ∧ (∀ (ids : List Nat) (n : Nat) (c : V) (cs : List V), backVs ids n (c :: cs) = backV ids n c :: backVs ids n cs) ∧ (∀ (ids : List Nat) (n : Nat) (l : List D), backVs ids n (l.map .d) = l.map .d) ∧
    (∀ (ids : List Nat) (n j : Nat), backId ids n j = match ids[j]? with | some i => i | none => n + (j - ids.length)) ∧ (∀ (ids : List Nat) (n : Nat) (cells : List V), backO ids n (.box cells) = .box (backVs ids n cells)) ∧
    (∀ (ids : List Nat) (n sz : Nat) (rows : List (List D)), backO ids n (.arr sz rows) = .arr sz rows) ∧ (∀ (ids : List Nat) (n : Nat), backO ids n .dead = .dead) ∧ (∀ (f : O → O) (a : O) (l : List O), (a :: l).map f = f a :: l.map f) ∧ (∀ (f : O → O), [].map f = []) ∧
    (∀ (j : Nat), ([] : List Nat)[j]? = none) ∧ (∀ (a : Nat) (l : List Nat), (a :: l).length = l.length + 1) ∧ (∀ (a : O) (l : List O), (a :: l).length = l.length + 1) ∧ ([] : List Nat).length = 0 ∧ ([] : List O).length = 0 ∧ (∀ (a : O) (l k : List O), (a :: l) ++ k = a :: (l ++ k)) ∧
    (∀ (l : List O), [] ++ l = l) ∧ (∀ (l : List O), l ++ [] = l) :=
  ⟨fun _ _ _ _ _ _ => rfl, fun _ _ _ _ => rfl, fun _ _ _ _ _ _ => rfl, fun _ _ _ => rfl, fun _ _ _ => rfl, fun _ _ _ => rfl, fun _ _ => rfl, fun _ _ => rfl, fun _ _ => rfl, fun _ _ _ _ => rfl, fun _ _ _ => backVs_mapd, fun _ _ _ => rfl, fun _ _ _ => rfl, fun _ _ _ _ => rfl, fun _ _ => rfl,
    fun _ _ _ => rfl, fun _ => rfl, fun _ => rfl, fun _ _ => rfl, fun _ _ => rfl, rfl, rfl, fun _ _ _ => rfl, fun _ => rfl, List.append_nil⟩
theorem hcL : (∀ (p : Prop) [Decidable p], (decide p = true) = p) ∧ (∀ (p : Prop) [Decidable p], (decide p = false) = ¬ p) ∧ ((!true) = false) ∧ ((!false) = true) ∧ (∀ b : Bool, ((!b) = true) = (b = false)) ∧ (∀ b : Bool, ((!b) = false) = (b = true)) ∧
    (∀ (α : Type) (a b : α), (a ≠ b) = ¬ (a = b)) ∧ ((¬ True) = False) :=
  ⟨fun p _ => decide_eq_true_eq, fun p _ => propext decide_eq_false_iff_not, rfl, rfl, fun b => by cases b <;> simp, fun b => by cases b <;> simp, fun _ _ _ => rfl, eq_false (fun h => h trivial)⟩
theorem boL : (∀ b : Bool, ((!b) = true) = (b = false)) ∧ (∀ b : Bool, ((!b) = false) = (b = true)) ∧ (∀ a b : Bool, ((a && b) = true) = (a = true ∧ b = true)) ∧ (∀ a b : Bool, ((a || b) = true) = (a = true ∨ b = true)) ∧
    (∀ (p : Prop) [Decidable p], (decide p = true) = p) ∧ (∀ (p : Prop) [Decidable p], (decide p = false) = ¬ p) ∧ (∀ p : Prop, (True ↔ p) = p) ∧ (∀ p : Prop, (p ↔ True) = p) ∧ (∀ p : Prop, (False ↔ p) = ¬ p) ∧ (∀ p : Prop, (p ↔ False) = ¬ p) :=
  ⟨fun b => by cases b <;> simp, fun b => by cases b <;> simp, Bool.and_eq_true, Bool.or_eq_true, fun p _ => decide_eq_true_eq, fun p _ => propext decide_eq_false_iff_not, true_iff, iff_true, false_iff, iff_false⟩
attribute [go_sem] Int.reduceEq Int.reduceLT Int.reduceLE Nat.reduceAdd Nat.reduceSub Nat.reduceMul Nat.reduceEqDiff Nat.reduceLeDiff Nat.reducePow reduceCtorEq
attribute [go_sem ↓] reduceIte

theorem xfinSmX {TT : Nat → Option TI} {env : List (Nat × V)} {objs : List O} {n : Nat} {fx : FX} {res : List ResultVar} {v : V} {side : Prop} {e : Exit} {Q : V → Prop} (he : e = .normal ∨ e = .ret)
    (h : resB TT env objs res outB = .ok v side) (hs : side) (hr : noRef v = true) (hfx : idsB fx.k [] = true) (hq : Q v) : endW TT res (Sm Q) e ⟨env, objs, n, fx⟩ :=
  xfinK he h hs ⟨[], v, [], by decide, hfx, by cases objs <;> trivial, noRef_ren v hr, rfl, hr, hq⟩

theorem AZon.introW {P : Program} {TT : Nat → Option TI} (hT : TOk P TT) {f nt sz : Nat} {rows : List (List D)} {fn : Func} {c : Code} {res : List ResultVar} {args : List V} {Post : V → List O → Prop} (hf : P.funcs[f]? = some fn) (hb : fn.body = some c)
    (hr : fn.results = ⟨res⟩) (hnt : fn.ntmps = nt) (hc : callable P f = true) (hn : Nat.ble args.length nt = true) (h : AW P c (endW TT res Post) ⟨args0 0 args, [.arr sz rows], nt, .bw⟩) : AZon P f args sz rows Post := by
  refine ⟨hc, fun w ok ρ vs hI hs hv => ?_⟩
  refine calls_intro hT hf hb hr hnt hn (Post := Post) (fx := .bw) ⟨fun x a w hC => ?_⟩ w ok ρ vs ⟨rfl, ⟨rfl, rfl⟩, trivial⟩ hI hs hv
  refine wp_mono (h.run x a w hC) ?_
  rintro e a' w' ⟨s', ⟨s'', h1, h2⟩, h3⟩
  exact ⟨s'', h2, h1.run _ _ _ h3⟩

/-- Of the arguments less is asked. -/
def WkVs : List V → List V → Prop
  | [], [] => True
  | v :: vs, v' :: vs' => (∀ w ok ρ u, VRep w ok ρ v u → VRep w ok ρ v' u) ∧ WkVs vs vs'
  | _, _ => False
theorem WkVs_get : ∀ {vs vs' : List V}, WkVs vs vs' → vs'.length = vs.length ∧ ∀ (i : Nat) v', vs'[i]? = some v' → ∃ v, vs[i]? = some v ∧ ∀ w ok ρ u, VRep w ok ρ v u → VRep w ok ρ v' u
  | [], [], _ => by simp
  | [], _ :: _, h => by simp [WkVs] at h
  | _ :: _, [], h => by simp [WkVs] at h
  | v :: vs, v' :: vs', h => by
    simp only [WkVs] at h
    obtain ⟨h1, h2⟩ := WkVs_get h.2
    refine ⟨by simp [h1], fun i u hi => ?_⟩
    cases i with
    | zero => obtain rfl : v' = u := by simpa using hi
              exact ⟨v, rfl, h.1⟩
    | succ i => exact h2 i u (by simpa using hi)
theorem ACon.wk {P : Program} {f : Nat} {args args' : List V} {objs : List O} {Post : V → List O → Prop} (h : ACon P f args' objs Post) (hw : WkVs args args') : ACon P f args objs Post := by
  obtain ⟨l1, l2⟩ := WkVs_get hw
  refine ⟨h.1, fun w ok ρ vs hI hs hv => h.2 w ok ρ vs hI (by omega) fun i x hi => ?_⟩
  obtain ⟨v, e1, e2⟩ := l2 i x hi
  exact e2 w ok ρ _ (hv i v e1)
theorem wk_same (v : V) : ∀ w ok ρ u, VRep w ok ρ v u → VRep w ok ρ v u := fun _ _ _ _ h => h
theorem wk_d {x y : D} (h : ∀ w ok v, DRep w ok x v → DRep w ok y v) : ∀ w ok ρ u, VRep w ok ρ (.d x) u → VRep w ok ρ (.d y) u := by
  intro w ok ρ u hr
  cases hr with | d hr => exact .d (h _ _ _ hr)
theorem wk_one {x y : D} (h : ∀ w ok v, DRep w ok x v → DRep w ok y v) : ∀ w ok ρ u, VRep w ok ρ (.agg [.d x]) u → VRep w ok ρ (.agg [.d y]) u := by
  intro w ok ρ u hr
  cases hr with
  | agg hn hh =>
    refine .agg hn (fun i c hc => ?_)
    cases i with
    | zero =>
      obtain rfl := Option.some.inj hc
      exact wk_d h _ _ _ _ (hh 0 _ rfl)
    | succ i => simp at hc
theorem wd_same {x : D} : ∀ w ok v, DRep w ok x v → DRep w ok x v := fun _ _ _ h => h
theorem wd_bl {bo : Option Nat} {sz : Nat} {q : List (List D)} : ∀ w ok v, DRep w ok (.bl bo sz q) v → DRep w ok (.lst q) v := by
  intro w ok v h
  cases h with
  | bl0 => exact .nil
  | @bl _ b _ cap _ cs t hok hsz hh hcap hcs hfl hd =>
    refine .lst (sz := sz) (vs := fun i j => cs.getD (i * sz + j) undef) hok hsz hcap (fun i j r y hi hj => ?_) hd
    have hil := (List.getElem?_eq_some_iff.1 hi).1
    have hjl : j < sz := by have := (List.getElem?_eq_some_iff.1 hj).1; have := hsz r (List.mem_of_getElem? hi); omega
    have hlt := row_lt (sz := sz) hil hjl
    have h2 := Nat.mul_le_mul_right sz hcap
    have hlt2 : i * sz + j < cs.size := by omega
    rw [Nat.zero_add]
    exact get_cell hh hlt2
theorem wd_rows {α : Type} {enc enc' : α → List D} {xs : List α} (he : ∀ a ∈ xs, WR (enc a) (enc' a)) : ∀ w ok v, DRep w ok (.lst (xs.map enc)) v → DRep w ok (.lst (xs.map enc')) v := by
  intro w ok v h
  generalize hrs : xs.map enc = rs at h
  cases h with
  | nil =>
    obtain rfl : xs = [] := by simpa using hrs
    exact .nil
  | @lst _ rows sz b off cap vs hok hsz hcap hc hd =>
    subst hrs
    have e : (xs.map enc).length = (xs.map enc').length := by simp
    rw [e]
    have key : ∀ (i j : Nat) (r : List D) (y : D), (xs.map enc')[i]? = some r → r[j]? = some y → ∃ (a : α) (x : D), (xs.map enc)[i]? = some (enc a) ∧ (enc a)[j]? = some x ∧ ∀ w ok v, DRep w ok x v → DRep w ok y v := by
      intro i j r y hi hj
      rw [List.getElem?_map, Option.map_eq_some_iff] at hi
      obtain ⟨a, ha, rfl⟩ := hi
      obtain ⟨x, e1, e2⟩ := (WR_get (he a (List.mem_of_getElem? ha))).2 j y hj
      exact ⟨a, x, by rw [List.getElem?_map, ha]; rfl, e1, e2⟩
    refine .lst (sz := sz) (vs := vs) hok (fun r hr => ?_) (by rw [← e]; exact hcap) (fun i j r y hi hj => ?_) (fun i j r y hi hj => ?_)
    · obtain ⟨a, ha, rfl⟩ := List.mem_map.1 hr
      rw [← (WR_get (he a ha)).1]
      exact hsz _ (List.mem_map_of_mem ha)
    · obtain ⟨a, x, h1, h2, _⟩ := key i j r y hi hj
      exact hc i j _ _ h1 h2
    · obtain ⟨a, x, h1, h2, h3⟩ := key i j r y hi hj
      exact h3 _ _ _ (hd i j _ _ h1 h2)

theorem LA.any {m : Nat} (v : V) : LA m v .any := fun _ _ _ _ _ _ => .any
theorem LA.hd {m k : Nat} (x : D) : LA m (.hd k x) (.iv k m x) := by
  intro w ok ρ u hb h
  cases h with | hd h => exact .iv (h.mono (fun _ _ => rfl) (fun b h => ⟨h.1, h.2, hb b h.1⟩))
theorem LA.aggHd {m k : Nat} (x : D) : LA m (.agg [.hd k x]) (.agg [.iv k m x]) := by
  intro w ok ρ u hb h
  cases h with
  | agg hn hh =>
    refine .agg hn (fun i c hc => ?_)
    cases i with
    | zero =>
      obtain rfl := Option.some.inj hc
      exact LA.hd x w ok ρ _ hb (hh 0 _ rfl)
    | succ i => simp at hc
theorem LA.dLd {m : Nat} (x : D) : LA m (.d x) (.ld m x) := by
  intro w ok ρ u hb h
  cases h with | d h => exact .ld (h.mono (fun _ _ => rfl) (fun b h => ⟨h, hb b h⟩))
theorem cvO.same {m : Nat} (o : O) : cvO m o o := .inl rfl
theorem cvO.box {m : Nat} {cells cells' : List V} (h : LAs m cells cells') : cvO m (.box cells) (.box cells') := .inr (.inr ⟨cells, cells', rfl, rfl, h⟩)
/-- Of data of a stretch of memory less is told. -/
theorem WB.one {lo hi : Nat} {t W : D} (h : ∀ w ok v, DRep w ok t v → DRep w ok W v) : WB lo hi (.agg [.iv lo hi t]) (.agg [.d W]) := by
  intro w ok ρ u hr
  cases hr with
  | agg hn hh =>
    refine .agg hn (fun i c hc => ?_)
    cases i with
    | zero =>
      have := hh 0 _ rfl
      obtain rfl := Option.some.inj hc
      generalize Array.getD _ _ _ = u at this ⊢
      cases this with | iv h' => exact .d (h _ _ _ h')
    | succ i => simp at hc
theorem WB.flat {lo hi : Nat} {x : D} (h : x.flat = true) : WB lo hi (.d x) (.d x) := by
  intro w ok ρ u hr
  cases hr with | d h' => exact .d (h'.of_flat h)

/-- A new slice in a cell of an own box becomes named data. -/
theorem AW.nameBoxCell {P : Program} {c : Code} {Q : Exit → St → Prop} {s : St} (b id sz : Nat) {len : Nat} {rows : List (List D)} {cells : List V} (i : Nat) (hb : s.objs[b]? = some (.box cells)) (hi : cells[i]? = some (.msl id sz 0 len)) (ho : s.objs[id]? = some (.arr sz rows)) (hl : len = rows.length)
    (hfl : ∀ r ∈ rows, ∀ x ∈ r, x.flat = true) (h : ∀ bo : Option Nat, (∀ k, bo = some k → (∀ k0, KnownB s k0 → k0 ≠ k) ∧ ∀ n, s.fx = .hi n → n ≤ k) → AW P c Q ⟨s.env, (s.objs.set id .dead).set b (.box (cells.set i (.d (.bl bo sz rows)))), s.n, s.fx⟩) : AW P c Q s := by
  refine ⟨fun x a w hC => ?_⟩
  have hC0 := hC
  obtain ⟨ok, ρ, hI, hF, hE, hn, hd, hx⟩ := hC
  have hCk : CCk x s a w ok ρ := ⟨hI, hF, hE, hn, hd, hx⟩
  obtain ⟨h1, h2⟩ := step_freeze hI hF ho
  have hm : ∀ {y v}, VRep w ok ρ y v → VRep w (okF ok ρ id) ρ y v := fun h => h.mono (fun _ _ => rfl) (fun _ h => .inl h) (fun _ _ h => h) (fun _ _ h => h)
  have hne : id ≠ b := by rintro rfl; rw [hb] at ho; cases ho
  obtain ⟨blk, cs, t, r1, r2, r3, r4⟩ := hI.own _ _ hb
  have hb' : (s.objs.set id .dead)[b]? = some (.box cells) := by rw [List.getElem?_set_ne hne]; exact hb
  have hv := r4 _ _ hi
  obtain ⟨bo, hfacts, hdr⟩ : ∃ bo : Option Nat, (∀ k, bo = some k → (∀ k0, KnownB s k0 → k0 ≠ k) ∧ ∀ n, s.fx = .hi n → n ≤ k) ∧ DRep w (okF ok ρ id) (.bl bo sz rows) (cs.getD i undef) := by
    generalize cs.getD i undef = u at hv
    obtain ⟨g0, g1⟩ := hI.own _ _ ho
    cases hv with
    | @msl _ _ _ _ cap k t' n' hk hc hs hn' =>
      rcases g1 with ⟨_, e2⟩ | ⟨k', cs', bt, o1, o2, o3, o4⟩
      · rw [hk] at e2; simp at e2
      rw [o1] at hk
      obtain rfl : k' = k := by simpa using hk
      refine ⟨some k', fun k e => ?_, ?_⟩
      · obtain rfl := Option.some.inj e
        refine ⟨fun k0 hk0 e => hI.nok id _ k' ho rfl o1 (e ▸ known_ok hCk hk0), fun n hfx => ?_⟩
        obtain ⟨f1, _, f3⟩ := hx
        rw [hfx] at f1 f3
        have f3 : n ≤ x.w.heap.size := f3
        rcases hF.own id _ k' ho rfl o1 with h | ⟨i0, o0, e1, _⟩
        · omega
        · have f1 : x.objs.length = 0 := f1
          have := (List.getElem?_eq_some_iff.1 e1).1
          omega
      · have hsz : (0 + cap) * sz ≤ cs'.size := by
          simp only [World.shape?, o2, Option.some.injEq, Prod.mk.injEq] at hs
          rw [hs.2]; exact hn'
        have := @DRep.bl w (okF ok ρ id) k' sz cap rows cs' bt (.inr o1) g0 o2 (by omega) (by rwa [Nat.zero_add] at hsz) hfl (fun i j r y hi hj => (o4 i j r y hi hj).of_flat (hfl r (List.mem_of_getElem? hi) y (List.mem_of_getElem? hj)))
        rw [Nat.zero_mul, hl]
        exact this
    | msl0 h =>
      obtain rfl : rows = [] := List.eq_nil_of_length_eq_zero hl.symm
      exact ⟨none, (fun k e => by cases e), .bl0⟩
  have hor : ORep w (okF ok ρ id) ρ b (.box (cells.set i (.d (.bl bo sz rows)))) := by
    refine ⟨blk, cs, t, r1, r2, by rw [List.length_set]; exact r3, fun j c hj => ?_⟩
    rw [List.getElem?_set] at hj
    split at hj
    · rename_i e
      subst e
      split at hj
      · obtain rfl : V.d (.bl bo sz rows) = c := by simpa using hj
        exact .d hdr
      · simp at hj
    · exact hm (r4 _ _ hj)
  obtain ⟨g1, g2, g3⟩ := step_write (w' := w) h1 h2 hb' rfl r1 rfl (fun _ _ => rfl) rfl rfl rfl rfl hor rfl
  exact (h bo hfacts).run x a w ⟨okF ok ρ id, ρ, g1, g2, fun j => g3 _ _ (hm (hE j)), hn, hd, hx⟩

theorem ares_imp {TT : Nat → Option TI} {s : St} {K K' : List V → Prop} (hk : ∀ vs, K vs → K' vs) : ∀ {res : List ResultVar}, ares TT s res K → ares TT s res K'
  | [], h => hk _ h
  | .tmp t :: res, h => ares_imp (K := fun vs => K (getE s.env t :: vs)) (fun vs h => hk _ h) h
  | .cell a t :: res, h => by
    simp only [ares] at h ⊢
    split at h
    · rename_i ti ht
      exact ald_mo _ _ (fun v h => ares_imp (K := fun vs => K (v :: vs)) (fun vs h => hk _ h) h) h
    · exact h.elim
theorem endW_imp {TT : Nat → Option TI} {res : List ResultVar} {Post Post' : V → List O → Prop} {e : Exit} {s : St} (hp : ∀ r os, Post r os → Post' r os) (h : endW TT res Post e s) : endW TT res Post' e s := by
  obtain ⟨s', h1, h2, h3⟩ := h
  exact ⟨s', h1, h2, ares_imp (fun vs ⟨π, y, os, e1, e2, e3, e4, e5⟩ => ⟨π, y, os, e1, e2, e3, e4, hp _ _ e5⟩) h3⟩

end Go.Fw
