/- Regions whose order is drawn: operations that only yield a value; what an operation leans on. -/
import Derived.Test.YtemihgpcodcjgaaFwS
set_option linter.unusedSimpArgs false
set_option linter.unusedVariables false
namespace Go.Fw

/-- The same state, told otherwise. -/
def Sim (s s' : St) : Prop := (∀ j, getE s.env j = getE s'.env j) ∧ s.objs = s'.objs ∧ s.n = s'.n ∧ s.fx = s'.fx

theorem Sim.refl (s : St) : Sim s s := ⟨fun _ => rfl, rfl, rfl, rfl⟩
theorem Sim.symm {s s' : St} (h : Sim s s') : Sim s' s := ⟨fun j => (h.1 j).symm, h.2.1.symm, h.2.2.1.symm, h.2.2.2.symm⟩
theorem Sim.trans {s s' s'' : St} (h : Sim s s') (h' : Sim s' s'') : Sim s s'' := ⟨fun j => (h.1 j).trans (h'.1 j), h.2.1.trans h'.2.1, h.2.2.1.trans h'.2.2.1, h.2.2.2.trans h'.2.2.2⟩

theorem Sim.cc {x : Ctx} {s s' : St} {a : Act} {w : World} (h : Sim s s') (hC : CC x s a w) : CC x s' a w := by
  obtain ⟨h1, h2, h3, h4⟩ := h
  obtain ⟨ok, ρ, c1, c2, c3, c4, c5, c6⟩ := hC
  exact ⟨ok, ρ, h2 ▸ c1, h2 ▸ c2, fun j => by rw [← h1]; exact c3 j, h3 ▸ c4, c5, h4 ▸ c6⟩

theorem getE_put (s : St) (dst : Option Nat) (v : V) (t : Nat) : getE (s.put dst v).env t = if dst = some t then v else getE s.env t := by
  cases dst with
  | none => simp [St.put]
  | some d => simp [St.put, getE]

mutual
/-- No object is named. -/
def noRef : V → Bool
  | .d _ | .nils | .any => true
  | .agg cs => noRefs cs
  | .tup cs => noRefs cs
  | _ => false
def noRefs : List V → Bool
  | [] => true
  | c :: cs => noRef c && noRefs cs
end

mutual
theorem noRef_back {n : Nat} : ∀ {v : V}, noRef v = true → backV [] n v = v
  | .d _, _ => rfl
  | .nils, _ => rfl
  | .any, _ => rfl
  | .agg cs, h => by simp only [noRef] at h; simp only [backV, noRefs_back h]
  | .tup cs, h => by simp only [noRef] at h; simp only [backV, noRefs_back h]
  | .oref .., h => by simp [noRef] at h
  | .aref .., h => by simp [noRef] at h
  | .msl .., h => by simp [noRef] at h
theorem noRefs_back {n : Nat} : ∀ {vs : List V}, noRefs vs = true → backVs [] n vs = vs
  | [], _ => rfl
  | c :: cs, h => by
    simp only [noRefs, Bool.and_eq_true] at h
    simp only [backVs, noRef_back h.1, noRefs_back h.2]
end

theorem idx_nil (i : Nat) : idx [] i = none := rfl

mutual
theorem argV_nil {objs objs' : List O} : ∀ (v : V), argV objs [] [] v = argV objs' [] [] v
  | .d _ => rfl
  | .nils => rfl
  | .any => rfl
  | .agg cs => by simp only [argV, argVs_nil (objs := objs) (objs' := objs') cs]
  | .tup cs => rfl
  | .oref .. => by simp [argV]
  | .aref .. => rfl
  | .msl .. => by simp [argV, idx_nil]
theorem argVs_nil {objs objs' : List O} : ∀ (vs : List V), argVs objs [] [] vs = argVs objs' [] [] vs
  | [] => rfl
  | c :: cs => by simp only [argVs, argV_nil (objs := objs) (objs' := objs') c, argVs_nil (objs := objs) (objs' := objs') cs]
end

/-- A call that gives one value and touches nothing. -/
def ACallQ (P : Program) (s : St) (fv : V) (args : List V) (K : V → Prop) : Prop :=
  ∃ g cap R args', fv = .d (.fn g cap) ∧ argVs s.objs [] [] (args ++ cap.map .d) = some args' ∧ ACon P g args' [] (Is R) ∧ noRef R = true ∧ K R

/-- The callee and the arguments of a call of a value. -/
def callOf : Op → Option (Operand × List Operand)
  | .call { callee := .value f, args := args, .. } => some (f, args.toList)
  | _ => none

/-- An operation that only yields a value. -/
def aopq (TT : Nat → Option TI) (P : Program) (s : St) (op : Op) (K : V → Prop) : Prop :=
  match callOf op with
  | some (f, args) => ACallQ P s (s.ev f) (args.map s.ev) K
  | none => isEff op = false ∧ pv TT s.ev s.objs op K

def aopqg (TT : Nat → Option TI) (P : Program) (ds : List (Option Nat)) (s : St) (o : Oper) (K : V → Prop) : Prop :=
  match o.guard with
  | none => aopq TT P s o.op K
  | some (j, want) => (match ds[j]? with
    | some (some d) => (match getE s.env d with
      | .d (.bool b) => (b = want → aopq TT P s o.op K) ∧ (b = (!want) → K .any)
      | _ => False)
    | _ => False)

def looks (ds : List (Option Nat)) (o : Oper) : List Nat :=
  (o.op.operands.toList.filterMap fun | .tmp t => some t | _ => none) ++ (match o.guard with
    | some (g, _) => (match ds[g]? with
      | some (some d) => [d]
      | _ => [])
    | none => [])

section
variable {TT : Nat → Option TI} {P : Program} {ds : List (Option Nat)}

theorem ev_same {s s' : St} {l : List Operand} (h : ∀ t ∈ l.filterMap (fun | .tmp t => some t | _ => none), getE s'.env t = getE s.env t) : ∀ x ∈ l, s'.ev x = s.ev x := by
  intro x hx
  cases x with
  | tmp t => exact h t (List.mem_filterMap.2 ⟨_, hx, rfl⟩)
  | const v => rfl
  | global g => rfl
  | func f => rfl

theorem callOf_some {op : Op} {f : Operand} {args : List Operand} (h : callOf op = some (f, args)) : ∃ a ts, op = .call { callee := .value f, args := a, argTypes := ts } ∧ a.toList = args := by
  unfold callOf at h
  split at h
  · rename_i f' a' ts'
    simp only [Option.some.injEq, Prod.mk.injEq] at h
    exact ⟨a', ts', by rw [h.1], h.2⟩
  · cases h

theorem aop_call {s : St} {dst : Option Nat} {op : Op} {f : Operand} {args : List Operand} {K : St → Prop} (h : callOf op = some (f, args)) : aop TT P s dst op K = match s.ev f with
    | .d (.fn g cap) => ACall P s g (args.map s.ev ++ cap.map .d) fun y s' => K (s'.put dst y)
    | _ => False := by
  obtain ⟨a, ts, rfl, rfl⟩ := callOf_some h
  rfl

theorem aop_pure {s : St} {dst : Option Nat} {op : Op} {K : St → Prop} (h : callOf op = none) (he : isEff op = false) : aop TT P s dst op K = pv TT s.ev s.objs op fun v => K (s.put dst v) := by
  unfold aop
  split
  · simp [callOf] at h
  · rw [if_neg (by rw [he]; decide)]

theorem aop_eff {s : St} {dst : Option Nat} {op : Op} {K : St → Prop} (h : callOf op = none) (he : isEff op = true) : aop TT P s dst op K = aef TT s dst op K := by
  unfold aop
  split
  · simp [callOf] at h
  · rw [if_pos he]

theorem ev_args {s s' : St} {op : Op} {f : Operand} {args : List Operand} (h : callOf op = some (f, args)) (he : ∀ x ∈ op.operands.toList, s'.ev x = s.ev x) : s'.ev f = s.ev f ∧ args.map s'.ev = args.map s.ev := by
  obtain ⟨a, ts, rfl, rfl⟩ := callOf_some h
  exact ⟨he f (by simp [Op.operands, Call.operands]), List.map_congr_left fun p hm => he p (by simp only [Op.operands, Call.operands, Array.toList_append, List.mem_append]; exact .inr hm)⟩

theorem aopq_mono {s s' : St} {op : Op} {K K' : V → Prop} (ho : readsB op = true → ∃ os, s'.objs = s.objs ++ os) (he : ∀ x ∈ op.operands.toList, s'.ev x = s.ev x) (hK : ∀ v, K v → K' v)
    (h : aopq TT P s op K) : aopq TT P s' op K' := by
  unfold aopq at h ⊢
  split at h
  · rename_i f args hc
    obtain ⟨e1, e2⟩ := ev_args hc he
    obtain ⟨g, cap, R, args', h1, h2, h3, h4, h5⟩ := h
    exact ⟨g, cap, R, args', by rw [e1]; exact h1, by rw [e2, argVs_nil (objs' := s.objs)]; exact h2, h3, h4, hK _ h5⟩
  · rename_i hc
    exact ⟨h.1, pv_objs ho (pv_mono hK (pv_frame he h.2))⟩

theorem aopq_ex {s : St} {op : Op} {K : V → Prop} (h : aopq TT P s op K) : ∃ v, K v ∧ aopq TT P s op (· = v) := by
  unfold aopq at h ⊢
  split at h
  · obtain ⟨g, cap, R, args', h1, h2, h3, h4, h5⟩ := h
    exact ⟨R, h5, g, cap, R, args', h1, h2, h3, h4, rfl⟩
  · obtain ⟨v, h1, h2⟩ := pv_ex K h.2
    exact ⟨v, h1, h.1, h2⟩

theorem aopq_aop {s : St} {dst : Option Nat} {op : Op} {v : V} {K : St → Prop} (h : aopq TT P s op (· = v)) (hK : K (s.put dst v)) : aop TT P s dst op K := by
  unfold aopq at h
  split at h
  · rename_i f args hc
    obtain ⟨g, cap, R, args', h1, h2, h3, h4, rfl⟩ := h
    rw [aop_call hc, h1]
    exact ACall.is h2 h3 (by rw [noRef_back h4]; exact hK)
  · rename_i hc
    rw [aop_pure hc h.1]
    exact pv_mono (fun u hu => by rw [hu]; exact hK) h.2

theorem aopqg_det {s : St} {o : Oper} {K : V → Prop} (h : aopqg TT P ds s o K) :
    ∃ v, K v ∧ ∀ s', (readsB o.op = true → ∃ os, s'.objs = s.objs ++ os) → (∀ t ∈ looks ds o, getE s'.env t = getE s.env t) → aopqg TT P ds s' o (· = v) := by
  unfold aopqg at h
  split at h
  · rename_i hg
    obtain ⟨v, h1, h2⟩ := aopq_ex h
    refine ⟨v, h1, fun s' ho he => ?_⟩
    unfold aopqg
    rw [hg]
    exact aopq_mono ho (ev_same fun t ht => he t (List.mem_append.2 (.inl ht))) (fun _ h => h) h2
  · rename_i j want hg
    split at h
    · rename_i d hd
      have hlook : ∀ s' : St, (∀ t ∈ looks ds o, getE s'.env t = getE s.env t) → getE s'.env d = getE s.env d := fun s' he => he d (by
        unfold looks; rw [hg]; simp [hd])
      split at h
      · rename_i b hb
        by_cases hbw : b = want
        · obtain ⟨v, h1, h2⟩ := aopq_ex (h.1 hbw)
          refine ⟨v, h1, fun s' ho he => ?_⟩
          unfold aopqg
          rw [hg]
          simp only [hd]
          rw [hlook s' he, hb]
          exact ⟨fun _ => aopq_mono ho (ev_same fun t ht => he t (List.mem_append.2 (.inl ht))) (fun _ h => h) h2, fun hc => by subst hbw; cases b <;> cases hc⟩
        · have hbw' : b = !want := by cases b <;> cases want <;> simp_all
          refine ⟨.any, h.2 hbw', fun s' ho he => ?_⟩
          unfold aopqg
          rw [hg]
          simp only [hd]
          rw [hlook s' he, hb]
          exact ⟨fun hc => absurd hc hbw, fun _ => trivial⟩
      · exact h.elim
    · exact h.elim

theorem aopqg_aopg {s : St} {o : Oper} {v : V} (h : aopqg TT P ds s o (· = v)) : aopg TT P ds s o (fun s' => Sim s' (s.put o.dst v)) := by
  unfold aopqg at h
  unfold aopg
  split at h
  · rename_i hg
    rw [hg]; exact aopq_aop h (Sim.refl _)
  · rename_i j want hg
    split at h
    · rename_i d hd
      split at h
      · rename_i b hb
        have hsim : ∀ (c : Bool) (u : V), b = c → Sim ((s.put (some d) (.d (.bool c))).put o.dst u) (s.put o.dst u) := by
          intro c u hc
          subst hc
          have h0 : ∀ j, getE (s.put (some d) (.d (.bool b))).env j = getE s.env j := fun j => by
            simp only [St.put, getE]
            split
            · rename_i e; rw [← e, hb]
            · rfl
          cases ho : o.dst with
          | none => exact ⟨h0, rfl, rfl, rfl⟩
          | some q => exact ⟨fun j => by simp only [St.put, getE]; split; rfl; exact h0 j, rfl, rfl, rfl⟩
        rw [hg]
        simp only [hd, hb]
        refine ⟨fun hbw => ?_, fun hbw => ?_⟩
        · have := aopq_mono (s' := s.put (some d) (.d (.bool want))) (fun _ => ⟨[], by rw [List.append_nil]; rfl⟩) (ev_same fun t _ => by
            simp only [St.put, getE]
            split
            · rename_i e; rw [← e, hb, hbw]
            · rfl) (fun _ h => h) (h.1 hbw)
          exact aopq_aop this (hsim want v hbw)
        · have := h.2 hbw
          rw [← this]
          exact hsim _ _ hbw
      · exact h.elim
    · exact h.elim

/-- An operation in another state that is the same as far as the operation looks. -/
theorem aop_frame {s s' : St} {dst : Option Nat} {op : Op} {K K' : St → Prop} (ho : s'.objs = s.objs) (he : ∀ x ∈ op.operands.toList, s'.ev x = s.ev x)
    (hK : ∀ (objs : List O) (v : V), K (({ s with objs := objs } : St).put dst v) → K' (({ s' with objs := objs } : St).put dst v)) (h : aop TT P s dst op K) : aop TT P s' dst op K' := by
  cases hc : callOf op with
  | some fa =>
    obtain ⟨f, args⟩ := fa
    rw [aop_call hc] at h ⊢
    obtain ⟨e1, e2⟩ := ev_args hc he
    rw [e1, e2]
    split at h
    · obtain ⟨ids, bs, args', os0, os, h1, h2, h3, h4, h5, h6, h7⟩ := h
      exact ⟨ids, bs, args', os0, os, by rw [ho]; exact h1, h2, h3, by rw [ho]; exact h4, by rw [ho]; exact h5, h6, h7.mono fun r os' hr => ⟨hr.1, by rw [ho]; exact hK _ _ hr.2⟩⟩
    · exact h.elim
  | none =>
    cases hf : isEff op with
    | false =>
      rw [aop_pure hc hf] at h ⊢
      rw [ho]
      exact pv_mono (fun v hv => by have := hK s.objs v hv; rw [← ho] at this; exact this) (pv_frame he h)
    | true =>
      rw [aop_eff hc hf] at h ⊢
      unfold aef at h
      split at h
      · rename_i t
        unfold aef
        simp only []
        split at h
        · have := hK _ _ h; rw [← ho] at this; exact this
        · exact h.elim
      · rename_i t y
        unfold aef
        simp only [he y (by simp [Op.operands])]
        split at h
        · have := hK _ _ h; rw [← ho] at this; exact this
        · exact h.elim
      · rename_i t len parts
        have e : (parts.toList.map fun p => s'.ev p.2) = parts.toList.map fun p => s.ev p.2 := List.map_congr_left fun p hm => he p.2 (by
          simp only [Op.operands, List.mem_map]; exact ⟨p, hm, rfl⟩)
        unfold aef
        simp only [e]
        split at h
        · obtain ⟨h1, h2, h⟩ := h
          refine ⟨h1, h2, ?_⟩
          split at h
          · have := hK _ _ h; rw [← ho] at this; exact this
          · exact h.elim
        · exact h.elim
      · rename_i t y v
        unfold aef
        simp only [he y (by simp [Op.operands]), he v (by simp [Op.operands]), ho]
        split at h
        · obtain ⟨h1, h2, h⟩ := h
          refine ⟨h1, h2, ?_⟩
          subst h1
          split at h
          · split at h
            · refine ⟨h.1, ?_⟩
              have := hK _ .any h.2
              have e : ∀ id o, s'.setO id o = { s' with objs := s.objs.set id o } := fun id o => by rw [← ho]; rfl
              rw [e]; exact this
            · exact h.elim
          · split at h
            · obtain ⟨h3, h⟩ := h
              refine ⟨h3, ?_⟩
              split at h
              · refine ⟨h.1, ?_⟩
                have := hK _ .any h.2
                have e : ∀ id o, s'.setO id o = { s' with objs := s.objs.set id o } := fun id o => by rw [← ho]; rfl
                rw [e]; exact this
              · exact h.elim
            · exact h.elim
          · exact h.elim
        · exact h.elim
      · rename_i t l c
        unfold aef
        simp only [he l (by simp [Op.operands]), he c (by simp [Op.operands])]
        split at h
        · split at h
          · obtain ⟨h1, h2, h3, h4, h⟩ := h
            refine ⟨h1, h2, h3, h4, ?_⟩
            have := hK _ _ h; rw [← ho] at this; exact this
          · exact h.elim
        · exact h.elim
      · rename_i args ts
        have hm : ∀ x ∈ args.toList, s'.ev x = s.ev x := fun x hx => he x (by simp only [Op.operands, Call.operands, Array.toList_append, List.mem_append]; exact .inr hx)
        unfold aef
        split at h
        · rename_i x y t u h1 h2
          simp only [h1, h2]
          rw [hm x (by rw [h1]; simp), hm y (by rw [h1]; simp), ho]
          split at h
          · obtain ⟨h3, h⟩ := h
            refine ⟨h3, ?_⟩
            split at h
            · obtain ⟨h4, h5, h⟩ := h
              refine ⟨h4, h5, ?_⟩
              split at h
              · refine ⟨h.1, ?_⟩
                have := hK _ _ h.2
                rw [← ho] at this ⊢; exact this
              · split at h
                · obtain ⟨h6, h7, h8, h9, h10, h⟩ := h
                  refine ⟨h6, h7, h8, h9, h10, ?_⟩
                  have := hK _ _ h
                  have e : ∀ id o, s'.setO id o = { s' with objs := s.objs.set id o } := fun id o => by rw [← ho]; rfl
                  rw [e]; exact this
                · exact h.elim
              · exact h.elim
            · exact h.elim
          · exact h.elim
        · exact h.elim
      · exact h.elim

theorem aop_imp {s : St} {dst : Option Nat} {op : Op} {K K' : St → Prop} (hK : ∀ s, K s → K' s) (h : aop TT P s dst op K) : aop TT P s dst op K' :=
  aop_frame rfl (fun _ _ => rfl) (fun _ _ hk => hK _ hk) h

end
end Go.Fw
