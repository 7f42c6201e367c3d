/- Regions whose order is drawn: the plan by which a region is gone through, and the rule for code. -/
import Derived.Test.YtemihgpcodcjgaaFwW
set_option linter.unusedSimpArgs false
set_option linter.unusedVariables false
namespace Go.Fw

inductive Plan where
  | fin
  | q (i : Nat) (p : Plan)
  | e (i : Nat) (p : Plan)
  | two (i : Nat) (p : Plan) (j : Nat) (r : Plan)
  | three (i : Nat) (p : Plan) (j : Nat) (r : Plan) (k : Nat) (t : Plan)

/-- One operation that is put off. -/
def aone (TT : Nat → Option TI) (P : Program) (ops : List Oper) (o : Oper) (s : St) (K : St → Prop) : Prop :=
  match callOf o.op with
  | some (f, args) => (match o.guard with
    | none => ACallQ P s (s.ev f) (args.map s.ev) fun v => K (s.put o.dst v)
    | some (j, want) => (match (ops.map (·.dst))[j]? with
      | some (some d) => (match getE s.env d with
        | .d (.bool b) => (b = want → ACallQ P s (s.ev f) (args.map s.ev) fun v => K (s.put o.dst v)) ∧ (b = (!want) → K (s.put o.dst .any))
        | _ => False)
      | _ => False))
  | none => isEff o.op = false ∧ aops TT P (ops.map (·.dst)) [o] s K

def arun (TT : Nat → Option TI) (P : Program) (ops : List Oper) : Plan → St → (St → Prop) → Prop
  | .fin, s, K => K s
  | .q i p, s, K => (match ops[i]? with
    | some o => aone TT P ops o s fun s' => arun TT P ops p s' K
    | none => False)
  | .e i p, s, K => (match ops[i]? with
    | some o => aops TT P (ops.map (·.dst)) [o] s fun s' => arun TT P ops p s' K
    | none => False)
  | .two i p j r, s, K => (match ops[i]?, ops[j]? with
    | some o, some o' => (aops TT P (ops.map (·.dst)) [o] s fun s' => arun TT P ops p s' K) ∧ (aops TT P (ops.map (·.dst)) [o'] s fun s' => arun TT P ops r s' K)
    | _, _ => False)
  | .three i p j r k t, s, K => (match ops[i]?, ops[j]?, ops[k]? with
    | some o, some o', some o'' => (aops TT P (ops.map (·.dst)) [o] s fun s' => arun TT P ops p s' K) ∧ (aops TT P (ops.map (·.dst)) [o'] s fun s' => arun TT P ops r s' K) ∧
      (aops TT P (ops.map (·.dst)) [o''] s fun s' => arun TT P ops t s' K)
    | _, _, _ => False)

def pOk (ops : Array Oper) : Plan → Nat → Array Bool → List Nat → Bool
  | .fin, _, l, pend => allOk ops l pend []
  | .q i p, f, l, pend => Nat.ble 1 f && (odst ops i).isSome && quietOk ops l pend i && pOk ops p (f - 1) l (pend ++ [i])
  | .e i p, f, l, pend => Nat.ble 1 f && allOk ops l pend [i] && nowOk ops l pend i && pOk ops p (f - 1) (setAll l (done ops pend i)) (later ops pend i)
  | .two i p j r, f, l, pend => Nat.ble 1 f && allOk ops l pend [i, j] && (nowOk ops l pend i && pOk ops p (f - 1) (setAll l (done ops pend i)) (later ops pend i)) &&
    (nowOk ops l pend j && pOk ops r (f - 1) (setAll l (done ops pend j)) (later ops pend j))
  | .three i p j r k t, f, l, pend => Nat.ble 1 f && allOk ops l pend [i, j, k] && (nowOk ops l pend i && pOk ops p (f - 1) (setAll l (done ops pend i)) (later ops pend i)) &&
    (nowOk ops l pend j && pOk ops r (f - 1) (setAll l (done ops pend j)) (later ops pend j)) && (nowOk ops l pend k && pOk ops t (f - 1) (setAll l (done ops pend k)) (later ops pend k))

section
variable {P : Program} {TT : Nat → Option TI} {x : Ctx} {n : Nat}

theorem Sim.put {s s' : St} (h : Sim s s') (dst : Option Nat) (v : V) : Sim (s.put dst v) (s'.put dst v) :=
  ⟨fun j => by rw [getE_put, getE_put, h.1 j], by rw [St.put_objs, St.put_objs]; exact h.2.1, by rw [St.put_n, St.put_n]; exact h.2.2.1, by rw [St.put_fx, St.put_fx]; exact h.2.2.2⟩
theorem Sim.ev {s s' : St} (h : Sim s s') (o : Operand) : s'.ev o = s.ev o := by
  cases o with
  | tmp t => exact (h.1 t).symm
  | const v => rfl
  | global g => rfl
  | func f => rfl
theorem Sim.fix {s : St} {d : Nat} {v : V} (h : getE s.env d = v) : Sim (s.put (some d) v) s :=
  ⟨fun j => by rw [getE_put]; split; (rename_i e; rw [← h]; exact congrArg _ (Option.some.inj e)); rfl, rfl, rfl, rfl⟩

theorem Vld.sim {ops : Array Oper} {s s' : St} (h : Sim s s') {i : Nat} (hV : Vld TT P ops s' i) : Vld TT P ops s i := by
  obtain ⟨o, d, h1, h2, h3⟩ := hV
  refine ⟨o, d, h1, h2, fun s'' ho hl => ?_⟩
  rw [h.1 d]
  exact h3 s'' (fun hr => by rw [← h.2.1]; exact ho hr) fun t ht => by rw [hl t ht, h.1 t]

theorem JA.sim {ops : Array Oper} {K : St → Prop} {f : Nat} {l : Array Bool} {pend : List Nat} {s s' : St} (h : JA TT P ops x n K f l pend s) (hs : Sim s s') : JA TT P ops x n K f l pend s' := by
  intro hsz hV l hl hag hcl Q hQ a w hn hC
  refine h hsz (fun i hi => ⟨(hV i hi).1, (hV i hi).2.sim hs⟩) l hl hag hcl Q hQ a w hn ?_
  have : Sim (hid (tsOf ops l pend) s') (hid (tsOf ops l pend) s) := ⟨fun t => by rw [getE_hid, getE_hid, hs.1 t], hs.2.1.symm, hs.2.2.1.symm, hs.2.2.2.symm⟩
  exact this.cc hC

theorem aone_q {ops : List Oper} {o : Oper} {s : St} {K : St → Prop} {K' : V → Prop} (hK : ∀ s' v, K s' → Sim s' (s.put o.dst v) → K' v) (h : aone TT P ops o s K) : aopqg TT P (ops.map (·.dst)) s o K' := by
  unfold aone at h
  unfold aopqg
  split at h
  · rename_i f args hc
    have q : ∀ {F F' : V → Prop}, (∀ v, F v → F' v) → ACallQ P s (s.ev f) (args.map s.ev) F → aopq TT P s o.op F' := by
      intro F F' hF hq
      unfold aopq
      rw [hc]
      obtain ⟨g, cap, R, args', h1, h2, h3, h4, h5⟩ := hq
      exact ⟨g, cap, R, args', h1, h2, h3, h4, hF _ h5⟩
    split at h
    · rename_i hg
      rw [hg]
      exact q (fun v hv => hK _ v hv (Sim.refl _)) h
    · rename_i j want hg
      rw [hg]
      simp only
      split at h
      · rename_i d hd
        simp only [hd]
        split at h
        · rename_i b hb
          rw [hb]
          exact ⟨fun e => q (fun v hv => hK _ v hv (Sim.refl _)) (h.1 e), fun e => hK _ _ (h.2 e) (Sim.refl _)⟩
        · exact h.elim
      · exact h.elim
  · rename_i hc
    obtain ⟨he, h⟩ := h
    have q : ∀ {s' : St} {F : St → Prop} {F' : V → Prop}, Sim s' s → (∀ v, F (s'.put o.dst v) → F' v) → aop TT P s' o.dst o.op F → aopq TT P s o.op F' := by
      intro s' F F' hs hF hq
      unfold aopq
      rw [hc]
      rw [aop_pure hc he] at hq
      refine ⟨he, ?_⟩
      rw [← hs.2.1]
      exact pv_mono hF (pv_frame (fun p _ => hs.ev p) hq)
    simp only [aops] at h
    unfold aopg at h
    split at h
    · rename_i hg
      rw [hg]
      exact q (Sim.refl s) (fun v hv => hK _ v hv (Sim.refl _)) h
    · rename_i j want hg
      rw [hg]
      simp only
      split at h
      · rename_i d hd
        simp only [hd]
        split at h
        · rename_i b hb
          rw [hb]
          refine ⟨fun e => ?_, fun e => ?_⟩
          · have hf := Sim.fix (s := s) (d := d) (v := .d (.bool want)) (by rw [hb, e])
            exact q hf (fun v hv => hK _ v hv (hf.put _ _)) (h.1 e)
          · have hf := Sim.fix (s := s) (d := d) (v := .d (.bool (!want))) (by rw [hb, e])
            exact hK _ _ (h.2 e) (hf.put _ _)
        · exact h.elim
      · exact h.elim

theorem aopg_imp {ds : List (Option Nat)} {o : Oper} {s : St} {K K' : St → Prop} (hK : ∀ s, K s → K' s) (h : aopg TT P ds s o K) : aopg TT P ds s o K' := by
  unfold aopg at h ⊢
  split at h
  · exact aop_imp hK h
  · split at h
    · split at h
      · exact ⟨fun e => aop_imp hK (h.1 e), fun e => hK _ (h.2 e)⟩
      · exact h.elim
    · exact h.elim

theorem arun_ja (hT : TOk P TT) {ops : List Oper} (hb : regB n ops = true) {K : St → Prop} : ∀ (p : Plan) (f : Nat) (l : Array Bool) (pend : List Nat) (s : St), pOk ⟨ops⟩ p f l pend = true → arun TT P ops p s K →
    JA TT P ⟨ops⟩ x n K f l pend s := by
  have one : ∀ {i : Nat} {o : Oper} {l : Array Bool} {pend : List Nat} {s : St} {F : St → Prop}, ops[i]? = some o → nowOk ⟨ops⟩ l pend i = true → aops TT P (ops.map (·.dst)) [o] s F → aop TT P s o.dst o.op F := by
    intro i o l pend s F ho hn h
    have ho' : (⟨ops⟩ : Array Oper)[i]? = some o := by simpa using ho
    simp only [nowOk, ho', Bool.and_eq_true, Option.isNone_iff_eq_none] at hn
    simp only [aops] at h
    unfold aopg at h
    rw [hn.1.1.1] at h
    exact h
  intro p
  induction p with
  | fin =>
    intro f l pend s hp h
    exact JA.fin hT hb hp h
  | q i p ih =>
    intro f l pend s hp h
    simp only [pOk, Bool.and_eq_true] at hp
    obtain ⟨⟨⟨h1, h2⟩, h3⟩, h4⟩ := hp
    cases f with
    | zero => cases h1
    | succ f =>
      simp only [arun] at h
      split at h
      · rename_i o ho
        have ho' : (⟨ops⟩ : Array Oper)[i]? = some o := by simpa using ho
        exact JA.quiet ho' (by simpa [odst, ho'] using h2) h3 (aone_q (fun s' v hk hs => (ih _ _ _ _ h4 hk).sim hs) h)
      · exact h.elim
  | e i p ih =>
    intro f l pend s hp h
    simp only [pOk, Bool.and_eq_true] at hp
    obtain ⟨⟨⟨h1, h2⟩, h3⟩, h4⟩ := hp
    cases f with
    | zero => cases h1
    | succ f =>
      simp only [arun] at h
      split at h
      · rename_i o ho
        refine JA.now hT hb h2 (by simp) fun e he => ?_
        obtain rfl := List.mem_singleton.1 he
        exact ⟨h3, o, by simpa using ho, aop_imp (fun s' hs => ih _ _ _ _ h4 hs) (one ho h3 h)⟩
      · exact h.elim
  | two i p j r ih1 ih2 =>
    intro f l pend s hp h
    simp only [pOk, Bool.and_eq_true] at hp
    obtain ⟨⟨⟨h1, h2⟩, h3, h4⟩, h5, h6⟩ := hp
    cases f with
    | zero => cases h1
    | succ f =>
      simp only [arun] at h
      split at h
      · rename_i o o' ho ho'
        refine JA.now hT hb h2 (by simp) fun e he => ?_
        simp only [List.mem_cons, List.not_mem_nil, or_false] at he
        rcases he with rfl | rfl
        · exact ⟨h3, o, by simpa using ho, aop_imp (fun s' hs => ih1 _ _ _ _ h4 hs) (one ho h3 h.1)⟩
        · exact ⟨h5, o', by simpa using ho', aop_imp (fun s' hs => ih2 _ _ _ _ h6 hs) (one ho' h5 h.2)⟩
      · exact h.elim
  | three i p j r k t ih1 ih2 ih3 =>
    intro f l pend s hp h
    simp only [pOk, Bool.and_eq_true] at hp
    obtain ⟨⟨⟨⟨h1, h2⟩, h3, h4⟩, h5, h6⟩, h7, h8⟩ := hp
    cases f with
    | zero => cases h1
    | succ f =>
      simp only [arun] at h
      split at h
      · rename_i o o' o'' ho ho' ho''
        refine JA.now hT hb h2 (by simp) fun e he => ?_
        simp only [List.mem_cons, List.not_mem_nil, or_false] at he
        rcases he with rfl | rfl | rfl
        · exact ⟨h3, o, by simpa using ho, aop_imp (fun s' hs => ih1 _ _ _ _ h4 hs) (one ho h3 h.1)⟩
        · exact ⟨h5, o', by simpa using ho', aop_imp (fun s' hs => ih2 _ _ _ _ h6 hs) (one ho' h5 h.2.1)⟩
        · exact ⟨h7, o'', by simpa using ho'', aop_imp (fun s' hs => ih3 _ _ _ _ h8 hs) (one ho'' h7 h.2.2)⟩
      · exact h.elim

theorem aone_mono {ops : List Oper} {o : Oper} {s : St} {K K' : St → Prop} (hK : ∀ s, K s → K' s) (h : aone TT P ops o s K) : aone TT P ops o s K' := by
  have q : ∀ {s : St} {fv : V} {args : List V} {F F' : V → Prop}, (∀ v, F v → F' v) → ACallQ P s fv args F → ACallQ P s fv args F' :=
    fun hF ⟨g, cap, R, args', h1, h2, h3, h4, h5⟩ => ⟨g, cap, R, args', h1, h2, h3, h4, hF _ h5⟩
  unfold aone at h ⊢
  split at h
  · split at h
    · exact q (fun v hv => hK _ hv) h
    · split at h
      · split at h
        · exact ⟨fun e => q (fun v hv => hK _ hv) (h.1 e), fun e => hK _ (h.2 e)⟩
        · exact h.elim
      · exact h.elim
  · exact ⟨h.1, aopg_imp hK h.2⟩

theorem arun_mono {ops : List Oper} {K K' : St → Prop} (hK : ∀ s, K s → K' s) : ∀ (p : Plan) {s : St}, arun TT P ops p s K → arun TT P ops p s K' := by
  intro p
  induction p with
  | fin => intro s h; exact hK s h
  | q i p ih =>
    intro s h
    simp only [arun] at h ⊢
    split at h
    · exact aone_mono (fun s hs => ih hs) h
    · exact h.elim
  | e i p ih =>
    intro s h
    simp only [arun] at h ⊢
    split at h
    · exact aopg_imp (fun s hs => ih hs) h
    · exact h.elim
  | two i p j r ih1 ih2 =>
    intro s h
    simp only [arun] at h ⊢
    split at h
    · exact ⟨aopg_imp (fun s hs => ih1 hs) h.1, aopg_imp (fun s hs => ih2 hs) h.2⟩
    · exact h.elim
  | three i p j r k t ih1 ih2 ih3 =>
    intro s h
    simp only [arun] at h ⊢
    split at h
    · exact ⟨aopg_imp (fun s hs => ih1 hs) h.1, aopg_imp (fun s hs => ih2 hs) h.2.1, aopg_imp (fun s hs => ih3 hs) h.2.2⟩
    · exact h.elim

/-- A region whose order is drawn. -/
theorem AW.draw {Q : Exit → St → Prop} {s : St} (p : Plan) (hT : TOk P TT) (hm : P.follows .mixedOrders = true) {id : Nat} {l : List Oper} (hb : regB s.n l = true)
    (hp : pOk ⟨l⟩ p l.length (Array.replicate l.length false) [] = true) (h : arun TT P l p s (Q .normal)) : AW P (.region id ⟨l⟩ true) Q s := by
  refine ⟨fun x a w hC => ?_⟩
  have hn : a.tmps.size = s.n := by obtain ⟨ok, ρ, h⟩ := CC_iff.1 hC; exact h.size
  refine wp_region_any hm ?_
  refine arun_ja (x := x) hT hb p _ _ _ s hp h (by simp) (fun i hi => by cases hi) _ (by simp) (fun _ _ => rfl) (fun i hi => by cases hi) _ (fun a w h => h) a _ hn ?_
  obtain ⟨ok, ρ, c1, c2, c3, c4, c5, c6⟩ := hC
  have ho : ∀ (id : Nat) (o : O), ORep w ok ρ id o → ORep { w with drawn := w.drawn + 1 } ok ρ id o := fun id o h => h.mono (fun _ _ => rfl) (fun _ h => h) (fun _ _ h => h) (fun _ _ h => h) (fun _ _ _ => rfl)
  exact ⟨ok, ρ, ⟨c1.1, c1.2, fun id o h => ho id o (c1.3 id o h), c1.4, c1.5⟩, ⟨c2.1, c2.2, c2.3, c2.4, c2.5, c2.6, c2.7, c2.8, c2.9, c2.10⟩,
    fun j => (c3 j).mono (fun _ _ => rfl) (fun _ h => h) (fun _ _ h => h) (fun _ _ h => h), c4, c5, c6⟩

theorem AW.drawS {Q : Exit → St → Prop} {s : St} (p : Plan) (hT : TOk P TT) (hm : P.follows .mixedOrders = true) {id : Nat} {l : List Oper} {c : Code} (hb : regB s.n l = true)
    (hp : pOk ⟨l⟩ p l.length (Array.replicate l.length false) [] = true) (h : arun TT P l p s fun s' => AW P c Q s') : AW P (.seq (.region id ⟨l⟩ true) c) Q s :=
  .seq (.draw p hT hm hb hp h)

/-- A nil slice is taken for one of an own array without rows. -/
theorem Weak.own {s : St} (t sz : Nat) (ht : getE s.env t = .nils) : Weak s ⟨(t, .msl s.objs.length sz 0 0) :: s.env, s.objs ++ [.arr sz []], s.n, s.fx⟩ := by
  refine ⟨fun x a w hC => ?_⟩
  obtain ⟨ok, ρ, hI, hF, hE, hn, hd, hx⟩ := hC
  obtain ⟨h1, h2, h3⟩ := step_new (w' := w) hI hF (Nat.le_refl _) (fun _ _ => rfl) rfl rfl rfl none (fun b hb => by cases hb)
    (o := .arr sz []) ⟨fun r hr => (by cases hr), .inl ⟨rfl, (by rw [← hI.len]; simp)⟩⟩
  refine ⟨ok, ρ ++ [none], h1, h2, fun j => ?_, hn, hd, hx⟩
  simp only [getE]
  split
  · rename_i e
    subst e
    have := hE t
    rw [ht] at this
    generalize a.tmps.getD t undef = v at this ⊢
    cases this
    exact .msl0 (by rw [List.length_append, hI.len]; simp)
  · exact h3 _ _ (hE j)

/-- A nil slice is taken for one of an own array without rows. -/
theorem AW.own {Q : Exit → St → Prop} {s : St} {c : Code} (t sz : Nat) (ht : getE s.env t = .nils) (h : AW P c Q ⟨(t, .msl s.objs.length sz 0 0) :: s.env, s.objs ++ [.arr sz []], s.n, s.fx⟩) : AW P c Q s :=
  .weak (Weak.own t sz ht) h

/-- A region whose order is drawn, behind which all goes on from the state S. -/
theorem AW.drawW {Q : Exit → St → Prop} {s : St} (S : St) (p : Plan) (hT : TOk P TT) (hm : P.follows .mixedOrders = true) {id : Nat} {l : List Oper} {c : Code} (hb : regB s.n l = true)
    (hp : pOk ⟨l⟩ p l.length (Array.replicate l.length false) [] = true) (h : arun TT P l p s fun s' => Weak s' S) (hc : AW P c Q S) : AW P (.seq (.region id ⟨l⟩ true) c) Q s := by
  refine AW.seq ⟨fun x a w hC => ?_⟩
  refine wp_mono ((AW.draw (Q := fun e s' => e = .normal ∧ Weak s' S) p hT hm hb hp (arun_mono (fun s' hs => ⟨rfl, hs⟩) p h)).run x a w hC) ?_
  rintro e a' w' ⟨s', ⟨rfl, h1⟩, h2⟩
  exact ⟨S, hc, h1.run x a' w' h2⟩

theorem ACallQ.of {s : St} {g : Nat} {cap : List D} {args args' : List V} {R : V} {K : V → Prop} (h : argVs s.objs [] [] (args ++ cap.map .d) = some args') (hc : ACon P g args' [] (Is R)) (hr : noRef R = true)
    (hK : K R) : ACallQ P s (.d (.fn g cap)) args K := ⟨g, cap, R, args', rfl, h, hc, hr, hK⟩

end

section
variable {P : Program} {TT : Nat → Option TI} {s s' : St} {ops : List Oper} {K : St → Prop} {i j k : Nat} {p r t : Plan} {o : Oper}
attribute [go_sem] callOf isEff
@[congr] theorem aone_congr (h : s = s') : aone TT P ops o s K = aone TT P ops o s' K := by rw [h]
@[congr] theorem arun_congr (h : s = s') : arun TT P ops p s K = arun TT P ops p s' K := by rw [h]
@[congr] theorem ACallQ_congr {fv fv' : V} {args args' : List V} {K : V → Prop} (h : s = s') (h1 : fv = fv') (h2 : args = args') : ACallQ P s fv args K = ACallQ P s' fv' args' K := by rw [h, h1, h2]
/-- The rest of the plan. -/
def contR (TT : Nat → Option TI) (P : Program) (ops : List Oper) (p : Plan) (K : St → Prop) : St → Prop := fun s => arun TT P ops p s K
@[congr] theorem contR_congr (h : s = s') : contR TT P ops p K s = contR TT P ops p K s' := by rw [h]
@[go_sem] theorem contR_eq : contR TT P ops p K s = arun TT P ops p s K := rfl
def contO (dst : Option Nat) (s : St) (K : St → Prop) : V → Prop := fun v => K (s.put dst v)
@[congr] theorem contO_congr {dst : Option Nat} {v v' : V} (h : s = s') (h' : v = v') : contO dst s K v = contO dst s' K v' := by rw [h, h']
@[go_sem] theorem contO_eq {dst : Option Nat} {v : V} : contO dst s K v = K (s.put dst v) := rfl
@[go_sem] theorem arun_fin : arun TT P ops .fin s K = K s := rfl
@[go_sem] theorem arun_q : arun TT P ops (.q i p) s K = match ops[i]? with
    | some o => aone TT P ops o s (contR TT P ops p K)
    | none => False := rfl
@[go_sem] theorem arun_e : arun TT P ops (.e i p) s K = match ops[i]? with
    | some o => aops TT P (ops.map (·.dst)) [o] s (contR TT P ops p K)
    | none => False := rfl
@[go_sem] theorem arun_two : arun TT P ops (.two i p j r) s K = match ops[i]?, ops[j]? with
    | some o, some o' => (aops TT P (ops.map (·.dst)) [o] s (contR TT P ops p K)) ∧ (aops TT P (ops.map (·.dst)) [o'] s (contR TT P ops r K))
    | _, _ => False := rfl
@[go_sem] theorem arun_three : arun TT P ops (.three i p j r k t) s K = match ops[i]?, ops[j]?, ops[k]? with
    | some o, some o', some o'' => (aops TT P (ops.map (·.dst)) [o] s (contR TT P ops p K)) ∧ (aops TT P (ops.map (·.dst)) [o'] s (contR TT P ops r K)) ∧
      (aops TT P (ops.map (·.dst)) [o''] s (contR TT P ops t K))
    | _, _, _ => False := rfl
@[go_sem] theorem aone_eq : aone TT P ops o s K = match callOf o.op with
  | some (f, args) => (match o.guard with
    | none => ACallQ P s (s.ev f) (args.map s.ev) (contO o.dst s K)
    | some (j, want) => (match (ops.map (·.dst))[j]? with
      | some (some d) => (match getE s.env d with
        | .d (.bool b) => (b = want → ACallQ P s (s.ev f) (args.map s.ev) (contO o.dst s K)) ∧ (b = (!want) → K (s.put o.dst .any))
        | _ => False)
      | _ => False))
  | none => isEff o.op = false ∧ aops TT P (ops.map (·.dst)) [o] s K := rfl
end
attribute [go_sem] List.mem_cons List.not_mem_nil List.getElem?_nil Nat.sub_zero Nat.add_zero Nat.le_refl List.length_map Nat.zero_add List.drop_nil List.mem_singleton forall_eq take_one exists_eq' exists_eq or_true true_or false_or or_false false_and and_false List.getElem?_cons_zero List.getElem?_cons_succ List.length_cons List.length_nil List.map_cons List.map_nil List.append_nil List.nil_append List.cons_append List.drop_zero List.drop_succ_cons List.take_succ_cons List.take_zero List.set_cons_zero List.set_cons_succ Option.map_some Option.map_none Bool.not_true Bool.not_false decide_eq_true_eq decide_eq_false_iff_not true_and and_true forall_const true_implies false_implies Option.some.injEq V.d.injEq D.bool.injEq D.int.injEq D.str.injEq V.agg.injEq V.tup.injEq List.cons.injEq Int.natCast_add Int.cast_ofNat_Int Int.toNat_natCast implies_true and_self if_true if_false
end Go.Fw
