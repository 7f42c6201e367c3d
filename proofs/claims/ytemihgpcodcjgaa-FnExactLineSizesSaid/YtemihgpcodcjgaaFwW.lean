/- Regions whose order is drawn: the steps, the plan by which a region is gone through, and the rule for code. -/
import Derived.Test.YtemihgpcodcjgaaFwV
set_option linter.unusedSimpArgs false
set_option linter.unusedVariables false
namespace Go.Fw

def setAll (l : Array Bool) (is : List Nat) : Array Bool := is.foldl (fun l i => l.setIfInBounds i true) l

theorem setAll_size : ∀ (is : List Nat) (l : Array Bool), (setAll l is).size = l.size
  | [], _ => rfl
  | i :: is, l => by show (setAll (l.setIfInBounds i true) is).size = _; rw [setAll_size is]; simp

theorem gl_setAll {j : Nat} : ∀ (is : List Nat) (l : Array Bool), (∀ i ∈ is, i < l.size) → gl (setAll l is) j = if j ∈ is then true else gl l j
  | [], _, _ => by simp [setAll]
  | i :: is, l, h => by
    show gl (setAll (l.setIfInBounds i true) is) j = _
    rw [gl_setAll is _ (fun q hq => by simpa using h q (List.mem_cons_of_mem _ hq)), gl_set (h i (List.mem_cons_self ..))]
    by_cases e : j = i
    · subst e; simp
    · simp [e]

/-- An operation that leaves all objects as they are, or makes a new one. -/
def isExt (op : Op) : Bool := (callOf op).isNone && (match op with
  | .store .. => false
  | .call { callee := .builtin .append, .. } => false
  | _ => true)

section
variable {P : Program} {TT : Nat → Option TI} {ops : Array Oper} {x : Ctx} {n : Nat}

theorem aop_ext {s : St} {dst : Option Nat} {op : Op} {K : St → Prop} (h : aop TT P s dst op K) : aop TT P s dst op fun s' => K s' ∧ (isExt op = true → ∃ os, s'.objs = s.objs ++ os) := by
  cases he : isExt op with
  | false => 
    refine aop_frame (K := K) rfl (fun _ _ => rfl) (fun objs v hk => ?_) h
    exact ⟨hk, fun hc => by cases hc⟩
  | true =>
    simp only [isExt, Bool.and_eq_true, Option.isNone_iff_eq_none] at he
    obtain ⟨hc, he⟩ := he
    cases hf : isEff op with
    | false =>
      rw [aop_pure hc hf] at h ⊢
      exact pv_mono (fun v hv => ⟨hv, fun _ => ⟨[], by rw [St.put_objs, List.append_nil]⟩⟩) h
    | true =>
      rw [aop_eff hc hf] at h ⊢
      unfold aef at h ⊢
      split at h
      · split at h
        · exact ⟨h, fun _ => ⟨[_], by rw [St.put_objs]; rfl⟩⟩
        · exact h.elim
      · split at h
        · exact ⟨h, fun _ => ⟨[_], by rw [St.put_objs]; rfl⟩⟩
        · exact h.elim
      · split at h
        · obtain ⟨h1, h2, h⟩ := h
          refine ⟨h1, h2, ?_⟩
          split at h
          · exact ⟨h, fun _ => ⟨[_], by rw [St.put_objs]; rfl⟩⟩
          · exact h.elim
        · exact h.elim
      · cases he
      · split at h
        · split at h
          · obtain ⟨h1, h2, h3, h4, h⟩ := h
            exact ⟨h1, h2, h3, h4, h, fun _ => ⟨[_], by rw [St.put_objs]; rfl⟩⟩
          · exact h.elim
        · exact h.elim
      · cases he
      · exact h.elim

theorem CC.forget {s s' : St} {a : Act} {w : World} (hE : ∀ t, getE s'.env t = .any ∨ getE s'.env t = getE s.env t) (ho : s'.objs = s.objs) (hn : s'.n = s.n) (hf : s'.fx = s.fx) (hC : CC x s a w) : CC x s' a w := by
  obtain ⟨ok, ρ, c1, c2, c3, c4, c5, c6⟩ := hC
  refine ⟨ok, ρ, by rw [ho]; exact c1, by rw [ho]; exact c2, fun j => ?_, by rw [hn]; exact c4, c5, by rw [hf]; exact c6⟩
  rcases hE j with e | e
  · rw [e]; exact .any
  · rw [e]; exact c3 j

/-- What is asked of an operation that is put off. -/
def quietOk (ops : Array Oper) (L0 : Array Bool) (pend : List Nat) (i : Nat) : Bool :=
  !gl L0 i && !pend.contains i && !hits ops i i && pend.all fun k => !hits ops k i && odst ops k != odst ops i

theorem JA.quiet {K : St → Prop} {f : Nat} {L0 : Array Bool} {pend : List Nat} {s : St} {i : Nat} {o : Oper} (ho : ops[i]? = some o) (hd : o.dst.isSome = true) (hst : quietOk ops L0 pend i = true)
    (h : aopqg TT P (ops.toList.map (·.dst)) s o fun v => JA TT P ops x n K f L0 (pend ++ [i]) (s.put o.dst v)) : JA TT P ops x n K (f + 1) L0 pend s := by
  simp only [quietOk, Bool.and_eq_true, Bool.not_eq_true', List.all_eq_true, bne_iff_ne, ne_eq, List.contains_eq_mem, decide_eq_false_iff_not] at hst
  obtain ⟨⟨⟨hun, hnp⟩, hself⟩, hpk⟩ := hst
  obtain ⟨d, hd⟩ := Option.isSome_iff_exists.1 hd
  obtain ⟨v, h1, h2⟩ := aopqg_det h
  have hod : odst ops i = some d := by simp [odst, ho, hd]
  have hol : olook ops i = looks (ops.toList.map (·.dst)) o := by simp [olook, ho]
  have hput : ∀ t, t ≠ d → getE (s.put o.dst v).env t = getE s.env t := fun t ht => by rw [getE_put, hd, if_neg (fun e => ht (Option.some.inj e).symm)]
  have hputd : getE (s.put o.dst v).env d = v := by rw [getE_put, hd, if_pos rfl]
  intro hsz hV l hl hag hcl Q hQ a w hn hC
  have hli : gl l i = false := by rw [hag i hnp]; exact hun
  have hcnt : cnt l (pend ++ [i]) = cnt l pend + 1 := by simp [cnt, List.filter_append, hli]
  have := h1 hsz (fun j hj => ?_) l hl (fun j hj => hag j (fun hm => hj (List.mem_append.2 (.inl hm)))) ?_ Q hQ a w hn ?_
  · rw [hcnt] at this
    rwa [show f + 1 + cnt l pend = f + (cnt l pend + 1) by omega]
  · rcases List.mem_append.1 hj with hj | hj
    · obtain ⟨h3, ok, dk, h4, h5, h6⟩ := hV j hj
      obtain ⟨h7, h8⟩ := hpk j hj
      refine ⟨h3, ok, dk, h4, h5, fun s' hs hl' => ?_⟩
      have hdk : dk ≠ d := fun e => h8 (by rw [hod, ← e]; simp [odst, h4, h5])
      rw [hput dk hdk]
      refine h6 s' (by rw [St.put_objs] at hs; exact hs) fun t ht => ?_
      rw [hl' t ht, hput t (fun e => by rw [hits_of ht (by rw [e]; exact hod)] at h7; cases h7)]
    · obtain rfl := List.mem_singleton.1 hj
      refine ⟨hun, o, d, ho, hd, fun s' hs hl' => ?_⟩
      rw [hputd]
      refine h2 s' (by rw [St.put_objs] at hs; exact hs) fun t ht => ?_
      rw [← hol] at ht
      rw [hl' t ht, hput t (fun e => by rw [hits_of ht (by rw [e]; exact hod)] at hself; cases hself)]
  · intro j hj hg p hp
    rcases List.mem_append.1 hj with hj | hj
    · exact hcl j hj hg p hp
    · obtain rfl := List.mem_singleton.1 hj
      rw [hli] at hg; cases hg
  · refine hC.forget (fun t => ?_) (by show (s.put o.dst v).objs = s.objs; rw [St.put_objs]) (by show (s.put o.dst v).n = s.n; rw [St.put_n]) (by show (s.put o.dst v).fx = s.fx; rw [St.put_fx])
    rw [getE_hid, getE_hid]
    by_cases e : t ∈ tsOf ops l (pend ++ [i])
    · rw [if_pos e]; exact .inl rfl
    · rw [if_neg e]
      have htd : t ≠ d := fun e' => e (mem_tsOf.2 ⟨i, by simp, hli, by rw [e']; exact hod⟩)
      rw [if_neg (fun hm => e (by
        obtain ⟨k, hk, h9, h10⟩ := mem_tsOf.1 hm
        exact mem_tsOf.2 ⟨k, List.mem_append.2 (.inl hk), h9, h10⟩)), hput t htd]
      exact .inr rfl

/-- What is asked of an operation that comes now, when the operations pend are put off. -/
def nowOk (ops : Array Oper) (L0 : Array Bool) (pend : List Nat) (e : Nat) : Bool :=
  match ops[e]? with
  | some o => o.guard.isNone && !gl L0 e && !pend.contains e && pend.all (fun k =>
      (anc ops pend e).contains k || (!hits ops e k && !hits ops k e && odst ops k != odst ops e && (isExt o.op || (match ops[k]? with | some ok => !readsB ok.op | none => false))))
  | none => false

def later (ops : Array Oper) (pend : List Nat) (e : Nat) : List Nat := pend.filter fun k => !(anc ops pend e).contains k
def done (ops : Array Oper) (pend : List Nat) (e : Nat) : List Nat := e :: pend.filter fun k => (anc ops pend e).contains k

def allOk (ops : Array Oper) (L0 : Array Bool) (pend es : List Nat) : Bool :=
  pendOk ops L0 pend && (List.range ops.size).all (fun j => gl L0 j || pend.contains j || es.contains j || (pre ops j).any fun p => !gl L0 p && !pend.contains p) &&
  (es.isEmpty || es.any fun e => decide (e < ops.size) && (pre ops e).all fun p => gl L0 p || pend.contains p)

theorem JA.fin {K : St → Prop} {f : Nat} {L0 : Array Bool} {pend : List Nat} {s : St} (hT : TOk P TT) (hb : regB n ops.toList = true) (hall : allOk ops L0 pend [] = true) (hK : K s) : JA TT P ops x n K f L0 pend s := by
  simp only [allOk, Bool.and_eq_true, List.all_eq_true, List.mem_range, Bool.or_eq_true, List.contains_iff_mem, List.not_mem_nil, or_false] at hall
  obtain ⟨⟨hp, hj⟩, _⟩ := hall
  have hP := pendOk_spec hp
  intro hsz hV l hl hag hcl Q hQ a w hn hC
  have hL0 : ∀ (l : Array Bool), (∀ j, j ∉ pend → gl l j = gl L0 j) → ∀ p, gl L0 p = true → gl l p = true := fun l hag p hp => by
    by_cases hm : p ∈ pend
    · rw [(hV p hm).1] at hp; cases hp
    · rw [hag p hm]; exact hp
  have main : ∀ (r : Nat) (l : Array Bool), l.size = ops.size → (∀ j, j ∉ pend → gl l j = gl L0 j) → Closed ops pend l → cnt l pend = r → ∀ a w, a.tmps.size = n → CC x (hid (tsOf ops l pend) s) a w →
      wpAny P .any ops Q (f + r) l a w := by
    intro r
    induction r with
    | zero =>
      intro l hl hag hcl hc a w hn hC
      have hdone := cnt_zero hc
      refine wpAny_done ?_ (hQ a w ⟨s, hK, ?_⟩) _
      · apply List.eq_nil_iff_forall_not_mem.2
        intro i hi
        obtain ⟨o, ho, hlt, hun, hps⟩ := ready_spec hl hi
        have hin : i ∈ pend ∨ gl l i = true := by
          by_cases hm : i ∈ pend
          · exact .inl hm
          · right
            have hlt' : i < ops.size := by rw [← hl]; exact hlt
            rcases hj i hlt' with (hc' | hc') | hc'
            · exact hL0 l hag i hc'
            · exact absurd hc' hm
            · obtain ⟨p, hp, hc'⟩ := List.any_eq_true.1 hc'
              simp only [Bool.and_eq_true, Bool.not_eq_true', List.contains_eq_mem, decide_eq_false_iff_not] at hc'
              have := hps p hp
              rw [hag p hc'.2, hc'.1] at this
              cases this
        rcases hin with hm | hm
        · rw [hdone i hm] at hun; cases hun
        · rw [hm] at hun; cases hun
      · have : Sim (hid (tsOf ops l pend) s) s := by
          refine ⟨fun t => ?_, rfl, rfl, rfl⟩
          rw [getE_hid, if_neg]
          intro hm
          obtain ⟨k, hk, h1, _⟩ := mem_tsOf.1 hm
          rw [hdone k hk] at h1; cases h1
        exact this.cc hC
    | succ r ih =>
      intro l hl hag hcl hc a w hn hC
      refine ⟨fun hnil => ?_, fun i hi => ?_⟩
      · obtain ⟨i, hi⟩ := pend_ready hP hl (hL0 l hag) (by omega)
        rw [hnil] at hi; cases hi
      · have hm : i ∈ pend := by
          obtain ⟨o, ho, hlt, hun, hps⟩ := ready_spec hl hi
          by_cases hm : i ∈ pend
          · exact hm
          · exfalso
            have hlt' : i < ops.size := by rw [← hl]; exact hlt
            rcases hj i hlt' with (hc' | hc') | hc'
            · rw [hL0 l hag i hc'] at hun; cases hun
            · exact hm hc'
            · obtain ⟨p, hp, hc'⟩ := List.any_eq_true.1 hc'
              simp only [Bool.and_eq_true, Bool.not_eq_true', List.contains_eq_mem, decide_eq_false_iff_not] at hc'
              have := hps p hp
              rw [hag p hc'.2, hc'.1] at this
              cases this
        obtain ⟨o, ho, hlt, hun, hps⟩ := ready_spec hl hi
        refine pend_step hT hb hP hl hcl (fun i hi => (hV i hi).2) hi hm hn hC fun a' w' h1 h2 h3 h4 => ?_
        refine ih _ (by simp [hl]) (fun j hj => ?_) h3 (by omega) a' w' h1 h2
        rw [gl_set hlt, if_neg (fun e : j = i => hj (e ▸ hm))]
        exact hag j hj
  exact main _ l hl hag hcl rfl a w hn hC

theorem JA.now {K : St → Prop} {f : Nat} {L0 : Array Bool} {pend es : List Nat} {s : St} (hT : TOk P TT) (hb : regB n ops.toList = true) (hall : allOk ops L0 pend es = true) (hne : es ≠ [])
    (h : ∀ e ∈ es, nowOk ops L0 pend e = true ∧ ∃ o, ops[e]? = some o ∧ aop TT P s o.dst o.op fun s' => JA TT P ops x n K f (setAll L0 (done ops pend e)) (later ops pend e) s') : JA TT P ops x n K (f + 1) L0 pend s := by
  simp only [allOk, Bool.and_eq_true, List.all_eq_true, List.mem_range, Bool.or_eq_true, List.contains_iff_mem] at hall
  obtain ⟨⟨hp, hj⟩, hfst⟩ := hall
  have hP := pendOk_spec hp
  intro hsz hV l hl hag hcl Q hQ a w hn hC
  have hL0 : ∀ (l : Array Bool), (∀ j, j ∉ pend → gl l j = gl L0 j) → ∀ p, gl L0 p = true → gl l p = true := fun l hag p hp => by
    by_cases hm : p ∈ pend
    · rw [(hV p hm).1] at hp; cases hp
    · rw [hag p hm]; exact hp
  have main : ∀ (r : Nat) (l : Array Bool), l.size = ops.size → (∀ j, j ∉ pend → gl l j = gl L0 j) → Closed ops pend l → cnt l pend = r → ∀ a w, a.tmps.size = n → CC x (hid (tsOf ops l pend) s) a w →
      wpAny P .any ops Q (f + r + 1) l a w := by
    intro r
    induction r using Nat.strongRecOn with
    | _ r ih =>
      intro l hl hag hcl hc a w hn hC
      refine ⟨fun hnil => ?_, fun i hi => ?_⟩
      · exfalso
        by_cases hz : cnt l pend = 0
        · have hdone := cnt_zero hz
          rcases hfst with hfst | hfst
          · exact hne (List.isEmpty_iff.1 hfst)
          · obtain ⟨e, he, hfst⟩ := List.any_eq_true.1 hfst
            simp only [Bool.and_eq_true, decide_eq_true_eq, List.all_eq_true, Bool.or_eq_true, List.contains_iff_mem] at hfst
            obtain ⟨hn1, o, ho, _⟩ := h e he
            simp only [nowOk, ho, Bool.and_eq_true, Bool.not_eq_true', List.contains_eq_mem, decide_eq_false_iff_not] at hn1
            have hun : gl l e = false := by rw [hag e hn1.1.2]; exact hn1.1.1.2
            have := ready_of hl hfst.1 hun (fun p hp => by
              rcases hfst.2 p hp with hg | hg
              · exact hL0 l hag p hg
              · exact hdone p hg)
            rw [hnil] at this; cases this
        · obtain ⟨i, hi⟩ := pend_ready hP hl (hL0 l hag) hz
          rw [hnil] at hi; cases hi
      · obtain ⟨o, ho, hlt, hun, hps⟩ := ready_spec hl hi
        by_cases hm : i ∈ pend
        · cases r with
          | zero => rw [cnt_zero hc i hm] at hun; cases hun
          | succ r =>
            refine pend_step hT hb hP hl hcl (fun i hi => (hV i hi).2) hi hm hn hC fun a' w' h1 h2 h3 h4 => ?_
            refine ih r (by omega) _ (by simp [hl]) (fun j hj => ?_) h3 (by omega) a' w' h1 h2
            rw [gl_set hlt, if_neg (fun e : j = i => hj (e ▸ hm))]
            exact hag j hj
        · have hes : i ∈ es := by
            have hlt' : i < ops.size := by rw [← hl]; exact hlt
            rcases hj i hlt' with ((hc' | hc') | hc') | hc'
            · rw [hL0 l hag i hc'] at hun; cases hun
            · exact absurd hc' hm
            · exact hc'
            · obtain ⟨p, hp, hc'⟩ := List.any_eq_true.1 hc'
              simp only [Bool.and_eq_true, Bool.not_eq_true', List.contains_eq_mem, decide_eq_false_iff_not] at hc'
              have := hps p hp
              rw [hag p hc'.2, hc'.1] at this
              cases this
          obtain ⟨hn1, o', ho', hrun⟩ := h i hes
          obtain rfl : o' = o := by rw [ho] at ho'; exact (Option.some.inj ho').symm
          simp only [nowOk, ho, Bool.and_eq_true, Bool.not_eq_true', List.contains_eq_mem, decide_eq_false_iff_not, List.all_eq_true, Bool.or_eq_true, decide_eq_true_eq, bne_iff_ne, ne_eq, Option.isNone_iff_eq_none] at hn1
          obtain ⟨⟨⟨hg, hun0⟩, _⟩, hpk⟩ := hn1
          have hod : odst ops i = o'.dst := by simp [odst, ho]
          have hancl : ∀ k ∈ anc ops pend i, k ∈ pend → gl l k = true := fun k hk hkp => (anc_done hcl hps k hk).resolve_left (fun e => hm (e ▸ hkp))
          have hpka : ∀ k ∈ pend, k ∉ anc ops pend i → hits ops i k = false ∧ hits ops k i = false ∧ odst ops k ≠ odst ops i ∧ (isExt o'.op = true ∨ ∀ ok, ops[k]? = some ok → readsB ok.op = false) := by
            intro k hk hna
            rcases hpk k hk with h1 | h1
            · exact absurd h1 hna
            · refine ⟨h1.1.1.1, h1.1.1.2, h1.1.2, ?_⟩
              rcases h1.2 with h2 | h2
              · exact .inl h2
              · refine .inr fun ok hok => ?_
                rw [hok] at h2
                simpa using h2
          have hpk' : ∀ k ∈ pend, gl l k = false → k ∉ anc ops pend i ∧ hits ops i k = false ∧ hits ops k i = false ∧ odst ops k ≠ odst ops i ∧ (isExt o'.op = true ∨ ∀ ok, ops[k]? = some ok → readsB ok.op = false) := by
            intro k hk hku
            have hna : k ∉ anc ops pend i := fun ha => by rw [hancl k ha hk] at hku; cases hku
            exact ⟨hna, hpka k hk hna⟩
          have hsn : (hid (tsOf ops l pend) s).n = n := by obtain ⟨ok, ρ, hc⟩ := CC_iff.1 hC; rw [← hc.size]; exact hn
          have hlook : ∀ t ∈ olook ops i, getE (hid (tsOf ops l pend) s).env t = getE s.env t := by
            intro t ht
            rw [getE_hid, if_neg]
            intro hmt
            obtain ⟨k, hk, hku, hkt⟩ := mem_tsOf.1 hmt
            have := (hpk' k hk hku).2.1
            rw [hits_of ht hkt] at this; cases this
          let l' := l.setIfInBounds i true
          have hin : ∀ j, gl l' j = if j = i then true else gl l j := fun j => gl_set hlt
          have hmemL : ∀ k, k ∈ later ops pend i ↔ k ∈ pend ∧ k ∉ anc ops pend i := fun k => by simp [later]
          have hmemD : ∀ k, k ∈ done ops pend i ↔ k = i ∨ (k ∈ pend ∧ k ∈ anc ops pend i) := fun k => by simp [done]
          have hbd : ∀ k ∈ done ops pend i, k < L0.size := fun k hk => by
            rw [hsz]
            rcases (hmemD k).1 hk with e | e
            · rw [e, ← hl]; exact hlt
            · exact hP.lt k e.1
          have hts : ∀ t, t ∈ tsOf ops l' (later ops pend i) ↔ t ∈ tsOf ops l pend := by
            intro t
            rw [mem_tsOf, mem_tsOf]
            constructor
            · rintro ⟨k, hk, hku, hkt⟩
              rw [hin] at hku
              split at hku
              · cases hku
              · exact ⟨k, ((hmemL k).1 hk).1, hku, hkt⟩
            · rintro ⟨k, hk, hku, hkt⟩
              refine ⟨k, (hmemL k).2 ⟨hk, (hpk' k hk hku).1⟩, ?_, hkt⟩
              rw [hin, if_neg (fun e : k = i => hm (e ▸ hk))]
              exact hku
          have hcnt : cnt l' (later ops pend i) = r := by
            rw [← hc]
            unfold cnt later
            rw [List.filter_filter]
            congr 1
            apply List.filter_congr
            intro k hk
            rw [hin, if_neg (fun e : k = i => hm (e ▸ hk))]
            cases hku : gl l k with
            | true => simp
            | false => simpa using (hpk' k hk hku).1
          have hrun2 := aop_frame (s := s) (s' := hid (tsOf ops l pend) s) (K' := fun s'' => ∃ s', Sim s'' (hid (tsOf ops l' (later ops pend i)) s') ∧ JA TT P ops x n K f (setAll L0 (done ops pend i)) (later ops pend i) s' ∧
              (∀ k ∈ later ops pend i, Vld TT P ops s' k)) rfl (ev_same fun t ht => hlook t (by simp only [olook, ho]; exact List.mem_append.2 (.inl ht))) (fun objs v hk => ?_) (aop_ext hrun)
          · refine wpOp_mono ?_ (aopg_sound hT hb ho hsn (by unfold aopg; rw [hg]; exact hrun2) hC)
            rintro a' w' ⟨s'', u, ⟨s', hsim, hJ, hV'⟩, hC', rfl⟩
            rw [← hcnt]
            refine hJ (by rw [setAll_size]; exact hsz) (fun k hk => ⟨?_, hV' k hk⟩) l' (by simp [l', hl]) (fun k hk => ?_) ?_ Q hQ _ w' (by rw [put_size]; exact hn) (hsim.cc hC')
            · have hk2 := (hmemL k).1 hk
              rw [gl_setAll _ _ hbd, if_neg]
              · exact (hV k hk2.1).1
              · intro hd
                rcases (hmemD k).1 hd with e | e
                · exact hm (e ▸ hk2.1)
                · exact hk2.2 e.2
            · rw [hin, gl_setAll _ _ hbd]
              by_cases e : k = i
              · rw [if_pos e, if_pos ((hmemD k).2 (.inl e))]
              · rw [if_neg e]
                by_cases hkp : k ∈ pend
                · have ha : k ∈ anc ops pend i := by
                    by_cases ha : k ∈ anc ops pend i
                    · exact ha
                    · exact absurd ((hmemL k).2 ⟨hkp, ha⟩) hk
                  rw [if_pos ((hmemD k).2 (.inr ⟨hkp, ha⟩)), hancl k ha hkp]
                · rw [if_neg (fun hd => by
                    rcases (hmemD k).1 hd with e2 | e2
                    · exact e e2
                    · exact hkp e2.1)]
                  exact hag k hkp
            · intro k hk hgk p hp
              have hk2 := (hmemL k).1 hk
              rw [hin, if_neg (fun e : k = i => hm (e ▸ hk2.1))] at hgk
              rw [hin]
              split
              · rfl
              · exact hcl k hk2.1 hgk p hp
          · obtain ⟨hk1, hk2⟩ := hk
            refine ⟨({ s with objs := objs } : St).put o'.dst v, ⟨fun t => ?_, ?_, ?_, ?_⟩, hk1, fun k hk => ?_⟩
            · rw [getE_hid, getE_put, getE_put]
              show (if o'.dst = some t then v else getE (hid (tsOf ops l pend) s).env t) = _
              rw [getE_hid]
              by_cases e : o'.dst = some t
              · rw [if_pos e, if_pos e, if_neg]
                intro hmt
                obtain ⟨k, hk, hku, hkt⟩ := mem_tsOf.1 ((hts t).1 hmt)
                exact (hpk' k hk hku).2.2.2.1 (by rw [hod, e]; exact hkt)
              · rw [if_neg e, if_neg e]
                by_cases h : t ∈ tsOf ops l pend
                · rw [if_pos h, if_pos ((hts t).2 h)]
                · rw [if_neg h, if_neg (fun h' => h ((hts t).1 h'))]
            · show (({ hid (tsOf ops l pend) s with objs := objs } : St).put o'.dst v).objs = (({ s with objs := objs } : St).put o'.dst v).objs
              rw [St.put_objs, St.put_objs]
            · show (({ hid (tsOf ops l pend) s with objs := objs } : St).put o'.dst v).n = (({ s with objs := objs } : St).put o'.dst v).n
              rw [St.put_n, St.put_n]; rfl
            · show (({ hid (tsOf ops l pend) s with objs := objs } : St).put o'.dst v).fx = (({ s with objs := objs } : St).put o'.dst v).fx
              rw [St.put_fx, St.put_fx]; rfl
            · obtain ⟨hkp, hka⟩ := (hmemL k).1 hk
              obtain ⟨_, ok, dk, h4, h5, h6⟩ := hV k hkp
              obtain ⟨_, h7, h8, h9⟩ := hpka k hkp hka
              refine ⟨ok, dk, h4, h5, fun s' hs hl' => ?_⟩
              have hput : ∀ t, o'.dst ≠ some t → getE (({ s with objs := objs } : St).put o'.dst v).env t = getE s.env t := fun t ht => by rw [getE_put, if_neg ht]
              rw [hput dk (fun e => h8 (by rw [hod, e]; simp [odst, h4, h5]))]
              refine h6 s' (fun hr => ?_) fun t ht => ?_
              · rcases h9 with h9 | h9
                · obtain ⟨os1, e1⟩ := hs hr
                  obtain ⟨os2, e2⟩ := hk2 h9
                  rw [St.put_objs] at e1 e2
                  exact ⟨os2 ++ os1, by rw [e1, ← List.append_assoc, ← e2]⟩
                · rw [h9 ok h4] at hr; cases hr
              · rw [hl' t ht, hput t (fun e => by rw [hits_of ht (hod.trans e)] at h7; cases h7)]
  have := main _ l hl hag hcl rfl a w hn hC
  rwa [show f + 1 + cnt l pend = f + cnt l pend + 1 by omega]

end
end Go.Fw
