/- Regions whose order is drawn: operations that only yield a value may be put off. -/
import Derived.Test.YtemihgpcodcjgaaFwU
set_option linter.unusedSimpArgs false
set_option linter.unusedVariables false
namespace Go.Fw

theorem gl_ext {l l' : Array Bool} (hs : l.size = l'.size) (h : ∀ j, j < l.size → gl l j = gl l' j) : l = l' := by
  apply Array.ext hs
  intro j h1 h2
  have := h j h1
  simpa [gl, h1, h2] using this

def cnt (l : Array Bool) (is : List Nat) : Nat := (is.filter fun i => !gl l i).length

theorem cnt_set {l : Array Bool} {i : Nat} (hi : i < l.size) (hl : gl l i = false) : ∀ {is : List Nat}, is.Nodup → i ∈ is → cnt (l.setIfInBounds i true) is + 1 = cnt l is := by
  have hno : ∀ is : List Nat, i ∉ is → cnt (l.setIfInBounds i true) is = cnt l is := by
    intro is h
    unfold cnt
    congr 1
    apply List.filter_congr
    intro j hj
    rw [gl_set hi, if_neg (fun e : j = i => h (e ▸ hj))]
  intro is
  induction is with
  | nil => intro _ h; cases h
  | cons j is ih =>
    intro hn hm
    obtain ⟨h1, h2⟩ := List.nodup_cons.1 hn
    by_cases e : j = i
    · subst e
      have := hno is h1
      unfold cnt at this ⊢
      rw [List.filter_cons, List.filter_cons, gl_set hi, if_pos rfl, hl]
      simpa using this
    · have hm' : i ∈ is := (List.mem_cons.1 hm).resolve_left (fun h => e h.symm)
      have := ih h2 hm'
      unfold cnt at this ⊢
      rw [List.filter_cons, List.filter_cons, gl_set hi, if_neg e]
      split
      · simp only [List.length_cons]; omega
      · exact this

theorem cnt_zero {l : Array Bool} {is : List Nat} (h : cnt l is = 0) : ∀ i ∈ is, gl l i = true := by
  intro i hi
  have h0 : is.filter (fun i => !gl l i) = [] := List.eq_nil_of_length_eq_zero h
  have := List.filter_eq_nil_iff.1 h0 i hi
  simpa using this

/-- The state with some slots forgotten. -/
def hid (ts : List Nat) (s : St) : St := { s with env := ts.map (fun t => (t, V.any)) ++ s.env }

theorem getE_hid (ts : List Nat) (s : St) (t : Nat) : getE (hid ts s).env t = if t ∈ ts then .any else getE s.env t := by
  unfold hid
  simp only
  induction ts with
  | nil => simp
  | cons u ts ih =>
    simp only [List.map_cons, List.cons_append, getE, ih, List.mem_cons]
    by_cases e : u = t
    · subst e; simp
    · rw [if_neg e]
      by_cases h : t ∈ ts
      · simp [h]
      · simp [h, Ne.symm e]

section
variable {P : Program} {TT : Nat → Option TI} {ops : Array Oper} {x : Ctx} {n : Nat}

/-- The slots of what is still put off. -/
def tsOf (ops : Array Oper) (l : Array Bool) (pend : List Nat) : List Nat := (pend.filter fun i => !gl l i).filterMap (odst ops)

theorem mem_tsOf {l : Array Bool} {pend : List Nat} {t : Nat} : t ∈ tsOf ops l pend ↔ ∃ i ∈ pend, gl l i = false ∧ odst ops i = some t := by
  simp only [tsOf, List.mem_filterMap, List.mem_filter, Bool.not_eq_true']
  exact ⟨fun ⟨i, ⟨h1, h2⟩, h3⟩ => ⟨i, h1, h2, h3⟩, fun ⟨i, h1, h2, h3⟩ => ⟨i, ⟨h1, h2⟩, h3⟩⟩

/-- The operation may be put off: whenever it comes, it yields what its slot is said to hold. -/
def Vld (TT : Nat → Option TI) (P : Program) (ops : Array Oper) (s : St) (i : Nat) : Prop :=
  ∃ o d, ops[i]? = some o ∧ o.dst = some d ∧ ∀ s', (readsB o.op = true → ∃ os, s'.objs = s.objs ++ os) → (∀ t ∈ olook ops i, getE s'.env t = getE s.env t) →
    aopqg TT P (ops.toList.map (·.dst)) s' o (· = getE s.env d)

/-- From the state on, with the operations pend put off, the rest of the region ends as asked, in any order. -/
def JA (TT : Nat → Option TI) (P : Program) (ops : Array Oper) (x : Ctx) (n : Nat) (K : St → Prop) (f : Nat) (L0 : Array Bool) (pend : List Nat) (s : St) : Prop :=
  L0.size = ops.size → (∀ i ∈ pend, gl L0 i = false ∧ Vld TT P ops s i) → ∀ l : Array Bool, l.size = ops.size → (∀ j, j ∉ pend → gl l j = gl L0 j) → Closed ops pend l →
  ∀ (Q : Exit → Act → World → Prop), (∀ a w, (∃ s', K s' ∧ CC x s' a w) → Q .normal a w) → ∀ a w, a.tmps.size = n → CC x (hid (tsOf ops l pend) s) a w →
  wpAny P .any ops Q (f + cnt l pend) l a w

def hits (ops : Array Oper) (i k : Nat) : Bool := (olook ops i).any fun t => odst ops k == some t

theorem hits_of {i k t : Nat} (ht : t ∈ olook ops i) (hk : odst ops k = some t) : hits ops i k = true := List.any_eq_true.2 ⟨t, ht, by simp [hk]⟩

def lookOk (ops : Array Oper) (all : List Nat) : List Nat → List Nat → Bool
  | _, [] => true
  | done, i :: is => done.all (fun k => !hits ops i k || (pre ops i).contains k || (anc ops all i).contains k) && (i :: is).all (fun k => !hits ops i k) && lookOk ops all (done ++ [i]) is

def pendOk (ops : Array Oper) (L0 : Array Bool) (pend : List Nat) : Bool := pend.all (fun i => decide (i < ops.size)) && dstOk ops pend && lookOk ops pend [] pend && preOk ops L0 [] pend

theorem pre_anc {is : List Nat} {j p : Nat} (hp : p ∈ pre ops j) (hm : p ∈ is) : p ∈ anc ops is j := by
  have key : ∀ (ps A : List Nat), p ∈ ps → j ∈ A → p ∈ ps.foldl (fun A p => if A.any (fun a => (pre ops a).contains p) = true then p :: A else A) A := by
    have keep : ∀ (ps A : List Nat) (q : Nat), q ∈ A → q ∈ ps.foldl (fun A p => if A.any (fun a => (pre ops a).contains p) = true then p :: A else A) A := by
      intro ps
      induction ps with
      | nil => intro A q h; exact h
      | cons r ps ih =>
        intro A q h
        simp only [List.foldl_cons]
        refine ih _ q ?_
        split
        · exact List.mem_cons_of_mem _ h
        · exact h
    intro ps
    induction ps with
    | nil => intro A h; cases h
    | cons r ps ih =>
      intro A h hj
      simp only [List.foldl_cons]
      rcases List.mem_cons.1 h with e | h'
      · refine keep _ _ _ ?_
        subst e
        rw [if_pos (List.any_eq_true.2 ⟨j, hj, by simpa using hp⟩)]
        exact List.mem_cons_self ..
      · refine ih _ h' ?_
        split
        · exact List.mem_cons_of_mem _ hj
        · exact hj
  exact key _ _ (List.mem_reverse.2 hm) (List.mem_singleton.2 rfl)

theorem lookOk_spec {all : List Nat} : ∀ (is done : List Nat), (∀ q ∈ done ++ is, q ∈ all) → lookOk ops all done is = true → ∀ i ∈ is, ∀ k ∈ done ++ is, hits ops i k = true → k ∈ anc ops all i ∧ hits ops i i = false := by
  intro is
  induction is with
  | nil => intro done _ _ i hi; cases hi
  | cons j is ih =>
    intro done hall h i hi k hk hh
    simp only [lookOk, Bool.and_eq_true, List.all_eq_true, Bool.or_eq_true, Bool.not_eq_true', List.contains_iff_mem] at h
    obtain ⟨⟨h1, h2⟩, h3⟩ := h
    rcases List.mem_cons.1 hi with e | hi'
    · subst e
      have hself := h2 i (List.mem_cons_self ..)
      rcases List.mem_append.1 hk with hd | hd
      · rcases h1 k hd with (hf | hf) | hf
        · rw [hh] at hf; cases hf
        · exact ⟨pre_anc hf (hall k (List.mem_append.2 (.inl hd))), hself⟩
        · exact ⟨hf, hself⟩
      · have := h2 k hd
        rw [hh] at this; cases this
    · exact ih _ (fun q hq => hall q (by simpa [List.append_assoc] using hq)) h3 i hi' k (by simpa [List.append_assoc] using hk) hh

theorem dstOk_nodup : ∀ {is : List Nat}, dstOk ops is = true → is.Nodup := by
  intro is
  induction is with
  | nil => intro _; exact List.nodup_nil
  | cons i is ih =>
    intro hd
    simp only [dstOk, Bool.and_eq_true, List.all_eq_true, bne_iff_ne, ne_eq] at hd
    obtain ⟨⟨⟨_, _⟩, h2⟩, h3⟩ := hd
    exact List.nodup_cons.2 ⟨fun hm => h2 i hm rfl, ih h3⟩

/-- What is known of the operations put off. -/
structure PendOk (ops : Array Oper) (L0 : Array Bool) (pend : List Nat) : Prop where
  lt : ∀ i ∈ pend, i < ops.size
  dst : dstOk ops pend = true
  look : ∀ i ∈ pend, ∀ k ∈ pend, hits ops i k = true → k ∈ anc ops pend i ∧ hits ops i i = false
  pre : preOk ops L0 [] pend = true

theorem pendOk_spec {L0 : Array Bool} {pend : List Nat} (h : pendOk ops L0 pend = true) : PendOk ops L0 pend := by
  simp only [pendOk, Bool.and_eq_true, List.all_eq_true, decide_eq_true_eq] at h
  obtain ⟨⟨⟨h1, h2⟩, h3⟩, h4⟩ := h
  exact ⟨h1, h2, fun i hi k hk hh => lookOk_spec pend [] (fun q hq => by simpa using hq) h3 i hi k (by simpa using hk) hh, h4⟩

theorem ready_spec {l : Array Bool} (hs : l.size = ops.size) {i : Nat} (hi : i ∈ Region.ready .any ops l) : ∃ o, ops[i]? = some o ∧ i < l.size ∧ gl l i = false ∧ ∀ p ∈ pre ops i, gl l p = true := by
  obtain ⟨hu, o, ho, hall⟩ := mem_ready.1 hi
  have hlt : i < l.size := by rw [hs]; exact (Array.getElem?_eq_some_iff.1 ho).1
  refine ⟨o, ho, hlt, by simpa [gl, hlt] using hu, fun p hp => ?_⟩
  simp only [Go.Fw.pre, ho, List.mem_map, List.mem_filter] at hp
  obtain ⟨e, ⟨he, hbd⟩, rfl⟩ := hp
  exact hall e (by simpa using he) hbd

theorem ready_of {l : Array Bool} (hs : l.size = ops.size) {i : Nat} (hlt : i < ops.size) (hu : gl l i = false) (hp : ∀ p ∈ pre ops i, gl l p = true) : i ∈ Region.ready .any ops l := by
  rw [mem_ready]
  have hlt' : i < l.size := by rw [hs]; exact hlt
  refine ⟨by simpa [gl, hlt'] using hu, ops[i], Array.getElem?_eq_getElem hlt, fun e he hbd => ?_⟩
  show gl l e.on = true
  exact hp _ (by
    simp only [Go.Fw.pre, Array.getElem?_eq_getElem hlt, List.mem_map, List.mem_filter]
    exact ⟨e, ⟨by simpa using he, hbd⟩, rfl⟩)

/-- Of the operations put off one is ready. -/
theorem pend_ready {L0 l : Array Bool} {pend : List Nat} (hP : PendOk ops L0 pend) (hs : l.size = ops.size) (hl0 : ∀ p, gl L0 p = true → gl l p = true) (hc : cnt l pend ≠ 0) :
    ∃ i, i ∈ Region.ready .any ops l := by
  cases hf : pend.findIdx? (fun i => !gl l i) with
  | none =>
    rw [List.findIdx?_eq_none_iff] at hf
    refine absurd ?_ hc
    unfold cnt
    rw [List.filter_eq_nil_iff.2 (fun i hi => by have := hf i hi; simpa using this)]
    rfl
  | some k =>
    rw [List.findIdx?_eq_some_iff_getElem] at hf
    obtain ⟨hk, hun, hbef⟩ := hf
    have hmem := List.getElem_mem hk
    refine ⟨pend[k], ready_of hs (hP.lt _ hmem) (by simpa using hun) fun p hp => ?_⟩
    rcases preOk_spec pend [] hP.pre k _ (List.getElem?_eq_getElem hk) _ hp with hg | hg
    · exact hl0 _ hg
    · simp only [List.nil_append] at hg
      obtain ⟨q, hq, e2⟩ := List.mem_iff_getElem.1 hg
      simp only [List.length_take] at hq
      have := hbef q (by omega)
      rw [List.getElem_take] at e2
      rw [← e2]
      simpa using this

/-- One of the operations that were put off. -/
theorem pend_step (hT : TOk P TT) (hb : regB n ops.toList = true) {L0 l : Array Bool} {pend : List Nat} {s : St} (hP : PendOk ops L0 pend) (hs : l.size = ops.size) (hcl : Closed ops pend l)
    (hV : ∀ i ∈ pend, Vld TT P ops s i) {i : Nat} (hi : i ∈ Region.ready .any ops l) (hm : i ∈ pend) {Q : Exit → Act → World → Prop} {a : Act} {w : World} (hn : a.tmps.size = n)
    (hC : CC x (hid (tsOf ops l pend) s) a w) {K : Act → World → Prop}
    (hK : ∀ a' w', a'.tmps.size = n → CC x (hid (tsOf ops (l.setIfInBounds i true) pend) s) a' w' → Closed ops pend (l.setIfInBounds i true) → cnt (l.setIfInBounds i true) pend + 1 = cnt l pend → K a' w') :
    wpOp P ops Q i K a w := by
  obtain ⟨o, ho, hlt, hun, hps⟩ := ready_spec hs hi
  obtain ⟨o', d, ho', hd, hY⟩ := hV i hm
  obtain rfl : o' = o := by rw [ho] at ho'; exact (Option.some.inj ho').symm
  have hod : odst ops i = some d := by simp [odst, ho, hd]
  have hY := hY (hid (tsOf ops l pend) s) (fun _ => ⟨[], by rw [List.append_nil]; rfl⟩) (fun t ht => by
    rw [getE_hid, if_neg]
    intro hmt
    obtain ⟨k, hk, hku, hkt⟩ := mem_tsOf.1 hmt
    obtain ⟨h1, h2⟩ := hP.look i hm k hk (hits_of ht hkt)
    rcases anc_done hcl hps k h1 with e | e
    · subst e
      rw [hits_of ht hkt] at h2; cases h2
    · rw [hku] at e; cases e)
  have hsn : (hid (tsOf ops l pend) s).n = n := by obtain ⟨ok, ρ, hc⟩ := CC_iff.1 hC; rw [← hc.size]; exact hn
  refine wpOp_mono ?_ (aopg_sound hT hb ho hsn (aopqg_aopg hY) hC)
  rintro a' w' ⟨s'', u, hsim, hC', rfl⟩
  have hin : ∀ j, gl (l.setIfInBounds i true) j = if j = i then true else gl l j := fun j => gl_set hlt
  have hsim2 : Sim ((hid (tsOf ops l pend) s).put o'.dst (getE s.env d)) (hid (tsOf ops (l.setIfInBounds i true) pend) s) := by
    refine ⟨fun t => ?_, by rw [St.put_objs]; rfl, by rw [St.put_n]; rfl, by rw [St.put_fx]; rfl⟩
    rw [getE_put, getE_hid, getE_hid, hd]
    by_cases e : (some d : Option Nat) = some t
    · rw [if_pos e, if_neg]
      · rw [Option.some.inj e]
      · intro hmt
        obtain ⟨k, hk, hku, hkt⟩ := mem_tsOf.1 hmt
        have : k = i := dstOk_inj hP.dst hk hm hkt (hod.trans e)
        rw [hin, if_pos this] at hku
        cases hku
    · rw [if_neg e]
      have : t ∈ tsOf ops l pend ↔ t ∈ tsOf ops (l.setIfInBounds i true) pend := by
        rw [mem_tsOf, mem_tsOf]
        constructor
        · rintro ⟨k, hk, hku, hkt⟩
          refine ⟨k, hk, ?_, hkt⟩
          rw [hin, if_neg (fun e2 : k = i => e (by rw [← hod, ← e2]; exact hkt))]
          exact hku
        · rintro ⟨k, hk, hku, hkt⟩
          refine ⟨k, hk, ?_, hkt⟩
          rw [hin] at hku
          split at hku
          · cases hku
          · exact hku
      by_cases h : t ∈ tsOf ops l pend
      · rw [if_pos h, if_pos (this.1 h)]
      · rw [if_neg h, if_neg (fun h' => h (this.2 h'))]
  refine hK _ w' (by rw [put_size]; exact hn) (hsim2.cc (hsim.cc hC')) ?_ (cnt_set hlt hun (dstOk_nodup hP.dst) hm)
  intro j hj hg p hp
  have hgp : gl l p = true := by
    by_cases e : j = i
    · subst e; exact hps p hp
    · rw [hin, if_neg e] at hg; exact hcl j hj hg p hp
  rw [hin]
  split
  · rfl
  · exact hgp

end
end Go.Fw
