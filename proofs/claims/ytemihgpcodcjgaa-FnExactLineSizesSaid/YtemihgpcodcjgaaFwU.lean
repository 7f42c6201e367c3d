/- Regions whose order is drawn: a part of the operations in any order. -/
import Derived.Test.YtemihgpcodcjgaaFwT
set_option linter.unusedSimpArgs false
set_option linter.unusedVariables false
namespace Go.Fw

section
variable {P : Program} {TT : Nat → Option TI} {ops : Array Oper} {x : Ctx} {n : Nat}

/-- One operation of a region. -/
theorem aopg_sound (hT : TOk P TT) {Q : Exit → Act → World → Prop} (hb : regB n ops.toList = true) {i : Nat} {o : Oper} (hi : ops[i]? = some o) {s : St} {a : Act} {w : World} {K : St → Prop}
    (hn : s.n = n) (h : aopg TT P (ops.toList.map (·.dst)) s o K) (hC : CC x s a w) :
    wpOp P ops Q i (fun a' w' => ∃ s' u, K s' ∧ CC x s' a' w' ∧ a' = a.put o.dst u) a w := by
  have hdst : ∀ d, o.dst = some d → d < n := by
    intro d hd
    have hm : o ∈ ops.toList := by rw [List.mem_iff_getElem?]; exact ⟨i, by simpa using hi⟩
    have := List.all_eq_true.1 hb o hm
    rw [hd] at this
    simpa using this
  obtain ⟨ok, ρ, hCk⟩ := CC_iff.1 hC
  have hn' : a.tmps.size = n := by rw [hCk.size]; exact hn
  unfold wpOp
  simp only [hi]
  unfold aopg at h
  split at h
  · rename_i hg
    have hw : Region.wanted o (yielded ops a.tmps) = true := by simp [Region.wanted, hg]
    rw [if_pos hw]
    exact .inl (aop_sound hT hCk (fun d hd => by rw [hn]; exact hdst d hd) h (fun s' v w' hK hC' => ⟨s', v, hK, hC', rfl⟩))
  · rename_i j want hg
    split at h
    · rename_i d hd
      split at h
      · rename_i b hbv
        obtain ⟨h1, h2⟩ := h
        have hv := hCk.env d
        rw [hbv] at hv
        have hbe := hv.bool_eq
        have hoj : (ops[j]?).bind (·.dst) = some d := by
          rw [List.getElem?_map] at hd
          cases hoj : ops[j]? with
          | none => simp [hoj] at hd
          | some oj => simp [hoj] at hd; simp [hd]
        have hdl : d < a.tmps.size := by
          cases hoj2 : ops[j]? with
          | none => rw [hoj2] at hoj; simp at hoj
          | some oj =>
            rw [hoj2] at hoj
            have hm : oj ∈ ops.toList := by rw [List.mem_iff_getElem?]; exact ⟨j, by simpa using hoj2⟩
            have := List.all_eq_true.1 hb oj hm
            simp only [Option.bind_some] at hoj
            rw [hoj] at this
            rw [hn']
            simpa using this
        have hyield : yielded ops a.tmps j = some b := by
          simp only [yielded, hoj, Option.bind_some]
          have : a.tmps[d]? = some (.bool b) := by
            rw [Array.getElem?_eq_getElem hdl]
            simp [Array.getD, hdl] at hbe
            rw [hbe]
          rw [this]
        have hfix : ∀ c, b = c → CCk x (s.put (some d) (.d (.bool c))) a w ok ρ := by
          intro c hc
          subst hc
          obtain ⟨hI, hF, hE, hn', hd', hx⟩ := hCk
          refine ⟨hI, hF, fun q => ?_, hn', hd', hx⟩
          simp only [St.put, getE]
          split
          · rename_i e; subst e; rw [hbe]; exact .d .bool
          · exact hE q
        by_cases hbw : b = want
        · have hw : Region.wanted o (yielded ops a.tmps) = true := by simp [Region.wanted, hg, hyield, hbw]
          rw [if_pos hw]
          exact .inl (aop_sound hT (hfix want hbw) (fun d' hd' => by rw [St.put_n, hn]; exact hdst d' hd') (h1 hbw) (fun s' v w' hK hC' => ⟨s', v, hK, hC', rfl⟩))
        · have hbw' : b = !want := by cases b <;> cases want <;> simp_all
          have hw : ¬ Region.wanted o (yielded ops a.tmps) = true := by simp [Region.wanted, hg, hyield, hbw]
          rw [if_neg hw]
          exact ⟨_, _, h2 hbw', ((hfix _ hbw').put .any (fun d' hd' => by rw [St.put_n, hn]; exact hdst d' hd')).cc, rfl⟩
      · exact h.elim
    · exact h.elim

def gl (l : Array Bool) (j : Nat) : Bool := l.getD j false

/-- What an operation waits for. -/
def pre (ops : Array Oper) (j : Nat) : List Nat :=
  match ops[j]? with
  | some o => (o.after.toList.filter (Region.binds .any)).map (·.on)
  | none => []

/-- Of the part: what an operation waits for, directly or not; and itself. -/
def anc (ops : Array Oper) (is : List Nat) (j : Nat) : List Nat :=
  is.reverse.foldl (fun A p => if A.any (fun a => (pre ops a).contains p) = true then p :: A else A) [j]

def odst (ops : Array Oper) (i : Nat) : Option Nat := (ops[i]?).bind (·.dst)
def olook (ops : Array Oper) (i : Nat) : List Nat :=
  match ops[i]? with
  | some o => looks (ops.toList.map (·.dst)) o
  | none => []

/-- No two of the operations write to one slot. -/
def dstOk (ops : Array Oper) : List Nat → Bool
  | [] => true
  | i :: is => (odst ops i).isSome && is.all (fun j => odst ops j != odst ops i) && is.all (fun j => j != i) && dstOk ops is

theorem dstOk_inj : ∀ {is : List Nat} {i j t : Nat}, dstOk ops is = true → i ∈ is → j ∈ is → odst ops i = some t → odst ops j = some t → i = j := by
  intro is
  induction is with
  | nil => intro i j t _ hi; cases hi
  | cons q is ih =>
    intro i j t hd hi hj h1 h2
    simp only [dstOk, Bool.and_eq_true, List.all_eq_true, bne_iff_ne, ne_eq] at hd
    obtain ⟨⟨⟨_, h4⟩, _⟩, h3⟩ := hd
    rcases List.mem_cons.1 hi with e | hi'
    · rcases List.mem_cons.1 hj with e' | hj'
      · rw [e, e']
      · subst e; exact absurd (h2.trans h1.symm) (h4 j hj')
    · rcases List.mem_cons.1 hj with e' | hj'
      · subst e'; exact absurd (h1.trans h2.symm) (h4 i hi')
      · exact ih h3 hi' hj' h1 h2

/-- Nothing is done ahead of what it waits for. -/
def Closed (ops : Array Oper) (is : List Nat) (l : Array Bool) : Prop := ∀ i ∈ is, gl l i = true → ∀ p ∈ pre ops i, gl l p = true

theorem anc_done {is : List Nat} {l : Array Bool} {j : Nat} (hc : Closed ops is l) (hj : ∀ p ∈ pre ops j, gl l p = true) : ∀ a ∈ anc ops is j, a = j ∨ gl l a = true := by
  have key : ∀ (ps : List Nat) (A : List Nat), (∀ p ∈ ps, p ∈ is) → (∀ a ∈ A, (a = j ∨ gl l a = true) ∧ ∀ p ∈ pre ops a, gl l p = true) →
      ∀ a ∈ ps.foldl (fun A p => if A.any (fun a => (pre ops a).contains p) = true then p :: A else A) A, a = j ∨ gl l a = true := by
    intro ps
    induction ps with
    | nil => intro A _ hA a ha; exact (hA a ha).1
    | cons p ps ih =>
      intro A hp hA
      simp only [List.foldl_cons]
      refine ih _ (fun q hq => hp q (List.mem_cons_of_mem _ hq)) ?_
      intro a ha
      split at ha
      · rename_i hany
        rcases List.mem_cons.1 ha with e | ha'
        · subst e
          obtain ⟨b, hb, hbp⟩ := List.any_eq_true.1 hany
          have hg : gl l a = true := (hA b hb).2 a (by simpa using hbp)
          exact ⟨.inr hg, hc a (hp a (List.mem_cons_self ..)) hg⟩
        · exact hA a ha'
      · exact hA a ha
  exact key _ _ (fun p hp => List.mem_reverse.1 hp) (fun a ha => by
    obtain rfl := List.mem_singleton.1 ha
    exact ⟨.inl rfl, hj⟩)

theorem gl_set {l : Array Bool} {i j : Nat} (hi : i < l.size) : gl (l.setIfInBounds i true) j = if j = i then true else gl l j := by
  unfold gl
  by_cases e : j = i
  · subst e; simp [hi]
  · rw [if_neg e, getD_set_ne false (Ne.symm e)]

def preOk (ops : Array Oper) (l : Array Bool) : List Nat → List Nat → Bool
  | _, [] => true
  | done, i :: is => (pre ops i).all (fun p => gl l p || done.contains p) && preOk ops l (done ++ [i]) is

theorem preOk_spec {l : Array Bool} : ∀ (is done : List Nat), preOk ops l done is = true → ∀ k i, is[k]? = some i → ∀ p ∈ pre ops i, gl l p = true ∨ p ∈ done ++ is.take k := by
  intro is
  induction is with
  | nil => intro done _ k i hk; simp at hk
  | cons j is ih =>
    intro done h k i hk p hp
    simp only [preOk, Bool.and_eq_true, List.all_eq_true, Bool.or_eq_true, List.contains_iff_mem] at h
    cases k with
    | zero =>
      simp only [List.getElem?_cons_zero, Option.some.injEq] at hk
      subst hk
      simpa using h.1 p hp
    | succ k =>
      simp only [List.getElem?_cons_succ] at hk
      have := ih _ h.2 k i hk p hp
      simpa [List.append_assoc] using this

end
end Go.Fw
