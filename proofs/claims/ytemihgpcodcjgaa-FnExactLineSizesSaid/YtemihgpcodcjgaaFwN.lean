/- Why a caller gets what a contract says: the call itself. -/
import Derived.Test.YtemihgpcodcjgaaFwM
set_option linter.unusedSimpArgs false
set_option linter.unusedVariables false
namespace Go.Fw

section
variable {P : Program} {TT : Nat → Option TI} {w w' : World} {ok : Nat → Prop} {ρ : List (Option Nat)} {x : Ctx} {s : St} {a : Act}

/-- Behind the call: what the caller's state is. -/
theorem call_back {ids bs : List Nat} {os0 os os' : List O} {ok' : Nat → Prop} {ρ' : List (Option Nat)} {r : V} {v : Value} (hC : CCk x s a w ok ρ)
    (hnd : ids.Nodup) (hbs : ∀ i ∈ bs, i ∉ ids) (h0 : getO s.objs ids = some os0) (h1 : argOs s.objs ids bs os0 = some os) (hlv0 : ∀ o ∈ os0, o.live = true)
    (hI' : Inv w' ok' ρ' os') (hV : VRep w' ok' ρ' r v) (hF' : Frm ⟨w, okC s.objs ok ρ bs, rhoC ρ ids, os⟩ w' ok' ρ' os') (hfl : bs = [] ∨ (flatV r = true ∧ ∀ o ∈ os', flatO o)) :
    ∃ ok2 ρ2, CCk x { s with objs := backs ids s.objs.length s.objs os' } a w' ok2 ρ2 ∧ VRep w' ok2 ρ2 (backV ids s.objs.length r) v := by
  obtain ⟨hI, hF, hE, hn, hd, hx⟩ := hC
  let n := s.objs.length
  have hρn : ρ.length = n := hI.len
  obtain ⟨l0, g0⟩ := getO_get h0
  obtain ⟨l1, g1⟩ := argOs_get h1
  have hol : os.length = ids.length := by omega
  -- an object that is handed over, as the callee has it
  have hpass : ∀ (j i : Nat), ids[j]? = some i → ∃ o o', s.objs[i]? = some o ∧ os[j]? = some o' ∧ argO s.objs ids bs o = some o' := by
    intro j i hj
    obtain ⟨o, e1, e2⟩ := g0 j i hj
    obtain ⟨o', e3, e4⟩ := g1 j o e1
    exact ⟨o, o', e2, e3, e4⟩
  have hidlt : ∀ i ∈ ids, i < n := by
    intro i hi
    obtain ⟨j, hj⟩ := List.mem_iff_getElem?.1 hi
    obtain ⟨o, o', e, _⟩ := hpass j i hj
    exact (List.getElem?_eq_some_iff.1 e).1
  have hrhoC : ∀ (j i : Nat), ids[j]? = some i → ∃ b, ρ[i]? = some b ∧ ρ'[j]? = some b := by
    intro j i hj
    have hi := hidlt i (List.mem_of_getElem? hj)
    refine ⟨_, List.getElem?_eq_getElem (by omega), ?_⟩
    exact hF'.rho j _ (by simp only; have := (List.getElem?_eq_some_iff.1 hj).1; omega) (rhoC_get hj (List.getElem?_eq_getElem (by omega)))
  have hρ'l : ρ'.length ≥ ids.length := by
    rcases Nat.eq_zero_or_pos ids.length with hz | hp
    · omega
    · have hj : ids.length - 1 < ids.length := by omega
      obtain ⟨b, _, e⟩ := hrhoC _ _ (List.getElem?_eq_getElem hj)
      have := (List.getElem?_eq_some_iff.1 e).1
      omega
  have hos'l : os'.length ≥ ids.length := by rw [← hI'.len]; exact hρ'l
  let ρ2 := ρ ++ ρ'.drop ids.length
  let B : Nat → Prop := fun b => ∃ (id : Nat) (o : O), id ∈ bs ∧ s.objs[id]? = some o ∧ o.live = true ∧ ρ[id]? = some (some b)
  let ok2 : Nat → Prop := fun b => ok' b ∧ ¬ B b
  have hup : ∀ b, ok b → ok2 b := fun b hb => ⟨hF'.okup b (.inl hb), fun ⟨id, o, _, e1, e2, e3⟩ => hI.nok id o b e1 e2 e3 hb⟩
  have hρup : ∀ (id : Nat) (b : Option Nat), ρ[id]? = some b → ρ2[id]? = some b := fun id b h => by
    simp only [ρ2]; rw [List.getElem?_append_left (List.getElem?_eq_some_iff.1 h).1]; exact h
  have hback : ∀ (j : Nat) b, ρ'[j]? = some b → ρ2[backId ids n j]? = some b := by
    intro j b hb
    unfold backId
    cases hj : ids[j]? with
    | some i =>
      obtain ⟨b', e1, e2⟩ := hrhoC j i hj
      rw [hb] at e2
      obtain rfl : b = b' := by simpa using e2
      exact hρup _ _ e1
    | none =>
      have hge : ids.length ≤ j := List.getElem?_eq_none_iff.1 hj
      simp only [ρ2]
      rw [List.getElem?_append_right (by omega), List.getElem?_drop, show ids.length + (n + (j - ids.length) - ρ.length) = j by omega]
      exact hb
  have hok : (∀ b, ok' b → ok2 b) ∨ (flatV r = true ∧ ∀ o ∈ os', flatO o) := by
    rcases hfl with h | h
    · subst h
      exact .inl fun b hb => ⟨hb, fun ⟨id, o, hm, _⟩ => by simp at hm⟩
    · exact .inr h
  -- what the callee may have turned
  have hshape : ∀ b q, w.shape? b = some q → w'.shape? b = some q := hF'.shape
  have hblk : ∀ b, b < w.heap.size → (∀ (i : Nat) (o : O), i ∈ ids → s.objs[i]? = some o → o.live = true → ρ[i]? ≠ some (some b)) → w'.heap[b]? = w.heap[b]? := by
    intro b hb hne
    refine hF'.block b hb (fun j o' hj hl hbj => ?_)
    simp only at hj hbj
    have hjl : j < ids.length := by have := (List.getElem?_eq_some_iff.1 hj).1; omega
    obtain ⟨o, o2, e1, e2, e3⟩ := hpass j _ (List.getElem?_eq_getElem hjl)
    rw [hj] at e2
    obtain rfl : o' = o2 := by simpa using e2
    have hlv : o.live = true := by rw [← argO_live e3]; exact hl
    have hil := hidlt _ (List.getElem_mem hjl)
    have hbb := rhoC_get (ρ := ρ) (List.getElem?_eq_getElem hjl) (List.getElem?_eq_getElem (by omega : ids[j] < ρ.length))
    rw [hbj] at hbb
    refine hne _ o (List.getElem_mem hjl) e1 hlv ?_
    rw [List.getElem?_eq_getElem (by omega : ids[j] < ρ.length)]
    exact hbb.symm
  have hokb : ∀ b, ok b → w'.heap[b]? = w.heap[b]? := fun b hb => hblk b (hI.okb b hb) (fun i o _ e1 e2 e3 => hI.nok i o b e1 e2 e3 hb)
  -- the callee's live objects' blocks
  have hcal : ∀ (j : Nat) (o : O) (b : Nat), os'[j]? = some o → o.live = true → ρ'[j]? = some (some b) → w.heap.size ≤ b ∨ ∃ (i : Nat) (q : O), i ∈ ids ∧ s.objs[i]? = some q ∧ q.live = true ∧ ρ[i]? = some (some b) := by
    intro j o b hj hl hb
    rcases hF'.own j o b hj hl hb with h | ⟨i0, o0, e1, e2, e3⟩
    · exact .inl h
    · simp only at e1 e3
      have hjl : i0 < ids.length := by have := (List.getElem?_eq_some_iff.1 e1).1; omega
      obtain ⟨q, q2, f1, f2, f3⟩ := hpass i0 _ (List.getElem?_eq_getElem hjl)
      rw [e1] at f2
      obtain rfl : o0 = q2 := by simpa using f2
      have hil := hidlt _ (List.getElem_mem hjl)
      have hbb := rhoC_get (ρ := ρ) (List.getElem?_eq_getElem hjl) (List.getElem?_eq_getElem (by omega : ids[i0] < ρ.length))
      rw [e3] at hbb
      exact .inr ⟨_, q, List.getElem_mem hjl, f1, by rw [← argO_live f3]; exact e2, by rw [List.getElem?_eq_getElem (by omega : ids[i0] < ρ.length)]; exact hbb.symm⟩
  -- the objects behind the call
  let objs2 := backs ids n s.objs os'
  have hset := sets_get (n := n) (q := ids) ids os' s.objs hnd hos'l hidlt
  have hfl2 : ((ids.zip os').foldl (fun l p => l.set p.1 (backO ids n p.2)) s.objs).length = n := by
    have : ∀ (z : List (Nat × O)) (l : List O), (z.foldl (fun l p => l.set p.1 (backO ids n p.2)) l).length = l.length := by
      intro z
      induction z with
      | nil => intro l; rfl
      | cons p z ih => intro l; simp [ih]
    exact this _ _
  have hgo : ∀ (id : Nat) (o : O), objs2[id]? = some o → (id < n ∧ idx ids id = none ∧ s.objs[id]? = some o) ∨ (∃ (j : Nat) (o' : O), os'[j]? = some o' ∧ o = backO ids n o' ∧ id = backId ids n j) := by
    intro id o h
    simp only [objs2, backs] at h
    rcases Nat.lt_or_ge id n with hlt | hge
    · rw [List.getElem?_append_left (by rw [hfl2]; exact hlt), hset id] at h
      cases hi : idx ids id with
      | none => rw [hi] at h; exact .inl ⟨hlt, rfl, h⟩
      | some j =>
        rw [hi] at h
        simp only at h
        cases ho : os'[j]? with
        | none => rw [ho] at h; simp at h
        | some o' =>
          rw [ho] at h
          exact .inr ⟨j, o', ho, by simpa using h.symm, by simp [backId, idx_get hi]⟩
    · rw [List.getElem?_append_right (by rw [hfl2]; exact hge), hfl2, List.getElem?_map, List.getElem?_drop] at h
      cases ho : os'[ids.length + (id - n)]? with
      | none => rw [ho] at h; simp at h
      | some o' =>
        rw [ho] at h
        refine .inr ⟨_, o', ho, by simpa using h.symm, ?_⟩
        simp only [backId]
        rw [List.getElem?_eq_none (by omega)]
        simp only
        omega
  have hlen2 : objs2.length = n + (os'.length - ids.length) := by simp only [objs2, backs, List.length_append, hfl2, List.length_map, List.length_drop]
  have hback2 : ∀ (j : Nat) (b : Nat), j < os'.length → ρ2[backId ids n j]? = some (some b) → ρ'[j]? = some (some b) := by
    intro j b hj hb
    have hjl : j < ρ'.length := by rw [hI'.len]; exact hj
    have := hback j _ (List.getElem?_eq_getElem hjl)
    rw [hb] at this
    rw [List.getElem?_eq_getElem hjl]
    exact this.symm
  have hold2 : ∀ (id : Nat) (b : Nat), id < n → ρ2[id]? = some (some b) → ρ[id]? = some (some b) := by
    intro id b hlt hb
    simp only [ρ2] at hb
    rwa [List.getElem?_append_left (by omega)] at hb
  have hbinj : ∀ (i j : Nat), i < os'.length → j < os'.length → backId ids n i = backId ids n j → i = j := by
    intro i j hi hj h
    unfold backId at h
    cases e1 : ids[i]? with
    | some p =>
      rw [e1] at h
      have hp := hidlt p (List.mem_of_getElem? e1)
      cases e2 : ids[j]? with
      | some q =>
        rw [e2] at h
        simp only at h
        subst h
        have := get_idx hnd e1
        have h2 := get_idx hnd e2
        rw [this] at h2
        simpa using h2
      | none => rw [e2] at h; simp only at h; omega
    | none =>
      rw [e1] at h
      have g1 := List.getElem?_eq_none_iff.1 e1
      cases e2 : ids[j]? with
      | some q =>
        rw [e2] at h
        have hq := hidlt q (List.mem_of_getElem? e2)
        simp only at h
        omega
      | none =>
        rw [e2] at h
        have g2 := List.getElem?_eq_none_iff.1 e2
        simp only at h
        omega
  -- an object of the caller's own that was not handed over lies apart from what the callee has
  have hapart : ∀ (id : Nat) (o : O) (b j : Nat) (q : O), s.objs[id]? = some o → o.live = true → idx ids id = none → ρ[id]? = some (some b) → os'[j]? = some q → q.live = true → ρ'[j]? = some (some b) → False := by
    intro id o b j q e1 e2 e3 e4 e5 e6 e7
    rcases hcal j q b e5 e6 e7 with h | ⟨i, q2, f1, f2, f3, f4⟩
    · have := hI.live_lt e1 e2 e4; omega
    · have := hI.dis id i o q2 b e1 f2 e2 f3 e4 f4
      subst this
      exact idx_none e3 f1
  have hInv : Inv w' ok2 ρ2 objs2 := by
    refine ⟨?_, fun b hb => hI'.okb b hb.1, ?_, ?_, ?_⟩
    · rw [hlen2]; simp only [ρ2, List.length_append, List.length_drop, hI'.len]; omega
    · intro id o h
      rcases hgo id o h with ⟨hlt, hi, ho⟩ | ⟨j, o', hj, rfl, rfl⟩
      · refine (hI.own id o ho).mono hokb hup hshape hρup (fun hl b hb => hblk b (hI.live_lt ho hl hb) (fun i q hm e1 e2 e3 => ?_))
        have := hI.dis id i o q b ho e1 hl e2 hb e3
        subst this
        exact idx_none hi hm
      · exact backO_sound hok hback (hI'.own j o' hj) rfl (fun hF => hF.2 o' (List.mem_of_getElem? hj))
    · intro i j oi oj b hi hj hli hlj hbi hbj
      rcases hgo i oi hi with ⟨hlt, hii, hoi⟩ | ⟨p, op, hp, rfl, rfl⟩
      · rcases hgo j oj hj with ⟨hlt2, hjj, hoj⟩ | ⟨q, oq, hq, rfl, rfl⟩
        · exact hI.dis i j oi oj b hoi hoj hli hlj (hold2 _ _ hlt hbi) (hold2 _ _ hlt2 hbj)
        · exact (hapart i oi b q oq hoi hli hii (hold2 _ _ hlt hbi) hq (by rwa [backO_live] at hlj) (hback2 _ _ (List.getElem?_eq_some_iff.1 hq).1 hbj)).elim
      · rcases hgo j oj hj with ⟨hlt2, hjj, hoj⟩ | ⟨q, oq, hq, rfl, rfl⟩
        · exact (hapart j oj b p op hoj hlj hjj (hold2 _ _ hlt2 hbj) hp (by rwa [backO_live] at hli) (hback2 _ _ (List.getElem?_eq_some_iff.1 hp).1 hbi)).elim
        · have := hI'.dis p q op oq b hp hq (by rwa [backO_live] at hli) (by rwa [backO_live] at hlj) (hback2 _ _ (List.getElem?_eq_some_iff.1 hp).1 hbi) (hback2 _ _ (List.getElem?_eq_some_iff.1 hq).1 hbj)
          rw [this]
    · intro i o b hi hl hb ⟨hk, hnB⟩
      rcases hgo i o hi with ⟨hlt, hii, hoi⟩ | ⟨p, op, hp, rfl, rfl⟩
      · have hb' := hold2 _ _ hlt hb
        rcases hF'.okdn b hk with h | h | ⟨i0, o0, e1, e2, e3, e4⟩
        · rcases h with h | h
          · exact hI.nok i o b hoi hl hb' h
          · exact hnB h
        · have := hI.live_lt hoi hl hb'; simp only at h; omega
        · simp only at e1 e3
          have hjl : i0 < ids.length := by have := (List.getElem?_eq_some_iff.1 e1).1; omega
          obtain ⟨q, q2, f1, f2, f3⟩ := hpass i0 _ (List.getElem?_eq_getElem hjl)
          rw [e1] at f2
          obtain rfl : o0 = q2 := by simpa using f2
          have hil := hidlt _ (List.getElem_mem hjl)
          have hbb := rhoC_get (ρ := ρ) (List.getElem?_eq_getElem hjl) (List.getElem?_eq_getElem (by omega : ids[i0] < ρ.length))
          rw [e3] at hbb
          have := hI.dis i _ o q b hoi f1 hl (by rw [← argO_live f3]; exact e2) hb' (by rw [List.getElem?_eq_getElem (by omega : ids[i0] < ρ.length)]; exact hbb.symm)
          exact idx_none hii (this ▸ List.getElem_mem hjl)
      · exact hI'.nok p op b hp (by rwa [backO_live] at hl) (hback2 _ _ (List.getElem?_eq_some_iff.1 hp).1 hb) hk
  have hdead : ∀ id : Nat, s.objs[id]? = some .dead → objs2[id]? = some .dead := by
    intro id h
    have hlt := (List.getElem?_eq_some_iff.1 h).1
    have hlt2 : id < objs2.length := by omega
    rcases hgo id _ (List.getElem?_eq_getElem hlt2) with ⟨_, _, h2⟩ | ⟨j, o', hj, e1, e2⟩
    · rw [List.getElem?_eq_getElem hlt2, ← h2, h]
    · rw [List.getElem?_eq_getElem hlt2, e1]
      have hjn : ∃ i, ids[j]? = some i := by
        cases hji : ids[j]? with
        | some i => exact ⟨i, rfl⟩
        | none => simp only [backId, hji] at e2; have : id < n := hlt; omega
      obtain ⟨i, hji⟩ := hjn
      have hid : id = i := by simpa [backId, hji] using e2
      subst hid
      obtain ⟨o, f1, f2⟩ := g0 j id hji
      rw [h] at f2
      obtain rfl : O.dead = o := by simpa using f2
      have := hlv0 _ (List.mem_of_getElem? f1)
      simp [O.live] at this
  have hFrm : Frm x w' ok2 ρ2 objs2 := by
    refine ⟨hF'.os.trans hF.os, hF'.tape.trans hF.tape, hF'.output.trans hF.output, Nat.le_trans hF.size hF'.size, ?_, fun b q h => hshape b q (hF.shape b q h), fun b h => hup b (hF.okup b h), ?_, fun i b hl h => hρup i b (hF.rho i b hl h), ?_⟩
    · intro b hlt hne
      rw [hblk b (Nat.lt_of_lt_of_le hlt hF.size) (fun i o _ e1 e2 e3 => ?_)]
      · exact hF.block b hlt hne
      · rcases hF.own i o b e1 e2 e3 with h | ⟨i0, o0, f1, f2, f3⟩
        · omega
        · exact hne i0 o0 f1 f2 f3
    · intro b ⟨hk, hnB⟩
      rcases hF'.okdn b hk with h | h | ⟨i0, o0, e1, e2, e3, e4⟩
      · rcases h with h | h
        · rcases hF.okdn b h with h | h | ⟨i, o, f1, f2, f3, f4⟩
          · exact .inl h
          · exact .inr (.inl h)
          · exact .inr (.inr ⟨i, o, f1, f2, f3, hdead i f4⟩)
        · exact absurd h hnB
      · exact .inr (.inl (Nat.le_trans hF.size h))
      · simp only at e1 e3
        have hjl : i0 < ids.length := by have := (List.getElem?_eq_some_iff.1 e1).1; omega
        obtain ⟨q, q2, f1, f2, f3⟩ := hpass i0 _ (List.getElem?_eq_getElem hjl)
        rw [e1] at f2
        obtain rfl : o0 = q2 := by simpa using f2
        have hil := hidlt _ (List.getElem_mem hjl)
        have hbb := rhoC_get (ρ := ρ) (List.getElem?_eq_getElem hjl) (List.getElem?_eq_getElem (by omega : ids[i0] < ρ.length))
        rw [e3] at hbb
        have hb' : ρ[ids[i0]]? = some (some b) := by rw [List.getElem?_eq_getElem (by omega : ids[i0] < ρ.length)]; exact hbb.symm
        have hql : q.live = true := by rw [← argO_live f3]; exact e2
        rcases hF.own _ q b f1 hql hb' with h | ⟨i, o, g1, g2, g3⟩
        · exact .inr (.inl h)
        · refine .inr (.inr ⟨i, o, g1, g2, g3, ?_⟩)
          have hρi := hF.rho i _ (List.getElem?_eq_some_iff.1 g1).1 g3
          have hilt : i < s.objs.length := by have := (List.getElem?_eq_some_iff.1 hρi).1; omega
          cases hoi : s.objs[i]? with
          | none => have := List.getElem?_eq_none_iff.1 hoi; omega
          | some oi =>
            by_cases hlv : oi.live = true
            · have := hI.dis i _ oi q b hoi f1 hlv hql hρi hb'
              subst this
              have hlt2 : ids[i0] < objs2.length := by omega
              rcases hgo _ _ (List.getElem?_eq_getElem hlt2) with ⟨_, h2, _⟩ | ⟨j, o', hj, k1, k2⟩
              · exact absurd (List.getElem_mem hjl) (idx_none h2)
              · rw [List.getElem?_eq_getElem hlt2, k1]
                have hji : j = i0 := by
                  refine hbinj j i0 (List.getElem?_eq_some_iff.1 hj).1 (List.getElem?_eq_some_iff.1 e4).1 ?_
                  rw [← k2]
                  simp [backId, List.getElem?_eq_getElem hjl]
                subst hji
                rw [e4] at hj
                obtain rfl : O.dead = o' := by simpa using hj
                rfl
            · have : oi = .dead := by cases oi <;> simp [O.live] at hlv; rfl
              subst this
              exact hdead i hoi
    · intro i o b hi hl hb
      rcases hgo i o hi with ⟨hlt, hii, hoi⟩ | ⟨p, op, hp, rfl, rfl⟩
      · exact hF.own i o b hoi hl (hold2 _ _ hlt hb)
      · rcases hcal p op b hp (by rwa [backO_live] at hl) (hback2 _ _ (List.getElem?_eq_some_iff.1 hp).1 hb) with h | ⟨j, q, _, f1, f2, f3⟩
        · exact .inl (Nat.le_trans hF.size h)
        · exact hF.own j q b f1 f2 f3
  exact ⟨ok2, ρ2, ⟨hInv, hFrm, fun j => (hE j).mono hokb hup hshape hρup, hn, hd, hx⟩, backV_sound hok hback hV (fun hF => hF.1)⟩

theorem call_sound {f : Nat} {args : List V} {vs : Array Value} {K : V → St → Prop} (hC : CCk x s a w ok ρ) (hsz : vs.size = args.length) (hargs : ∀ (i : Nat) y, args[i]? = some y → VRep w ok ρ y (vs.getD i undef))
    (h : ACall P s f args K) : callable P f = true ∧ Calls P f vs w fun e w' => ∃ v, e = .returned v ∧ ∃ y s' ok2 ρ2, K y s' ∧ s'.env = s.env ∧ s'.n = s.n ∧ s'.fx = s.fx ∧ CCk x s' a w' ok2 ρ2 ∧ VRep w' ok2 ρ2 y v := by
  obtain ⟨ids, bs, args', os0, os, h1, h2, h3, h4, h5, h6, h7⟩ := h
  have hI := hC.inv
  obtain ⟨l0, g0⟩ := getO_get h4
  obtain ⟨l1, g1⟩ := argOs_get h5
  obtain ⟨la, ga⟩ := argVs_get h1
  have hpass : ∀ (j : Nat) (o' : O), os[j]? = some o' → ∃ i o, ids[j]? = some i ∧ s.objs[i]? = some o ∧ argO s.objs ids bs o = some o' := by
    intro j o' hj
    have hjl : j < ids.length := by have := (List.getElem?_eq_some_iff.1 hj).1; omega
    obtain ⟨o, e1, e2⟩ := g0 j _ (List.getElem?_eq_getElem hjl)
    obtain ⟨o2, e3, e4⟩ := g1 j o e1
    rw [hj] at e3
    obtain rfl : o' = o2 := by simpa using e3
    exact ⟨_, o, List.getElem?_eq_getElem hjl, e2, e4⟩
  have hrho : ∀ (j i : Nat) (b : Nat), ids[j]? = some i → (rhoC ρ ids)[j]? = some (some b) → ρ[i]? = some (some b) := by
    intro j i b hj hb
    simp only [rhoC, List.getElem?_map, hj, Option.map_some, Option.some.injEq] at hb
    cases hr : ρ[i]? with
    | none => rw [hr] at hb; simp at hb
    | some q => rw [hr] at hb; simp at hb; rw [hb]
  have hIc : Inv w (okC s.objs ok ρ bs) (rhoC ρ ids) os := by
    refine ⟨by simp [rhoC]; omega, ?_, ?_, ?_, ?_⟩
    · rintro b (hb | ⟨id, o, _, e1, e2, e3⟩)
      · exact hI.okb b hb
      · exact hI.live_lt e1 e2 e3
    · intro j o' hj
      obtain ⟨i, o, e1, e2, e3⟩ := hpass j o' hj
      exact argO_sound hI e1 (hI.own i o e2) e3
    · intro i j oi oj b hi hj hli hlj hbi hbj
      obtain ⟨p, o1, e1, e2, e3⟩ := hpass i oi hi
      obtain ⟨q, o2, f1, f2, f3⟩ := hpass j oj hj
      have := hI.dis p q o1 o2 b e2 f2 (by rw [← argO_live e3]; exact hli) (by rw [← argO_live f3]; exact hlj) (hrho i p b e1 hbi) (hrho j q b f1 hbj)
      subst this
      have k1 := get_idx h2 e1
      have k2 := get_idx h2 f1
      rw [k1] at k2
      simpa using k2
    · intro j o' b hj hl hb hk
      obtain ⟨i, o, e1, e2, e3⟩ := hpass j o' hj
      have hlo : o.live = true := by rw [← argO_live e3]; exact hl
      rcases hk with hk | ⟨id, q, f0, f1, f2, f3⟩
      · exact hI.nok i o b e2 hlo (hrho j i b e1 hb) hk
      · have := hI.dis i id o q b e2 f1 hlo f2 (hrho j i b e1 hb) f3
        subst this
        exact h3 i f0 (List.mem_of_getElem? e1)
  refine ⟨h7.1, ?_⟩
  refine (h7.2 w (okC s.objs ok ρ bs) (rhoC ρ ids) vs hIc (by omega) (fun i y hi => ?_)).mono ?_
  · have hil := (List.getElem?_eq_some_iff.1 hi).1
    obtain ⟨y', e1, e2⟩ := ga i _ (List.getElem?_eq_getElem (by omega : i < args.length))
    rw [hi] at e1
    obtain rfl : y = y' := by simpa using e1
    exact argV_sound hI (hargs i _ (List.getElem?_eq_getElem (by omega : i < args.length))) e2
  · rintro e w' ⟨v, r, os', ok', ρ', rfl, ⟨hfl, hK⟩, hI', hV', hF'⟩
    obtain ⟨ok2, ρ2, k1, k2⟩ := call_back hC h2 h3 h4 h5 h6 hI' hV' hF' hfl
    exact ⟨v, rfl, _, _, ok2, ρ2, hK, rfl, rfl, rfl, k1, k2⟩

end
end Go.Fw
