/- How the store stays borne: a new object, a write, an object that is given up, one that gets a new name. -/
import Derived.Test.YtemihgpcodcjgaaFwF
set_option linter.unusedSimpArgs false
set_option linter.unusedVariables false
namespace Go.Fw

section
variable {w w' : World} {ok : Nat → Prop} {ρ : List (Option Nat)} {objs : List O} {x : Ctx}

theorem ORep.at {w : World} {ok : Nat → Prop} {ρ ρ' : List (Option Nat)} {i j : Nat} {o : O} (h : ORep w ok ρ i o) (hρ : ∀ (id : Nat) (b : Option Nat), ρ[id]? = some b → ρ'[id]? = some b)
    (hij : ∀ b : Option Nat, ρ[i]? = some b → ρ'[j]? = some b) : ORep w ok ρ' j o := by
  cases o with
  | dead => trivial
  | box cells =>
    obtain ⟨b, cs, t, h1, h2, h3, h4⟩ := h
    exact ⟨b, cs, t, hij _ h1, h2, h3, fun k c hk => (h4 k c hk).mono (fun _ _ => rfl) (fun _ h => h) (fun _ _ h => h) hρ⟩
  | arr sz rows =>
    obtain ⟨h0, h⟩ := h
    refine ⟨h0, ?_⟩
    rcases h with ⟨h1, h2⟩ | ⟨b, cs, t, h1, h2, h3, h4⟩
    · exact .inl ⟨h1, hij _ h2⟩
    · exact .inr ⟨b, cs, t, hij _ h1, h2, h3, h4⟩

theorem getElem?_snoc_old {α : Type} {l : List α} {y : α} {i : Nat} {z : α} (h : l[i]? = some z) : (l ++ [y])[i]? = some z := by
  rw [List.getElem?_append_left (List.getElem?_eq_some_iff.1 h).1]; exact h

theorem getElem?_snoc {α : Type} {l : List α} {y : α} {i : Nat} {z : α} (h : (l ++ [y])[i]? = some z) : l[i]? = some z ∨ (i = l.length ∧ z = y) := by
  rcases Nat.lt_or_ge i l.length with hi | hi
  · rw [List.getElem?_append_left hi] at h; exact .inl h
  · rw [List.getElem?_append_right hi] at h
    cases hk : i - l.length with
    | zero => rw [hk] at h; exact .inr ⟨by omega, by simpa using h.symm⟩
    | succ k => rw [hk] at h; simp at h

theorem Inv.live_lt (h : Inv w ok ρ objs) {id b : Nat} {o : O} (ho : objs[id]? = some o) (hl : o.live = true) (hb : ρ[id]? = some (some b)) : b < w.heap.size := by
  have := h.own id o ho
  cases o with
  | dead => simp [O.live] at hl
  | box cells =>
    obtain ⟨b', cs, t, h1, h2, _⟩ := this
    obtain rfl : b = b' := by rw [hb] at h1; simpa using h1
    exact (Array.getElem?_eq_some_iff.1 h2).1
  | arr sz rows =>
    obtain ⟨_, ⟨_, h2⟩ | ⟨b', cs, t, h1, h2, _⟩⟩ := this
    · rw [hb] at h2; simp at h2
    · obtain rfl : b = b' := by rw [hb] at h1; simpa using h1
      exact (Array.getElem?_eq_some_iff.1 h2).1

theorem shape_of_block {b : Nat} (h : w'.heap[b]? = w.heap[b]?) : w'.shape? b = w.shape? b := by simp [World.shape?, h]

theorem shape_lt {b : Nat} {s : TypeId × Nat} (h : w.shape? b = some s) : b < w.heap.size := by
  unfold World.shape? at h
  split at h
  · rename_i hb; exact (Array.getElem?_eq_some_iff.1 hb).1
  · simp at h

/-- A new object in new memory (or nowhere yet). -/
theorem step_new (hI : Inv w ok ρ objs) (hF : Frm x w ok ρ objs) (hsz : w.heap.size ≤ w'.heap.size) (hold : ∀ b, b < w.heap.size → w'.heap[b]? = w.heap[b]?)
    (hos : w'.os = w.os) (htape : w'.tape = w.tape) (hout : w'.output = w.output) (bo : Option Nat) (hb : ∀ b, bo = some b → w.heap.size ≤ b) {o : O}
    (ho : ORep w' ok (ρ ++ [bo]) objs.length o) :
    Inv w' ok (ρ ++ [bo]) (objs ++ [o]) ∧ Frm x w' ok (ρ ++ [bo]) (objs ++ [o]) ∧ ∀ V v, VRep w ok ρ V v → VRep w' ok (ρ ++ [bo]) V v := by
  have hρ : ∀ (id : Nat) (b : Option Nat), ρ[id]? = some b → (ρ ++ [bo])[id]? = some b := fun id b h => getElem?_snoc_old h
  have hok : ∀ b, ok b → w'.heap[b]? = w.heap[b]? := fun b h => hold b (hI.okb b h)
  have hshape : ∀ b s, w.shape? b = some s → w'.shape? b = some s := fun b s h => by rw [shape_of_block (hold b (shape_lt h))]; exact h
  have hlen : (ρ ++ [bo])[objs.length]? = some bo := by rw [← hI.len]; simp
  have hidx : ∀ (id : Nat) (b : Nat), id ≠ objs.length → (ρ ++ [bo])[id]? = some (some b) → ρ[id]? = some (some b) := by
    intro id b hne h
    rcases getElem?_snoc h with h | ⟨h, _⟩
    · exact h
    · rw [hI.len] at h; exact absurd h hne
  have hltobj : ∀ (id : Nat) (o : O), objs[id]? = some o → id ≠ objs.length := fun id o h => by have := (List.getElem?_eq_some_iff.1 h).1; omega
  refine ⟨⟨by simp [hI.len], fun b h => Nat.lt_of_lt_of_le (hI.okb b h) hsz, ?_, ?_, ?_⟩, ⟨hos.trans hF.os, htape.trans hF.tape, hout.trans hF.output, Nat.le_trans hF.size hsz, ?_, ?_, hF.okup, ?_, ?_, ?_⟩, ?_⟩
  · intro id o' h
    rcases getElem?_snoc h with h | ⟨rfl, rfl⟩
    · exact (hI.own id o' h).mono hok (fun _ h => h) hshape hρ (fun hl b hb' => hold b (hI.live_lt h hl hb'))
    · exact ho
  · intro i j oi oj b hi hj hli hlj hbi hbj
    rcases getElem?_snoc hi with hi1 | ⟨e1, e2⟩
    · rcases getElem?_snoc hj with hj1 | ⟨f1, f2⟩
      · exact hI.dis i j oi oj b hi1 hj1 hli hlj (hidx _ _ (hltobj _ _ hi1) hbi) (hidx _ _ (hltobj _ _ hj1) hbj)
      · have h1 := hI.live_lt hi1 hli (hidx _ _ (hltobj _ _ hi1) hbi)
        rw [f1, hlen] at hbj
        have := hb b (by simpa using hbj)
        omega
    · rcases getElem?_snoc hj with hj1 | ⟨f1, f2⟩
      · have h1 := hI.live_lt hj1 hlj (hidx _ _ (hltobj _ _ hj1) hbj)
        rw [e1, hlen] at hbi
        have := hb b (by simpa using hbi)
        omega
      · rw [e1, f1]
  · intro i o' b hi hl hbi hk
    rcases getElem?_snoc hi with hi | ⟨rfl, rfl⟩
    · exact hI.nok i o' b hi hl (hidx _ _ (hltobj _ _ hi) hbi) hk
    · rw [hlen] at hbi
      have := hb b (by simpa using hbi)
      have := hI.okb b hk
      omega
  · intro b hlt hne
    rw [hold b (Nat.lt_of_lt_of_le hlt hF.size)]
    exact hF.block b hlt hne
  · intro b s h; exact hshape b s (hF.shape b s h)
  · intro b h
    rcases hF.okdn b h with h | h | ⟨id, o', h1, h2, h3, h4⟩
    · exact .inl h
    · exact .inr (.inl h)
    · exact .inr (.inr ⟨id, o', h1, h2, h3, getElem?_snoc_old h4⟩)
  · intro id b hl h; exact hρ id b (hF.rho id b hl h)
  · intro id o' b hi hl hbi
    rcases getElem?_snoc hi with hi | ⟨rfl, rfl⟩
    · exact hF.own id o' b hi hl (hidx _ _ (hltobj _ _ hi) hbi)
    · rw [hlen] at hbi
      exact .inl (Nat.le_trans hF.size (hb b (by simpa using hbi)))
  · intro V v h; exact h.mono hok (fun _ h => h) hshape hρ

/-- A write to an object. -/
theorem step_write (hI : Inv w ok ρ objs) (hF : Frm x w ok ρ objs) {id b : Nat} {o o' : O} (hid : objs[id]? = some o) (hl : o.live = true) (hb : ρ[id]? = some (some b))
    (hsz : w'.heap.size = w.heap.size) (hold : ∀ k, k ≠ b → w'.heap[k]? = w.heap[k]?) (hsh : w'.shape? b = w.shape? b)
    (hos : w'.os = w.os) (htape : w'.tape = w.tape) (hout : w'.output = w.output) (ho : ORep w' ok ρ id o') (hl' : o'.live = true) :
    Inv w' ok ρ (objs.set id o') ∧ Frm x w' ok ρ (objs.set id o') ∧ ∀ V v, VRep w ok ρ V v → VRep w' ok ρ V v := by
  have hok : ∀ k, ok k → w'.heap[k]? = w.heap[k]? := fun k h => hold k (fun e => hI.nok id o b hid hl hb (e ▸ h))
  have hshape : ∀ k s, w.shape? k = some s → w'.shape? k = some s := by
    intro k s h
    by_cases e : k = b
    · subst e; rw [hsh]; exact h
    · rw [shape_of_block (hold k e)]; exact h
  have hlt := (List.getElem?_eq_some_iff.1 hid).1
  have hset : ∀ (i : Nat) (q : O), (objs.set id o')[i]? = some q → (i = id ∧ q = o') ∨ (i ≠ id ∧ objs[i]? = some q) := by
    intro i q h
    by_cases e : i = id
    · subst e; rw [List.getElem?_set_self hlt] at h; exact .inl ⟨rfl, by simpa using h.symm⟩
    · rw [List.getElem?_set_ne (Ne.symm e)] at h; exact .inr ⟨e, h⟩
  have hold' : ∀ (i : Nat) (q : O), (objs.set id o')[i]? = some q → q.live = true → ∃ q', objs[i]? = some q' ∧ q'.live = true := by
    intro i q h hq
    rcases hset i q h with ⟨rfl, rfl⟩ | ⟨_, h⟩
    · exact ⟨o, hid, hl⟩
    · exact ⟨q, h, hq⟩
  refine ⟨⟨by simp [hI.len], fun k h => by rw [hsz]; exact hI.okb k h, ?_, ?_, ?_⟩, ⟨hos.trans hF.os, htape.trans hF.tape, hout.trans hF.output, by rw [hsz]; exact hF.size, ?_, ?_, hF.okup, ?_, hF.rho, ?_⟩, ?_⟩
  · intro i q h
    rcases hset i q h with ⟨rfl, rfl⟩ | ⟨hne, h⟩
    · exact ho
    · refine (hI.own i q h).mono hok (fun _ h => h) hshape (fun _ _ h => h) (fun hq k hk => hold k (fun e => hne ?_))
      subst e
      exact hI.dis i id q o k h hid hq hl hk hb
  · intro i j oi oj k hi hj hli hlj hki hkj
    obtain ⟨q1, h1, h2⟩ := hold' i oi hi hli
    obtain ⟨q2, h3, h4⟩ := hold' j oj hj hlj
    exact hI.dis i j q1 q2 k h1 h3 h2 h4 hki hkj
  · intro i q k hi hq hk
    obtain ⟨q1, h1, h2⟩ := hold' i q hi hq
    exact hI.nok i q1 k h1 h2 hk
  · intro k hk hne
    rw [hold k ?_]
    · exact hF.block k hk hne
    · rintro rfl
      rcases hF.own id o k hid hl hb with h | ⟨i0, o0, h1, h2, h3⟩
      · omega
      · exact hne i0 o0 h1 h2 h3
  · intro k s h; exact hshape k s (hF.shape k s h)
  · intro k h
    rcases hF.okdn k h with h | h | ⟨i, q, h1, h2, h3, h4⟩
    · exact .inl h
    · exact .inr (.inl h)
    · refine .inr (.inr ⟨i, q, h1, h2, h3, ?_⟩)
      rw [List.getElem?_set_ne]
      · exact h4
      · rintro rfl; rw [hid] at h4; simp at h4; subst h4; simp [O.live] at hl
  · intro i q k hi hq hk
    obtain ⟨q1, h1, h2⟩ := hold' i q hi hq
    exact hF.own i q1 k h1 h2 hk
  · intro V v h; exact h.mono hok (fun _ h => h) hshape (fun _ _ h => h)

/-- An object is given up. -/
theorem step_kill (hI : Inv w ok ρ objs) (hF : Frm x w ok ρ objs) (id : Nat) : Inv w ok ρ (objs.set id .dead) ∧ Frm x w ok ρ (objs.set id .dead) := by
  have hset : ∀ (i : Nat) (q : O), (objs.set id .dead)[i]? = some q → q = .dead ∨ objs[i]? = some q := by
    intro i q h
    by_cases e : i = id
    · subst e
      rw [List.getElem?_set] at h
      split at h
      · split at h
        · exact .inl (by simpa using h.symm)
        · simp at h
      · exact .inr h
    · rw [List.getElem?_set_ne (Ne.symm e)] at h; exact .inr h
  have hlv : ∀ (i : Nat) (q : O), (objs.set id .dead)[i]? = some q → q.live = true → objs[i]? = some q := by
    intro i q h hq
    rcases hset i q h with rfl | h
    · simp [O.live] at hq
    · exact h
  refine ⟨⟨by simp [hI.len], hI.okb, ?_, ?_, ?_⟩, ⟨hF.os, hF.tape, hF.output, hF.size, hF.block, hF.shape, hF.okup, ?_, hF.rho, ?_⟩⟩
  · intro i q h
    rcases hset i q h with rfl | h
    · trivial
    · exact hI.own i q h
  · intro i j oi oj k hi hj hli hlj
    exact hI.dis i j oi oj k (hlv _ _ hi hli) (hlv _ _ hj hlj) hli hlj
  · intro i q k hi hq
    exact hI.nok i q k (hlv _ _ hi hq) hq
  · intro k h
    rcases hF.okdn k h with h | h | ⟨i, q, h1, h2, h3, h4⟩
    · exact .inl h
    · exact .inr (.inl h)
    · refine .inr (.inr ⟨i, q, h1, h2, h3, ?_⟩)
      have := (List.getElem?_eq_some_iff.1 h4).1
      rw [List.getElem?_set]
      split
      · rw [if_pos (by omega)]
      · exact h4
  · intro i q k hi hq hk
    exact hF.own i q k (hlv _ _ hi hq) hq hk

/-- An object gets a new name; under the old one it is given up. -/
theorem step_move (hI : Inv w ok ρ objs) (hF : Frm x w ok ρ objs) {id : Nat} {o : O} {bo : Option Nat} (hid : objs[id]? = some o) (hb : ρ[id]? = some bo) :
    Inv w ok (ρ ++ [bo]) (objs.set id .dead ++ [o]) ∧ Frm x w ok (ρ ++ [bo]) (objs.set id .dead ++ [o]) ∧ ∀ V v, VRep w ok ρ V v → VRep w ok (ρ ++ [bo]) V v := by
  have hρ : ∀ (id : Nat) (b : Option Nat), ρ[id]? = some b → (ρ ++ [bo])[id]? = some b := fun id b h => getElem?_snoc_old h
  have hlt := (List.getElem?_eq_some_iff.1 hid).1
  have hlen : (ρ ++ [bo])[objs.length]? = some bo := by rw [← hI.len]; simp
  have hsplit : ∀ (i : Nat) (q : O), (objs.set id .dead ++ [o])[i]? = some q → q.live = true → (i ≠ id ∧ i < objs.length ∧ objs[i]? = some q) ∨ (i = objs.length ∧ q = o) := by
    intro i q h hq
    rcases getElem?_snoc h with h | ⟨h1, h2⟩
    · by_cases e : i = id
      · subst e; rw [List.getElem?_set_self hlt] at h; obtain rfl : O.dead = q := by simpa using h
        simp [O.live] at hq
      · rw [List.getElem?_set_ne (Ne.symm e)] at h
        exact .inl ⟨e, (List.getElem?_eq_some_iff.1 h).1, h⟩
    · exact .inr ⟨by simpa using h1, h2⟩
  have hidx : ∀ (i b : Nat), i < objs.length → (ρ ++ [bo])[i]? = some (some b) → ρ[i]? = some (some b) := by
    intro i b hi h
    rcases getElem?_snoc h with h | ⟨h, _⟩
    · exact h
    · rw [hI.len] at h; omega
  refine ⟨⟨by simp [hI.len], hI.okb, ?_, ?_, ?_⟩, ⟨hF.os, hF.tape, hF.output, hF.size, hF.block, hF.shape, hF.okup, ?_, ?_, ?_⟩, ?_⟩
  · intro i q h
    rcases getElem?_snoc h with h | ⟨h1, h2⟩
    · by_cases e : i = id
      · subst e; rw [List.getElem?_set_self hlt] at h; obtain rfl : O.dead = q := by simpa using h
        trivial
      · rw [List.getElem?_set_ne (Ne.symm e)] at h
        exact (hI.own i q h).at hρ (fun b hb => hρ _ _ hb)
    · subst h2
      refine (hI.own id q hid).at hρ (fun b hb' => ?_)
      rw [hb] at hb'
      obtain rfl : bo = b := by simpa using hb'
      simp only [List.length_set] at h1
      rw [h1]; exact hlen
  · intro i j oi oj k hi hj hli hlj hki hkj
    rcases hsplit i oi hi hli with ⟨e1, e2, e3⟩ | ⟨rfl, rfl⟩
    · rcases hsplit j oj hj hlj with ⟨f1, f2, f3⟩ | ⟨rfl, rfl⟩
      · exact hI.dis i j oi oj k e3 f3 hli hlj (hidx _ _ e2 hki) (hidx _ _ f2 hkj)
      · rw [hlen] at hkj
        obtain rfl : bo = some k := by simpa using hkj
        exact absurd (hI.dis i id oi oj k e3 hid hli hlj (hidx _ _ e2 hki) hb) e1
    · rcases hsplit j oj hj hlj with ⟨f1, f2, f3⟩ | ⟨rfl, rfl⟩
      · rw [hlen] at hki
        obtain rfl : bo = some k := by simpa using hki
        exact absurd (hI.dis j id oj oi k f3 hid hlj hli (hidx _ _ f2 hkj) hb) f1
      · rfl
  · intro i q k hi hq hki
    rcases hsplit i q hi hq with ⟨e1, e2, e3⟩ | ⟨rfl, rfl⟩
    · exact hI.nok i q k e3 hq (hidx _ _ e2 hki)
    · rw [hlen] at hki
      obtain rfl : bo = some k := by simpa using hki
      exact hI.nok id q k hid hq hb
  · intro k h
    rcases hF.okdn k h with h | h | ⟨i, q, h1, h2, h3, h4⟩
    · exact .inl h
    · exact .inr (.inl h)
    · refine .inr (.inr ⟨i, q, h1, h2, h3, getElem?_snoc_old ?_⟩)
      have := (List.getElem?_eq_some_iff.1 h4).1
      rw [List.getElem?_set]
      split
      · simp
      · exact h4
  · intro i b hl h; exact hρ i b (hF.rho i b hl h)
  · intro i q k hi hq hki
    rcases hsplit i q hi hq with ⟨e1, e2, e3⟩ | ⟨rfl, rfl⟩
    · exact hF.own i q k e3 hq (hidx _ _ e2 hki)
    · rw [hlen] at hki
      obtain rfl : bo = some k := by simpa using hki
      exact hF.own id q k hid hq hb
  · intro V v h; exact h.mono (fun _ _ => rfl) (fun _ h => h) (fun _ _ h => h) hρ

end
end Go.Fw
