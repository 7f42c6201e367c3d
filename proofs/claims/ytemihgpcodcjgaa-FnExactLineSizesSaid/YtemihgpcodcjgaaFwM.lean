/- Why a caller gets what a contract says. -/
import Derived.Test.YtemihgpcodcjgaaFwL
set_option linter.unusedSimpArgs false
set_option linter.unusedVariables false
namespace Go.Fw

section
variable {P : Program} {TT : Nat → Option TI} {w w' : World} {ok : Nat → Prop} {ρ : List (Option Nat)} {x : Ctx} {s : St} {a : Act}

structure CCk (x : Ctx) (s : St) (a : Act) (w : World) (ok : Nat → Prop) (ρ : List (Option Nat)) : Prop where
  inv : Inv w ok ρ s.objs
  frm : Frm x w ok ρ s.objs
  env : ∀ j, VRep w ok ρ (getE s.env j) (a.tmps.getD j undef)
  size : a.tmps.size = s.n
  defers : a.defers = []
  fx : x.objs.length = s.fx

theorem CC_iff : CC x s a w ↔ ∃ ok ρ, CCk x s a w ok ρ :=
  ⟨fun ⟨ok, ρ, h1, h2, h3, h4, h5, h6⟩ => ⟨ok, ρ, h1, h2, h3, h4, h5, h6⟩, fun ⟨ok, ρ, h1, h2, h3, h4, h5, h6⟩ => ⟨ok, ρ, h1, h2, h3, h4, h5, h6⟩⟩

theorem idx_get : ∀ {ids : List Nat} {id j : Nat}, idx ids id = some j → ids[j]? = some id
  | [], id, j, h => by simp [idx] at h
  | i :: r, id, j, h => by
    simp only [idx] at h
    split at h
    · rename_i e; obtain rfl : 0 = j := by simpa using h
      simp [e]
    · cases hr : idx r id with
      | none => rw [hr] at h; simp at h
      | some k =>
        rw [hr] at h
        obtain rfl : k + 1 = j := by simpa using h
        simpa using idx_get hr

theorem idx_none : ∀ {ids : List Nat} {id : Nat}, idx ids id = none → id ∉ ids
  | [], id, h => by simp
  | i :: r, id, h => by
    simp only [idx] at h
    split at h
    · simp at h
    · rename_i e
      cases hr : idx r id with
      | some k => rw [hr] at h; simp at h
      | none => simp [Ne.symm e, idx_none hr]

theorem get_idx : ∀ {ids : List Nat} {id j : Nat}, ids.Nodup → ids[j]? = some id → idx ids id = some j
  | [], id, j, _, h => by simp at h
  | i :: r, id, j, hn, h => by
    simp only [List.nodup_cons] at hn
    cases j with
    | zero => obtain rfl : i = id := by simpa using h
              simp [idx]
    | succ j =>
      have hr : r[j]? = some id := by simpa using h
      have hne : i ≠ id := fun e => hn.1 (e ▸ List.mem_of_getElem? hr)
      simp [idx, hne, get_idx hn.2 hr]

theorem argVs_get {objs : List O} {ids bs : List Nat} : ∀ {cs xs : List V}, argVs objs ids bs cs = some xs → xs.length = cs.length ∧ ∀ (i : Nat) c, cs[i]? = some c → ∃ y, xs[i]? = some y ∧ argV objs ids bs c = some y
  | [], xs, h => by obtain rfl : [] = xs := by simpa [argVs] using h
                    simp
  | c :: cs, xs, h => by
    simp only [argVs] at h
    split at h
    · rename_i y ys h1 h2
      obtain rfl : y :: ys = xs := by simpa using h
      obtain ⟨h3, h4⟩ := argVs_get h2
      refine ⟨by simp [h3], fun i c' hi => ?_⟩
      cases i with
      | zero => obtain rfl : c = c' := by simpa using hi
                exact ⟨y, rfl, h1⟩
      | succ i => exact h4 i c' (by simpa using hi)
    · simp at h

def okC (objs : List O) (ok : Nat → Prop) (ρ : List (Option Nat)) (bs : List Nat) (b : Nat) : Prop :=
  ok b ∨ ∃ (id : Nat) (o : O), id ∈ bs ∧ objs[id]? = some o ∧ o.live = true ∧ ρ[id]? = some (some b)

def rhoC (ρ : List (Option Nat)) (ids : List Nat) : List (Option Nat) := ids.map fun i => (ρ[i]?).getD none

theorem rhoC_get {ids : List Nat} {j id : Nat} {b : Option Nat} (h : ids[j]? = some id) (hb : ρ[id]? = some b) : (rhoC ρ ids)[j]? = some b := by
  simp [rhoC, h, hb]

theorem argV_sound {objs : List O} {ids bs : List Nat} (hI : Inv w ok ρ objs) {y : V} {v : Value} (h : VRep w ok ρ y v) : ∀ {y' : V}, argV objs ids bs y = some y' → VRep w (okC objs ok ρ bs) (rhoC ρ ids) y' v := by
  induction h with
  | d h =>
    intro y' hy
    obtain rfl : _ = y' := by simpa [argV] using hy
    exact .d (h.mono (fun _ _ => rfl) (fun _ h => .inl h))
  | oref h =>
    intro y' hy
    simp only [argV] at hy
    split at hy
    · rename_i j hj
      obtain rfl : _ = y' := by simpa using hy
      exact .oref (rhoC_get (idx_get hj) h)
    · simp at hy
  | aref h => intro y' hy; simp [argV] at hy
  | @msl id sz off len cap b t n h hc hs hn =>
    intro y' hy
    simp only [argV] at hy
    split at hy
    · rename_i j hj
      obtain rfl : _ = y' := by simpa using hy
      exact .msl (rhoC_get (idx_get hj) h) hc hs hn
    · split at hy
      · rename_i hbs
        split at hy
        · rename_i sz' rows ho
          split at hy
          · rename_i hle
            obtain ⟨rfl, hle⟩ := hle
            obtain rfl : _ = y' := by simpa using hy
            obtain ⟨h0, h1⟩ := hI.own _ _ ho
            rcases h1 with ⟨_, e2⟩ | ⟨b', cs, bt, o1, o2, o3, o4⟩
            · rw [h] at e2; simp at e2
            rw [o1] at h
            obtain rfl : b' = b := by simpa using h
            have hlen : ((rows.drop off).take len).length = len := by simp; omega
            refine .d ?_
            have hd : DRep w (okC objs ok ρ bs) (.lst ((rows.drop off).take len)) (.slice (some ⟨b', off * sz, none⟩) ((rows.drop off).take len).length cap) := by
              refine .lst (sz := sz) (vs := fun i j => cs.getD ((off + i) * sz + j) undef) (.inr ⟨id, _, hbs, ho, rfl, o1⟩) (fun r hr => h0 r (List.mem_of_mem_drop (List.mem_of_mem_take hr))) (by omega) (fun i j r y hi hj => ?_) (fun i j r y hi hj => ?_)
              all_goals
                rw [List.getElem?_take] at hi
                split at hi
                case isFalse => simp at hi
                rw [List.getElem?_drop] at hi
              · have hil := (List.getElem?_eq_some_iff.1 hi).1
                have hjl : j < sz := by have := (List.getElem?_eq_some_iff.1 hj).1; have := h0 r (List.mem_of_getElem? hi); omega
                have hlt := row_lt (sz := sz) hil hjl
                have hlt2 : (off + i) * sz + j < cs.size := by omega
                rw [show off * sz + (i * sz + j) = (off + i) * sz + j by rw [Nat.add_mul]; omega]
                simp [World.cell?, o2, Array.getD, hlt2]
              · exact (o4 _ _ _ _ hi hj).mono (fun _ _ => rfl) (fun _ h => .inl h)
            rwa [hlen] at hd
          · simp at hy
        · simp at hy
      · simp at hy
  | @msl0 id sz off a h =>
    intro y' hy
    simp only [argV] at hy
    split at hy
    · rename_i j hj
      obtain rfl : _ = y' := by simpa using hy
      have := (List.getElem?_eq_some_iff.1 (idx_get hj)).1
      exact .msl0 (by simp [rhoC]; exact this)
    · split at hy
      · split at hy
        · split at hy
          · obtain rfl : _ = y' := by simpa using hy
            exact .d (show DRep _ _ (.lst []) _ from .nil)
          · simp at hy
        · simp at hy
      · simp at hy
  | nils => intro y' hy; obtain rfl : _ = y' := by simpa [argV] using hy
            exact .nils
  | @agg cs vs hn h ih =>
    intro y' hy
    simp only [argV] at hy
    cases hc : argVs objs ids bs cs with
    | none => rw [hc] at hy; simp at hy
    | some xs =>
      rw [hc] at hy
      obtain rfl : _ = y' := by simpa using hy
      obtain ⟨h1, h2⟩ := argVs_get hc
      refine .agg (by omega) (fun i c hi => ?_)
      have hil := (List.getElem?_eq_some_iff.1 hi).1
      obtain ⟨c', e1, e2⟩ := h2 i _ (List.getElem?_eq_getElem (by omega : i < cs.length))
      rw [hi] at e1
      obtain rfl : c = c' := by simpa using e1
      exact ih i _ (List.getElem?_eq_getElem (by omega : i < cs.length)) e2
  | tup => intro y' hy; simp [argV] at hy
  | any => intro y' hy; obtain rfl : _ = y' := by simpa [argV] using hy
           exact .any

theorem getO_get {objs : List O} : ∀ {ids : List Nat} {os : List O}, getO objs ids = some os → os.length = ids.length ∧ ∀ (j : Nat) i, ids[j]? = some i → ∃ o, os[j]? = some o ∧ objs[i]? = some o
  | [], os, h => by obtain rfl : [] = os := by simpa [getO] using h
                    simp
  | i :: r, os, h => by
    simp only [getO] at h
    split at h
    · rename_i o os' h1 h2
      obtain rfl : o :: os' = os := by simpa using h
      obtain ⟨h3, h4⟩ := getO_get h2
      refine ⟨by simp [h3], fun j i' hj => ?_⟩
      cases j with
      | zero => obtain rfl : i = i' := by simpa using hj
                exact ⟨o, rfl, h1⟩
      | succ j => exact h4 j i' (by simpa using hj)
    · simp at h

theorem argOs_get {objs : List O} {ids bs : List Nat} : ∀ {os xs : List O}, argOs objs ids bs os = some xs → xs.length = os.length ∧ ∀ (i : Nat) o, os[i]? = some o → ∃ y, xs[i]? = some y ∧ argO objs ids bs o = some y
  | [], xs, h => by obtain rfl : [] = xs := by simpa [argOs] using h
                    simp
  | c :: cs, xs, h => by
    simp only [argOs] at h
    split at h
    · rename_i y ys h1 h2
      obtain rfl : y :: ys = xs := by simpa using h
      obtain ⟨h3, h4⟩ := argOs_get h2
      refine ⟨by simp [h3], fun i c' hi => ?_⟩
      cases i with
      | zero => obtain rfl : c = c' := by simpa using hi
                exact ⟨y, rfl, h1⟩
      | succ i => exact h4 i c' (by simpa using hi)
    · simp at h

theorem argO_live {objs : List O} {ids bs : List Nat} {o o' : O} (h : argO objs ids bs o = some o') : o'.live = o.live := by
  cases o with
  | dead => obtain rfl : _ = o' := by simpa [argO] using h
            rfl
  | arr => obtain rfl : _ = o' := by simpa [argO] using h
           rfl
  | box cells =>
    simp only [argO] at h
    cases hc : argVs objs ids bs cells with
    | none => rw [hc] at h; simp at h
    | some xs => rw [hc] at h; obtain rfl : _ = o' := by simpa using h
                 rfl

theorem argO_sound {objs : List O} {ids bs : List Nat} (hI : Inv w ok ρ objs) {i j : Nat} {o o' : O} (hj : ids[j]? = some i) (h : ORep w ok ρ i o) (ho : argO objs ids bs o = some o') :
    ORep w (okC objs ok ρ bs) (rhoC ρ ids) j o' := by
  cases o with
  | dead => obtain rfl : _ = o' := by simpa [argO] using ho
            trivial
  | arr sz rows =>
    obtain rfl : _ = o' := by simpa [argO] using ho
    obtain ⟨h0, h⟩ := h
    refine ⟨h0, ?_⟩
    rcases h with ⟨h1, h2⟩ | ⟨b, cs, t, h1, h2, h3, h4⟩
    · exact .inl ⟨h1, rhoC_get hj h2⟩
    · exact .inr ⟨b, cs, t, rhoC_get hj h1, h2, h3, fun i j r x hi hj => (h4 i j r x hi hj).mono (fun _ _ => rfl) (fun _ h => .inl h)⟩
  | box cells =>
    simp only [argO] at ho
    cases hc : argVs objs ids bs cells with
    | none => rw [hc] at ho; simp at ho
    | some xs =>
      rw [hc] at ho
      obtain rfl : _ = o' := by simpa using ho
      obtain ⟨e1, e2⟩ := argVs_get hc
      obtain ⟨b, cs, t, h1, h2, h3, h4⟩ := h
      refine ⟨b, cs, t, rhoC_get hj h1, h2, by omega, fun k c hk => ?_⟩
      have hkl := (List.getElem?_eq_some_iff.1 hk).1
      obtain ⟨c', f1, f2⟩ := e2 k _ (List.getElem?_eq_getElem (by omega : k < cells.length))
      rw [hk] at f1
      obtain rfl : c = c' := by simpa using f1
      exact argV_sound hI (h4 k _ (List.getElem?_eq_getElem (by omega : k < cells.length))) f2

theorem backVs_get {ids : List Nat} {n : Nat} : ∀ {cs : List V}, (backVs ids n cs).length = cs.length ∧ ∀ (i : Nat) c, (backVs ids n cs)[i]? = some c → ∃ c', cs[i]? = some c' ∧ c = backV ids n c'
  | [] => by simp [backVs]
  | c :: cs => by
    obtain ⟨h1, h2⟩ := @backVs_get ids n cs
    refine ⟨by simp [backVs, h1], fun i y hi => ?_⟩
    simp only [backVs] at hi
    cases i with
    | zero => exact ⟨c, rfl, by simpa using hi.symm⟩
    | succ i => exact h2 i y (by simpa using hi)

theorem flatVs_get : ∀ {cs : List V}, flatVs cs = true → ∀ (i : Nat) c, cs[i]? = some c → flatV c = true
  | [], _, i, c, h => by simp at h
  | y :: cs, hf, i, c, h => by
    simp only [flatVs, Bool.and_eq_true] at hf
    cases i with
    | zero => obtain rfl : y = c := by simpa using h
              exact hf.1
    | succ i => exact flatVs_get hf.2 i c (by simpa using h)

theorem backV_sound {ids : List Nat} {n : Nat} {ok' ok2 : Nat → Prop} {ρ' ρ2 : List (Option Nat)} {F : Prop} (hok : (∀ b, ok' b → ok2 b) ∨ F) (hρ : ∀ (j : Nat) b, ρ'[j]? = some b → ρ2[backId ids n j]? = some b) {y : V} {v : Value}
    (h : VRep w' ok' ρ' y v) (hf : F → flatV y = true) : VRep w' ok2 ρ2 (backV ids n y) v := by
  induction h with
  | d h =>
    rcases hok with hok | hF
    · exact .d (h.mono (fun _ _ => rfl) hok)
    · exact .d (h.of_flat (hf hF))
  | oref h => exact .oref (hρ _ _ h)
  | aref h => exact .aref (hρ _ _ h)
  | msl h hc hs hn => exact .msl (hρ _ _ h) hc hs hn
  | @msl0 id _ _ _ h => exact .msl0 (List.getElem?_eq_some_iff.1 (hρ id _ (List.getElem?_eq_getElem h))).1
  | nils => exact .nils
  | @agg cs vs hn h ih =>
    obtain ⟨e1, e2⟩ := @backVs_get ids n cs
    refine .agg (by omega) (fun i c hi => ?_)
    obtain ⟨c', f1, rfl⟩ := e2 i c hi
    exact ih i c' f1 (fun hF => flatVs_get (hf hF) i c' f1)
  | @tup cs vs hn h ih =>
    obtain ⟨e1, e2⟩ := @backVs_get ids n cs
    refine .tup (by omega) (fun i c hi => ?_)
    obtain ⟨c', f1, rfl⟩ := e2 i c hi
    exact ih i c' f1 (fun hF => flatVs_get (hf hF) i c' f1)
  | any => exact .any

theorem backO_sound {ids : List Nat} {n i j : Nat} {ok' ok2 : Nat → Prop} {ρ' ρ2 : List (Option Nat)} {F : Prop} (hok : (∀ b, ok' b → ok2 b) ∨ F) (hρ : ∀ (j : Nat) b, ρ'[j]? = some b → ρ2[backId ids n j]? = some b) {o : O}
    (h : ORep w' ok' ρ' j o) (hij : i = backId ids n j) (hf : F → flatO o) : ORep w' ok2 ρ2 i (backO ids n o) := by
  subst hij
  cases o with
  | dead => trivial
  | box cells =>
    obtain ⟨b, cs, t, h1, h2, h3, h4⟩ := h
    obtain ⟨e1, e2⟩ := @backVs_get ids n cells
    refine ⟨b, cs, t, hρ _ _ h1, h2, by omega, fun k c hk => ?_⟩
    obtain ⟨c', f1, rfl⟩ := e2 k c hk
    exact backV_sound hok hρ (h4 k c' f1) (fun hF => flatVs_get (hf hF) k c' f1)
  | arr sz rows =>
    obtain ⟨h0, h⟩ := h
    refine ⟨h0, ?_⟩
    rcases h with ⟨h1, h2⟩ | ⟨b, cs, t, h1, h2, h3, h4⟩
    · exact .inl ⟨h1, hρ _ _ h2⟩
    · refine .inr ⟨b, cs, t, hρ _ _ h1, h2, h3, fun i j r x hi hj => ?_⟩
      rcases hok with hok | hF
      · exact (h4 i j r x hi hj).mono (fun _ _ => rfl) hok
      · exact (h4 i j r x hi hj).of_flat (hf hF r (List.mem_of_getElem? hi) x (List.mem_of_getElem? hj))

theorem sets_get {n : Nat} {q : List Nat} : ∀ (ids : List Nat) (os objs : List O), ids.Nodup → os.length ≥ ids.length → (∀ i ∈ ids, i < objs.length) → ∀ (id : Nat),
    ((ids.zip os).foldl (fun l p => l.set p.1 (backO q n p.2)) objs)[id]? = match idx ids id with
      | some j => (os[j]?).map (backO q n)
      | none => objs[id]? := by
  intro ids
  induction ids with
  | nil => intro os objs _ _ _ id; simp [idx]
  | cons i ids ih =>
    intro os objs hn hl hlt id
    cases os with
    | nil => simp at hl
    | cons o os =>
      simp only [List.nodup_cons] at hn
      simp only [List.zip_cons_cons, List.foldl_cons, idx]
      rw [ih os (objs.set i (backO q n o)) hn.2 (by simpa using hl) (fun k hk => by rw [List.length_set]; exact hlt k (by simp [hk])) id]
      by_cases e : i = id
      · subst e
        rw [if_pos rfl]
        have : idx ids i = none := by
          cases hi : idx ids i with
          | none => rfl
          | some k => exact absurd (List.mem_of_getElem? (idx_get hi)) hn.1
        rw [this]
        simp [hlt i (by simp)]
      · rw [if_neg e]
        cases hi : idx ids id with
        | none => simp [List.getElem?_set_ne e]
        | some k => simp

theorem backO_live {q : List Nat} {n : Nat} {o : O} : (backO q n o).live = o.live := by cases o <;> rfl
theorem backO_dead {q : List Nat} {n : Nat} {o : O} (h : backO q n o = .dead) : o = .dead := by cases o <;> simp_all [backO]

end
end Go.Fw
