/- An own object that becomes data: it is never written again. -/
import Derived.Test.YtemihgpcodcjgaaFwX
set_option linter.unusedSimpArgs false
set_option linter.unusedVariables false
namespace Go.Fw

section
variable {P : Program} {w w' : World} {ok : Nat → Prop} {ρ : List (Option Nat)} {objs : List O} {x : Ctx}

/-- The blocks of data behind an object's freezing. -/
def okF (ok : Nat → Prop) (ρ : List (Option Nat)) (id : Nat) (b : Nat) : Prop := ok b ∨ ρ[id]? = some (some b)

theorem step_freezeO (hI : Inv w ok ρ objs) (hF : Frm x w ok ρ objs) {id : Nat} {o : O} (hid : objs[id]? = some o) (hlo : o.live = true) :
    Inv w (okF ok ρ id) ρ (objs.set id .dead) ∧ Frm x w (okF ok ρ id) ρ (objs.set id .dead) := by
  have hlt := (List.getElem?_eq_some_iff.1 hid).1
  have hset : ∀ (i : Nat) (q : O), (objs.set id .dead)[i]? = some q → q = .dead ∨ (i ≠ id ∧ objs[i]? = some q) := by
    intro i q h
    by_cases e : i = id
    · subst e; rw [List.getElem?_set_self hlt] at h; exact .inl (by simpa using h.symm)
    · rw [List.getElem?_set_ne (Ne.symm e)] at h; exact .inr ⟨e, h⟩
  have hlv : ∀ (i : Nat) (q : O), (objs.set id .dead)[i]? = some q → q.live = true → i ≠ id ∧ objs[i]? = some q := by
    intro i q h hq
    rcases hset i q h with rfl | h
    · simp [O.live] at hq
    · exact h
  refine ⟨⟨by simp [hI.len], fun b hb => ?_, ?_, ?_, ?_⟩, ⟨hF.os, hF.tape, hF.output, hF.size, hF.block, hF.shape, fun b hb => .inl (hF.okup b hb), ?_, hF.rho, ?_⟩⟩
  · rcases hb with hb | hb
    · exact hI.okb b hb
    · exact hI.live_lt hid hlo hb
  · intro i q h
    rcases hset i q h with rfl | ⟨_, h⟩
    · trivial
    · exact (hI.own i q h).mono (fun _ _ => rfl) (fun _ h => .inl h) (fun _ _ h => h) (fun _ _ h => h) (fun _ _ _ => rfl)
  · intro i j oi oj k hi hj hli hlj
    exact hI.dis i j oi oj k (hlv _ _ hi hli).2 (hlv _ _ hj hlj).2 hli hlj
  · intro i q k hi hq hk hok
    obtain ⟨e1, e2⟩ := hlv _ _ hi hq
    rcases hok with hok | hok
    · exact hI.nok i q k e2 hq hk hok
    · exact e1 (hI.dis i id q _ k e2 hid hq hlo hk hok)
  · intro k h
    rcases h with h | h
    · rcases hF.okdn k h with h | h | ⟨i, q, h1, h2, h3, h4⟩
      · exact .inl h
      · exact .inr (.inl h)
      · refine .inr (.inr ⟨i, q, h1, h2, h3, ?_⟩)
        have := (List.getElem?_eq_some_iff.1 h4).1
        rw [List.getElem?_set]
        split
        · first | rfl | rw [if_pos (by omega)]
        · exact h4
    · rcases hF.own id _ k hid hlo h with h' | ⟨i0, o0, h1, h2, h3⟩
      · exact .inr (.inl h')
      · have hi0 : i0 < x.objs.length := (List.getElem?_eq_some_iff.1 h1).1
        have hr := hF.rho i0 _ hi0 h3
        have hl0 : i0 < objs.length := by rw [← hI.len]; exact (List.getElem?_eq_some_iff.1 hr).1
        refine .inr (.inr ⟨i0, o0, h1, h2, h3, ?_⟩)
        cases ho : objs[i0]'hl0 with
        | dead =>
          by_cases e : i0 = id
          · subst e; rw [List.getElem?_set_self hlt]
          · rw [List.getElem?_set_ne (Ne.symm e), List.getElem?_eq_getElem hl0, ho]
        | box cells =>
          have := hI.dis i0 id _ _ k (List.getElem?_eq_getElem hl0) hid (by rw [ho]; rfl) hlo hr h
          subst this; rw [List.getElem?_set_self hlt]
        | arr sz' rows' =>
          have := hI.dis i0 id _ _ k (List.getElem?_eq_getElem hl0) hid (by rw [ho]; rfl) hlo hr h
          subst this; rw [List.getElem?_set_self hlt]
  · intro i q k hi hq hk
    exact hF.own i q k (hlv _ _ hi hq).2 hq hk

theorem step_freeze (hI : Inv w ok ρ objs) (hF : Frm x w ok ρ objs) {id sz : Nat} {rows : List (List D)} (hid : objs[id]? = some (.arr sz rows)) :
    Inv w (okF ok ρ id) ρ (objs.set id .dead) ∧ Frm x w (okF ok ρ id) ρ (objs.set id .dead) := step_freezeO hI hF hid rfl

theorem freeze_box (hI : Inv w ok ρ objs) {id : Nat} {cells : List D} (ho : objs[id]? = some (.box (cells.map .d))) {v : Value} (h : VRep w ok ρ (.oref id 0) v) : DRep w (okF ok ρ id) (.ptr cells) v := by
  obtain ⟨b, cs, t, o1, o2, o3, o4⟩ := hI.own _ _ ho
  cases h with
  | oref h =>
    rw [o1] at h
    cases h
    refine .ptr (vs := fun j => cs.getD j undef) (.inr o1) (fun j y hj => ?_) (fun j y hj => ?_)
    · have hjl := (List.getElem?_eq_some_iff.1 hj).1
      have hlt : j < cs.size := by rw [o3, List.length_map]; exact hjl
      simp [World.cell?, o2, Array.getD, hlt]
    · have := o4 j (.d y) (by rw [List.getElem?_map, hj]; rfl)
      generalize cs.getD j undef = u at this ⊢
      cases this with
      | d h => exact h.mono (fun _ _ => rfl) (fun _ h => .inl h)

/-- A variable that is never written again is data. -/
theorem Weak.freezeBox {s : St} (t id : Nat) {cells : List D} (ht : getE s.env t = .oref id 0) (ho : s.objs[id]? = some (.box (cells.map .d))) :
    Weak s ⟨(t, .d (.ptr cells)) :: s.env, s.objs.set id .dead, s.n, s.fx⟩ := by
  refine ⟨fun x a w hC => ?_⟩
  obtain ⟨ok, ρ, hI, hF, hE, hn, hd, hx⟩ := hC
  obtain ⟨h1, h2⟩ := step_freezeO hI hF ho rfl
  refine ⟨okF ok ρ id, ρ, h1, h2, fun j => ?_, hn, hd, hx⟩
  have hm : ∀ {y v}, VRep w ok ρ y v → VRep w (okF ok ρ id) ρ y v := fun h => h.mono (fun _ _ => rfl) (fun _ h => .inl h) (fun _ _ h => h) (fun _ _ h => h)
  simp only [getE]
  split
  · rename_i e
    subst e
    have := hE t
    rw [ht] at this
    exact .d (freeze_box hI ho this)
  · exact hm (hE j)

/-- The value behind the freezing of the object id. -/
def frzV (id sz : Nat) (rows : List (List D)) : V → V → Prop
  | .msl j sz' off len, y => (j = id ∧ sz' = sz ∧ off + len ≤ rows.length ∧ y = .d (.lst ((rows.drop off).take len))) ∨ y = .msl j sz' off len
  | v, y => y = v

theorem freeze_rep (hI : Inv w ok ρ objs) {id sz off len : Nat} {rows : List (List D)} (ho : objs[id]? = some (.arr sz rows)) (hle : off + len ≤ rows.length) {v : Value}
    (h : VRep w ok ρ (.msl id sz off len) v) : DRep w (okF ok ρ id) (.lst ((rows.drop off).take len)) v := by
  obtain ⟨h0, h1⟩ := hI.own _ _ ho
  cases h with
  | @msl _ _ _ _ cap b t n h hc hs hn =>
    rcases h1 with ⟨_, e2⟩ | ⟨b', cs, bt, o1, o2, o3, o4⟩
    · rw [h] at e2; simp at e2
    rw [o1] at h
    obtain rfl : b' = b := by simpa using h
    have hlen : ((rows.drop off).take len).length = len := by simp; omega
    have hd : DRep w (okF ok ρ id) (.lst ((rows.drop off).take len)) (.slice (some ⟨b', off * sz, none⟩) ((rows.drop off).take len).length cap) := by
      refine .lst (sz := sz) (vs := fun i j => cs.getD ((off + i) * sz + j) undef) (.inr o1) (fun r hr => h0 r (List.mem_of_mem_drop (List.mem_of_mem_take hr))) (by omega) (fun i j r y hi hj => ?_) (fun i j r y hi hj => ?_)
      all_goals
        rw [List.getElem?_take] at hi
        split at hi
        case isFalse => simp at hi
        rw [List.getElem?_drop] at hi
      · have hil := (List.getElem?_eq_some_iff.1 hi).1
        have hjl : j < sz := by have := (List.getElem?_eq_some_iff.1 hj).1; have := h0 r (List.mem_of_getElem? hi); omega
        have hlt := row_lt (sz := sz) hil hjl
        have hlt2 : (off + i) * sz + j < cs.size := by omega
        rw [show off * sz + (i * sz + j) = (off + i) * sz + j by rw [Nat.add_mul]; omega]
        simp [World.cell?, o2, Array.getD, hlt2]
      · exact (o4 _ _ _ _ hi hj).mono (fun _ _ => rfl) (fun _ h => .inl h)
    rwa [hlen] at hd
  | msl0 h => rw [List.take_zero]; exact .nil

/-- The slots t, which hold all of the object's rows (or a part), hold data. -/
theorem Weak.freeze {s : St} (t id sz off len : Nat) {rows : List (List D)} (ht : getE s.env t = .msl id sz off len) (ho : s.objs[id]? = some (.arr sz rows)) (hl : off + len ≤ rows.length) :
    Weak s ⟨(t, .d (.lst ((rows.drop off).take len))) :: s.env, s.objs.set id .dead, s.n, s.fx⟩ := by
  refine ⟨fun x a w hC => ?_⟩
  obtain ⟨ok, ρ, hI, hF, hE, hn, hd, hx⟩ := hC
  obtain ⟨h1, h2⟩ := step_freeze hI hF ho
  refine ⟨okF ok ρ id, ρ, h1, h2, fun j => ?_, hn, hd, hx⟩
  have hm : ∀ {y v}, VRep w ok ρ y v → VRep w (okF ok ρ id) ρ y v := fun h => h.mono (fun _ _ => rfl) (fun _ h => .inl h) (fun _ _ h => h) (fun _ _ h => h)
  simp only [getE]
  split
  · rename_i e
    subst e
    have := hE t
    rw [ht] at this
    exact .d (freeze_rep hI ho hl this)
  · exact hm (hE j)

/-- All rows of the object. -/
theorem AW.freeze {Q : Exit → St → Prop} {s : St} {c : Code} (t id sz : Nat) {len : Nat} {rows : List (List D)} (ht : getE s.env t = .msl id sz 0 len) (ho : s.objs[id]? = some (.arr sz rows)) (hl : len = rows.length)
    (h : AW P c Q ⟨(t, .d (.lst rows)) :: s.env, s.objs.set id .dead, s.n, s.fx⟩) : AW P c Q s := by
  have := Weak.freeze t id sz 0 len ht ho (by omega)
  rw [List.drop_zero, hl, List.take_length] at this
  exact .weak this h

/-- A nil slice is data. -/
theorem Weak.nil {s : St} (t : Nat) (ht : getE s.env t = .nils) : Weak s ⟨(t, .d (.lst [])) :: s.env, s.objs, s.n, s.fx⟩ := by
  refine ⟨fun x a w hC => ?_⟩
  obtain ⟨ok, ρ, hI, hF, hE, hn, hd, hx⟩ := hC
  refine ⟨ok, ρ, hI, hF, fun j => ?_, hn, hd, hx⟩
  simp only [getE]
  split
  · rename_i e
    subst e
    have := hE t
    rw [ht] at this
    generalize a.tmps.getD t undef = v at this ⊢
    cases this
    exact .d .nil
  · exact hE j

theorem AW.nil {Q : Exit → St → Prop} {s : St} {c : Code} (t : Nat) (ht : getE s.env t = .nils) (h : AW P c Q ⟨(t, .d (.lst [])) :: s.env, s.objs, s.n, s.fx⟩) : AW P c Q s := .weak (Weak.nil t ht) h

/-- A slot inside a struct is frozen. -/
theorem Weak.freezeIn {s : St} (t id sz len : Nat) {rows : List (List D)} {cs : List V} (i : Nat) (ht : getE s.env t = .agg cs) (hi : cs[i]? = some (.msl id sz 0 len)) (ho : s.objs[id]? = some (.arr sz rows)) (hl : len = rows.length) :
    Weak s ⟨(t, .agg (cs.set i (.d (.lst rows)))) :: s.env, s.objs.set id .dead, s.n, s.fx⟩ := by
  refine ⟨fun x a w hC => ?_⟩
  obtain ⟨ok, ρ, hI, hF, hE, hn, hd, hx⟩ := hC
  obtain ⟨h1, h2⟩ := step_freeze hI hF ho
  refine ⟨okF ok ρ id, ρ, h1, h2, fun j => ?_, hn, hd, hx⟩
  have hm : ∀ {y v}, VRep w ok ρ y v → VRep w (okF ok ρ id) ρ y v := fun h => h.mono (fun _ _ => rfl) (fun _ h => .inl h) (fun _ _ h => h) (fun _ _ h => h)
  simp only [getE]
  split
  · rename_i e
    subst e
    have := hE t
    rw [ht] at this
    generalize a.tmps.getD t undef = v at this ⊢
    cases this with
    | agg hn' hv =>
      refine .agg (by rw [List.length_set]; exact hn') fun k c hk => ?_
      rw [List.getElem?_set] at hk
      split at hk
      · rename_i e
        subst e
        split at hk
        · obtain rfl : V.d (.lst rows) = c := by simpa using hk
          have hr := freeze_rep hI ho (off := 0) (len := len) (by omega) (hv _ _ hi)
          rw [List.drop_zero, hl, List.take_length] at hr
          exact .d hr
        · simp at hk
      · exact hm (hv _ _ hk)
  · exact hm (hE j)

/-- A nil slice inside a struct is data. -/
theorem Weak.nilIn {s : St} (t : Nat) {cs : List V} (i : Nat) (ht : getE s.env t = .agg cs) (hi : cs[i]? = some .nils) :
    Weak s ⟨(t, .agg (cs.set i (.d (.lst [])))) :: s.env, s.objs, s.n, s.fx⟩ := by
  refine ⟨fun x a w hC => ?_⟩
  obtain ⟨ok, ρ, hI, hF, hE, hn, hd, hx⟩ := hC
  refine ⟨ok, ρ, hI, hF, fun j => ?_, hn, hd, hx⟩
  simp only [getE]
  split
  · rename_i e
    subst e
    have := hE t
    rw [ht] at this
    generalize a.tmps.getD t undef = v at this ⊢
    cases this with
    | agg hn' hv =>
      refine .agg (by rw [List.length_set]; exact hn') fun k c hk => ?_
      rw [List.getElem?_set] at hk
      split at hk
      · rename_i e
        subst e
        split at hk
        · obtain rfl : V.d (.lst []) = c := by simpa using hk
          have := hv _ _ hi
          generalize Array.getD _ _ _ = u at this ⊢
          cases this
          exact .d .nil
        · simp at hk
      · exact hv _ _ hk
  · exact hE j

end

/-- The slots ls alone. -/
def keepE (e : List (Nat × V)) : List Nat → List (Nat × V)
  | [] => []
  | j :: ls => (j, getE e j) :: keepE e ls
def St.keep (s : St) (ls : List Nat) : St := ⟨keepE s.env ls, s.objs, s.n, s.fx⟩

theorem keepE_get {e : List (Nat × V)} : ∀ (ls : List Nat) (j : Nat), getE (keepE e ls) j = .any ∨ getE (keepE e ls) j = getE e j
  | [], j => .inl rfl
  | i :: ls, j => by
    simp only [keepE, getE]
    split
    · rename_i h; subst h; exact .inr rfl
    · exact keepE_get ls j

theorem Weak.keep {s : St} (ls : List Nat) : Weak s (s.keep ls) := by
  refine ⟨fun x a w hC => ?_⟩
  obtain ⟨ok, ρ, hI, hF, hE, hn, hd, hx⟩ := hC
  refine ⟨ok, ρ, hI, hF, fun j => ?_, hn, hd, hx⟩
  rcases keepE_get (e := s.env) ls j with h | h
  · show VRep w ok ρ (getE (keepE s.env ls) j) _
    rw [h]; exact .any
  · show VRep w ok ρ (getE (keepE s.env ls) j) _
    rw [h]; exact hE j

/-- The slots that are read behind the region id. -/
def lvOf (lv : List (List Nat)) (id : Nat) : List Nat := (lv[id]?).getD []

theorem aops_imp {P : Program} {TT : Nat → Option TI} {ds : List (Option Nat)} : ∀ {l : List Oper} {s : St} {K K' : St → Prop}, (∀ s, K s → K' s) → aops TT P ds l s K → aops TT P ds l s K'
  | [], _, _, _, hK, h => hK _ h
  | _ :: _, _, _, _, hK, h => aopg_imp (fun _ hs => aops_imp hK hs) h

/-- A region, and what follows it, with the slots that are still read. -/
theorem AW.stepL {P : Program} {TT : Nat → Option TI} {Q : Exit → St → Prop} {s : St} (lv : List (List Nat)) (hT : TOk P TT) {id : Nat} {l : List Oper} {c : Code} (hb : regB s.n l = true)
    (h : aops TT P (l.map (·.dst)) l s fun s' => AW P c Q (s'.keep (lvOf lv id))) : AW P (.seq (.region id ⟨l⟩ false) c) Q s := by
  refine AW.seq ((AW.region (Q := fun e s' => e = .normal ∧ AW P c Q (s'.keep (lvOf lv id))) hT hb (aops_imp (fun s' hs => ⟨rfl, hs⟩) h)).mono ?_)
  rintro e s' ⟨rfl, h⟩
  exact .weak (Weak.keep _) h

theorem AW.drawSL {P : Program} {TT : Nat → Option TI} {Q : Exit → St → Prop} {s : St} (lv : List (List Nat)) (p : Plan) (hT : TOk P TT) (hm : P.follows .mixedOrders = true) {id : Nat} {l : List Oper} {c : Code} (hb : regB s.n l = true)
    (hp : pOk ⟨l⟩ p l.length (Array.replicate l.length false) [] = true) (h : arun TT P l p s fun s' => AW P c Q (s'.keep (lvOf lv id))) : AW P (.seq (.region id ⟨l⟩ true) c) Q s := by
  refine AW.seq ((AW.draw (Q := fun e s' => e = .normal ∧ AW P c Q (s'.keep (lvOf lv id))) p hT hm hb hp (arun_mono (fun s' hs => ⟨rfl, hs⟩) p h)).mono ?_)
  rintro e s' ⟨rfl, h⟩
  exact .weak (Weak.keep _) h

attribute [go_sem] keepE St.keep lvOf Option.getD_some Option.getD_none

/-- The result is R, and the objects OS go back. -/
def Own (R : V) (OS : List O) : V → List O → Prop := fun r os => r = R ∧ os = OS

theorem fin_own {objs OS : List O} {z R : V} (π : List Nat) (hn : π.Nodup) (ho : renOs π objs π OS) (h : renV π R = some z) : ∃ (π : List Nat) (y : V) (os : List O), π.Nodup ∧ renOs π objs π os ∧ renV π y = some z ∧ Own R OS y os :=
  ⟨π, R, OS, hn, ho, h, rfl, rfl⟩

/-- A call that hands over no object and lends none, of a function that gives new objects. -/
theorem ACall.own {P : Program} {s : St} {f : Nat} {args args' : List V} {K : V → St → Prop} {R : V} {OS : List O} (h : argVs s.objs [] [] args = some args')
    (hc : ACon P f args' [] (Own R OS)) (hK : K (backV [] s.objs.length R) { s with objs := s.objs ++ OS.map (backO [] s.objs.length) }) : ACall P s f args K := by
  refine ACall.pure h (hc.mono ?_)
  rintro r os ⟨rfl, rfl⟩
  exact hK

/-- A call that lends objects, of a function that gives new objects. -/
theorem ACall.ownLend {P : Program} {s : St} {f : Nat} {args args' : List V} {K : V → St → Prop} {R : V} {OS : List O} (bs : List Nat) (h : argVs s.objs [] bs args = some args')
    (hc : ACon P f args' [] (Own R OS)) (hf : flatV R = true ∧ ∀ o ∈ OS, flatO o) (hK : K (backV [] s.objs.length R) { s with objs := s.objs ++ OS.map (backO [] s.objs.length) }) : ACall P s f args K := by
  refine ACall.lend bs h (hc.mono ?_)
  rintro r os ⟨rfl, rfl⟩
  exact ⟨hf, hK⟩

/-- A call that hands over objects. -/
theorem ACall.hand {P : Program} {s : St} {f : Nat} {args args' : List V} {os0 os1 : List O} {K : V → St → Prop} {Q : V → List O → Prop} (ids : List Nat) (h : argVs s.objs ids [] args = some args') (hn : ids.Nodup)
    (hg : getO s.objs ids = some os0) (ho : argOs s.objs ids [] os0 = some os1) (hl : ∀ o ∈ os0, o.live = true) (hc : ACon P f args' os1 Q)
    (hK : ∀ r os, Q r os → K (backV ids s.objs.length r) { s with objs := backs ids s.objs.length s.objs os }) : ACall P s f args K :=
  ⟨ids, [], args', os0, os1, h, hn, by simp, hg, ho, hl, hc.mono fun r os hq => ⟨.inl rfl, hK r os hq⟩⟩

@[go_sem] theorem flatO_arr {sz : Nat} {rows : List (List D)} : flatO (.arr sz rows) = ∀ r ∈ rows, ∀ x ∈ r, x.flat = true := rfl
@[go_sem] theorem flatO_box {cs : List V} : flatO (.box cs) = (flatVs cs = true) := rfl
@[go_sem] theorem flatO_dead : flatO .dead = True := rfl
attribute [go_sem] List.forall_mem_map List.forall_mem_cons

end Go.Fw
