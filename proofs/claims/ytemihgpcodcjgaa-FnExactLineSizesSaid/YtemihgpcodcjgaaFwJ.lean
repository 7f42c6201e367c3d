/- Why the model's steps that turn memory follow the abstract machine's: stores, made slices. -/
import Derived.Test.YtemihgpcodcjgaaFwI
set_option linter.unusedSimpArgs false
set_option linter.unusedVariables false
namespace Go.Fw

section
variable {P : Program} {TT : Nat → Option TI} {w w' : World} {ok : Nat → Prop} {ρ : List (Option Nat)} {x : Ctx} {s : St} {a : Act}

theorem storeVar_run {t : TypeId} {ti : TI} (ht : TFacts P t ti) {b off : Nat} {v : Value} {new : List V} {cs : Array Value} {bt : TypeId} {V0 : V} (hb : w.heap[b]? = some (.cells cs bt (0, 0)))
    (hv : VRep w ok ρ V0 v) (hc : V0.cells = some new) (hl : new.length = ti.size) (hsz : off + new.length ≤ cs.size) :
    ∃ w' cs', (Instr.storeAt t (.pointer (some ⟨b, off, none⟩)) v).run P w = .ok () w' ∧ w'.heap[b]? = some (.cells cs' bt (0, 0)) ∧ cs'.size = cs.size ∧
      (∀ j, off ≤ j → j < off + new.length → cs'.getD j undef = v.cells.getD (j - off) undef) ∧ (∀ j, (j < off ∨ off + new.length ≤ j) → cs'.getD j undef = cs.getD j undef) ∧ (∀ k, k ≠ b → w'.heap[k]? = w.heap[k]?) ∧
      w'.heap.size = w.heap.size ∧ w'.os = w.os ∧ w'.tape = w.tape ∧ w'.output = w.output := by
  obtain ⟨c1, c2⟩ := cells_rep hv hc
  have hone : ∀ u ∈ v.cells.toList, u.oneCell' = true := by
    intro u hu
    obtain ⟨j, hj⟩ := List.mem_iff_getElem?.1 hu
    have hjl := (List.getElem?_eq_some_iff.1 hj).1
    simp at hjl
    have hn : j < new.length := by omega
    have := (c2 j _ (List.getElem?_eq_getElem hn)).2
    have e : v.cells.getD j undef = u := by
      simp at hj
      simp [Array.getD_eq_getD_getElem?, hj]
    rwa [e] at this
  obtain ⟨w', cs', r1, r2, r3, r4, r5, r6, r7, r8, r9⟩ := run_storeCells (P := P) b off v.cells.toList 0 w cs bt hb (by simp; omega) hone
  refine ⟨w', cs', ?_, r2, r3, ?_, ?_, r5, r6, r7, r8, r9⟩
  · simp only [Instr.storeAt, Instr.sureAddr, Sem.run_bind, Sem.run_pure, Result.andThen_ok, storeVar, ht.run_sizeOf]
    rw [if_neg (by omega)]
    exact r1
  · intro j h1 h2
    rw [r4, if_pos (by simp; omega)]
    simp [List.getD_eq_getElem?_getD, Array.getD_eq_getD_getElem?]
  · intro j h1
    rw [r4, if_neg (by simp; omega)]

theorem putAt_get {cs new : List V} {off j : Nat} {c : V} (h : (putAt cs off new)[j]? = some c) (hl : off + new.length ≤ cs.length) :
    (off ≤ j ∧ j < off + new.length ∧ new[j - off]? = some c) ∨ ((j < off ∨ off + new.length ≤ j) ∧ cs[j]? = some c) := by
  simp only [putAt] at h
  have hmin : min off cs.length = off := by omega
  by_cases c1 : j < off
  · rw [List.append_assoc, List.getElem?_append_left (by simp; omega), List.getElem?_take, if_pos c1] at h
    exact .inr ⟨.inl c1, h⟩
  · by_cases c2 : j < off + new.length
    · rw [List.append_assoc, List.getElem?_append_right (by simp; omega), List.getElem?_append_left (by simp; omega)] at h
      simp only [List.length_take, hmin] at h
      exact .inl ⟨by omega, c2, h⟩
    · rw [List.getElem?_append_right (by simp; omega), List.getElem?_drop] at h
      simp only [List.length_append, List.length_take, hmin] at h
      rw [show off + new.length + (j - (off + new.length)) = j by omega] at h
      exact .inr ⟨.inr (by omega), h⟩

theorem putD_get {r ds : List D} {off j : Nat} {y : D} (h : (putD r off ds)[j]? = some y) (hl : off + ds.length ≤ r.length) :
    (off ≤ j ∧ j < off + ds.length ∧ ds[j - off]? = some y) ∨ ((j < off ∨ off + ds.length ≤ j) ∧ r[j]? = some y) := by
  simp only [putD] at h
  have hmin : min off r.length = off := by omega
  by_cases c1 : j < off
  · rw [List.append_assoc, List.getElem?_append_left (by simp; omega), List.getElem?_take, if_pos c1] at h
    exact .inr ⟨.inl c1, h⟩
  · by_cases c2 : j < off + ds.length
    · rw [List.append_assoc, List.getElem?_append_right (by simp; omega), List.getElem?_append_left (by simp; omega)] at h
      simp only [List.length_take, hmin] at h
      exact .inl ⟨by omega, c2, h⟩
    · rw [List.getElem?_append_right (by simp; omega), List.getElem?_drop] at h
      simp only [List.length_append, List.length_take, hmin] at h
      rw [show off + ds.length + (j - (off + ds.length)) = j by omega] at h
      exact .inr ⟨.inr (by omega), h⟩

theorem putD_length {r ds : List D} {off : Nat} (hl : off + ds.length ≤ r.length) : (putD r off ds).length = r.length := by
  simp [putD]; omega

/-- A store to an object, given what the store leaves. -/
theorem ends_write {K : St → Prop} {dst : Option Nat} {q : Sem Next} {o o' : O} {id b : Nat} (hI : Inv w ok ρ s.objs) (hF : Frm x w ok ρ s.objs) (hE : ∀ j, VRep w ok ρ (getE s.env j) (a.tmps.getD j undef))
    (hn : a.tmps.size = s.n) (hd : a.defers = []) (hx : x.objs.length = s.fx) (hdst : dst = none) (hid : s.objs[id]? = some o) (hl : o.live = true) (hb : ρ[id]? = some (some b))
    (hsz : w'.heap.size = w.heap.size) (hold : ∀ k, k ≠ b → w'.heap[k]? = w.heap[k]?) (hsh : w'.shape? b = w.shape? b)
    (hos : w'.os = w.os) (htape : w'.tape = w.tape) (hout : w'.output = w.output) (ho : ORep w' ok ρ id o') (hl' : o'.live = true) (hr : q.run P w = .ok .skip w') (hK : K (s.setO id o')) : Ends P x K a dst q w := by
  obtain ⟨h1, h2, h3⟩ := step_write hI hF hid hl hb hsz hold hsh hos htape hout ho hl'
  subst hdst
  exact .inr ⟨w', hr, _, hK, ok, ρ, h1, h2, fun j => h3 _ _ (hE j), hn, hd, hx⟩

theorem store_sound (hT : TOk P TT) {K : St → Prop} {dst : Option Nat} {t : TypeId} {y v : Operand} {ti : TI} {new : List V} (hI : Inv w ok ρ s.objs) (hF : Frm x w ok ρ s.objs)
    (hE : ∀ j, VRep w ok ρ (getE s.env j) (a.tmps.getD j undef)) (hn : a.tmps.size = s.n) (hd : a.defers = []) (hx : x.objs.length = s.fx) (hdst : dst = none) (ht : TT t = some ti) (hc : (s.ev v).cells = some new)
    (hl : new.length = ti.size) (h : match s.ev y with
      | .oref id off => (match s.objs[id]? with
        | some (.box cells) => off + new.length ≤ cells.length ∧ K (s.setO id (.box (putAt cells off new)))
        | _ => False)
      | .aref id sz i off => (match s.objs[id]? with
        | some (.arr sz' rows) => sz = sz' ∧ (match rows[i]?, toDs new with
          | some r, some ds => off + ds.length ≤ r.length ∧ K (s.setO id (.arr sz' (rows.set i (putD r off ds))))
          | _, _ => False)
        | _ => False)
      | _ => False) : Ends P x K a dst (do Instr.storeAt t (a.eval y) (a.eval v); pure .skip) w := by
  have hy := ev_rep hE y
  have hv := ev_rep hE v
  obtain ⟨c1, c2⟩ := cells_rep hv hc
  split at h
  · rename_i id off he
    rw [he] at hy
    split at h
    · rename_i cells ho
      obtain ⟨hle, h⟩ := h
      obtain ⟨b, cs, bt, o1, o2, o3, o4⟩ := hI.own _ _ ho
      generalize hye : a.eval y = yv at hy
      cases hy with | oref hb =>
      rw [o1] at hb
      obtain rfl : b = _ := by simpa using hb
      obtain ⟨w', cs', r1, r2, r3, r4, r5, r6, r7, r8, r9, r10⟩ := storeVar_run (hT.facts ht) (off := off) o2 hv hc hl (by omega)
      have hshape : ∀ k q, w.shape? k = some q → w'.shape? k = some q := by
        intro k q hq
        by_cases e : k = b
        · subst e; simp only [World.shape?, o2, r2] at hq ⊢; rw [r3]; exact hq
        · rw [shape_of_block (r6 k e)]; exact hq
      have hokb : ∀ k, ok k → w'.heap[k]? = w.heap[k]? := fun k hk => r6 k (fun e => hI.nok _ _ b ho rfl o1 (e ▸ hk))
      refine ends_write hI hF hE hn hd hx hdst ho rfl o1 r7 r6 (by simp [World.shape?, o2, r2, r3]) r8 r9 r10 ?_ rfl (by rw [Sem.run_bind, r1]; rfl) h
      refine ⟨b, cs', bt, o1, r2, by rw [r3, o3]; simp [putAt]; omega, fun j c hj => ?_⟩
      rcases putAt_get hj hle with ⟨e1, e2, e3⟩ | ⟨e1, e2⟩
      · rw [r4 j e1 e2]
        exact (c2 _ _ e3).1.mono hokb (fun _ h => h) hshape (fun _ _ h => h)
      · rw [r5 j e1]
        exact (o4 j c e2).mono hokb (fun _ h => h) hshape (fun _ _ h => h)
    · exact h.elim
  · rename_i id sz i off he
    rw [he] at hy
    split at h
    · rename_i sz' rows ho
      obtain ⟨rfl, h⟩ := h
      split at h
      · rename_i r ds hr hds
        obtain ⟨hle, h⟩ := h
        obtain ⟨d1, d2⟩ := toDs_get hds
        obtain ⟨o0, o1⟩ := hI.own _ _ ho
        have hi := (List.getElem?_eq_some_iff.1 hr).1
        have hrl := o0 r (List.mem_of_getElem? hr)
        rcases o1 with ⟨e1, _⟩ | ⟨b, cs, bt, o1, o2, o3, o4⟩
        · subst e1; simp at hi
        generalize hye : a.eval y = yv at hy
        cases hy with | aref hb =>
        rw [o1] at hb
        obtain rfl : b = _ := by simpa using hb
        have hi2 : (i + 1) * sz ≤ rows.length * sz := Nat.mul_le_mul_right _ hi
        rw [Nat.succ_mul] at hi2
        obtain ⟨w', cs', r1, r2, r3, r4, r5, r6, r7, r8, r9, r10⟩ := storeVar_run (hT.facts ht) (off := i * sz + off) o2 hv hc hl (by omega)
        have hokb : ∀ k, ok k → w'.heap[k]? = w.heap[k]? := fun k hk => r6 k (fun e => hI.nok _ _ b ho rfl o1 (e ▸ hk))
        refine ends_write hI hF hE hn hd hx hdst ho rfl o1 r7 r6 (by simp [World.shape?, o2, r2, r3]) r8 r9 r10 ?_ rfl (by rw [Sem.run_bind, r1]; rfl) h
        refine ⟨fun r' hr' => ?_, .inr ⟨b, cs', bt, o1, r2, by rw [r3, List.length_set]; exact o3, fun i' j r' z hi' hj => ?_⟩⟩
        · rcases List.mem_or_eq_of_mem_set hr' with hr' | rfl
          · exact o0 r' hr'
          · rw [putD_length hle]; exact hrl
        · by_cases e : i' = i
          · subst e
            rw [List.getElem?_set_self hi] at hi'
            obtain rfl : putD r off ds = r' := by simpa using hi'
            rcases putD_get hj hle with ⟨e1, e2, e3⟩ | ⟨e1, e2⟩
            · obtain ⟨c, f1, f2⟩ := d2 _ _ e3
              rw [r4 _ (by omega) (by omega), show i' * sz + j - (i' * sz + off) = j - off by omega]
              exact (f2 _ _ _ _ (c2 _ _ f1).1).mono hokb (fun _ h => h)
            · rw [r5 _ (by omega)]
              exact (o4 _ _ _ _ hr e2).mono hokb (fun _ h => h)
          · rw [List.getElem?_set_ne (Ne.symm e)] at hi'
            have hj' : j < sz := by have := (List.getElem?_eq_some_iff.1 hj).1; have := o0 r' (List.mem_of_getElem? hi'); omega
            rw [r5 _ ?_]
            · exact (o4 _ _ _ _ hi' hj).mono hokb (fun _ h => h)
            · rcases Nat.lt_or_ge i' i with hlt | hge
              · have : (i' + 1) * sz ≤ i * sz := Nat.mul_le_mul_right _ hlt
                rw [Nat.succ_mul] at this
                omega
              · have : (i + 1) * sz ≤ i' * sz := Nat.mul_le_mul_right _ (by omega)
                rw [Nat.succ_mul] at this
                omega
      · exact h.elim
    · exact h.elim
  · exact h.elim

theorem wrap_i64 {n : Int} (h0 : 0 ≤ n) (h1 : n < 2 ^ 63) : IntKind.i64.wrap n = n := by
  simp [IntKind.wrap, IntKind.bits, IntKind.signed]
  omega

theorem zero_row {e : TI} {zv : Value} {z : List D} (hz : toDs e.zero = some z) (h5 : zv.cells.size = e.zero.length) (h7 : ∀ (j : Nat) (c : V), e.zero[j]? = some c → ∀ w ok ρ, VRep w ok ρ c (zv.cells.getD j undef)) :
    z.length = e.zero.length ∧ ∀ (j : Nat) y, z[j]? = some y → DRep w ok y (zv.cells.getD j undef) := by
  obtain ⟨d1, d2⟩ := toDs_get hz
  refine ⟨d1, fun j y hj => ?_⟩
  obtain ⟨c, e1, e2⟩ := d2 j y hj
  exact e2 w ok [] _ (h7 j c e1 w ok [])

theorem makeSlice_sound (hT : TOk P TT) {K : St → Prop} {dst : Option Nat} {t : TypeId} {l c : Operand} {e : TI} {n : Int} {z : List D} (hI : Inv w ok ρ s.objs) (hF : Frm x w ok ρ s.objs)
    (hE : ∀ j, VRep w ok ρ (getE s.env j) (a.tmps.getD j undef)) (hn : a.tmps.size = s.n) (hd : a.defers = []) (hx : x.objs.length = s.fx) (hdst : ∀ d, dst = some d → d < s.n) (he : elemOf TT t = some e)
    (hl : s.ev l = .d (.int .i64 n)) (hc : s.ev c = .d (.int .i64 n)) (hz : toDs e.zero = some z) (h0 : 0 ≤ n) (h1 : n < 2 ^ 63) (h2 : e.bytes * n ≤ 2 ^ 48)
    (h : K ((s.new (.arr e.size (List.replicate n.toNat z))).put dst (.msl s.objs.length e.size 0 n.toNat))) : Ends P x K a dst (do pure (.value (← Instr.makeSlice t (a.eval l) (a.eval c)))) w := by
  obtain ⟨et, hu, hf⟩ := elemOf_spec hT he
  have hs := hf.run_sizeOf w
  obtain ⟨i, i1, i2, i3, zv, i4, i5, i6, i7⟩ := hf.info
  have hzv : (zeroValue et).run P w = .ok zv w := by simp [zeroValue, typeInfo, i1, i4]
  have hlv := ev_rep hE l
  have hcv := ev_rep hE c
  rw [hl] at hlv
  rw [hc] at hcv
  obtain ⟨z1, z2⟩ := zero_row (w := w) (ok := ok) hz i5 i7
  let zs : Array Value := if n.toNat * e.size = 0 then #[] else zv.cells
  let out := (Array.range (n.toNat * e.size)).map (zs[· % zs.size]!)
  have hout : out.size = n.toNat * e.size := by simp [out]
  refine ends_new (w' := { w with heap := w.heap.push (.cells out et (0, 0)) }) (v := .slice (some ⟨w.heap.size, 0, none⟩) n.toNat n.toNat) hI hF hE hn hd hx hdst (by simp) (fun b hb => push_old _ hb) rfl rfl rfl (some w.heap.size) (fun b hb => by simp at hb; omega)
    (arr_new_rep (fun r hr => by rw [List.eq_of_mem_replicate hr, z1, i6]) (by rw [hout]; simp) ?_ hI.okb hI.len rfl) ?_ ?_ h
  · intro i j r y hi hj
    have hin : i < n.toNat := by have := (List.getElem?_eq_some_iff.1 hi).1; simpa using this
    rw [List.getElem?_replicate, if_pos hin] at hi
    obtain rfl : z = r := by simpa using hi
    have hjl := (List.getElem?_eq_some_iff.1 hj).1
    have hjs : j < e.size := by omega
    have hlt : i * e.size + j < n.toNat * e.size := row_lt hin hjs
    have hzs : zs = zv.cells := if_neg (by omega)
    have : out.getD (i * e.size + j) undef = zv.cells.getD j undef := by
      simp only [out, hzs, Array.getD_eq_getD_getElem?, Array.getElem?_map]
      rw [Array.getElem?_range, if_pos hlt]
      simp only [Option.map_some, Option.getD_some]
      rw [show zv.cells.size = e.size by omega, Nat.mul_comm, Nat.mul_add_mod, Nat.mod_eq_of_lt hjs]
      simp [show j < zv.cells.size by omega]
    rw [this]
    exact z2 j y hj
  · have := VRep.msl (w := { w with heap := w.heap.push (.cells out et (0, 0)) }) (ok := ok) (ρ := ρ ++ [some w.heap.size]) (id := s.objs.length) (sz := e.size) (off := 0) (len := n.toNat) (cap := n.toNat) (t := et) (n := out.size) (snoc_len hI.len) (Nat.le_refl _) (by simp [World.shape?]) (by rw [Nat.zero_add, hout]; omega)
    rwa [Nat.zero_mul] at this
  · have hbool : (decide (n < 0) || decide ((e.bytes : Int) * n > 2 ^ 48)) = false := by simp; omega
    have hti : (typeInfo et).run P w = .ok i w := by simp [typeInfo, i1]
    rw [hlv.int_eq, hcv.int_eq]
    simp only [Instr.makeSlice, Sem.run_bind, run_underlying (w := w) hu, Result.andThen_ok, hs, asInt, asIntOf, Sem.run_pure, hti, i3, wrap_i64 h0 h1, hbool, Bool.false_or]
    rw [if_neg (by simp; omega)]
    simp only [Sem.run_bind, run_askRoom, Result.andThen_ok, hs]
    by_cases cz : n.toNat * e.size = 0
    · have hzs : zs = #[] := if_pos cz
      rw [if_pos cz]
      simp [newRow, out, hzs]
    · have hzs : zs = zv.cells := if_neg cz
      rw [if_neg cz]
      simp [newRow, out, hzs, hzv]

end
end Go.Fw
