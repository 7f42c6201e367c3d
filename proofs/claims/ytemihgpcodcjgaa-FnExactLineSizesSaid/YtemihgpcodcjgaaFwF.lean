/- Why the model's steps give what the abstract machine's steps tell: all steps that turn no memory, together. -/
import Derived.Test.YtemihgpcodcjgaaFwE
set_option linter.unusedSimpArgs false
set_option linter.unusedVariables false
namespace Go.Fw

section
variable {P : Program} {TT : Nat → Option TI} {w : World} {ok : Nat → Prop} {ρ : List (Option Nat)}

theorem VRep.bool_eq {b : Bool} {v : Value} (h : VRep w ok ρ (.d (.bool b)) v) : v = .bool b := by
  cases h with | d h => cases h; rfl
theorem VRep.int_eq {k : IntKind} {n : Int} {v : Value} (h : VRep w ok ρ (.d (.int k n)) v) : v = .int k n := by
  cases h with | d h => cases h; rfl
theorem VRep.str_eq {s : List UInt8} {v : Value} (h : VRep w ok ρ (.d (.str s)) v) : v = .string (bytesOf s) := by
  cases h with | d h => cases h; rfl

/-- An operation that gives a value and turns nothing. -/
def Gives1 (P : Program) (w : World) (ok : Nat → Prop) (ρ : List (Option Nat)) (K : V → Prop) (s : Sem Next) : Prop :=
  ∃ x v, K x ∧ s.run P w = .ok (.value v) w ∧ VRep w ok ρ x v

theorem Gives.one {K : V → Prop} {s : Sem Value} (h : Gives P w ok ρ K s) : Gives1 P w ok ρ K (do pure (.value (← s))) := by
  obtain ⟨x, v, h1, h2, h3⟩ := h
  exact ⟨x, v, h1, by simp [h2], h3⟩

theorem run_max_int (ts : Array TypeId) (ty : TypeId) (k k' : IntKind) (a b : Int) : (Builtin.max_ ts ty #[.int k a, .int k' b]).run P w = .ok (.int k (max a b)) w := by
  simp only [Builtin.max_, List.foldlM_cons, List.foldlM_nil, Builtin.max2, Sem.run_bind, Sem.run_pure, Result.andThen_ok]
  congr 2
  rw [Int.max_def]
  split <;> split <;> omega

theorem run_min_int (ts : Array TypeId) (ty : TypeId) (k k' : IntKind) (a b : Int) : (Builtin.min_ ts ty #[.int k a, .int k' b]).run P w = .ok (.int k (min a b)) w := by
  simp only [Builtin.min_, List.foldlM_cons, List.foldlM_nil, Builtin.min2, Sem.run_bind, Sem.run_pure, Result.andThen_ok]
  congr 2
  rw [Int.min_def]
  split <;> split <;> omega

theorem toDs_sound {ev : Operand → V} {e : Operand → Value} (hev : ∀ x, VRep w ok ρ (ev x) (e x)) : ∀ (l : List Operand) (xs : List D), toDs (l.map ev) = some xs →
    xs.length = l.length ∧ ∀ (j : Nat) x, xs[j]? = some x → DRep w ok x ((l.map e).getD j undef) := by
  intro l
  induction l with
  | nil => intro xs h; obtain rfl : [] = xs := by simpa [toDs] using h
           exact ⟨rfl, by simp⟩
  | cons o l ih =>
    intro xs h
    simp only [List.map_cons, toDs] at h
    split at h
    · rename_i x xs' h1 h2
      obtain rfl : x :: xs' = xs := by simpa using h
      obtain ⟨h3, h4⟩ := ih _ h2
      refine ⟨by simp [h3], fun j y hj => ?_⟩
      cases j with
      | zero =>
        obtain rfl : x = y := by simpa using hj
        have := hev o
        simp only [List.map_cons, List.getD_cons_zero]
        generalize ev o = z at this h1
        cases z <;> simp [V.toD] at h1
        · subst h1; cases this with | d this => exact this
        · subst h1; generalize e o = u at this; cases this; exact .nil
      | succ j => simpa using h4 j y (by simpa using hj)
    · simp at h

theorem pv_sound (hT : TOk P TT) {ev : Operand → V} {e : Operand → Value} {objs : List O} (hev : ∀ x, VRep w ok ρ (ev x) (e x)) (hI : Inv w ok ρ objs) (o : Oper) {K : V → Prop}
    (h : pv TT ev objs o.op K) : Gives1 P w ok ρ K (execOp e o) := by
  unfold pv at h
  unfold execOp
  split at h
  · rename_i x ho; rw [ho]; exact ⟨_, _, h, rfl, hev x⟩
  · rename_i x ho; rw [ho]; exact ⟨_, _, h, rfl, hev x⟩
  · rename_i c a b ho
    rw [ho]
    have hc := hev c
    split at h
    · rename_i t ht
      rw [ht] at hc
      refine ⟨_, if t = true then e a else e b, h, by simp [hc.bool_eq, asBool], ?_⟩
      split
      · exact hev a
      · exact hev b
    · exact h.elim
  · rename_i x ho
    rw [ho]
    have hx := hev x
    generalize ev x = xv at h hx
    generalize hv : e x = v at hx
    split at h
    · cases hx with | oref hb => exact ⟨_, _, h, by simp [hv], .oref hb⟩
    · cases hx with | aref hb => exact ⟨_, _, h, by simp [hv], .aref hb⟩
    · cases hx with | d hx =>
      obtain ⟨b, off, rfl, _⟩ := hx.ptr_cells (ρ := ρ)
      exact ⟨_, _, h, by simp [hv], .d hx⟩
    · exact h.elim
  · rename_i t x ho
    rw [ho]
    split at h
    · rename_i ti ht
      exact (ald_sound (hT.facts ht) hI h (hev x)).one
    · exact h.elim
  · rename_i op t x y u ho
    rw [ho]
    exact (abin_sound hT h (hev x) (hev y) x y).one
  · rename_i op t x ho
    rw [ho]
    exact (aun_sound h (hev x)).one
  · rename_i s t x ho
    rw [ho]
    obtain ⟨hs, h⟩ := h
    split at h
    · rename_i k sz by_ z n k' ht hx
      have hv := hev x
      rw [hx] at hv
      have hu := int_und (hT.facts ht) rfl
      cases hts : TT s with
      | none => rw [hts] at hs; simp at hs
      | some si =>
        obtain ⟨d, hd, _⟩ := (hT.facts hts).und
        refine Gives.one (.mk h.2 ?_ (.d .int))
        have := h.1
        unfold inR at this
        simp only [convert, Sem.run_bind, run_underlying (w := w) hd, run_underlying (w := w) hu, Result.andThen_ok, hv.int_eq]
        simp [Conv.intToInt, this]
    · exact h.elim
  · rename_i t x lo hi ho
    rw [ho]
    exact (aslc_sound hT hev h).one
  · rename_i t x f ho
    rw [ho]
    split at h
    · rename_i p hp
      cases ht : TT t with
      | none => rw [ht] at hp; simp [fieldOf] at hp
      | some ti =>
        rw [ht] at hp
        exact (afld_sound (hT.facts ht) hp h (hev x)).one
    · exact h.elim
  · rename_i t x f ho
    rw [ho]
    have hx := hev x
    have hfld : ∀ p, fieldOf (TT t) f = some p → ∃ fs : Array Field, ∃ fd, P.underlying t = some (.struct fs) ∧ fs[f]? = some fd ∧ fldB P fd p = true := by
      intro p hp
      cases ht : TT t with
      | none => rw [ht] at hp; simp [fieldOf] at hp
      | some ti =>
        rw [ht] at hp
        have hF := hT.facts ht
        obtain ⟨kd, sz, by_, z⟩ := ti
        cases kd <;> simp [fieldOf] at hp
        obtain ⟨fs, hu, _, hf, _⟩ := struct_und hF rfl
        obtain ⟨fd, h1, h2⟩ := hf f p hp
        exact ⟨fs, fd, hu, h1, h2⟩
    split at h
    · rename_i off sz cs hp hxe
      rw [hxe] at hx
      obtain ⟨fs, fd, hu, hfd, hB⟩ := hfld _ hp
      simp only [fldB, Bool.and_eq_true, beq_iff_eq, bne_iff_ne, ne_eq] at hB
      obtain ⟨⟨⟨⟨h1, h2⟩, h3⟩, h4⟩, h5⟩ := hB
      generalize hev : e x = v at hx
      cases hx with | @agg _ vs hn hx =>
      obtain ⟨hle, h⟩ := h
      have hag : (isAgg fd.type).run P w = .ok true w := by
        unfold aggB at h3
        split at h3 <;> first | (simp at h3; done) | (rename_i hd; simp [isAgg, underlying, hd])
      have hsz : (sizeOf fd.type).run P w = .ok sz w := by
        cases hi : P.info? fd.type with
        | none => rw [hi] at h2; simp at h2
        | some i => rw [hi] at h2; simp at h2; simp [sizeOf, typeInfo, hi, h2]
      refine Gives.one (.mk h (v := .agg (vs.extract off (off + sz))) ?_ (.agg (by simp; omega) ?_))
      · simp [Instr.field, underlying, hu, hfd, part, hag, hsz, asAgg, hev, h1]
      · intro i c hi
        rw [List.getElem?_take] at hi
        split at hi
        · rw [List.getElem?_drop] at hi
          have := hx _ _ hi
          rename_i hlt
          have e1 : (vs.extract off (off + sz)).getD i undef = vs.getD (off + i) undef := by
            simp only [Array.getD_eq_getD_getElem?, Array.getElem?_extract]
            rw [if_pos (by omega)]
          rw [e1]; exact this
        · simp at hi
    · rename_i off sz cs hp hxe
      rw [hxe] at hx
      obtain ⟨fs, fd, hu, hfd, hB⟩ := hfld _ hp
      simp only [fldB, Bool.and_eq_true, beq_iff_eq, bne_iff_ne, ne_eq] at hB
      obtain ⟨⟨⟨⟨h1, h2⟩, h3⟩, h4⟩, h5⟩ := hB
      generalize hev : e x = v at hx
      cases hx with | @agg _ vs hn hx =>
      split at h
      · rename_i c hc
        have hlt := (List.getElem?_eq_some_iff.1 hc).1
        have hag : (isAgg fd.type).run P w = .ok false w := by
          cases hi : P.info? fd.type with
          | none => rw [hi] at h2; simp at h2
          | some i =>
            cases hd : P.underlying fd.type with
            | none =>
              rw [hd] at h5
              simp at h5
            | some d =>
              unfold aggB at h3
              rw [hd] at h3
              simp only [isAgg, underlying, Sem.run_bind, run_program, Result.andThen_ok, hd]
              cases d <;> simp_all
        have hxc := hx _ _ hc
        obtain ⟨u, hu1, hu2⟩ : ∃ u, vs[off]? = some u ∧ vs.getD off undef = u := ⟨_, Array.getElem?_eq_getElem (by omega), by simp [Array.getD, show off < vs.size by omega]⟩
        rw [hu2] at hxc
        refine Gives.one (.mk h (v := u) ?_ hxc)
        simp [Instr.field, underlying, hu, hfd, part, hag, asAgg, hev, h1, hu1]
      · exact h.elim
    · exact h.elim
  · rename_i t x i ho
    rw [ho]
    split at h
    · rename_i ti ht
      exact (aidx_sound hT ht h (hev x) (hev i)).one
    · exact h.elim
  · rename_i t x i ho
    rw [ho]
    obtain ⟨hs, h⟩ := h
    split at h
    · rename_i s k n hx hi
      obtain ⟨h0, h⟩ := h
      split at h
      · rename_i b hb
        have hxv := hev x
        have hiv := hev i
        rw [hx] at hxv
        rw [hi] at hiv
        cases ht : TT t with
        | none => rw [ht] at hs; simp [isStr] at hs
        | some ti =>
          rw [ht] at hs
          have hu := isStr_und (hT.facts ht) hs
          refine Gives.one (.mk h ?_ (.d .int))
          simp [Instr.index, asIntOf, underlying, hu, h0, bytes_index hb, hxv.str_eq, hiv.int_eq]
      · exact h.elim
    · exact h.elim
  · rename_i x i ho
    rw [ho]
    have hx := hev x
    split at h
    · rename_i vs hv
      rw [hv] at hx
      split at h
      · rename_i y hy
        generalize hxe : e x = v at hx
        cases hx with | @tup _ us hn hx =>
        have hl := (List.getElem?_eq_some_iff.1 hy).1
        have hxc := hx i y hy
        obtain ⟨u, hu1, hu2⟩ : ∃ u, us[i]? = some u ∧ us.getD i undef = u := ⟨_, Array.getElem?_eq_getElem (by omega), by simp [Array.getD, show i < us.size by omega]⟩
        rw [hu2] at hxc
        refine Gives.one (.mk h (v := u) ?_ hxc)
        simp [Instr.extract, hu1, hxe]
      · exact h.elim
    · exact h.elim
  · rename_i t parts ho
    rw [ho]
    split at h
    · rename_i flds ks sz by_ z ht
      split at h
      · rename_i cs hcs
        obtain ⟨i, h1, h2, h3, zv, h4, h5, h6, h7⟩ := (hT.facts ht).info
        obtain ⟨fs, hu, hfs, hf, _⟩ := struct_und (hT.facts ht) rfl
        have hplaces : ∀ (l : List Field), (∀ f ∈ l, ∃ p, fldB P f p = true) → (l.mapM fun f => do pure (f.offset, ← sizeOf f.type) : Sem (List (Nat × Nat))).run P w = .ok (l.map fun f => (f.offset, ((P.info? f.type).map (·.size)).getD 0)) w := by
          intro l
          induction l with
          | nil => intro _; simp
          | cons f l ih =>
            intro hl
            obtain ⟨p, hp⟩ := hl f (by simp)
            have hs : (sizeOf f.type).run P w = .ok (((P.info? f.type).map (·.size)).getD 0) w := by
              simp only [fldB, Bool.and_eq_true, beq_iff_eq] at hp
              cases hi : P.info? f.type with
              | none => rw [hi] at hp; simp at hp
              | some i => simp [sizeOf, typeInfo, hi]
            have := ih (fun f hf => hl f (by simp [hf]))
            simp only [List.mapM_cons, Sem.run_bind, hs, Result.andThen_ok, Sem.run_pure, List.map_cons]
            rw [this]
            rfl
        let places : Array (Nat × Nat) := fs.map fun f => (f.offset, ((P.info? f.type).map (·.size)).getD 0)
        have hp : (fs.mapM fun f => do pure (f.offset, ← sizeOf f.type) : Sem (Array (Nat × Nat))).run P w = .ok places w := by
          rw [Array.mapM_eq_mapM_toList]
          have := hplaces fs.toList (fun f hf' => by
            obtain ⟨j, hj⟩ := List.mem_iff_getElem?.1 hf'
            have hjl : j < flds.length := by have := (List.getElem?_eq_some_iff.1 hj).1; simp at this; omega
            obtain ⟨f', e1, e2⟩ := hf j _ (List.getElem?_eq_getElem hjl)
            have : f' = f := by simpa [e1] using hj
            exact ⟨_, this ▸ e2⟩)
          rw [Sem.run_map, this]
          simp only [Result.andThen_ok, places]
          congr 1
          apply Array.ext'
          simp
        have hpl : ∀ (i : Nat) (p : Nat × Nat × Bool), flds[i]? = some p → places[i]? = some (p.1, p.2.1) := by
          intro i p hip
          obtain ⟨f, e1, e2⟩ := hf i p hip
          simp only [fldB, Bool.and_eq_true, beq_iff_eq] at e2
          simp [places, e1, e2.1.1.1.1, e2.1.1.1.2]
        obtain ⟨us, u1, u2, u3⟩ := abuild_sound (ok := ok) (ρ := ρ) (w := w) hpl _ (parts.toList.map fun p => (p.1, e p.2)) _ _ zv.cells hcs h5 (fun j c hj => h7 j c hj w ok ρ) (by simp) (fun j p q h1 h2 => by
          rw [List.getElem?_map] at h1 h2
          cases hpj : parts.toList[j]? with
          | none => rw [hpj] at h1; simp at h1
          | some r =>
            rw [hpj] at h1 h2
            obtain rfl : (r.1, ev r.2) = p := by simpa using h1
            obtain rfl : (r.1, e r.2) = q := by simpa using h2
            exact ⟨rfl, hev _⟩)
        refine Gives.one (.mk h (v := .agg us) ?_ (.agg u2 u3))
        have hz : (zeroValue t).run P w = .ok zv w := by simp [zeroValue, typeInfo, h1, h4]
        simp only [Instr.build, Sem.run_bind, hz, Result.andThen_ok, run_underlying (w := w) hu, hp]
        have : (parts.map fun (i, x) => (i, e x)).toList = parts.toList.map fun p => (p.1, e p.2) := by simp
        rw [this, u1]
        rfl
      · exact h.elim
    · exact h.elim
  · rename_i f first cap ho
    rw [ho]
    obtain ⟨rfl, h⟩ := h
    split at h
    · rename_i xs hxs
      obtain ⟨h1, h2⟩ := toDs_sound hev _ _ hxs
      refine Gives.one (.mk h (v := .func (.func f) #[] (cap.map e)) (by simp [Instr.makeFunc]) (.d (.fn (by simp [h1]) ?_)))
      intro j x hj
      have := h2 j x hj
      simpa [Array.getD_eq_getD_getElem?, List.getD_eq_getElem?_getD] using this
    · exact h.elim
  · rename_i args ts ho
    rw [ho]
    split at h
    · rename_i x t hx ht
      obtain ⟨args⟩ := args
      obtain ⟨ts⟩ := ts
      simp only at hx ht
      subst hx ht
      obtain ⟨y, v, h1, h2, h3⟩ := alen_sound (ty := o.type) hT h (hev x)
      exact ⟨y, v, h1, by simp [resolve, invoke, builtin, h2], h3⟩
    · exact h.elim
  · rename_i args ts ho
    rw [ho]
    split at h
    · rename_i x y hx
      obtain ⟨args⟩ := args
      simp only at hx
      subst hx
      split at h
      · rename_i k a k' b hxe hye
        have hxv := hev x
        have hyv := hev y
        rw [hxe] at hxv
        rw [hye] at hyv
        exact ⟨_, _, h, by simp [resolve, invoke, builtin, hxv.int_eq, hyv.int_eq, run_max_int], .d .int⟩
      · exact h.elim
    · exact h.elim
  · rename_i args ts ho
    rw [ho]
    split at h
    · rename_i x y hx
      obtain ⟨args⟩ := args
      simp only at hx
      subst hx
      split at h
      · rename_i k a k' b hxe hye
        have hxv := hev x
        have hyv := hev y
        rw [hxe] at hxv
        rw [hye] at hyv
        exact ⟨_, _, h, by simp [resolve, invoke, builtin, hxv.int_eq, hyv.int_eq, run_min_int], .d .int⟩
      · exact h.elim
    · exact h.elim
  · exact h.elim

end
end Go.Fw
