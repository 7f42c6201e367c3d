/- Why the model's steps give what the abstract machine's steps tell (steps that turn no memory), the rest. -/
import Derived.Test.YtemihgpcodcjgaaFwD
set_option linter.unusedSimpArgs false
set_option linter.unusedVariables false
namespace Go.Fw

section
variable {P : Program} {TT : Nat → Option TI} {w : World} {ok : Nat → Prop} {ρ : List (Option Nat)}

theorem abin_sound (hT : TOk P TT) {op : BinOp} {t : TypeId} {x y : V} {v u : Value} {K : V → Prop} (h : abin TT op t x y K) (hx : VRep w ok ρ x v) (hy : VRep w ok ρ y u) (xo yo : Operand) :
    Gives P w ok ρ K (do eqGuard op t xo yo v u; binOp op t v u) := by
  unfold abin at h
  split at h
  · rename_i k a k' b
    cases hx with | d hx =>
    cases hx
    cases hy with | d hy =>
    cases hy
    obtain ⟨rfl, h⟩ := h
    obtain ⟨x, v, h1, h2, h3⟩ := ibin_sound (P := P) (w := w) (ok := ok) (ρ := ρ) h t
    exact ⟨x, v, h1, by rw [Sem.run_bind]; unfold eqGuard; cases op <;> simpa using h2, h3⟩
  · rename_i a b
    cases hx with | d hx =>
    cases hx
    cases hy with | d hy =>
    cases hy
    obtain ⟨x, v, h1, h2, h3⟩ := sbin_sound (P := P) (w := w) (ok := ok) (ρ := ρ) h t
    exact ⟨x, v, h1, by rw [Sem.run_bind]; unfold eqGuard; cases op <;> simpa using h2, h3⟩
  · rename_i a b
    cases hx with | d hx =>
    cases hx
    cases hy with | d hy =>
    cases hy
    obtain ⟨hb, h⟩ := h
    cases ht : TT t with
    | none => rw [ht] at hb; simp [isBool] at hb
    | some ti =>
      rw [ht] at hb
      obtain ⟨x, v, h1, h2, h3⟩ := bbin_sound (P := P) (w := w) (ok := ok) (ρ := ρ) h (isBool_und (hT.facts ht) hb)
      exact ⟨x, v, h1, by rw [Sem.run_bind]; unfold eqGuard; cases op <;> simpa using h2, h3⟩
  · rename_i as bs
    have key : ∀ r, eqCs (cmpKs (TT t)) as bs = some r → (op = .eql ∨ op = .neq) → (do eqGuard op t xo yo v u; binOp op t v u : Sem Value).run P w = .ok (.bool (if op = .eql then r else !r)) w := by
      intro r hr ho
      cases ht : TT t with
      | none => rw [ht] at hr; simp [cmpKs, eqCs] at hr
      | some ti =>
        rw [ht] at hr
        obtain ⟨h1, xs, ys, rfl, rfl⟩ := eq_agg_sound (hT.facts ht) hr hx hy
        have hg : P.eqGuardType P.depth t = false := by
          have hf := hT.facts ht
          obtain ⟨kd, sz, by_, z⟩ := ti
          cases kd <;> simp [cmpKs, eqCs] at hr
          rename_i flds ks
          cases ks with
          | nil => simp [eqCs] at hr
          | cons k ks => exact (hf.cmp flds k ks rfl).2
        have hq : (eqGuard op t xo yo (.agg xs) (.agg ys)).run P w = .ok () w := by
          unfold eqGuard
          rcases ho with rfl | rfl <;> simp [hg]
        rw [Sem.run_bind, hq, Result.andThen_ok]
        rcases ho with rfl | rfl
        · show (Op.equal t (.agg xs) (.agg ys) >>= fun r => pure (Value.bool r)).run P w = _
          rw [Sem.run_bind, h1]; simp
        · show (Op.equal t (.agg xs) (.agg ys) >>= fun r => pure (Value.bool (!r))).run P w = _
          rw [Sem.run_bind, h1]; simp
    split at h
    · rename_i r hr
      exact .mk h (key _ (by assumption) (.inl rfl)) (.d .bool)
    · rename_i r hr
      exact .mk h (key _ (by assumption) (.inr rfl)) (.d .bool)
    · exact h.elim
  · exact h.elim

theorem aun_sound {op : UnOp} {x : V} {v : Value} {K : V → Prop} (h : aun op x K) (hx : VRep w ok ρ x v) : Gives P w ok ρ K (Op.unary op v) := by
  unfold aun at h
  split at h
  · cases hx with | d hx =>
    cases hx
    exact .mk h (by simp [Op.unary]) (.d .bool)
  · cases hx with | d hx =>
    cases hx
    exact .mk h.2 (by simp [Op.unary, Op.intArith]; simpa [inR] using h.1) (.d .int)
  · exact h.elim

theorem afld_sound {ti : TI} {t : TypeId} {f : Nat} {p : Nat × Nat × Bool} {x : V} {v : Value} {K : V → Prop} (ht : TFacts P t ti) (hp : fieldOf (some ti) f = some p)
    (h : afld p.1 x K) (hx : VRep w ok ρ x v) : Gives P w ok ρ K (Instr.fieldAt t v f) := by
  obtain ⟨kd, sz, by_, z⟩ := ti
  cases kd <;> simp [fieldOf] at hp
  rename_i flds ks
  obtain ⟨fs, hu, _, hf, _⟩ := struct_und ht rfl
  obtain ⟨fd, hfd, hB⟩ := hf f p hp
  simp only [fldB, Bool.and_eq_true, beq_iff_eq, bne_iff_ne, ne_eq] at hB
  obtain ⟨⟨⟨⟨h1, h2⟩, h3⟩, h4⟩, h5⟩ := hB
  have hrun : ∀ b off, (Instr.fieldAt t (.pointer (some ⟨b, off, none⟩)) f).run P w = .ok (.pointer (some ⟨b, off + p.1, none⟩)) w := by
    intro b off
    have hsz : (sizeOf fd.type).run P w = .ok p.2.1 w := by
      cases hi : P.info? fd.type with
      | none => rw [hi] at h2; simp at h2
      | some i => rw [hi] at h2; simp at h2; simp [sizeOf, typeInfo, hi, h2]
    simp [Instr.fieldAt, underlying, hu, hfd, Instr.sureAddr, fieldPlace, hsz, h4, addr_add, h1]
  unfold afld at h
  split at h
  · cases hx with | oref hb => exact .mk h (hrun _ _) (.oref hb)
  · cases hx with | aref hb => exact .mk h (by rw [hrun, Nat.add_assoc]) (.aref hb)
  · cases hx with | d hx =>
    cases hx with | @ptr _ _ _ vs hok hc hd =>
    refine .mk h (hrun _ _) (.d (.ptr hok (vs := fun j => vs (p.1 + j)) (fun j y hj => ?_) (fun j y hj => ?_)))
    · rw [List.getElem?_drop] at hj
      rw [Nat.add_assoc]
      exact hc _ _ hj
    · rw [List.getElem?_drop] at hj
      exact hd _ _ hj
  · exact h.elim

theorem elemOf_spec (hT : TOk P TT) {t : TypeId} {e : TI} (h : elemOf TT t = some e) : ∃ u, P.underlying t = some (.slice u) ∧ TFacts P u e := by
  unfold elemOf at h
  split at h
  · rename_i u _ _ _ ht
    exact ⟨u, slice_und (hT.facts ht) rfl, hT.facts h⟩
  · simp at h

theorem aidx_sound (hT : TOk P TT) {t : TypeId} {e : TI} {x i : V} {v u : Value} {K : V → Prop} (he : elemOf TT t = some e) (h : aidx e.size x i K)
    (hx : VRep w ok ρ x v) (hi : VRep w ok ρ i u) : Gives P w ok ρ K (Instr.indexAt t v u) := by
  obtain ⟨et, hu, hf⟩ := elemOf_spec hT he
  have hs := hf.run_sizeOf w
  have hrun : ∀ (b off len cap : Nat) (k : IntKind) (n : Int), 0 ≤ n → n < len → (Instr.indexAt t (.slice (some ⟨b, off, none⟩) len cap) (.int k n)).run P w = .ok (.pointer (some ⟨b, off + n.toNat * e.size, none⟩)) w := by
    intro b off len cap k n h0 h1
    simp [Instr.indexAt, asIntOf, underlying, hu, h0, h1, hs, addr_add]
  unfold aidx at h
  split at h
  · rename_i rows k n
    cases hi with | d hi =>
    cases hi
    cases hx with | d hx =>
    obtain ⟨h0, h⟩ := h
    split at h
    · rename_i r hr
      obtain ⟨hl, h⟩ := h
      have hlt := (List.getElem?_eq_some_iff.1 hr).1
      cases hx with
      | nil => simp at hlt
      | @lst _ sz b off cap vs hok hsz hcap hc hd =>
        obtain rfl : sz = e.size := by rw [← hl]; exact (hsz r (List.mem_of_getElem? hr)).symm
        refine .mk h (hrun _ _ _ _ _ _ h0 (by omega)) (.d (.ptr hok (vs := fun j => vs n.toNat j) (fun j y hj => ?_) (fun j y hj => ?_)))
        · rw [Nat.add_assoc]; exact hc _ _ r y hr hj
        · exact hd _ _ r y hr hj
    · exact h.elim
  · rename_i id sz' off len k n
    cases hi with | d hi =>
    cases hi
    obtain ⟨h0, h1, rfl, h⟩ := h
    cases hx with
    | msl hb hc hsh hn =>
      refine .mk h (hrun _ _ _ _ _ _ h0 h1) ?_
      have : off * e.size + n.toNat * e.size = (off + n.toNat) * e.size + 0 := by rw [Nat.add_mul]; omega
      rw [this]
      exact .aref hb
    | msl0 => omega
  · exact h.elim

theorem bytes_index {s : List UInt8} {n : Nat} {b : UInt8} (h : s[n]? = some b) : (bytesOf s)[n]? = some b := by
  have hl := (List.getElem?_eq_some_iff.1 h).1
  have he := (List.getElem?_eq_some_iff.1 h).2
  rw [ByteArray.getElem?_lt' _ _ (by rw [bytesOf_size]; exact hl)]
  congr 1


theorem bounds_sound {ev : Operand → V} {e : Operand → Value} (hev : ∀ x, VRep w ok ρ (ev x) (e x)) (b : Bool) {len cap l h : Nat} {lo hi : Option Operand}
    (h1 : abd (lo.map ev) 0 = some l) (h2 : abd (hi.map ev) len = some h) (h3 : l ≤ h) (h4 : h ≤ cap) (h5 : len ≤ cap) :
    (Instr.sliceBounds b len cap (lo.map e) (hi.map e) none).run P w = .ok (l, h, cap) w := by
  have key : ∀ (x : Operand) (d n : Nat), abd (some (ev x)) d = some n → ∃ k : IntKind, ∃ m : Int, e x = .int k m ∧ 0 ≤ m ∧ m.toNat = n := by
    intro x d n hn
    have := hev x
    unfold abd at hn
    split at hn
    · rename_i he; simp at he
    · rename_i k m he
      simp only [Option.some.injEq] at he
      rw [he] at this
      cases this with | d this =>
      generalize e x = v at this
      cases this
      split at hn
      · rename_i h0
        exact ⟨_, _, rfl, h0, by simpa using hn⟩
      · simp at hn
    · simp at hn
  cases lo with
  | none =>
    obtain rfl : 0 = l := by simpa [abd] using h1
    cases hi with
    | none =>
      obtain rfl : len = h := by simpa [abd] using h2
      simp [Instr.sliceBounds]
    | some y =>
      obtain ⟨k, m, hy, h0, rfl⟩ := key y _ _ h2
      simp [Instr.sliceBounds, hy, run_sliceBound (P := P) w k m _ _ h0 (show m ≤ (cap : Int) by omega)]
  | some x =>
    obtain ⟨k, m, hx, h0, rfl⟩ := key x _ _ h1
    cases hi with
    | none =>
      obtain rfl : len = h := by simpa [abd] using h2
      simp [Instr.sliceBounds, hx, run_sliceBound (P := P) w k m _ _ h0 (show m ≤ (len : Int) by omega)]
    | some y =>
      obtain ⟨k', m', hy, h0', rfl⟩ := key y _ _ h2
      simp only [Instr.sliceBounds, Option.map_some, hx, hy, Sem.run_bind, Sem.run_pure, Result.andThen_ok]
      rw [run_sliceBound (P := P) w k' m' _ _ h0' (show m' ≤ (cap : Int) by omega)]
      simp only [Result.andThen_ok]
      rw [run_sliceBound (P := P) w k m _ _ h0 (show m ≤ ((m'.toNat : Nat) : Int) by omega)]
      simp

theorem bytesOf_extract (s : List UInt8) (l h : Nat) : (bytesOf s).extract l h = bytesOf ((s.take h).drop l) := by
  have := ByteArray.extract_mk s l h
  show (ByteArray.mk s.toArray).extract l h = _
  rw [this]
  simp [bytesOf, List.drop_take]

theorem aslc_sound (hT : TOk P TT) {ev : Operand → V} {e : Operand → Value} (hev : ∀ x, VRep w ok ρ (ev x) (e x)) {t : TypeId} {x : Operand} {lo hi : Option Operand} {K : V → Prop}
    (h : aslc TT t (ev x) (lo.map ev) (hi.map ev) K) : Gives P w ok ρ K (Instr.sliceAt t (e x) (lo.map e) (hi.map e) none) := by
  have hx := hev x
  generalize ev x = xv at h hx
  generalize e x = v at hx
  unfold aslc at h
  split at h
  · rename_i s
    obtain ⟨hs, h⟩ := h
    cases ht : TT t with
    | none => rw [ht] at hs; simp [isStr] at hs
    | some ti =>
      rw [ht] at hs
      have hu := isStr_und (hT.facts ht) hs
      cases hx with | d hx =>
      cases hx
      split at h
      · rename_i l hh e1 e2
        obtain ⟨h1, h2, h⟩ := h
        refine .mk h (v := .string (bytesOf ((s.take hh).drop l))) ?_ (.d .str)
        have hb := bounds_sound (P := P) hev false (len := s.length) (cap := s.length) e1 e2 h1 h2 (Nat.le_refl _)
        simp [Instr.sliceAt, Instr.slice, underlying, hu, bytesOf_size, hb, bytesOf_extract]
      · exact h.elim
  · rename_i rows
    obtain ⟨⟨et, he, hl⟩, h⟩ := h
    obtain ⟨u, hu, hf⟩ := elemOf_spec hT he
    have hs := hf.run_sizeOf w
    cases hx with | d hx =>
    split at h
    · rename_i l hh e1 e2
      obtain ⟨h1, h2, h⟩ := h
      cases hx with
      | @nil a cap =>
        have hh0 : hh = 0 := by simpa using h2
        subst hh0
        obtain rfl : l = 0 := by omega
        have hb := bounds_sound (P := P) hev true (len := 0) (cap := cap) e1 e2 h1 (Nat.zero_le _) (Nat.zero_le _)
        refine .mk h (v := .slice (if cap = 0 then a else a.map (·.add (0 * et.size))) 0 (cap - 0)) ?_ ?_
        · simp [Instr.sliceAt, Instr.slice, underlying, hu, hb, hs]
        · simp; exact .d .nil
      | @lst _ sz b off cap vs hok hsz hcap hc hd =>
        have hb := bounds_sound (P := P) hev true (len := rows.length) (cap := cap) e1 e2 h1 (Nat.le_trans h2 hcap) hcap
        by_cases hlh : l = hh
        · subst hlh
          have e0 : (rows.take l).drop l = [] := by simp
          rw [e0] at h
          refine .mk h (v := .slice (if cap = l then some ⟨b, off, none⟩ else some ⟨b, off + l * et.size, none⟩) 0 (cap - l)) ?_ (.d .nil)
          simp [Instr.sliceAt, Instr.slice, underlying, hu, hb, hs, addr_add]
        · have hne : ¬ cap = l := by omega
          have hl0 : l < rows.length := by omega
          obtain rfl : sz = et.size := by rw [← hl _ (List.getElem_mem hl0)]; exact (hsz _ (List.getElem_mem hl0)).symm
          have hlen : ((rows.take hh).drop l).length = hh - l := by simp; omega
          refine .mk h (v := .slice (some ⟨b, off + l * et.size, none⟩) ((rows.take hh).drop l).length (cap - l)) ?_ (.d (.lst (sz := et.size) (vs := fun i j => vs (l + i) j) hok ?_ ?_ ?_ ?_))
          · rw [hlen]; simp [Instr.sliceAt, Instr.slice, underlying, hu, hb, hs, addr_add, hne]
          · intro r hr; exact hsz r (List.mem_of_mem_take (List.mem_of_mem_drop hr))
          · rw [hlen]; omega
          · intro i j r y hi hj
            have hi' : rows[l + i]? = some r := by
              rw [List.getElem?_drop, List.getElem?_take] at hi
              split at hi
              · exact hi
              · simp at hi
            have := hc _ _ r y hi' hj
            rw [Nat.add_mul] at this
            rw [show off + l * et.size + (i * et.size + j) = off + (l * et.size + i * et.size + j) by omega]
            exact this
          · intro i j r y hi hj
            have hi' : rows[l + i]? = some r := by
              rw [List.getElem?_drop, List.getElem?_take] at hi
              split at hi
              · exact hi
              · simp at hi
            exact hd _ _ r y hi' hj
    · exact h.elim
  · rename_i id sz off len
    obtain ⟨he, h⟩ := h
    cases he' : elemOf TT t with
    | none => rw [he'] at he; simp at he
    | some et =>
      rw [he'] at he
      obtain rfl : et.size = sz := by simpa using he
      obtain ⟨u, hu, hf⟩ := elemOf_spec hT he'
      have hs := hf.run_sizeOf w
      split at h
      · rename_i l hh e1 e2
        obtain ⟨h1, h2, h⟩ := h
        cases hx with
        | @msl _ _ _ _ cap b tt n hb hc hsh hn =>
          have hbd := bounds_sound (P := P) hev true (len := len) (cap := cap) e1 e2 h1 (Nat.le_trans h2 hc) hc
          by_cases hcl : cap = l
          · subst hcl
            obtain rfl : hh = cap := by omega
            refine .mk h (v := .slice (some ⟨b, off * et.size, none⟩) 0 0) ?_ ?_
            · simp [Instr.sliceAt, Instr.slice, underlying, hu, hbd, hs, addr_add]
            · rw [Nat.sub_self]; exact .msl0 (List.getElem?_eq_some_iff.1 hb).1
          · refine .mk h (v := .slice (some ⟨b, (off + l) * et.size, none⟩) (hh - l) (cap - l)) ?_ (.msl hb (by omega) hsh ?_)
            · simp [Instr.sliceAt, Instr.slice, underlying, hu, hbd, hs, addr_add, hcl, Nat.add_mul]
            · rw [show off + l + (cap - l) = off + cap by omega]; exact hn
        | @msl0 _ _ _ a hid =>
          have hh0 : hh = 0 := by omega
          subst hh0
          obtain rfl : l = 0 := by omega
          have hbd := bounds_sound (P := P) hev true (len := 0) (cap := 0) e1 e2 h1 (Nat.zero_le _) (Nat.zero_le _)
          refine .mk h (v := .slice a 0 0) ?_ (.msl0 hid)
          simp [Instr.sliceAt, Instr.slice, underlying, hu, hbd, hs]
      · exact h.elim
  · exact h.elim

theorem isSlice_und {t : TypeId} {ti : TI} (ht : TFacts P t ti) (h : isSlice (some ti) = true) : ∃ u, P.underlying t = some (.slice u) := by
  obtain ⟨k, _, _, _⟩ := ti
  cases k <;> simp [isSlice] at h
  exact ⟨_, slice_und ht rfl⟩

theorem alen_sound (hT : TOk P TT) {t ty : TypeId} {x : V} {v : Value} {K : V → Prop} (h : alen TT t x K) (hx : VRep w ok ρ x v) : Gives P w ok ρ K (Builtin.len_ #[t] ty #[v]) := by
  unfold alen at h
  split at h
  · rename_i s
    obtain ⟨hs, h⟩ := h
    cases ht : TT t with
    | none => rw [ht] at hs; simp [isStr] at hs
    | some ti =>
      rw [ht] at hs
      have hu := isStr_und (hT.facts ht) hs
      cases hx with | d hx =>
      cases hx
      exact .mk h (by simp [Builtin.len_, underlying, hu, goInt, bytesOf_size]) (.d .int)
  all_goals first
    | exact h.elim
    | (obtain ⟨hs, h⟩ := h
       cases ht : TT t with
       | none => rw [ht] at hs; simp [isSlice] at hs
       | some ti =>
         rw [ht] at hs
         obtain ⟨u, hu⟩ := isSlice_und (hT.facts ht) hs
         first
           | (cases hx with | d hx =>
              cases hx <;> exact .mk h (by simp [Builtin.len_, underlying, hu, goInt]) (.d .int))
           | (cases hx <;> exact .mk h (by simp [Builtin.len_, underlying, hu, goInt]) (.d .int)))

/-! ### building a struct -/
theorem foldl_set (off : Nat) : ∀ (l : List Value) (k : Nat) (cs : Array Value), off + k + l.length ≤ cs.size →
    let r := (l.zipIdx k).foldl (fun cs (x : Value × Nat) => cs.setIfInBounds (off + x.2) x.1) cs
    r.size = cs.size ∧ ∀ j, r.getD j undef = if off + k ≤ j ∧ j < off + k + l.length then l.getD (j - (off + k)) undef else cs.getD j undef := by
  intro l
  induction l with
  | nil => intro k cs h; simp; intro j h1 h2; omega
  | cons v l ih =>
    intro k cs h
    simp only [List.length_cons] at h
    have := ih (k + 1) (cs.setIfInBounds (off + k) v) (by simp; omega)
    simp only [List.zipIdx_cons, List.foldl_cons]
    obtain ⟨h1, h2⟩ := this
    refine ⟨by rw [h1]; simp, fun j => ?_⟩
    rw [h2]
    by_cases c : off + (k + 1) ≤ j ∧ j < off + (k + 1) + l.length
    · rw [if_pos c, if_pos (by simp only [List.length_cons]; omega)]
      rw [show j - (off + k) = (j - (off + (k + 1))) + 1 by omega]
      simp
    · rw [if_neg c]
      by_cases e : j = off + k
      · subst e
        rw [if_pos (by simp only [List.length_cons]; omega)]
        simp [Array.getD, show off + k < cs.size by omega]
      · rw [if_neg (by simp only [List.length_cons]; omega)]
        simp only [Array.getD_eq_getD_getElem?]
        rw [Array.getElem?_setIfInBounds_ne (by omega)]

theorem scaB_one {x : V} {v : Value} (h : VRep w ok ρ x v) (hs : scaB x = true) : v.oneCell' = true ∧ v.cells = #[v] := by
  cases h with
  | d h =>
    cases h with
    | @raw v hv => refine ⟨hv, ?_⟩; cases v <;> first | rfl | simp [Value.oneCell'] at hv
    | _ => exact ⟨rfl, rfl⟩
  | agg hn h => simp [scaB] at hs
  | tup hn h => simp [scaB] at hs
  | any => simp [scaB] at hs
  | _ => exact ⟨rfl, rfl⟩

theorem scaAll_get {cs : List V} (h : scaAll cs = true) : ∀ (j : Nat) (c : V), cs[j]? = some c → scaB c = true := by
  induction cs with
  | nil => intro j c hj; simp at hj
  | cons x xs ih =>
    simp only [scaAll, Bool.and_eq_true] at h
    intro j c hj
    cases j with
    | zero => obtain rfl : x = c := by simpa using hj
              exact h.1
    | succ j => exact ih h.2 j c (by simpa using hj)

theorem cells_rep {x : V} {v : Value} {cs : List V} (h : VRep w ok ρ x v) (hc : x.cells = some cs) :
    v.cells.size = cs.length ∧ ∀ j c, cs[j]? = some c → VRep w ok ρ c (v.cells.getD j undef) ∧ (v.cells.getD j undef).oneCell' = true := by
  have one : scaB x = true → [x] = cs → v.cells.size = cs.length ∧ ∀ j c, cs[j]? = some c → VRep w ok ρ c (v.cells.getD j undef) ∧ (v.cells.getD j undef).oneCell' = true := by
    intro hs he
    obtain ⟨h1, h2⟩ := scaB_one h hs
    subst he
    rw [h2]
    refine ⟨rfl, fun j c hj => ?_⟩
    cases j with
    | zero => obtain rfl : x = c := by simpa using hj
              exact ⟨h, h1⟩
    | succ j => simp at hj
  cases x with
  | agg cs' =>
    simp only [V.cells] at hc
    split at hc
    · rename_i hs
      obtain rfl : cs' = cs := by simpa using hc
      cases h with
      | agg hn h => exact ⟨hn, fun j c hj => ⟨h j c hj, (scaB_one (h j c hj) (scaAll_get hs j c hj)).1⟩⟩
    · simp at hc
  | _ =>
    simp only [V.cells] at hc
    split at hc
    · rename_i hs; exact one hs (by simpa using hc)
    · simp at hc

theorem abuild_sound {flds : List (Nat × Nat × Bool)} {places : Array (Nat × Nat)} (hp : ∀ (i : Nat) (p : Nat × Nat × Bool), flds[i]? = some p → places[i]? = some (p.1, p.2.1)) :
    ∀ (parts : List (Nat × V)) (vparts : List (Nat × Value)) (cs out : List V) (vs : Array Value), abuild flds cs parts = some out → vs.size = cs.length →
      (∀ j c, cs[j]? = some c → VRep w ok ρ c (vs.getD j undef)) → parts.length = vparts.length →
      (∀ (j : Nat) p q, parts[j]? = some p → vparts[j]? = some q → p.1 = q.1 ∧ VRep w ok ρ p.2 q.2) →
      ∃ us, Instr.fill (places[·]?) vs vparts = some us ∧ us.size = out.length ∧ ∀ j c, out[j]? = some c → VRep w ok ρ c (us.getD j undef) := by
  intro parts
  induction parts with
  | nil =>
    intro vparts cs out vs h hs hr hl _
    cases vparts with
    | nil => obtain rfl : cs = out := by simpa [abuild] using h
             exact ⟨vs, rfl, hs, hr⟩
    | cons => simp at hl
  | cons p parts ih =>
    intro vparts cs out vs h hs hr hl hq
    cases vparts with
    | nil => simp at hl
    | cons q vparts =>
      obtain ⟨i, x⟩ := p
      obtain ⟨i', v⟩ := q
      obtain ⟨e, hx⟩ := hq 0 _ _ rfl rfl
      simp only at e hx
      subst e
      simp only [abuild] at h
      split at h
      · rename_i off sz g hf
        split at h
        · rename_i new hnew
          split at h
          · rename_i hc
            obtain ⟨h1, h2⟩ := cells_rep hx hnew
            obtain ⟨f1, f2⟩ := foldl_set off v.cells.toList 0 vs (by simp; omega)
            have hsz : (putAt cs off new).length = cs.length := by simp [putAt]; omega
            have := ih vparts (putAt cs off new) out _ h (by rw [f1, hsz]; exact hs) (fun j c hj => ?_) (by simpa using hl) (fun j p q h3 h4 => hq (j + 1) p q (by simpa using h3) (by simpa using h4))
            · obtain ⟨us, u1, u2, u3⟩ := this
              refine ⟨us, ?_, u2, u3⟩
              rw [Instr.fill, hp _ _ hf]
              simp only
              rw [if_neg (by simp; omega)]
              rw [← u1]
              congr 1
              rw [← Array.foldl_toList]
              simp
            · rw [f2]
              simp only [Nat.add_zero, Array.length_toList]
              simp only [putAt] at hj
              by_cases c1 : off ≤ j ∧ j < off + v.cells.size
              · rw [if_pos c1]
                rw [List.append_assoc, List.getElem?_append_right (by simp; omega), List.getElem?_append_left (by simp; omega)] at hj
                have hmin : min off cs.length = off := by omega
                simp only [List.length_take, hmin] at hj
                have := (h2 _ _ hj).1
                simpa [Array.getD_eq_getD_getElem?] using this
              · rw [if_neg c1]
                refine hr j c ?_
                by_cases c2 : j < off
                · rw [List.append_assoc, List.getElem?_append_left (by simp; omega), List.getElem?_take, if_pos c2] at hj
                  exact hj
                · rw [List.getElem?_append_right (by simp; omega), List.getElem?_drop] at hj
                  rw [← hj]
                  congr 1
                  simp; omega
          · simp at h
        · simp at h
      · simp at h

end
end Go.Fw
