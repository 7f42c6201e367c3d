/- Why the model's steps give what the abstract machine's steps tell (steps that turn no memory). -/
import Derived.Test.YtemihgpcodcjgaaFwC
set_option linter.unusedSimpArgs false
set_option linter.unusedVariables false
namespace Go.Fw

section
variable {P : Program} {TT : Nat → Option TI} {w : World} {ok : Nat → Prop} {ρ : List (Option Nat)}

/-- A computation that gives a value that stands for some V of which K speaks, and turns nothing. -/
def Gives (P : Program) (w : World) (ok : Nat → Prop) (ρ : List (Option Nat)) (K : V → Prop) (s : Sem Value) : Prop :=
  ∃ x v, K x ∧ s.run P w = .ok v w ∧ VRep w ok ρ x v

theorem Gives.mk {K : V → Prop} {s : Sem Value} {x : V} {v : Value} (hK : K x) (hr : s.run P w = .ok v w) (hv : VRep w ok ρ x v) : Gives P w ok ρ K s := ⟨x, v, hK, hr, hv⟩

theorem ibin_sound {op : BinOp} {k : IntKind} {a b : Int} {K : V → Prop} (h : ibin op k a b K) (t : TypeId) : Gives P w ok ρ K (binOp op t (.int k a) (.int k b)) := by
  unfold ibin at h
  split at h
  case h_1 => exact .mk h.2 (by simp [binOp, Op.intArith]; exact h.1) (.d .int)
  case h_2 => exact .mk h.2 (by simp [binOp, Op.intArith]; exact h.1) (.d .int)
  case h_3 => exact .mk h.2 (by simp [binOp, Op.intArith]; exact h.1) (.d .int)
  case h_4 => exact .mk h.2.2 (by simp [binOp, Op.intDiv, h.1]; exact h.2.1) (.d .int)
  case h_5 => exact .mk h.2 (by simp [binOp, Op.intDiv, h.1]) (.d .int)
  case h_6 => exact .mk h (by simp [binOp, Op.intBits, ibits]) (.d .int)
  case h_7 => exact .mk h (by simp [binOp, Op.intBits, ibits]) (.d .int)
  case h_8 => exact .mk h (by simp [binOp, Op.intBits, ibits]) (.d .int)
  case h_9 => exact .mk h (by simp [binOp, Op.intBits, ibits]) (.d .int)
  case h_10 => exact .mk h (by simp [binOp, Op.intCmp]; by_cases e : a = b <;> simp [e]) (.d .bool)
  case h_11 => exact .mk h (by simp [binOp, Op.intCmp]; by_cases e : a = b <;> simp [e]) (.d .bool)
  case h_12 => exact .mk h (by simp [binOp, Op.intCmp]) (.d .bool)
  case h_13 => exact .mk h (by simp [binOp, Op.intCmp]) (.d .bool)
  case h_14 => exact .mk h (by simp [binOp, Op.intCmp]) (.d .bool)
  case h_15 => exact .mk h (by simp [binOp, Op.intCmp]) (.d .bool)
  case h_16 => exact h.elim

theorem bytesOf_size (s : List UInt8) : (bytesOf s).size = s.length := by simp [bytesOf, ByteArray.size]
theorem bytesOf_toList (s : List UInt8) : (bytesOf s).toList = s := by rw [ByteArray.toList_eq]; rfl
theorem bytesOf_append (a b : List UInt8) : bytesOf a ++ bytesOf b = bytesOf (a ++ b) := by
  apply ByteArray.ext; simp [bytesOf, ByteArray.data_append]

theorem sbin_sound {op : BinOp} {a b : List UInt8} {K : V → Prop} (h : sbin op a b K) (t : TypeId) : Gives P w ok ρ K (binOp op t (.string (bytesOf a)) (.string (bytesOf b))) := by
  unfold sbin at h
  split at h
  · refine .mk h.2 (v := .string (bytesOf (a ++ b))) ?_ (.d .str)
    have : ¬ (((bytesOf a).size + (bytesOf b).size : Nat) : Int) > IntKind.i64.max := by
      rw [bytesOf_size, bytesOf_size]; have := h.1; simp [IntKind.max, IntKind.signed, IntKind.bits] at this ⊢; omega
    simp only [binOp, Op.stringOp, Sem.run_ite, this, if_false, Sem.run_pure, bytesOf_append]
  · refine .mk h (v := .bool (decide (a = b))) ?_ (.d .bool)
    simp only [binOp, Op.stringOp, Sem.run_pure, bytesOf_toList]
    by_cases e : a = b <;> simp [e]
  · refine .mk h (v := .bool (decide (a ≠ b))) ?_ (.d .bool)
    simp only [binOp, Op.stringOp, Sem.run_pure, bytesOf_toList]
    by_cases e : a = b <;> simp [e]
  · exact h.elim

theorem isBool_und {P : Program} {t : TypeId} {ti : TI} (ht : TFacts P t ti) (h : isBool (some ti) = true) : P.underlying t = some .bool := by
  obtain ⟨d, h1, h2⟩ := ht.und
  obtain ⟨k, _, _, _⟩ := ti
  cases k <;> simp [isBool] at h
  rw [h1]
  cases d <;> simp [descB] at h2 <;> rfl

theorem isStr_und {P : Program} {t : TypeId} {ti : TI} (ht : TFacts P t ti) (h : isStr (some ti) = true) : P.underlying t = some .string := by
  obtain ⟨d, h1, h2⟩ := ht.und
  obtain ⟨k, _, _, _⟩ := ti
  cases k <;> simp [isStr] at h
  rw [h1]
  cases d <;> simp [descB] at h2 <;> rfl

theorem slice_und {P : Program} {t : TypeId} {ti : TI} {e : Nat} (ht : TFacts P t ti) (h : ti.kind = .slice e) : P.underlying t = some (.slice e) := by
  obtain ⟨d, h1, h2⟩ := ht.und
  rw [h1]
  rw [h] at h2
  cases d <;> simp [descB] at h2
  subst h2; rfl

theorem int_und {P : Program} {t : TypeId} {ti : TI} {k : IntKind} (ht : TFacts P t ti) (h : ti.kind = .int k) : P.underlying t = some (.int k) := by
  obtain ⟨d, h1, h2⟩ := ht.und
  rw [h1]
  rw [h] at h2
  cases d <;> simp [descB] at h2
  subst h2; rfl

theorem struct_und {P : Program} {t : TypeId} {ti : TI} {flds : List (Nat × Nat × Bool)} {ks : List Nat} (ht : TFacts P t ti) (h : ti.kind = .struct flds ks) :
    ∃ fs : Array Field, P.underlying t = some (.struct fs) ∧ fs.size = flds.length ∧ (∀ (i : Nat) p, flds[i]? = some p → ∃ f : Field, fs[i]? = some f ∧ fldB P f p = true) ∧
      (ks ≠ [] → ks.length = fs.size ∧ ∀ (i : Nat) (f : Field) (k : Nat), fs[i]? = some f → ks[i]? = some k → f.offset = i ∧ f.name ≠ "_" ∧ plainB P f.type k = true) := by
  obtain ⟨d, h1, h2⟩ := ht.und
  rw [h] at h2
  cases d <;> simp [descB] at h2
  rename_i fs
  obtain ⟨⟨h2, h3⟩, h4⟩ := h2
  refine ⟨fs, h1, h2, ?_, ?_⟩
  · intro i p hp
    have hi : i < fs.size := by have := (List.getElem?_eq_some_iff.1 hp).1; omega
    refine ⟨fs[i], by simp [hi], ?_⟩
    have hm : (fs[i], p) ∈ fs.toList.zip flds := by
      rw [List.mem_iff_getElem?]
      exact ⟨i, by rw [List.getElem?_zip_eq_some]; exact ⟨by simp [hi], hp⟩⟩
    obtain ⟨o, z, g⟩ := p
    cases g
    · exact (h3 _ _ _).1 hm
    · exact (h3 _ _ _).2 hm
  · intro hc
    rcases h4 with h4 | ⟨h4, h5⟩
    · exact absurd h4 hc
    · refine ⟨h4, fun i f k hf hk => ?_⟩
      have hm : ((f, k), i) ∈ (fs.toList.zip ks).zipIdx := by
        rw [List.mem_zipIdx_iff_getElem?]
        rw [List.getElem?_zip_eq_some]
        exact ⟨by simpa using hf, hk⟩
      have := h5 _ _ _ hm
      exact ⟨this.1.1, this.1.2, this.2⟩

theorem bbin_sound {op : BinOp} {a b : Bool} {K : V → Prop} (h : bbin op a b K) {t : TypeId} (hk : P.underlying t = some .bool) : Gives P w ok ρ K (binOp op t (.bool a) (.bool b)) := by
  unfold bbin at h
  have hu : (Op.equal t (.bool a) (.bool b)).run P w = .ok (a == b) w := run_equalIn_bool' w 9999 t a b hk
  split at h
  · refine .mk h (v := .bool (a == b)) ?_ (.d .bool)
    show (Op.equal t (.bool a) (.bool b) >>= fun r => pure (Value.bool r)).run P w = _
    rw [Sem.run_bind, hu]; rfl
  · refine .mk h (v := .bool (a != b)) ?_ (.d .bool)
    show (Op.equal t (.bool a) (.bool b) >>= fun r => pure (Value.bool (!r))).run P w = _
    rw [Sem.run_bind, hu]; rfl
  · exact h.elim

/-- The cells of memory from a place on. -/
def CellsAt (w : World) (ok : Nat → Prop) (ρ : List (Option Nat)) (b off : Nat) (cs : List V) : Prop :=
  ∀ j c, cs[j]? = some c → ∃ v, w.cell? ⟨b, off + j, none⟩ = some v ∧ VRep w ok ρ c v

theorem addr_add (b off j : Nat) : (Addr.mk b off none).add j = ⟨b, off + j, none⟩ := by
  unfold Addr.add; split <;> simp_all

theorem ld_sound {t : TypeId} {ti : TI} {b off : Nat} {cs : List V} {K : V → Prop} (ht : TFacts P t ti) (h : ldCells ti cs K) (hc : CellsAt w ok ρ b off cs) :
    Gives P w ok ρ K (loadVar t ⟨b, off, none⟩) := by
  have ha := ht.run_isAgg w
  have hs := ht.run_sizeOf w
  have hcell : ∀ j, j < cs.length → w.cell? ⟨b, off + j, none⟩ = some ((w.cell? ⟨b, off + j, none⟩).getD undef) := by
    intro j hj
    obtain ⟨v, hv, _⟩ := hc j _ (List.getElem?_eq_getElem hj)
    simp [hv]
  unfold ldCells at h
  split at h
  · rename_i flds cmp hk
    rw [hk] at ha
    obtain ⟨hl, h⟩ := h
    let f : Nat → Value := fun j => (w.cell? ⟨b, off + j, none⟩).getD undef
    have hr := run_loadCells (P := P) w ⟨b, off, none⟩ ti.size f (fun j hj => by rw [addr_add]; exact hcell j (by omega))
    refine .mk h (v := .agg ((List.range ti.size).map f).toArray) (by simp [loadVar, ha, hs, hr]) (.agg (by simp; omega) ?_)
    intro i c hi
    have hi' : i < ti.size ∧ cs[i]? = some c := by
      rw [List.getElem?_take] at hi
      split at hi
      · exact ⟨by assumption, hi⟩
      · simp at hi
    obtain ⟨v, hv, hr⟩ := hc i c hi'.2
    have : (((List.range ti.size).map f).toArray).getD i undef = v := by
      simp [Array.getD, hi'.1, f, hv]
    rw [this]; exact hr
  · rename_i hk
    have ha' : (isAgg t).run P w = .ok false w := by
      rw [ha]; split
      · rename_i f c e; exact absurd e (hk f c)
      · rfl
    cases cs with
    | nil => exact h.elim
    | cons c cs =>
      obtain ⟨v, hv, hr⟩ := hc 0 c rfl
      simp only [Nat.add_zero] at hv
      exact .mk h (by simp [loadVar, ha', hv]) hr

theorem CellsAt.drop {b off n : Nat} {cs : List V} (h : CellsAt w ok ρ b off cs) : CellsAt w ok ρ b (off + n) (cs.drop n) := by
  intro j c hj
  rw [List.getElem?_drop] at hj
  rw [show off + n + j = off + (n + j) by omega]
  exact h _ _ hj

theorem ORep.box_cells {id : Nat} {cells : List V} (h : ORep w ok ρ id (.box cells)) : ∃ b, ρ[id]? = some (some b) ∧ CellsAt w ok ρ b 0 cells := by
  obtain ⟨b, cs, t, h1, h2, h3, h4⟩ := h
  refine ⟨b, h1, fun j c hj => ⟨cs.getD j undef, ?_, h4 j c hj⟩⟩
  have : j < cells.length := (List.getElem?_eq_some_iff.1 hj).1
  simp [World.cell?, h2, Array.getD, show j < cs.size by omega]

theorem ORep.arr_cells {id sz : Nat} {rows : List (List D)} (h : ORep w ok ρ id (.arr sz rows)) {i : Nat} {r : List D} (hr : rows[i]? = some r) :
    ∃ b, ρ[id]? = some (some b) ∧ CellsAt w ok ρ b (i * sz) (r.map .d) := by
  obtain ⟨h0, h⟩ := h
  have hi : i < rows.length := (List.getElem?_eq_some_iff.1 hr).1
  rcases h with ⟨h1, _⟩ | ⟨b, cs, t, h1, h2, h3, h4⟩
  · subst h1; simp at hi
  · refine ⟨b, h1, fun j c hj => ?_⟩
    rw [List.getElem?_map] at hj
    cases hx : r[j]? with
    | none => rw [hx] at hj; simp at hj
    | some x =>
      rw [hx] at hj
      obtain rfl : V.d x = c := by simpa using hj
      have hjr : j < sz := by
        have := h0 r (List.mem_of_getElem? hr)
        have := (List.getElem?_eq_some_iff.1 hx).1
        omega
      have hlt : i * sz + j < cs.size := by
        have : (i + 1) * sz ≤ rows.length * sz := Nat.mul_le_mul_right _ hi
        rw [Nat.succ_mul] at this
        omega
      exact ⟨cs.getD (i * sz + j) undef, by simp [World.cell?, h2, Array.getD, hlt], .d (h4 i j r x hr hx)⟩

theorem DRep.ptr_cells {cells : List D} {v : Value} (h : DRep w ok (.ptr cells) v) : ∃ b off, v = .pointer (some ⟨b, off, none⟩) ∧ CellsAt w ok ρ b off (cells.map .d) := by
  cases h with
  | @ptr _ b off vs hok hc hd =>
    refine ⟨b, off, rfl, fun j c hj => ?_⟩
    rw [List.getElem?_map] at hj
    cases hx : cells[j]? with
    | none => rw [hx] at hj; simp at hj
    | some x =>
      rw [hx] at hj
      obtain rfl : V.d x = c := by simpa using hj
      exact ⟨_, hc j x hx, .d (hd j x hx)⟩

theorem ald_sound {t : TypeId} {ti : TI} {objs : List O} {x : V} {v : Value} {K : V → Prop} (ht : TFacts P t ti) (hI : Inv w ok ρ objs) (h : ald ti objs x K) (hx : VRep w ok ρ x v) :
    Gives P w ok ρ K (Instr.loadAt t v) := by
  have key : ∀ (b off : Nat) (cs : List V), v = .pointer (some ⟨b, off, none⟩) → CellsAt w ok ρ b off cs → ldCells ti cs K → Gives P w ok ρ K (Instr.loadAt t v) := by
    intro b off cs hv hc hl
    obtain ⟨y, u, h1, h2, h3⟩ := ld_sound ht hl hc
    exact ⟨y, u, h1, by subst hv; simp [Instr.loadAt, Instr.sureAddr, h2], h3⟩
  unfold ald at h
  split at h
  · rename_i id off
    split at h
    · rename_i cells ho
      obtain ⟨b, hb, hc⟩ := (hI.own _ _ ho).box_cells
      cases hx with
      | oref hb' =>
        rw [hb] at hb'
        obtain rfl : b = _ := by simpa using hb'
        exact key _ _ _ rfl (by have := hc.drop (n := off); rwa [Nat.zero_add] at this) h
    · exact h.elim
  · rename_i id sz i off
    split at h
    · rename_i sz' rows ho
      obtain ⟨rfl, h⟩ := h
      split at h
      · rename_i r hr
        obtain ⟨b, hb, hc⟩ := (hI.own _ _ ho).arr_cells hr
        cases hx with
        | aref hb' =>
          rw [hb] at hb'
          obtain rfl : b = _ := by simpa using hb'
          exact key _ _ _ rfl (by have := hc.drop (n := off); rwa [← List.map_drop] at this) h
      · exact h.elim
    · exact h.elim
  · rename_i cells
    cases hx with
    | d hd =>
      obtain ⟨b, off, rfl, hc⟩ := hd.ptr_cells (ρ := ρ)
      exact key _ _ _ rfl hc h
  · exact h.elim

/-! ### '==' of structs -/
theorem run_part_plain {t : TypeId} {k : Nat} {cs : Array Value} {off : Nat} {v : Value} (hp : plainB P t k = true) (hv : cs[off]? = some v) : (part t cs off).run P w = .ok v w := by
  unfold plainB at hp
  split at hp <;> first | (simp at hp; done) | (rename_i hk; simp [part, isAgg, underlying, hk, hv])

theorem plain_int {t : TypeId} (hp : plainB P t 0 = true) : ∃ k, P.underlying t = some (.int k) := by
  unfold plainB at hp
  split at hp <;> simp_all
theorem plain_bool {t : TypeId} (hp : plainB P t 1 = true) : P.underlying t = some .bool := by
  unfold plainB at hp
  split at hp <;> simp_all
theorem plain_str {t : TypeId} (hp : plainB P t 2 = true) : P.underlying t = some .string := by
  unfold plainB at hp
  split at hp <;> simp_all

theorem eqC_sound {t : TypeId} {k : Nat} {x y : V} {v u : Value} {r : Bool} (d : Nat) (hp : plainB P t k = true) (h : eqC k x y = some r) (hx : VRep w ok ρ x v) (hy : VRep w ok ρ y u) :
    (Op.equalIn (d + 1) t v u).run P w = .ok r w := by
  unfold eqC at h
  split at h
  · rename_i a _ b
    cases hx with | d hx =>
    cases hx
    cases hy with | d hy =>
    cases hy
    split at h
    case isFalse => simp at h
    rename_i hkk
    subst hkk
    obtain rfl : decide (a = b) = r := by simpa using h
    obtain ⟨k', hu⟩ := plain_int hp
    rw [run_equalIn_int w d t _ k' a b hu]
    by_cases e : a = b <;> simp [e]
  · rename_i a b
    cases hx with | d hx =>
    cases hx
    cases hy with | d hy =>
    cases hy
    obtain rfl : (a == b) = r := by simpa using h
    exact run_equalIn_bool' w d t a b (plain_bool hp)
  · rename_i a b
    cases hx with | d hx =>
    cases hx
    cases hy with | d hy =>
    cases hy
    obtain rfl : decide (a = b) = r := by simpa using h
    rw [run_equalIn_string w d t _ _ (plain_str hp), bytesOf_toList, bytesOf_toList]
    by_cases e : a = b <;> simp [e]
  · simp at h

theorem eqCs_cons2 (k k2 : Nat) (ks : List Nat) (x y : V) (xs ys : List V) : eqCs (k :: k2 :: ks) (x :: xs) (y :: ys) = match eqC k x y, eqCs (k2 :: ks) xs ys with
    | some a, some b => some (a && b)
    | _, _ => none := by
  cases xs <;> cases ys <;> rfl

theorem eqCs_len : ∀ {ks : List Nat} {xs ys : List V} {r : Bool}, eqCs ks xs ys = some r → xs.length = ks.length ∧ ys.length = ks.length
  | [], xs, ys, r, h => by simp [eqCs] at h
  | [k], xs, ys, r, h => by
    cases xs with
    | nil => simp [eqCs] at h
    | cons x xs => cases ys with
      | nil => simp [eqCs] at h
      | cons y ys =>
        cases xs <;> cases ys <;> simp_all [eqCs]
  | k :: k2 :: ks, xs, ys, r, h => by
    cases xs with
    | nil => simp [eqCs] at h
    | cons x xs => cases ys with
      | nil => simp [eqCs] at h
      | cons y ys =>
        rw [eqCs_cons2] at h
        split at h
        · rename_i h2
          obtain ⟨h3, h4⟩ := eqCs_len h2
          simp_all
        · simp at h

theorem eqFields_sound {d : Nat} {vs us : Array Value} : ∀ (fs : List Field) (ks : List Nat) (xs ys : List V) (n : Nat) (r : Bool), eqCs ks xs ys = some r →
    fs.length = ks.length → (∀ (i : Nat) f k, fs[i]? = some f → ks[i]? = some k → f.offset = n + i ∧ f.name ≠ "_" ∧ plainB P f.type k = true) →
    (∀ (i : Nat) x, xs[i]? = some x → ∃ v, vs[n + i]? = some v ∧ VRep w ok ρ x v) → (∀ (i : Nat) y, ys[i]? = some y → ∃ v, us[n + i]? = some v ∧ VRep w ok ρ y v) →
    (Op.eqFields (d + 1) vs us fs).run P w = .ok r w := by
  intro fs
  induction fs with
  | nil =>
    intro ks xs ys n r h hl _ _ _
    cases ks with
    | nil => simp [eqCs] at h
    | cons => simp at hl
  | cons f fs ih =>
    intro ks xs ys n r h hl hf hx hy
    cases ks with
    | nil => simp at hl
    | cons k ks =>
      obtain ⟨h1, h2⟩ := eqCs_len h
      cases xs with
      | nil => simp at h1
      | cons x xs =>
        cases ys with
        | nil => simp at h2
        | cons y ys =>
          obtain ⟨ho, hn, hp⟩ := hf 0 f k rfl rfl
          obtain ⟨v, hv, hvr⟩ := hx 0 x rfl
          obtain ⟨u, hu, hur⟩ := hy 0 y rfl
          simp only [Nat.add_zero] at ho hv hu
          subst ho
          have hpv := run_part_plain (w := w) hp hv
          have hpu := run_part_plain (w := w) hp hu
          cases ks with
          | nil =>
            cases fs with
            | cons => simp at hl
            | nil =>
              cases xs with
              | cons => simp at h1
              | nil =>
                cases ys with
                | cons => simp at h2
                | nil =>
                  have := eqC_sound d hp (by simpa [eqCs] using h) hvr hur
                  simp only [Op.eqFields, hn, ne_eq, not_false_eq_true, if_true, Sem.run_bind, hpv, hpu, Result.andThen_ok, this]
                  cases r <;> simp
          | cons k2 ks =>
            have h' : ∃ r1 r2, eqC k x y = some r1 ∧ eqCs (k2 :: ks) xs ys = some r2 ∧ r = (r1 && r2) := by
              rw [eqCs_cons2] at h
              split at h
              · rename_i r1 r2 q1 q2
                exact ⟨r1, r2, q1, q2, by simpa using h.symm⟩
              · simp at h
            obtain ⟨r1, r2, e1, e2, rfl⟩ := h'
            have t1 := eqC_sound d hp e1 hvr hur
            have t2 := ih (k2 :: ks) xs ys (f.offset + 1) r2 e2 (by simpa using hl)
              (fun i f' k' h1 h2 => by have := hf (i + 1) f' k' (by simpa using h1) (by simpa using h2); rw [show f.offset + 1 + i = f.offset + (i + 1) by omega]; exact this)
              (fun i x h1 => by have := hx (i + 1) x (by simpa using h1); rw [show f.offset + 1 + i = f.offset + (i + 1) by omega]; exact this)
              (fun i x h1 => by have := hy (i + 1) x (by simpa using h1); rw [show f.offset + 1 + i = f.offset + (i + 1) by omega]; exact this)
            simp only [Op.eqFields, hn, ne_eq, not_false_eq_true, if_true, Sem.run_bind, hpv, hpu, Result.andThen_ok, t1]
            cases r1 <;> simp [t2]

theorem eq_agg_sound {t : TypeId} {ti : TI} {as bs : List V} {v u : Value} {r : Bool} (ht : TFacts P t ti) (h : eqCs (cmpKs (some ti)) as bs = some r)
    (hx : VRep w ok ρ (.agg as) v) (hy : VRep w ok ρ (.agg bs) u) : (Op.equal t v u).run P w = .ok r w ∧ ∃ xs ys, v = .agg xs ∧ u = .agg ys := by
  obtain ⟨kd, sz, by_, z⟩ := ti
  cases kd <;> simp [cmpKs, eqCs] at h
  rename_i flds ks
  have hne : ks ≠ [] := by intro e; rw [e] at h; simp [eqCs] at h
  obtain ⟨fs, hu, hs, _, hc⟩ := struct_und ht rfl
  obtain ⟨hl, hc⟩ := hc hne
  have hst : P.stoodInHeld t = false := by
    cases ks with
    | nil => exact absurd rfl hne
    | cons k ks => exact (ht.cmp flds k ks rfl).1
  obtain ⟨e1, e2⟩ := eqCs_len h
  cases hx with | agg hn hx =>
  cases hy with | agg hm hy =>
  rename_i xs ys
  refine ⟨?_, xs, ys, rfl, rfl⟩
  have hfo : P.fieldsOf t = fs := by simp [Program.fieldsOf, hu]
  show (Op.equalIn (9999 + 1) t (.agg xs) (.agg ys)).run P w = _
  rw [run_equalIn_struct w 9999 t xs ys (by rw [hfo]; exact hu) hst, hfo]
  refine eqFields_sound (ok := ok) (ρ := ρ) fs.toList ks as bs 0 r h (by simp [hl]) (fun i f k h1 h2 => by rw [Nat.zero_add]; exact hc i f k (by simpa using h1) h2) ?_ ?_
  · intro i x hi
    have := (List.getElem?_eq_some_iff.1 hi).1
    exact ⟨_, by rw [Nat.zero_add, Array.getElem?_eq_getElem (by omega)], by have := hx i x hi; simpa [Array.getD, show i < xs.size by omega] using this⟩
  · intro i x hi
    have := (List.getElem?_eq_some_iff.1 hi).1
    exact ⟨_, by rw [Nat.zero_add, Array.getElem?_eq_getElem (by omega)], by have := hy i x hi; simpa [Array.getD, show i < ys.size by omega] using this⟩

end
end Go.Fw
