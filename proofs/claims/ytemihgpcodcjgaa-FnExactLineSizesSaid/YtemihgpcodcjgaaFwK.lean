/- Why the model's steps that turn memory follow the abstract machine's: append; all of them together. -/
import Derived.Test.YtemihgpcodcjgaaFwJ
set_option linter.unusedSimpArgs false
set_option linter.unusedVariables false
namespace Go.Fw

section
variable {P : Program} {TT : Nat → Option TI} {w w' : World} {ok : Nat → Prop} {ρ : List (Option Nat)} {x : Ctx} {s : St} {a : Act}

theorem nextslicecap_le {need old : Nat} (h : old < need) : Builtin.nextslicecap need old ≤ 2 * need := by
  have hg : ∀ r c, c < need ∨ (256 ≤ need ∧ c ≤ 2 * need) → 256 ≤ need → Builtin.growBy need r c ≤ 2 * need := by
    intro r
    induction r with
    | zero => intro c h _; simp only [Builtin.growBy]; omega
    | succ r ih =>
      intro c h h2
      simp only [Builtin.growBy]
      split
      · omega
      · refine ih _ (.inr ⟨h2, by omega⟩) h2
  unfold Builtin.nextslicecap
  split
  · omega
  · split
    · omega
    · exact hg _ _ (.inl (by omega)) (by omega)

/-- The cells that a slice's rows fill. -/
def FillsRows (P : Program) (w : World) (ok : Nat → Prop) (sz : Nat) (rows : List (List D)) (v : Value) : Prop :=
  (∃ a n cap, v = .slice a n cap ∧ n = rows.length) ∧ ∃ cs : Array Value, (∀ w' : World, w'.heap = w.heap → (Builtin.firstCells sz rows.length v).run P w' = .ok cs w') ∧ cs.size = rows.length * sz ∧
    ∀ i j r y, rows[i]? = some r → r[j]? = some y → DRep w ok y (cs.getD (i * sz + j) undef) ∧ (cs.getD (i * sz + j) undef).oneCell' = true

theorem D_one {d : D} {v : Value} (h : DRep w ok d v) : v.oneCell' = true := by
  cases h with
  | raw h => exact h
  | _ => rfl

theorem fills_of {sz b off cap : Nat} {rows : List (List D)} {vs : Nat → Nat → Value} (hsz : ∀ r ∈ rows, r.length = sz)
    (hc : ∀ i j r y, rows[i]? = some r → r[j]? = some y → w.cell? ⟨b, off + (i * sz + j), none⟩ = some (vs i j))
    (hd : ∀ i j r y, rows[i]? = some r → r[j]? = some y → DRep w ok y (vs i j)) : FillsRows P w ok sz rows (.slice (some ⟨b, off, none⟩) rows.length cap) := by
  refine ⟨⟨_, _, _, rfl, rfl⟩, ?_⟩
  let f : Nat → Value := fun k => vs (k / sz) (k % sz)
  have hr := fun (w' : World) (hw : w'.heap = w.heap) => run_loadCells (P := P) w' ⟨b, off, none⟩ (rows.length * sz) f (fun k hk => by
    have hs : 0 < sz := by rcases Nat.eq_zero_or_pos sz with h | h
                           · subst h; simp at hk
                           · exact h
    have hi : k / sz < rows.length := (Nat.div_lt_iff_lt_mul hs).2 hk
    have hj : k % sz < sz := Nat.mod_lt _ hs
    have hl := hsz _ (List.getElem_mem hi)
    rw [addr_add]
    have := hc (k / sz) (k % sz) _ _ (List.getElem?_eq_getElem hi) (List.getElem?_eq_getElem (by omega))
    rw [Nat.mul_comm, Nat.div_add_mod] at this
    rw [World.cell?_of_block (w := w) (by rw [hw])]
    exact this)
  refine ⟨_, fun w' hw => by have := hr w' hw; simpa [Builtin.firstCells] using this, by simp, fun i j r y hi hj => ?_⟩
  have hil := (List.getElem?_eq_some_iff.1 hi).1
  have hjl : j < sz := by have := (List.getElem?_eq_some_iff.1 hj).1; have := hsz r (List.mem_of_getElem? hi); omega
  have hlt := row_lt (sz := sz) hil hjl
  have e : (((List.range (rows.length * sz)).map f).toArray).getD (i * sz + j) undef = vs i j := by
    have h1 : (i * sz + j) / sz = i := by rw [Nat.mul_comm, Nat.mul_add_div (by omega)]; simp [Nat.div_eq_of_lt hjl]
    have h2 : (i * sz + j) % sz = j := by rw [Nat.mul_comm, Nat.mul_add_mod]; exact Nat.mod_eq_of_lt hjl
    simp [Array.getD_eq_getD_getElem?, hlt, f, h1, h2]
  rw [e]
  exact ⟨hd i j r y hi hj, D_one (hd i j r y hi hj)⟩

theorem fills_empty {sz n cap : Nat} {o : Option Addr} : FillsRows P w ok sz [] (.slice o 0 cap) := by
  refine ⟨⟨_, _, _, rfl, rfl⟩, #[], fun w' _ => ?_, by simp, by simp⟩
  cases o with
  | none => simp [Builtin.firstCells]
  | some b => simp [Builtin.firstCells, loadCells, loadCellsFrom]

theorem arr_slice_fills {id sz off len : Nat} {rows : List (List D)} {v : Value} (hI : Inv w ok ρ s.objs) (ho : s.objs[id]? = some (.arr sz rows)) (hle : off + len ≤ rows.length)
    (hv : VRep w ok ρ (.msl id sz off len) v) : FillsRows P w ok sz ((rows.drop off).take len) v := by
  obtain ⟨h0, h1⟩ := hI.own _ _ ho
  cases hv with
  | msl0 h => 
    have : (rows.drop off).take 0 = [] := by simp
    rw [this]
    exact fills_empty (n := 0)
  | @msl _ _ _ _ cap b t n hb hc hs hn =>
    rcases h1 with ⟨e1, e2⟩ | ⟨b', cs, bt, o1, o2, o3, o4⟩
    · rw [hb] at e2; simp at e2
    rw [o1] at hb
    obtain rfl : b' = b := by simpa using hb
    have hlen : ((rows.drop off).take len).length = len := by simp; omega
    have := fills_of (P := P) (w := w) (ok := ok) (sz := sz) (b := b') (off := off * sz) (cap := cap) (rows := (rows.drop off).take len) (vs := fun i j => cs.getD ((off + i) * sz + j) undef)
      (fun r hr => h0 r (List.mem_of_mem_drop (List.mem_of_mem_take hr))) (fun i j r y hi hj => ?_) (fun i j r y hi hj => ?_)
    · rwa [hlen] at this
    · rw [List.getElem?_take] at hi
      split at hi
      · rw [List.getElem?_drop] at hi
        have hil := (List.getElem?_eq_some_iff.1 hi).1
        have hjl : j < sz := by have := (List.getElem?_eq_some_iff.1 hj).1; have := h0 r (List.mem_of_getElem? hi); omega
        have hlt := row_lt (sz := sz) hil hjl
        have hlt2 : (off + i) * sz + j < cs.size := by omega
        rw [show off * sz + (i * sz + j) = (off + i) * sz + j by rw [Nat.add_mul]; omega]
        simp [World.cell?, o2, Array.getD, hlt2]
      · simp at hi
    · rw [List.getElem?_take] at hi
      split at hi
      · rw [List.getElem?_drop] at hi
        exact o4 _ _ _ _ hi hj
      · simp at hi

theorem src_fills {y : V} {sz : Nat} {rows : List (List D)} {v : Value} (hI : Inv w ok ρ s.objs) (h : srcRows s.objs y = some rows) (hsz : ∀ r ∈ rows, r.length = sz) (hv : VRep w ok ρ y v) :
    FillsRows P w ok sz rows v := by
  unfold srcRows at h
  split at h
  · rename_i rows'
    obtain rfl : rows' = rows := by simpa using h
    cases hv with | d hv =>
    cases hv with
    | nil => exact fills_empty (n := 0)
    | @lst _ sz' b off cap vs hok hsz' hcap hc hd =>
      cases rows' with
      | nil => exact fills_empty (n := 0)
      | cons r rs =>
        obtain rfl : sz' = sz := by rw [← hsz r (by simp), ← hsz' r (by simp)]
        exact fills_of hsz hc hd
  · obtain rfl : [] = rows := by simpa using h
    cases hv
    exact fills_empty (n := 0)
  · rename_i id sz' off len
    split at h
    · rename_i sz2 rows' ho
      split at h
      · rename_i hle
        obtain rfl : (rows'.drop off).take len = rows := by simpa using h
        by_cases he : (rows'.drop off).take len = []
        · rw [he]
          have hl0 : len = 0 := by
            have := congrArg List.length he
            simp at this
            omega
          subst hl0
          cases hv with
          | msl0 => exact fills_empty (n := 0)
          | msl => exact fills_empty (n := 0)
        · obtain ⟨r, hr⟩ := List.exists_mem_of_ne_nil _ he
          obtain ⟨h0, _⟩ := hI.own _ _ ho
          obtain ⟨rfl, hle⟩ := hle
          obtain rfl : sz' = sz := by rw [← h0 r (List.mem_of_mem_drop (List.mem_of_mem_take hr)), hsz r hr]
          exact arr_slice_fills hI ho hle hv
      · simp at h
    · simp at h
  · simp at h

theorem isSlice_not_int {u : TypeId} (hT : TOk P TT) (h : isSlice (TT u) = true) : ∃ e, P.underlying u = some (.slice e) := by
  cases ht : TT u with
  | none => rw [ht] at h; simp [isSlice] at h
  | some ti => rw [ht] at h; exact isSlice_und (hT.facts ht) h

/-- append where a new array is made. -/
theorem append_new {t u ty : TypeId} {et eu : TypeId} {e : TI} {base : Option Addr} {sLen sCap : Nat} {rows new : List (List D)} {yv : Value}
    (ht : P.underlying t = some (.slice et)) (hu : P.underlying u = some (.slice eu)) (hf : TFacts P et e) (hrows : FillsRows P w ok e.size rows (.slice base sLen sCap)) (hnew : FillsRows P w ok e.size new yv)
    (hr : ∀ r ∈ rows ++ new, r.length = e.size) (hcap : sCap < sLen + new.length) (hb : 2 * (rows.length + new.length) * e.bytes ≤ 2 ^ 48) (hbp : e.bytes ≠ 0) (hok : ∀ b, ok b → b < w.heap.size) :
    ∃ w' cs c, (Builtin.append_ #[t, u] ty #[.slice base sLen sCap, yv]).run P w = .ok (.slice (some ⟨w.heap.size, 0, none⟩) (rows.length + new.length) c) w' ∧ w'.heap = w.heap.push (.cells cs et (0, 0)) ∧
      w'.os = w.os ∧ w'.tape = w.tape ∧ w'.output = w.output ∧ rows.length + new.length ≤ c ∧ c * e.size ≤ cs.size ∧
      (∀ i j r y, (rows ++ new)[i]? = some r → r[j]? = some y → DRep w ok y (cs.getD (i * e.size + j) undef)) := by
  obtain ⟨⟨a1, n1, c1, hv1, hn1⟩, cs1, hf1, hs1, hd1⟩ := hrows
  obtain ⟨⟨a2, n2, c2, hv2, hn2⟩, cs2, hf2, hs2, hd2⟩ := hnew
  obtain ⟨rfl, rfl, rfl⟩ : base = a1 ∧ sLen = n1 ∧ sCap = c1 := by simpa using hv1
  subst hv2
  subst hn1 hn2
  have hs := fun w => hf.run_sizeOf (w := w)
  obtain ⟨i, i1, i2, i3, zv, i4, i5, i6, i7⟩ := hf.info
  have hzv : ∀ w, (zeroValue et).run P w = .ok zv w := fun w => by simp [zeroValue, typeInfo, i1, i4]
  have hti : ∀ w, (typeInfo et).run P w = .ok i w := fun w => by simp [typeInfo, i1]
  let need := rows.length + new.length
  let q : Question := .appendCap need sCap et
  let newCap := q.cut (w.tape w.drawn q)
  have hnc : need ≤ newCap := by simp only [newCap, q, Question.cut]; omega
  let wd : World := { w with drawn := w.drawn + 1 }
  let out := cs1 ++ cs2 ++ Builtin.zeroCells zv.cells (newCap - need)
  have hzs : (Builtin.zeroCells zv.cells (newCap - need)).size = (newCap - need) * e.size := by simp [Builtin.zeroCells, i5, i6]
  have hos : out.size = newCap * e.size := by
    simp only [out, Array.size_append, hs1, hs2, hzs, ← Nat.add_mul]
    congr 1
    omega
  refine ⟨{ wd with heap := wd.heap.push (.cells out et (0, 0)) }, out, newCap, ?_, rfl, rfl, rfl, rfl, hnc, by rw [hos]; exact Nat.le_refl _, ?_⟩
  · have hbig : ¬ Builtin.nextslicecap need sCap * i.bytes > 2 ^ 48 := by
      have h1 := nextslicecap_le (need := need) (old := sCap) hcap
      have := Nat.mul_le_mul_right i.bytes h1
      rw [i3] at this ⊢
      simp only [need] at this hb ⊢
      omega
    have hchoose : (choose q).run P w = .ok newCap wd := by
      simp [choose, Sem.run, q, Question.forced, newCap, wd]
    have hu' : (underlying u).run P w = .ok (.slice eu) w := run_underlying (w := w) hu
    have ht' : (underlying t).run P w = .ok (.slice et) w := run_underlying (w := w) ht
    unfold Builtin.append_
    simp only [Sem.run_bind, ht', hs, Result.andThen_ok, hu', Builtin.lenOf, Sem.run_pure, List.getElem?_toArray, List.getElem?_cons_zero, List.getElem?_cons_succ, Bool.false_eq_true, if_false, false_or, false_and]
    rw [if_neg (by omega)]
    have hq : choose (Question.appendCap (rows.length + new.length) sCap et) = choose q := rfl
    have hbz : ¬ (((rows.length + new.length : Nat) : Int) > IntKind.i64.max ∧ i.bytes = 0) := fun h => hbp (i3 ▸ h.2)
    simp only [Sem.run_bind, hti, Result.andThen_ok]
    rw [if_neg hbz]
    simp only [Sem.run_bind, hti, Result.andThen_ok]
    rw [if_neg hbig, hq]
    have e1 := hf1 wd rfl
    have e2 := hf2 wd rfl
    simp only [Sem.run_bind, hchoose, Result.andThen_ok, hti, run_askRoom, e1, Bool.not_false, if_true, e2, hzv, newRow, run_newObj, Sem.run_pure]
    rfl
  · intro k j r y hi hj
    rcases Nat.lt_or_ge k rows.length with hk | hk
    · rw [List.getElem?_append_left hk] at hi
      have hjl : j < e.size := by have := (List.getElem?_eq_some_iff.1 hj).1; have := hr r (List.mem_append_left _ (List.mem_of_getElem? hi)); omega
      have hlt := row_lt (sz := e.size) hk hjl
      have : out.getD (k * e.size + j) undef = cs1.getD (k * e.size + j) undef := by
        simp only [out, Array.getD_eq_getD_getElem?]
        rw [Array.append_assoc, Array.getElem?_append_left (by omega)]
      rw [this]
      exact (hd1 k j r y hi hj).1
    · rw [List.getElem?_append_right hk] at hi
      have hkl := (List.getElem?_eq_some_iff.1 hi).1
      have hjl : j < e.size := by have := (List.getElem?_eq_some_iff.1 hj).1; have := hr r (List.mem_append_right _ (List.mem_of_getElem? hi)); omega
      have hlt := row_lt (sz := e.size) hkl hjl
      have e1 : k * e.size + j - rows.length * e.size = (k - rows.length) * e.size + j := by
        rw [Nat.sub_mul]
        have : rows.length * e.size ≤ k * e.size := Nat.mul_le_mul_right _ hk
        omega
      have : out.getD (k * e.size + j) undef = cs2.getD ((k - rows.length) * e.size + j) undef := by
        simp only [out, Array.getD_eq_getD_getElem?]
        have : rows.length * e.size ≤ k * e.size := Nat.mul_le_mul_right _ hk
        rw [Array.append_assoc, Array.getElem?_append_right (by omega), hs1, e1, Array.getElem?_append_left (by omega)]
      rw [this]
      exact (hd2 _ j r y hi hj).1

/-- append where there is room. -/
theorem append_here {t u ty : TypeId} {et eu : TypeId} {e : TI} {base : Option Addr} {sLen sCap : Nat} {new : List (List D)} {yv : Value}
    (ht : P.underlying t = some (.slice et)) (hu : P.underlying u = some (.slice eu)) (hf : TFacts P et e) (hnew : FillsRows P w ok e.size new yv)
    (hr : ∀ r ∈ new, r.length = e.size) (hcap : sLen + new.length ≤ sCap) {b : Nat} {cs : Array Value} {bt : TypeId} (hbase : base = some ⟨b, 0, none⟩) (hblk : w.heap[b]? = some (.cells cs bt (0, 0)))
    (hroom : sCap * e.size ≤ cs.size) :
    ∃ w' cs', (Builtin.append_ #[t, u] ty #[.slice base sLen sCap, yv]).run P w = .ok (.slice base (sLen + new.length) sCap) w' ∧ w'.heap[b]? = some (.cells cs' bt (0, 0)) ∧ cs'.size = cs.size ∧
      (∀ k, k ≠ b → w'.heap[k]? = w.heap[k]?) ∧ w'.heap.size = w.heap.size ∧ w'.os = w.os ∧ w'.tape = w.tape ∧ w'.output = w.output ∧
      (∀ j, j < sLen * e.size → cs'.getD j undef = cs.getD j undef) ∧
      (∀ i j r y, new[i]? = some r → r[j]? = some y → DRep w ok y (cs'.getD ((sLen + i) * e.size + j) undef)) := by
  obtain ⟨⟨a2, n2, c2, hv2, hn2⟩, cs2, hf2, hs2, hd2⟩ := hnew
  subst hv2
  subst hn2
  have hs := hf.run_sizeOf (w := w)
  have hone : ∀ v ∈ cs2.toList, v.oneCell' = true := by
    intro v hv
    obtain ⟨k, hk⟩ := List.mem_iff_getElem?.1 hv
    have hkl : k < cs2.size := by have := (List.getElem?_eq_some_iff.1 hk).1; simpa using this
    have hs0 : 0 < e.size := by
      rcases Nat.eq_zero_or_pos e.size with h | h
      · rw [h] at hs2; simp at hs2; subst hs2; simp at hkl
      · exact h
    rw [hs2] at hkl
    have hi : k / e.size < new.length := (Nat.div_lt_iff_lt_mul hs0).2 hkl
    have hj : k % e.size < e.size := Nat.mod_lt _ hs0
    have hl := hr _ (List.getElem_mem hi)
    have := (hd2 (k / e.size) (k % e.size) _ _ (List.getElem?_eq_getElem hi) (List.getElem?_eq_getElem (by omega))).2
    rw [Nat.mul_comm, Nat.div_add_mod] at this
    have e1 : cs2.getD k undef = v := by
      simp at hk
      simp [Array.getD_eq_getD_getElem?, hk]
    rwa [e1] at this
  have hroom2 : (sLen + new.length) * e.size ≤ sCap * e.size := Nat.mul_le_mul_right _ hcap
  rw [Nat.add_mul] at hroom2
  obtain ⟨w', cs', r1, r2, r3, r4, r5, r6, r7, r8, r9⟩ := run_storeCells (P := P) b (sLen * e.size) cs2.toList 0 w cs bt hblk (by simp [hs2]; omega) hone
  refine ⟨w', cs', ?_, r2, r3, r5, r6, r7, r8, r9, ?_, ?_⟩
  · have hu' : (underlying u).run P w = .ok (.slice eu) w := run_underlying (w := w) hu
    have ht' : (underlying t).run P w = .ok (.slice et) w := run_underlying (w := w) ht
    have e2 := hf2 w rfl
    unfold Builtin.append_
    simp only [Sem.run_bind, ht', hs, Result.andThen_ok, hu', Builtin.lenOf, Sem.run_pure, List.getElem?_toArray, List.getElem?_cons_zero, List.getElem?_cons_succ, Bool.false_eq_true, if_false, false_or, false_and]
    rw [if_pos hcap]
    simp only [Bool.not_false, if_true, Sem.run_bind, e2, Result.andThen_ok, hbase, addr_add]
    simp only [Nat.zero_add, r1, Result.andThen_ok, Sem.run_pure, Sem.run_bind]
  · intro j hj
    rw [r4, if_neg (by omega)]
  · intro i j r y hi hj
    have hil := (List.getElem?_eq_some_iff.1 hi).1
    have hjl : j < e.size := by have := (List.getElem?_eq_some_iff.1 hj).1; have := hr r (List.mem_of_getElem? hi); omega
    have hlt := row_lt (sz := e.size) hil hjl
    rw [r4, if_pos (by simp [hs2, Nat.add_mul]; omega)]
    have := (hd2 i j r y hi hj).1
    rw [show (sLen + i) * e.size + j - (sLen * e.size + 0) = i * e.size + j by rw [Nat.add_mul]; omega]
    simpa [Array.getD_eq_getD_getElem?, List.getD_eq_getElem?_getD] using this

/-- append of nothing to nothing. -/
theorem append_none {t u ty : TypeId} {et eu : TypeId} {e : TI} {base : Option Addr} {sCap : Nat} {yv : Value}
    (ht : P.underlying t = some (.slice et)) (hu : P.underlying u = some (.slice eu)) (hf : TFacts P et e) (hnew : FillsRows P w ok e.size [] yv) :
    (Builtin.append_ #[t, u] ty #[.slice base 0 sCap, yv]).run P w = .ok (.slice base 0 sCap) w := by
  obtain ⟨⟨a2, n2, c2, hv2, hn2⟩, cs2, hf2, hs2, hd2⟩ := hnew
  subst hv2
  subst hn2
  have hs := hf.run_sizeOf (w := w)
  have hu' : (underlying u).run P w = .ok (.slice eu) w := run_underlying (w := w) hu
  have ht' : (underlying t).run P w = .ok (.slice et) w := run_underlying (w := w) ht
  have e2 := hf2 w rfl
  have hcs : cs2 = #[] := by simpa using hs2
  subst hcs
  unfold Builtin.append_
  simp only [Sem.run_bind, ht', hs, Result.andThen_ok, hu', Builtin.lenOf, Sem.run_pure, List.getElem?_toArray, List.getElem?_cons_zero, List.getElem?_cons_succ, Bool.false_eq_true, if_false, false_or, false_and]
  rw [if_pos (by simp)]
  simp only [Bool.not_false, if_true, Sem.run_bind, e2, Result.andThen_ok]
  cases base <;> simp [storeCells]

theorem append_sound (hT : TOk P TT) {K : St → Prop} {dst : Option Nat} {t u ty : TypeId} {xo yo : Operand} {e : TI} {new : List (List D)} (hI : Inv w ok ρ s.objs) (hF : Frm x w ok ρ s.objs)
    (hE : ∀ j, VRep w ok ρ (getE s.env j) (a.tmps.getD j undef)) (hn : a.tmps.size = s.n) (hd : a.defers = []) (hx : x.objs.length = s.fx) (hdst : ∀ d, dst = some d → d < s.n) (he : elemOf TT t = some e) (hu : isSlice (TT u) = true)
    (hsrc : srcRows s.objs (s.ev yo) = some new) (hr : ∀ r ∈ new, r.length = e.size) (hbp : e.bytes ≠ 0) (h : match s.ev xo with
          | .nils => 2 * new.length * e.bytes ≤ 2 ^ 48 ∧ K ((s.new (.arr e.size new)).put dst (.msl s.objs.length e.size 0 new.length))
          | .msl id sz off len => (match s.objs[id]? with
            | some (.arr sz' rows) => off = 0 ∧ len = rows.length ∧ sz = e.size ∧ sz' = e.size ∧ 2 * (rows.length + new.length) * e.bytes ≤ 2 ^ 48 ∧
              K (((s.setO id .dead).new (.arr e.size (rows ++ new))).put dst (.msl s.objs.length e.size 0 (rows.length + new.length)))
            | _ => False)
          | _ => False) : Ends P x K a dst (do pure (.value (← Builtin.append_ #[t, u] ty #[a.eval xo, a.eval yo]))) w := by
  obtain ⟨et, ht, hf⟩ := elemOf_spec hT he
  obtain ⟨eu, hu⟩ := isSlice_not_int hT hu
  have hnew := src_fills (P := P) hI hsrc hr (ev_rep hE yo)
  have hxo := ev_rep hE xo
  generalize a.eval xo = xv at hxo
  generalize a.eval yo = yv at hnew
  split at h
  · rename_i hxe
    obtain ⟨hb, h⟩ := h
    rw [hxe] at hxo
    cases hxo
    cases hnn : new with
    | nil =>
      subst hnn
      have hrun := append_none (P := P) (w := w) (ok := ok) (ty := ty) (base := none) (sCap := 0) ht hu hf hnew
      exact ends_new (w' := w) hI hF hE hn hd hx hdst (Nat.le_refl _) (fun _ _ => rfl) rfl rfl rfl none (fun b hb => by simp at hb) (o := .arr e.size []) ⟨by simp, .inl ⟨rfl, by rw [← hI.len]; simp⟩⟩ (.msl0 (by rw [← hI.len]; simp)) (by rw [Sem.run_bind, hrun]; rfl) h
    | cons r rs =>
      obtain ⟨w', cs, c, hrun, hh, hos, htp, hout, hle, hcs, hd2⟩ := append_new (P := P) (w := w) (ok := ok) (ty := ty) (base := none) (sLen := 0) (sCap := 0) (rows := []) ht hu hf (fills_empty (n := 0)) hnew (by simpa using hr) (by rw [hnn]; simp) (by simpa using hb) hbp hI.okb
      simp only [List.length_nil, Nat.zero_add] at hrun hle
      refine ends_new (w' := w') hI hF hE hn hd hx hdst (by rw [hh]; simp) (fun b hb => by rw [hh]; exact push_old _ hb) hos htp hout (some w.heap.size) (fun b hb => by simp at hb; omega)
        (arr_new_rep (w := w) (cs := cs) (t := et) hr (Nat.le_trans (Nat.mul_le_mul_right _ hle) hcs) hd2 hI.okb hI.len hh) ?_ (by rw [Sem.run_bind, hrun]; rfl) h
      have := VRep.msl (w := w') (ok := ok) (ρ := ρ ++ [some w.heap.size]) (id := s.objs.length) (sz := e.size) (off := 0) (len := new.length) (cap := c) (t := et) (n := cs.size) (snoc_len hI.len) hle (by simp [World.shape?, hh]) (by rw [Nat.zero_add]; exact hcs)
      rwa [Nat.zero_mul] at this
  · rename_i id sz off len hxe
    rw [hxe] at hxo
    split at h
    · rename_i sz' rows ho
      obtain ⟨rfl, rfl, rfl, rfl, hb, h⟩ := h
      obtain ⟨h0, hrep⟩ := hI.own _ _ ho
      have hall : ∀ r ∈ rows ++ new, r.length = e.size := by
        intro r hr'
        rcases List.mem_append.1 hr' with h1 | h1
        · exact h0 r h1
        · exact hr r h1
      have hrows : FillsRows P w ok e.size rows xv := by
        have := arr_slice_fills (P := P) hI ho (off := 0) (len := rows.length) (by omega) hxo
        simpa using this
      -- where a new array is made
      have hgrow : ∀ base sCap, xv = .slice base rows.length sCap → sCap < rows.length + new.length → Ends P x K a dst (do pure (.value (← Builtin.append_ #[t, u] ty #[xv, yv]))) w := by
        intro base sCap hxv hlt
        subst hxv
        obtain ⟨w', cs, c, hrun, hh, hos, htp, hout, hle, hcs, hd2⟩ := append_new (P := P) (w := w) (ok := ok) (ty := ty) ht hu hf hrows hnew hall hlt hb hbp hI.okb
        obtain ⟨hI2, hF2⟩ := step_kill hI hF id
        have hl2 : (s.setO id .dead).objs.length = s.objs.length := by simp [St.setO]
        refine ends_new (s := s.setO id .dead) (w' := w') hI2 hF2 hE hn hd hx hdst (by rw [hh]; simp) (fun b hb => by rw [hh]; exact push_old _ hb) hos htp hout (some w.heap.size) (fun b hb => by simp at hb; omega)
          (arr_new_rep (w := w) (cs := cs) (t := et) hall (by rw [List.length_append]; exact Nat.le_trans (Nat.mul_le_mul_right _ hle) hcs) hd2 hI.okb (by rw [hl2]; exact hI.len) hh) ?_ (by rw [Sem.run_bind, hrun]; rfl) h
        have := VRep.msl (w := w') (ok := ok) (ρ := ρ ++ [some w.heap.size]) (id := s.objs.length) (sz := e.size) (off := 0) (len := rows.length + new.length) (cap := c) (t := et) (n := cs.size) (snoc_len hI.len) hle (by simp [World.shape?, hh]) (by rw [Nat.zero_add]; exact hcs)
        rwa [Nat.zero_mul] at this
      generalize hL : rows.length = L at hxo
      cases hxo with
      | @msl0 _ _ _ base hid =>
        have hrn : rows = [] := List.length_eq_zero_iff.1 hL
        cases hnn : new with
        | nil =>
          subst hnn hrn
          have hrun := append_none (P := P) (w := w) (ok := ok) (ty := ty) (base := base) (sCap := 0) ht hu hf hnew
          obtain ⟨hI2, hF2⟩ := step_kill hI hF id
          have hl2 : (s.setO id .dead).objs.length = s.objs.length := by simp [St.setO]
          exact ends_new (s := s.setO id .dead) (w' := w) hI2 hF2 hE hn hd hx hdst (Nat.le_refl _) (fun _ _ => rfl) rfl rfl rfl none (fun b hb => by simp at hb) (o := .arr e.size []) ⟨by simp, .inl ⟨rfl, by rw [hl2, ← hI.len]; simp⟩⟩
            (.msl0 (by rw [← hI.len]; simp)) (by rw [Sem.run_bind, hrun]; rfl) h
        | cons r rs => exact hgrow base 0 (by rw [hL]) (by rw [hnn]; simp only [List.length_cons]; omega)
      | @msl _ _ _ _ cap b bt n hb' hc hs hn' =>
        by_cases hroom : rows.length + new.length ≤ cap
        · rcases hrep with ⟨e1, e2⟩ | ⟨b', cs, bt', o1, o2, o3, o4⟩
          · rw [hb'] at e2; simp at e2
          rw [o1] at hb'
          obtain rfl : b' = b := by simpa using hb'
          have hsz : n = cs.size := by simp [World.shape?, o2] at hs; exact hs.2.symm
          subst hL
          obtain ⟨w', cs', hrun, r2, r3, r5, r6, r7, r8, r9, q1, q2⟩ := append_here (P := P) (w := w) (ok := ok) (ty := ty) (base := some ⟨b', 0 * e.size, none⟩) (b := b') ht hu hf hnew hr hroom (by simp) o2 (by rw [Nat.zero_add] at hn'; omega)
          have hsh : w'.shape? b' = w.shape? b' := by simp [World.shape?, o2, r2, r3]
          have hokb : ∀ k, ok k → w'.heap[k]? = w.heap[k]? := fun k hk => r5 k (fun q => hI.nok _ _ b' ho rfl o1 (q ▸ hk))
          have hroom2 : (rows.length + new.length) * e.size ≤ cap * e.size := Nat.mul_le_mul_right _ hroom
          rw [Nat.zero_add] at hn'
          have horep : ORep w' ok ρ id (.arr e.size (rows ++ new)) := by
            refine ⟨hall, .inr ⟨b', cs', bt', o1, r2, by rw [r3, List.length_append]; omega, fun i j r y hi hj => ?_⟩⟩
            rcases Nat.lt_or_ge i rows.length with hk | hk
            · rw [List.getElem?_append_left hk] at hi
              have hjl : j < e.size := by have := (List.getElem?_eq_some_iff.1 hj).1; have := h0 r (List.mem_of_getElem? hi); omega
              rw [q1 _ (row_lt hk hjl)]
              exact (o4 i j r y hi hj).mono hokb (fun _ h => h)
            · rw [List.getElem?_append_right hk] at hi
              have := q2 _ j r y hi hj
              rw [show rows.length + (i - rows.length) = i by omega] at this
              exact this.mono hokb (fun _ h => h)
          obtain ⟨hI2, hF2, hV2⟩ := step_write hI hF ho rfl o1 r6 r5 hsh r7 r8 r9 horep rfl
          have hlt := (List.getElem?_eq_some_iff.1 ho).1
          obtain ⟨hI3, hF3, hV3⟩ := step_move hI2 hF2 (id := id) (o := .arr e.size (rows ++ new)) (bo := some b') (by rw [List.getElem?_set_self hlt]) o1
          have hset : (s.objs.set id (.arr e.size (rows ++ new))).set id .dead = s.objs.set id .dead := by rw [List.set_set]
          rw [hset] at hI3 hF3
          refine .inl ⟨.slice (some ⟨b', 0 * e.size, none⟩) (rows.length + new.length) cap, w', by rw [Sem.run_bind, hrun]; rfl, _, h, ok, ρ ++ [some b'], by rw [St.put_objs]; exact hI3, by rw [St.put_objs]; exact hF3, ?_, by rw [put_size, hn, St.put_n]; rfl, by rw [put_defers]; exact hd, by rw [St.put_fx]; exact hx⟩
          refine put_rep (s := (s.setO id .dead).new (.arr e.size (rows ++ new))) (fun j => hV3 _ _ (hV2 _ _ (hE j))) ?_ (fun d hd' => by rw [hn]; exact hdst d hd')
          refine .msl (snoc_len hI.len) hroom (t := bt') (n := cs'.size) (by simp [World.shape?, r2]) ?_
          rw [Nat.zero_add, r3]; omega
        · exact hgrow _ cap (by rw [hL]) (by omega)
    · exact h.elim
  · exact h.elim

end
end Go.Fw
