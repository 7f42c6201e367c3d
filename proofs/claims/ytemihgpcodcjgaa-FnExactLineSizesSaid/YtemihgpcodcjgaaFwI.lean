/- Why the model's steps that turn memory follow the abstract machine's. -/
import Derived.Test.YtemihgpcodcjgaaFwH
set_option linter.unusedSimpArgs false
set_option linter.unusedVariables false
namespace Go.Fw

section
variable {P : Program} {TT : Nat → Option TI} {w w' : World} {ok : Nat → Prop} {ρ : List (Option Nat)} {x : Ctx} {s : St} {a : Act}

theorem push_old {w : World} (o : Obj) {b : Nat} (h : b < w.heap.size) : (w.heap.push o)[b]? = w.heap[b]? := by
  rw [Array.getElem?_push, if_neg (by omega)]

theorem push_new {w : World} (o : Obj) : (w.heap.push o)[w.heap.size]? = some o := by simp

theorem cells_new_rep {w : World} {cs : Array Value} {t : TypeId} {cells : List V} {n : Nat} (hn : cs.size = cells.length) (h : ∀ j c, cells[j]? = some c → VRep w ok ρ c (cs.getD j undef))
    (hok : ∀ b, ok b → b < w.heap.size) (hl : ρ.length = n) : ORep { w with heap := w.heap.push (.cells cs t (0, 0)) } ok (ρ ++ [some w.heap.size]) n (.box cells) := by
  refine ⟨w.heap.size, cs, t, by subst hl; simp, push_new _, hn, fun j c hj => (h j c hj).mono (fun b hb => push_old _ (hok b hb)) (fun _ h => h) (fun b s hs => ?_) (fun id b hb => getElem?_snoc_old hb)⟩
  have := shape_lt hs
  rw [shape_of_block (w := w) (push_old _ this)]; exact hs

theorem snoc_len {n b : Nat} (hl : ρ.length = n) : (ρ ++ [some b])[n]? = some (some b) := by subst hl; simp

theorem alloc_sound (hT : TOk P TT) {K : St → Prop} {dst : Option Nat} {t : TypeId} {ti : TI} (hI : Inv w ok ρ s.objs) (hF : Frm x w ok ρ s.objs)
    (hE : ∀ j, VRep w ok ρ (getE s.env j) (a.tmps.getD j undef)) (hn : a.tmps.size = s.n) (hd : a.defers = []) (hx : x.objs.length = s.fx) (hdst : ∀ d, dst = some d → d < s.n) (ht : TT t = some ti)
    (h : K ((s.new (.box ti.zero)).put dst (.oref s.objs.length 0))) : Ends P x K a dst (do pure (.value (← Instr.alloc t true (.tuple #[])))) w := by
  obtain ⟨i, h1, _, _, zv, h4, h5, h6, h7⟩ := (hT.facts ht).info
  have hz : ∀ w, (zeroValue t).run P w = .ok zv w := fun w => by simp [zeroValue, typeInfo, h1, h4]
  refine ends_new (w' := { w with heap := w.heap.push (.cells zv.cells t (0, 0)) }) hI hF hE hn hd hx hdst (by simp) (fun b hb => push_old _ hb) rfl rfl rfl (some w.heap.size) (fun b hb => by simp at hb; omega)
    (cells_new_rep h5 (fun j c hj => h7 j c hj w ok ρ) hI.okb hI.len) (.oref (snoc_len hI.len)) ?_ h
  simp [Instr.alloc, hz, newVar, newRow]

theorem box_sound {K : St → Prop} {dst : Option Nat} {t : TypeId} {y : Operand} {cs : List V} (hI : Inv w ok ρ s.objs) (hF : Frm x w ok ρ s.objs)
    (hE : ∀ j, VRep w ok ρ (getE s.env j) (a.tmps.getD j undef)) (hn : a.tmps.size = s.n) (hd : a.defers = []) (hx : x.objs.length = s.fx) (hdst : ∀ d, dst = some d → d < s.n) (hc : (s.ev y).cells = some cs)
    (h : K ((s.new (.box cs)).put dst (.oref s.objs.length 0))) : Ends P x K a dst (do pure (.value (← Instr.box t (a.eval y)))) w := by
  obtain ⟨h1, h2⟩ := cells_rep (ev_rep hE y) hc
  refine ends_new (w' := { w with heap := w.heap.push (.cells (a.eval y).cells t (0, 0)) }) hI hF hE hn hd hx hdst (by simp) (fun b hb => push_old _ hb) rfl rfl rfl (some w.heap.size) (fun b hb => by simp at hb; omega)
    (cells_new_rep h1 (fun j c hj => (h2 j c hj).1) hI.okb hI.len) (.oref (snoc_len hI.len)) ?_ h
  simp [Instr.box, newVar, newRow]

theorem row_index {sz i j i' j' : Nat} (hj : j < sz) (hj' : j' < sz) (h : i * sz + j = i' * sz + j') : i = i' ∧ j = j' := by
  have h1 : (i * sz + j) / sz = i := by rw [Nat.mul_comm, Nat.mul_add_div (by omega)]; simp [Nat.div_eq_of_lt hj]
  have h2 : (i' * sz + j') / sz = i' := by rw [Nat.mul_comm, Nat.mul_add_div (by omega)]; simp [Nat.div_eq_of_lt hj']
  have : i = i' := by rw [← h1, ← h2, h]
  subst this
  omega

theorem row_lt {sz i j n : Nat} (hi : i < n) (hj : j < sz) : i * sz + j < n * sz := by
  have : (i + 1) * sz ≤ n * sz := Nat.mul_le_mul_right _ hi
  rw [Nat.succ_mul] at this
  omega

theorem toDs_get : ∀ {cs : List V} {ds : List D}, toDs cs = some ds → ds.length = cs.length ∧ ∀ (j : Nat) y, ds[j]? = some y → ∃ c, cs[j]? = some c ∧ ∀ w ok ρ v, VRep w ok ρ c v → DRep w ok y v
  | [], ds, h => by obtain rfl : [] = ds := by simpa [toDs] using h
                    exact ⟨rfl, by simp⟩
  | c :: cs, ds, h => by
    simp only [toDs] at h
    split at h
    · rename_i y ys h1 h2
      obtain rfl : y :: ys = ds := by simpa using h
      obtain ⟨h3, h4⟩ := toDs_get h2
      refine ⟨by simp [h3], fun j z hj => ?_⟩
      cases j with
      | zero =>
        obtain rfl : y = z := by simpa using hj
        refine ⟨c, rfl, fun w ok ρ v hv => ?_⟩
        cases c <;> simp [V.toD] at h1
        · subst h1; cases hv with | d hv => exact hv
        · subst h1; cases hv; exact .nil
      | succ j => exact h4 j z (by simpa using hj)
    · simp at h

/-- What rows look like as cells in a row. -/
def RowsIn (w : World) (ok : Nat → Prop) (sz : Nat) (rows : List (List D)) (cs : Array Value) : Prop :=
  cs.size = rows.length * sz ∧ ∀ i j r y, rows[i]? = some r → r[j]? = some y → DRep w ok y (cs.getD (i * sz + j) undef)

theorem rowsOf_fill {sz : Nat} : ∀ (vs : List V) (us : List Value) (rows : List (List D)) (k : Nat) (cs : Array Value), rowsOf sz vs = some rows → vs.length = us.length →
    (∀ (j : Nat) c v, vs[j]? = some c → us[j]? = some v → VRep w ok ρ c v) → (k + us.length) * sz ≤ cs.size →
    ∃ out, Instr.fill (fun i => some (i * sz, sz)) cs ((List.range' k us.length).zip us) = some out ∧ out.size = cs.size ∧ rows.length = vs.length ∧ (∀ r ∈ rows, r.length = sz) ∧
      (∀ j, j < k * sz → out.getD j undef = cs.getD j undef) ∧ (∀ i j r y, rows[i]? = some r → r[j]? = some y → DRep w ok y (out.getD ((k + i) * sz + j) undef)) := by
  intro vs
  induction vs with
  | nil =>
    intro us rows k cs h hl _ _
    cases us with
    | cons => simp at hl
    | nil => obtain rfl : [] = rows := by simpa [rowsOf] using h
             exact ⟨cs, rfl, rfl, rfl, by simp, fun _ _ => rfl, by simp⟩
  | cons c vs ih =>
    intro us rows k cs h hl hr hsz
    cases us with
    | nil => simp at hl
    | cons u us =>
      simp only [rowsOf] at h
      split at h
      · rename_i cl hcl
        split at h
        · rename_i r hr1
          split at h
          · rename_i hrl
            split at h
            · rename_i rs hrs
              obtain rfl : r :: rs = rows := by simpa using h
              obtain ⟨c1, c2⟩ := cells_rep (hr 0 c u rfl rfl) hcl
              obtain ⟨d1, d2⟩ := toDs_get hr1
              simp only [List.length_cons] at hsz
              have hk : (k + 1) * sz ≤ (k + (us.length + 1)) * sz := Nat.mul_le_mul_right _ (by omega)
              rw [Nat.succ_mul] at hk
              obtain ⟨f1, f2⟩ := foldl_set (k * sz) u.cells.toList 0 cs (by simp; omega)
              obtain ⟨out, o1, o2, o3, o4, o5, o6⟩ := ih us rs (k + 1) _ hrs (by simpa using hl) (fun j c v h1 h2 => hr (j + 1) c v (by simpa using h1) (by simpa using h2))
                (by rw [f1, show k + 1 + us.length = k + (us.length + 1) by omega]; exact hsz)
              refine ⟨out, ?_, by rw [o2, f1], by simp [o3], ?_, ?_, ?_⟩
              · rw [List.length_cons, List.range'_succ, List.zip_cons_cons, Instr.fill]
                simp only
                rw [if_neg (by simp; omega)]
                rw [← o1]
                congr 1
                rw [← Array.foldl_toList]
                simp
              · intro r' hr'
                rcases List.mem_cons.1 hr' with rfl | hr'
                · exact hrl
                · exact o4 r' hr'
              · intro j hj
                rw [o5 j (by rw [Nat.succ_mul]; omega), f2, if_neg (by omega)]
              · intro i j r' y hi hj
                cases i with
                | zero =>
                  obtain rfl : r = r' := by simpa using hi
                  have hjl := (List.getElem?_eq_some_iff.1 hj).1
                  obtain ⟨cc, e1, e2⟩ := d2 j y hj
                  have := (c2 j cc e1).1
                  rw [Nat.add_zero, o5 _ (by rw [Nat.succ_mul]; omega), f2, if_pos (by simp; omega)]
                  refine e2 w ok ρ _ ?_
                  rw [show k * sz + j - (k * sz + 0) = j by omega]
                  simpa [Array.getD_eq_getD_getElem?] using this
                | succ i =>
                  have := o6 i j r' y (by simpa using hi) hj
                  rw [show k + (i + 1) = k + 1 + i by omega]; exact this
            · simp at h
          · simp at h
        · simp at h
      · simp at h

theorem arr_new_rep {w w' : World} {cs : Array Value} {t : TypeId} {sz n : Nat} {rows : List (List D)} (hr : ∀ r ∈ rows, r.length = sz) (hsz : rows.length * sz ≤ cs.size)
    (h : ∀ i j r y, rows[i]? = some r → r[j]? = some y → DRep w ok y (cs.getD (i * sz + j) undef)) (hok : ∀ b, ok b → b < w.heap.size) (hl : ρ.length = n)
    (hw : w'.heap = w.heap.push (.cells cs t (0, 0))) : ORep w' ok (ρ ++ [some w.heap.size]) n (.arr sz rows) := by
  refine ⟨hr, .inr ⟨w.heap.size, cs, t, snoc_len hl, by rw [hw]; exact push_new _, hsz, fun i j r y hi hj => (h i j r y hi hj).mono (fun b hb => ?_) (fun _ h => h)⟩⟩
  rw [hw]; exact push_old _ (hok b hb)

theorem buildSlice_sound (hT : TOk P TT) {K : St → Prop} {dst : Option Nat} {t : TypeId} {len : Nat} {parts : Array (Nat × Operand)} {e : TI} {rows : List (List D)} (hI : Inv w ok ρ s.objs) (hF : Frm x w ok ρ s.objs)
    (hE : ∀ j, VRep w ok ρ (getE s.env j) (a.tmps.getD j undef)) (hn : a.tmps.size = s.n) (hd : a.defers = []) (hx : x.objs.length = s.fx) (hdst : ∀ d, dst = some d → d < s.n) (he : elemOf TT t = some e)
    (hp : parts.toList.map (·.1) = List.range len) (hsz : len * e.size ≤ 2 ^ 24) (hrows : rowsOf e.size (parts.toList.map fun p => s.ev p.2) = some rows)
    (h : K ((s.new (.arr e.size rows)).put dst (.msl s.objs.length e.size 0 len))) : Ends P x K a dst (do pure (.value (← Instr.buildSlice t len (parts.map fun (i, x) => (i, a.eval x))))) w := by
  obtain ⟨et, hu, hf⟩ := elemOf_spec hT he
  have hs := hf.run_sizeOf w
  obtain ⟨i, h1, _, _, zv, h4, h5, h6, h7⟩ := hf.info
  have hz : (zeroValue et).run P w = .ok zv w := by simp [zeroValue, typeInfo, h1, h4]
  have hplen : parts.toList.length = len := by have := congrArg List.length hp; simpa using this
  let us := parts.toList.map fun p => a.eval p.2
  have hul : us.length = len := by simp [us, ← hplen]
  have hparts : (parts.map fun (i, x) => (i, a.eval x)).toList = (List.range' 0 us.length).zip us := by
    rw [hul, ← List.range_eq_range', ← hp]
    simp only [Array.toList_map, us]
    generalize parts.toList = l
    clear_value us
    clear hp hplen hrows h hul
    induction l with
    | nil => rfl
    | cons p l ih => simp [ih]
  let zs : Array Value := if len * e.size = 0 then #[] else zv.cells
  obtain ⟨out, o1, o2, o3, o4, o5, o6⟩ := rowsOf_fill (w := w) (ok := ok) (ρ := ρ) _ us rows 0 ((Array.range (len * e.size)).map (zs[· % zs.size]!)) hrows (by simp [us]) (fun j c v q1 q2 => by
    rw [List.getElem?_map] at q1
    simp only [us, List.getElem?_map] at q2
    cases hq : parts.toList[j]? with
    | none => rw [hq] at q1; simp at q1
    | some r =>
      rw [hq] at q1 q2
      obtain rfl : s.ev r.2 = c := by simpa using q1
      obtain rfl : a.eval r.2 = v := by simpa using q2
      exact ev_rep hE _) (by simp [hul])
  have hsize : out.size = len * e.size := by rw [o2]; simp
  have hrl : rows.length = len := by rw [o3]; simpa using hplen
  refine ends_new (w' := { w with heap := w.heap.push (.cells out et (0, 0)) }) (v := .slice (some ⟨w.heap.size, 0, none⟩) len len) hI hF hE hn hd hx hdst (by simp) (fun b hb => push_old _ hb) rfl rfl rfl (some w.heap.size) (fun b hb => by simp at hb; omega)
    (arr_new_rep o4 (by rw [hsize, hrl]; omega) (fun i j r y q1 q2 => by have := o6 i j r y q1 q2; rwa [Nat.zero_add] at this) hI.okb hI.len rfl) ?_ ?_ h
  · have := VRep.msl (w := { w with heap := w.heap.push (.cells out et (0, 0)) }) (ok := ok) (ρ := ρ ++ [some w.heap.size]) (id := s.objs.length) (sz := e.size) (off := 0) (len := len) (cap := len) (t := et) (n := out.size) (snoc_len hI.len) (Nat.le_refl _) (by simp [World.shape?]) (by rw [Nat.zero_add, hsize]; omega)
    rwa [Nat.zero_mul] at this
  · simp only [Instr.buildSlice, Sem.run_bind, run_underlying (w := w) hu, Result.andThen_ok, hs]
    rw [if_neg (by omega)]
    by_cases c : len * e.size = 0
    · have hzs : zs = #[] := if_pos c
      rw [hzs] at o1
      rw [if_pos c]
      simp only [Sem.run_bind, Sem.run_pure, Result.andThen_ok]
      rw [hparts, o1]
      simp [newRow]
    · have hzs : zs = zv.cells := if_neg c
      rw [hzs] at o1
      rw [if_neg c]
      simp only [Sem.run_bind, hz, Sem.run_pure, Result.andThen_ok]
      rw [hparts, o1]
      simp [newRow]

end
end Go.Fw
