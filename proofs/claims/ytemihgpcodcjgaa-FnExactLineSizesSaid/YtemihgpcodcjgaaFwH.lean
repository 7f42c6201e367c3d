/- The abstract machine's state, and its steps that turn memory. -/
import Derived.Test.YtemihgpcodcjgaaFwG
set_option linter.unusedSimpArgs false
set_option linter.unusedVariables false
namespace Go.Fw

/-- What the slots hold, the objects; how many slots there are; how many objects were handed in. -/
structure St where
  env : List (Nat × V)
  objs : List O
  n : Nat
  fx : Nat

def getE : List (Nat × V) → Nat → V
  | [], _ => .any
  | (i, v) :: e, j => if i = j then v else getE e j

def St.ev (s : St) : Operand → V
  | .tmp t => getE s.env t
  | .const v => constV v
  | .global _ => .any
  | .func f => .d (.fn f [])

def St.put (s : St) (dst : Option Nat) (v : V) : St :=
  match dst with
  | some d => { s with env := (d, v) :: s.env }
  | none => s

def St.new (s : St) (o : O) : St := { s with objs := s.objs ++ [o] }
def St.setO (s : St) (id : Nat) (o : O) : St := { s with objs := s.objs.set id o }

/-- The state stands for the frame's slots and the world, in a call that began at x. -/
def CC (x : Ctx) (s : St) (a : Act) (w : World) : Prop :=
  ∃ ok ρ, Inv w ok ρ s.objs ∧ Frm x w ok ρ s.objs ∧ (∀ j, VRep w ok ρ (getE s.env j) (a.tmps.getD j undef)) ∧ a.tmps.size = s.n ∧ a.defers = [] ∧ x.objs.length = s.fx

def rowsOf (sz : Nat) : List V → Option (List (List D))
  | [] => some []
  | v :: vs => match v.cells with
    | some cs => (match toDs cs with
      | some r => if r.length = sz then (match rowsOf sz vs with
        | some rs => some (r :: rs)
        | none => none) else none
      | none => none)
    | none => none

def putD (r : List D) (off : Nat) (new : List D) : List D := r.take off ++ new ++ r.drop (off + new.length)

/-- The rows that a value to be appended has. -/
def srcRows (objs : List O) : V → Option (List (List D))
  | .d (.lst rows) => some rows
  | .nils => some []
  | .msl id sz off len => match objs[id]? with
    | some (.arr sz' rows) => if sz = sz' ∧ off + len ≤ rows.length then some ((rows.drop off).take len) else none
    | _ => none
  | _ => none

/-- The steps that turn memory. -/
def aef (TT : Nat → Option TI) (s : St) (dst : Option Nat) (op : Op) (K : St → Prop) : Prop :=
  match op with
  | .alloc t => (match TT t with
    | some ti => K ((s.new (.box ti.zero)).put dst (.oref s.objs.length 0))
    | none => False)
  | .box t x => (match (s.ev x).cells with
    | some cs => K ((s.new (.box cs)).put dst (.oref s.objs.length 0))
    | none => False)
  | .buildSlice t len parts => (match elemOf TT t with
    | some e => parts.toList.map (·.1) = List.range len ∧ len * e.size ≤ 2 ^ 24 ∧ (match rowsOf e.size (parts.toList.map fun p => s.ev p.2) with
      | some rows => K ((s.new (.arr e.size rows)).put dst (.msl s.objs.length e.size 0 len))
      | none => False)
    | none => False)
  | .store t x v => (match TT t, (s.ev v).cells with
    | some ti, some new => dst = none ∧ new.length = ti.size ∧ (match s.ev x with
      | .oref id off => (match s.objs[id]? with
        | some (.box cells) => off + new.length ≤ cells.length ∧ K (s.setO id (.box (putAt cells off new)))
        | _ => False)
      | .aref id sz i off => (match s.objs[id]? with
        | some (.arr sz' rows) => sz = sz' ∧ (match rows[i]?, toDs new with
          | some r, some ds => off + ds.length ≤ r.length ∧ K (s.setO id (.arr sz' (rows.set i (putD r off ds))))
          | _, _ => False)
        | _ => False)
      | _ => False)
    | _, _ => False)
  | .makeSlice t l c => (match elemOf TT t with
    | some e => (match s.ev l, s.ev c, toDs e.zero with
      | .d (.int .i64 n), .d (.int .i64 m), some z => n = m ∧ 0 ≤ n ∧ n < 2 ^ 63 ∧ e.bytes * n ≤ 2 ^ 48 ∧ K ((s.new (.arr e.size (List.replicate n.toNat z))).put dst (.msl s.objs.length e.size 0 n.toNat))
      | _, _, _ => False)
    | none => False)
  | .call { callee := .builtin .append, args := args, argTypes := ts } => (match args.toList, ts.toList with
    | [x, y], [t, u] => (match elemOf TT t with
      | some e => isSlice (TT u) = true ∧ (match srcRows s.objs (s.ev y) with
        | some new => (∀ r ∈ new, r.length = e.size) ∧ e.bytes ≠ 0 ∧ (match s.ev x with
          | .nils => 2 * new.length * e.bytes ≤ 2 ^ 48 ∧ K ((s.new (.arr e.size new)).put dst (.msl s.objs.length e.size 0 new.length))
          | .msl id sz off len => (match s.objs[id]? with
            | some (.arr sz' rows) => off = 0 ∧ len = rows.length ∧ sz = e.size ∧ sz' = e.size ∧ 2 * (rows.length + new.length) * e.bytes ≤ 2 ^ 48 ∧
              K (((s.setO id .dead).new (.arr e.size (rows ++ new))).put dst (.msl s.objs.length e.size 0 (rows.length + new.length)))
            | _ => False)
          | _ => False)
        | none => False)
      | none => False)
    | _, _ => False)
  | _ => False

section
variable {P : Program} {TT : Nat → Option TI} {w w' : World} {ok : Nat → Prop} {ρ : List (Option Nat)} {x : Ctx} {s : St} {a : Act}

theorem ev_rep (h : ∀ j, VRep w ok ρ (getE s.env j) (a.tmps.getD j undef)) (o : Operand) : VRep w ok ρ (s.ev o) (a.eval o) := by
  cases o with
  | tmp t => exact h t
  | const v => exact constV_rep v w ok ρ
  | global g => exact .any
  | func f => exact .d (.fn rfl (by simp))

theorem put_rep {s : St} {a : Act} {dst : Option Nat} {V0 : V} {v : Value} (h : ∀ j, VRep w ok ρ (getE s.env j) (a.tmps.getD j undef)) (hv : VRep w ok ρ V0 v)
    (hd : ∀ d, dst = some d → d < a.tmps.size) : ∀ j, VRep w ok ρ (getE (s.put dst V0).env j) ((a.put dst v).tmps.getD j undef) := by
  intro j
  cases dst with
  | none => exact h j
  | some d =>
    have hd := hd d rfl
    simp only [St.put, getE, Act.put]
    by_cases e : d = j
    · subst e
      rw [if_pos rfl]
      simp only [Array.getD_eq_getD_getElem?, Array.getElem?_setIfInBounds_self, hd, if_true, Option.getD_some]
      exact hv
    · rw [if_neg e]
      simp only [Array.getD_eq_getD_getElem?, Array.getElem?_setIfInBounds_ne e]
      have := h j
      rwa [Array.getD_eq_getD_getElem?] at this

theorem put_size (dst : Option Nat) (v : Value) : (a.put dst v).tmps.size = a.tmps.size := by cases dst <;> simp [Act.put]
theorem put_defers (dst : Option Nat) (v : Value) : (a.put dst v).defers = a.defers := by cases dst <;> rfl
theorem St.put_objs (dst : Option Nat) (v : V) : (s.put dst v).objs = s.objs := by cases dst <;> rfl
theorem St.put_n (dst : Option Nat) (v : V) : (s.put dst v).n = s.n := by cases dst <;> rfl
theorem St.put_fx (dst : Option Nat) (v : V) : (s.put dst v).fx = s.fx := by cases dst <;> rfl

theorem run_storeCells (b off : Nat) : ∀ (l : List Value) (i : Nat) (w : World) (cs : Array Value) (t : TypeId), w.heap[b]? = some (.cells cs t (0, 0)) → off + i + l.length ≤ cs.size →
    (∀ v ∈ l, v.oneCell' = true) → ∃ w' cs', (storeCells ⟨b, off, none⟩ l i).run P w = .ok () w' ∧ w'.heap[b]? = some (.cells cs' t (0, 0)) ∧ cs'.size = cs.size ∧
      (∀ j, cs'.getD j undef = if off + i ≤ j ∧ j < off + i + l.length then l.getD (j - (off + i)) undef else cs.getD j undef) ∧ (∀ k, k ≠ b → w'.heap[k]? = w.heap[k]?) ∧
      w'.heap.size = w.heap.size ∧ w'.os = w.os ∧ w'.tape = w.tape ∧ w'.output = w.output := by
  intro l
  induction l with
  | nil =>
    intro i w cs t h _ _
    exact ⟨w, cs, rfl, h, rfl, fun j => by rw [if_neg (by simp only [List.length_nil]; omega)], fun _ _ => rfl, rfl, rfl, rfl, rfl⟩
  | cons v l ih =>
    intro i w cs t h hl ho
    simp only [List.length_cons] at hl
    have hlt : off + i < cs.size := by omega
    have hc : w.cell? ⟨b, off + i, none⟩ = some cs[off + i] := by simp [World.cell?, h, hlt]
    have hf : w.frozen? ⟨b, off + i, none⟩ = false := by simp [World.frozen?, h]
    have hb := (Array.getElem?_eq_some_iff.1 h).1
    have h1 : (w.setCell ⟨b, off + i, none⟩ v).heap[b]? = some (.cells (cs.setIfInBounds (off + i) v) t (0, 0)) := by
      simp [World.setCell, Array.getElem?_modify, h]
    obtain ⟨w', cs', r1, r2, r3, r4, r5, r6, r7, r8, r9⟩ := ih (i + 1) (w.setCell ⟨b, off + i, none⟩ v) _ t h1 (by simp; omega) (fun u hu => ho u (by simp [hu]))
    refine ⟨w', cs', ?_, r2, by rw [r3]; simp, fun j => ?_, fun k hk => ?_, by rw [r6]; simp [World.setCell], by rw [r7]; rfl, by rw [r8]; rfl, by rw [r9]; rfl⟩
    · simp only [storeCells, Sem.run_bind, addr_add]
      rw [run_store P w _ v _ (ho v (by simp)), hc]
      simp only [hf, Bool.false_eq_true, if_false, Result.andThen_ok]
      exact r1
    · rw [r4]
      by_cases c : off + (i + 1) ≤ j ∧ j < off + (i + 1) + l.length
      · rw [if_pos c, if_pos (by simp only [List.length_cons]; omega), show j - (off + i) = (j - (off + (i + 1))) + 1 by omega]
        simp
      · rw [if_neg c]
        by_cases e : j = off + i
        · subst e
          rw [if_pos (by simp only [List.length_cons]; omega)]
          simp [Array.getD_eq_getD_getElem?, hlt]
        · rw [if_neg (by simp only [List.length_cons]; omega)]
          simp only [Array.getD_eq_getD_getElem?, Array.getElem?_setIfInBounds_ne (Ne.symm e)]
    · rw [r5 k hk]
      simp only [World.setCell, Array.getElem?_modify]
      rw [if_neg (Ne.symm hk)]

/-- The step ends in a state of which K speaks. -/
def Ends (P : Program) (x : Ctx) (K : St → Prop) (a : Act) (dst : Option Nat) (s : Sem Next) (w : World) : Prop :=
  (∃ v w', s.run P w = .ok (.value v) w' ∧ ∃ s', K s' ∧ CC x s' (a.put dst v) w') ∨ (∃ w', s.run P w = .ok .skip w' ∧ ∃ s', K s' ∧ CC x s' (a.put dst undef) w')

/-- A new object, and its place or slice in a slot. -/
theorem ends_new {K : St → Prop} {dst : Option Nat} {q : Sem Next} {o : O} {V0 : V} {v : Value} (hI : Inv w ok ρ s.objs) (hF : Frm x w ok ρ s.objs) (hE : ∀ j, VRep w ok ρ (getE s.env j) (a.tmps.getD j undef))
    (hn : a.tmps.size = s.n) (hd : a.defers = []) (hx : x.objs.length = s.fx) (hdst : ∀ d, dst = some d → d < s.n)
    (hsz : w.heap.size ≤ w'.heap.size) (hold : ∀ b, b < w.heap.size → w'.heap[b]? = w.heap[b]?)
    (hos : w'.os = w.os) (htape : w'.tape = w.tape) (hout : w'.output = w.output) (bo : Option Nat) (hb : ∀ b, bo = some b → w.heap.size ≤ b)
    (ho : ORep w' ok (ρ ++ [bo]) s.objs.length o) (hv : VRep w' ok (ρ ++ [bo]) V0 v) (hr : q.run P w = .ok (.value v) w') (hK : K ((s.new o).put dst V0)) : Ends P x K a dst q w := by
  obtain ⟨h1, h2, h3⟩ := step_new hI hF hsz hold hos htape hout bo hb ho
  refine .inl ⟨v, w', hr, _, hK, ok, ρ ++ [bo], by rw [St.put_objs]; exact h1, by rw [St.put_objs]; exact h2, ?_, by rw [put_size, hn, St.put_n]; rfl, by rw [put_defers]; exact hd, by rw [St.put_fx]; exact hx⟩
  exact put_rep (s := s.new o) (fun j => h3 _ _ (hE j)) hv (fun d hd' => by rw [hn]; exact hdst d hd')

end
end Go.Fw
