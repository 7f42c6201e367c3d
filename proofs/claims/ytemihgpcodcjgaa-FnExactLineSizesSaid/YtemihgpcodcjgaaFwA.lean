/- The store of an abstract machine over Go's memory, in the model's words: values, objects, and what it means that a world bears them. -/
import Derived.Control
import Derived.Orders
import Derived.Below
import Derived.Laws.Sem
namespace Go.Fw

/-- Data without names of its own objects: what it says of memory stays as it is. A row is a struct's cells, or one cell. -/
inductive D where
  | int (k : IntKind) (n : Int)
  | bool (b : Bool)
  | str (s : List UInt8)
  | raw (v : Value)
  | lst (rows : List (List D))
  | ptr (cells : List D)
  | fn (f : Nat) (cap : List D)

/-- What a slot holds: data; a place in an object; a slice of an object; a nil slice; a struct; several results; anything. -/
inductive V where
  | d (x : D)
  | oref (id off : Nat)
  | aref (id sz i off : Nat)
  | msl (id sz off len : Nat)
  | nils
  | agg (cs : List V)
  | tup (vs : List V)
  | any

/-- An object of the call's own: a variable's cells; a slice's rows; one that is given up. -/
inductive O where
  | box (cells : List V)
  | arr (sz : Nat) (rows : List (List D))
  | dead

def O.live : O → Bool
  | .dead => false
  | _ => true

def bytesOf (s : List UInt8) : ByteArray := ⟨s.toArray⟩

/-- The world w bears the data d as the value v; slices and pointers in it lead to blocks in ok alone. -/
inductive DRep (w : World) (ok : Nat → Prop) : D → Value → Prop
  | int {k n} : DRep w ok (.int k n) (.int k n)
  | bool {b} : DRep w ok (.bool b) (.bool b)
  | str {s} : DRep w ok (.str s) (.string (bytesOf s))
  | raw {v} (h : v.oneCell' = true) : DRep w ok (.raw v) v
  | nil {a cap} : DRep w ok (.lst []) (.slice a 0 cap)
  | lst {rows : List (List D)} {sz b off cap : Nat} {vs : Nat → Nat → Value} (hok : ok b) (hsz : ∀ r ∈ rows, r.length = sz) (hcap : rows.length ≤ cap)
      (hc : ∀ i j r x, rows[i]? = some r → r[j]? = some x → w.cell? ⟨b, off + (i * sz + j), none⟩ = some (vs i j))
      (hd : ∀ i j r x, rows[i]? = some r → r[j]? = some x → DRep w ok x (vs i j)) :
      DRep w ok (.lst rows) (.slice (some ⟨b, off, none⟩) rows.length cap)
  | ptr {cells : List D} {b off : Nat} {vs : Nat → Value} (hok : ok b)
      (hc : ∀ j x, cells[j]? = some x → w.cell? ⟨b, off + j, none⟩ = some (vs j))
      (hd : ∀ j x, cells[j]? = some x → DRep w ok x (vs j)) :
      DRep w ok (.ptr cells) (.pointer (some ⟨b, off, none⟩))
  | fn {f : Nat} {cap : List D} {vs : Array Value} (hn : vs.size = cap.length)
      (hd : ∀ j x, cap[j]? = some x → DRep w ok x (vs.getD j undef)) :
      DRep w ok (.fn f cap) (.func (.func f) #[] vs)

theorem DRep.mono {w w' : World} {ok ok' : Nat → Prop} {d : D} {v : Value} (h : DRep w ok d v)
    (hw : ∀ b, ok b → w'.heap[b]? = w.heap[b]?) (hk : ∀ b, ok b → ok' b) : DRep w' ok' d v := by
  induction h with
  | int => exact .int
  | bool => exact .bool
  | str => exact .str
  | raw h => exact .raw h
  | nil => exact .nil
  | lst hok hsz hcap hc _ ih =>
    exact .lst (hk _ hok) hsz hcap (fun i j r x h1 h2 => by rw [World.cell?_of_block (w := w) (hw _ hok)]; exact hc i j r x h1 h2) ih
  | ptr hok hc _ ih =>
    exact .ptr (hk _ hok) (fun j x h1 => by rw [World.cell?_of_block (w := w) (hw _ hok)]; exact hc j x h1) ih
  | fn hn _ ih => exact .fn hn ih

/-- Data that leads nowhere. -/
def D.flat : D → Bool
  | .int .. | .bool _ | .str _ | .raw _ => true
  | .lst [] => true
  | _ => false

theorem DRep.of_flat {w w' : World} {ok ok' : Nat → Prop} {d : D} {v : Value} (h : DRep w ok d v) (hf : d.flat = true) : DRep w' ok' d v := by
  cases h with
  | int => exact .int
  | bool => exact .bool
  | str => exact .str
  | raw h => exact .raw h
  | nil => exact .nil
  | @lst rows sz b off cap vs hok hsz hcap hc hd =>
    cases rows with
    | nil => exact .nil
    | cons r rs => simp [D.flat] at hf
  | ptr => simp [D.flat] at hf
  | fn => simp [D.flat] at hf

/-- The world w bears v as the slot's value; ρ tells where the objects lie (none: nowhere yet). -/
inductive VRep (w : World) (ok : Nat → Prop) (ρ : List (Option Nat)) : V → Value → Prop
  | d {x v} (h : DRep w ok x v) : VRep w ok ρ (.d x) v
  | oref {id off b} (h : ρ[id]? = some (some b)) : VRep w ok ρ (.oref id off) (.pointer (some ⟨b, off, none⟩))
  | aref {id sz i off b} (h : ρ[id]? = some (some b)) : VRep w ok ρ (.aref id sz i off) (.pointer (some ⟨b, i * sz + off, none⟩))
  | msl {id sz off len cap b t n} (h : ρ[id]? = some (some b)) (hc : len ≤ cap) (hs : w.shape? b = some (t, n)) (hn : (off + cap) * sz ≤ n) :
      VRep w ok ρ (.msl id sz off len) (.slice (some ⟨b, off * sz, none⟩) len cap)
  | msl0 {id sz off a} (h : id < ρ.length) : VRep w ok ρ (.msl id sz off 0) (.slice a 0 0)
  | nils : VRep w ok ρ .nils (.slice none 0 0)
  | agg {cs : List V} {vs : Array Value} (hn : vs.size = cs.length) (h : ∀ i c, cs[i]? = some c → VRep w ok ρ c (vs.getD i undef)) : VRep w ok ρ (.agg cs) (.agg vs)
  | tup {cs : List V} {vs : Array Value} (hn : vs.size = cs.length) (h : ∀ i c, cs[i]? = some c → VRep w ok ρ c (vs.getD i undef)) : VRep w ok ρ (.tup cs) (.tuple vs)
  | any {v} : VRep w ok ρ .any v

theorem VRep.mono {w w' : World} {ok ok' : Nat → Prop} {ρ ρ' : List (Option Nat)} {x : V} {v : Value} (h : VRep w ok ρ x v)
    (hw : ∀ b, ok b → w'.heap[b]? = w.heap[b]?) (hk : ∀ b, ok b → ok' b) (hs : ∀ b s, w.shape? b = some s → w'.shape? b = some s)
    (hρ : ∀ (id : Nat) (b : Option Nat), ρ[id]? = some b → ρ'[id]? = some b) : VRep w' ok' ρ' x v := by
  have hlen : ∀ id, id < ρ.length → id < ρ'.length := by
    intro id hid
    have := hρ id _ (List.getElem?_eq_getElem hid)
    exact (List.getElem?_eq_some_iff.1 this).1
  induction h with
  | d h => exact .d (h.mono hw hk)
  | oref h => exact .oref (hρ _ _ h)
  | aref h => exact .aref (hρ _ _ h)
  | msl h hc hs' hn => exact .msl (hρ _ _ h) hc (hs _ _ hs') hn
  | msl0 h => exact .msl0 (hlen _ h)
  | nils => exact .nils
  | agg hn _ ih => exact .agg hn ih
  | tup hn _ ih => exact .tup hn ih
  | any => exact .any

/-- The world bears the object id. -/
def ORep (w : World) (ok : Nat → Prop) (ρ : List (Option Nat)) (id : Nat) : O → Prop
  | .dead => True
  | .box cells => ∃ b cs t, ρ[id]? = some (some b) ∧ w.heap[b]? = some (.cells cs t (0, 0)) ∧ cs.size = cells.length ∧
      ∀ j c, cells[j]? = some c → VRep w ok ρ c (cs.getD j undef)
  | .arr sz rows => (∀ r ∈ rows, r.length = sz) ∧ ((rows = [] ∧ ρ[id]? = some none) ∨
      ∃ b cs t, ρ[id]? = some (some b) ∧ w.heap[b]? = some (.cells cs t (0, 0)) ∧ rows.length * sz ≤ cs.size ∧
        ∀ i j r x, rows[i]? = some r → r[j]? = some x → DRep w ok x (cs.getD (i * sz + j) undef))

theorem ORep.mono {w w' : World} {ok ok' : Nat → Prop} {ρ ρ' : List (Option Nat)} {id : Nat} {o : O} (h : ORep w ok ρ id o)
    (hw : ∀ b, ok b → w'.heap[b]? = w.heap[b]?) (hk : ∀ b, ok b → ok' b) (hs : ∀ b s, w.shape? b = some s → w'.shape? b = some s)
    (hρ : ∀ (id : Nat) (b : Option Nat), ρ[id]? = some b → ρ'[id]? = some b) (ho : o.live = true → ∀ b, ρ[id]? = some (some b) → w'.heap[b]? = w.heap[b]?) : ORep w' ok' ρ' id o := by
  cases o with
  | dead => trivial
  | box cells =>
    obtain ⟨b, cs, t, h1, h2, h3, h4⟩ := h
    exact ⟨b, cs, t, hρ _ _ h1, by rw [ho rfl _ h1]; exact h2, h3, fun j c hj => (h4 j c hj).mono hw hk hs hρ⟩
  | arr sz rows =>
    obtain ⟨h0, h⟩ := h
    refine ⟨h0, ?_⟩
    rcases h with ⟨h1, h2⟩ | ⟨b, cs, t, h1, h2, h3, h4⟩
    · exact .inl ⟨h1, hρ _ _ h2⟩
    · exact .inr ⟨b, cs, t, hρ _ _ h1, by rw [ho rfl _ h1]; exact h2, h3, fun i j r x hi hj => (h4 i j r x hi hj).mono hw hk⟩

/-- The world bears all objects; they lie apart from each other, and from what other data leads to. -/
structure Inv (w : World) (ok : Nat → Prop) (ρ : List (Option Nat)) (objs : List O) : Prop where
  len : ρ.length = objs.length
  okb : ∀ b, ok b → b < w.heap.size
  own : ∀ (id : Nat) (o : O), objs[id]? = some o → ORep w ok ρ id o
  dis : ∀ (i j : Nat) (oi oj : O) (b : Nat), objs[i]? = some oi → objs[j]? = some oj → oi.live = true → oj.live = true → ρ[i]? = some (some b) → ρ[j]? = some (some b) → i = j
  nok : ∀ (i : Nat) (o : O) (b : Nat), objs[i]? = some o → o.live = true → ρ[i]? = some (some b) → ¬ ok b

/-- Where a call began: the world, the data's blocks, the objects that were handed in. -/
structure Ctx where
  w : World
  ok : Nat → Prop
  ρ : List (Option Nat)
  objs : List O

/-- What a call has turned since then: its own objects, and those that were handed in. -/
structure Frm (x : Ctx) (w : World) (ok : Nat → Prop) (ρ : List (Option Nat)) (objs : List O) : Prop where
  os : w.os = x.w.os
  tape : w.tape = x.w.tape
  output : w.output = x.w.output
  size : x.w.heap.size ≤ w.heap.size
  block : ∀ b, b < x.w.heap.size → (∀ (id : Nat) (o : O), x.objs[id]? = some o → o.live = true → x.ρ[id]? ≠ some (some b)) → w.heap[b]? = x.w.heap[b]?
  shape : ∀ b s, x.w.shape? b = some s → w.shape? b = some s
  okup : ∀ b, x.ok b → ok b
  okdn : ∀ b, ok b → x.ok b ∨ x.w.heap.size ≤ b ∨ (∃ (id : Nat) (o : O), x.objs[id]? = some o ∧ o.live = true ∧ x.ρ[id]? = some (some b) ∧ objs[id]? = some .dead)
  rho : ∀ (id : Nat) (b : Option Nat), id < x.objs.length → x.ρ[id]? = some b → ρ[id]? = some b
  own : ∀ (id : Nat) (o : O) (b : Nat), objs[id]? = some o → o.live = true → ρ[id]? = some (some b) → x.w.heap.size ≤ b ∨ ∃ (i0 : Nat) (o0 : O), x.objs[i0]? = some o0 ∧ o0.live = true ∧ x.ρ[i0]? = some (some b)

end Go.Fw
