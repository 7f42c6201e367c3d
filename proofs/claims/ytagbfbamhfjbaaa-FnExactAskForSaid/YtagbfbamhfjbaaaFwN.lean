/- The abstract machine over the model and its proofs, joined out of several texts. -/
import Derived.Control
import Derived.Orders
import Derived.Below
import Derived.Laws.Sem
import Derived.WalkKit
import Derived.Laws.StructEq
import Derived.Laws.Cells
import Derived.Laws.Cover3

/- The store of an abstract machine over Go's memory, in the model's words: values, objects, and what it means that a world bears them. -/
namespace Go.Fw

/-- Data without names of its own objects: what it says of memory stays as it is. A row is a struct's cells, or one cell. -/
inductive D where
  | int (k : IntKind) (n : Int)
  | bool (b : Bool)
  | str (s : List UInt8)
  | raw (v : Value)
  | lst (rows : List (List D))
  | ptr (cells : List D)
  | fn (f : Nat) (cap : List D)
  | wint (k : IntKind)
  | wbool
  | wx (row : List D) (mx : Nat)
  | hi (n : Nat) (x : D)
  | bl (bo : Option Nat) (sz : Nat) (rows : List (List D))

/-- What a slot holds: data; a place in an object; a slice of an object; a nil slice; a struct; several results; anything. -/
inductive V where
  | d (x : D)
  | oref (id off : Nat)
  | aref (id sz i off : Nat)
  | msl (id sz off len : Nat)
  | nils
  | agg (cs : List V)
  | tup (vs : List V)
  | any
  | hd (n : Nat) (x : D)
  | ld (n : Nat) (x : D)
  | iv (lo hi : Nat) (x : D)

/-- An object of the call's own: a variable's cells; a slice's rows; one that is given up. -/
inductive O where
  | box (cells : List V)
  | arr (sz : Nat) (rows : List (List D))
  | dead

def O.live : O → Bool
  | .dead => false
  | _ => true

def bytesOf (s : List UInt8) : ByteArray := ⟨s.toArray⟩

/-- Data that leads nowhere. -/
def D.flat : D → Bool
  | .int .. | .bool _ | .str _ | .raw _ => true
  | .lst [] => true
  | .wint _ | .wbool => true
  | _ => false

/-- The world w bears the data d as the value v; slices and pointers in it lead to blocks in ok alone. -/
inductive DRep (w : World) : (Nat → Prop) → D → Value → Prop
  | int {ok k n} : DRep w ok (.int k n) (.int k n)
  | bool {ok b} : DRep w ok (.bool b) (.bool b)
  | str {ok s} : DRep w ok (.str s) (.string (bytesOf s))
  | raw {ok v} (h : v.oneCell' = true) : DRep w ok (.raw v) v
  | nil {ok a cap} : DRep w ok (.lst []) (.slice a 0 cap)
  | lst {ok : Nat → Prop} {rows : List (List D)} {sz b off cap : Nat} {vs : Nat → Nat → Value} (hok : ok b) (hsz : ∀ r ∈ rows, r.length = sz) (hcap : rows.length ≤ cap)
      (hc : ∀ i j r x, rows[i]? = some r → r[j]? = some x → w.cell? ⟨b, off + (i * sz + j), none⟩ = some (vs i j))
      (hd : ∀ i j r x, rows[i]? = some r → r[j]? = some x → DRep w ok x (vs i j)) :
      DRep w ok (.lst rows) (.slice (some ⟨b, off, none⟩) rows.length cap)
  | ptr {ok : Nat → Prop} {cells : List D} {b off : Nat} {vs : Nat → Value} (hok : ok b)
      (hc : ∀ j x, cells[j]? = some x → w.cell? ⟨b, off + j, none⟩ = some (vs j))
      (hd : ∀ j x, cells[j]? = some x → DRep w ok x (vs j)) :
      DRep w ok (.ptr cells) (.pointer (some ⟨b, off, none⟩))
  | fn {ok : Nat → Prop} {f : Nat} {cap : List D} {vs : Array Value} (hn : vs.size = cap.length)
      (hd : ∀ j x, cap[j]? = some x → DRep w ok x (vs.getD j undef)) :
      DRep w ok (.fn f cap) (.func (.func f) #[] vs)
  | wint {ok k n} : DRep w ok (.wint k) (.int k n)
  | wbool {ok b} : DRep w ok .wbool (.bool b)
  | wx {ok : Nat → Prop} {row : List D} {mx L : Nat} {v} (hl : L ≤ mx) (h : DRep w ok (.lst ((List.replicate L ()).map fun _ => row)) v) : DRep w ok (.wx row mx) v
  | hi {ok : Nat → Prop} {n : Nat} {x : D} {v} (h : DRep w (fun b => ok b ∧ n ≤ b) x v) : DRep w ok (.hi n x) v
  | bl0 {ok : Nat → Prop} {sz a} : DRep w ok (.bl none sz []) (.slice a 0 0)
  | bl {ok : Nat → Prop} {b sz cap : Nat} {rows : List (List D)} {cs : Array Value} {t : TypeId} (hok : ok b) (hsz : ∀ r ∈ rows, r.length = sz) (hh : w.heap[b]? = some (.cells cs t (0, 0))) (hcap : rows.length ≤ cap) (hcs : cap * sz ≤ cs.size)
      (hfl : ∀ r ∈ rows, ∀ x ∈ r, x.flat = true) (hd : ∀ i j r x, rows[i]? = some r → r[j]? = some x → DRep w ok x (cs.getD (i * sz + j) undef)) : DRep w ok (.bl (some b) sz rows) (.slice (some ⟨b, 0, none⟩) rows.length cap)

theorem DRep.mono {w w' : World} {ok ok' : Nat → Prop} {d : D} {v : Value} (h : DRep w ok d v)
    (hw : ∀ b, ok b → w'.heap[b]? = w.heap[b]?) (hk : ∀ b, ok b → ok' b) : DRep w' ok' d v := by
  induction h generalizing ok' with
  | int => exact .int
  | bool => exact .bool
  | str => exact .str
  | raw h => exact .raw h
  | nil => exact .nil
  | lst hok hsz hcap hc _ ih =>
    exact .lst (hk _ hok) hsz hcap (fun i j r x h1 h2 => by rw [World.cell?_of_block (w := w) (hw _ hok)]; exact hc i j r x h1 h2) (fun i j r x h1 h2 => ih i j r x h1 h2 hw hk)
  | ptr hok hc _ ih =>
    exact .ptr (hk _ hok) (fun j x h1 => by rw [World.cell?_of_block (w := w) (hw _ hok)]; exact hc j x h1) (fun j x h1 => ih j x h1 hw hk)
  | fn hn _ ih => exact .fn hn (fun j x h1 => ih j x h1 hw hk)
  | wint => exact .wint
  | wbool => exact .wbool
  | wx hl _ ih => exact .wx hl (ih hw hk)
  | hi _ ih => exact .hi (ih (fun b h => hw b h.1) (fun b h => ⟨hk b h.1, h.2⟩))
  | bl0 => exact .bl0
  | bl hok hsz hh hcap hcs hfl _ ih => exact .bl (hk _ hok) hsz (by rw [hw _ hok]; exact hh) hcap hcs hfl (fun i j r x h1 h2 => ih i j r x h1 h2 hw hk)

theorem DRep.of_flat {w w' : World} {ok ok' : Nat → Prop} {d : D} {v : Value} (h : DRep w ok d v) (hf : d.flat = true) : DRep w' ok' d v := by
  cases h with
  | int => exact .int
  | bool => exact .bool
  | str => exact .str
  | raw h => exact .raw h
  | nil => exact .nil
  | @lst _ rows sz b off cap vs hok hsz hcap hc hd =>
    cases rows with
    | nil => exact .nil
    | cons r rs => simp [D.flat] at hf
  | ptr => simp [D.flat] at hf
  | fn => simp [D.flat] at hf
  | wint => exact .wint
  | wbool => exact .wbool
  | wx => simp [D.flat] at hf
  | hi => simp [D.flat] at hf
  | bl0 => simp [D.flat] at hf
  | bl => simp [D.flat] at hf

/-- The world w bears v as the slot's value; ρ tells where the objects lie (none: nowhere yet). -/
inductive VRep (w : World) (ok : Nat → Prop) (ρ : List (Option Nat)) : V → Value → Prop
  | d {x v} (h : DRep w ok x v) : VRep w ok ρ (.d x) v
  | oref {id off b} (h : ρ[id]? = some (some b)) : VRep w ok ρ (.oref id off) (.pointer (some ⟨b, off, none⟩))
  | aref {id sz i off b} (h : ρ[id]? = some (some b)) : VRep w ok ρ (.aref id sz i off) (.pointer (some ⟨b, i * sz + off, none⟩))
  | msl {id sz off len cap b t n} (h : ρ[id]? = some (some b)) (hc : len ≤ cap) (hs : w.shape? b = some (t, n)) (hn : (off + cap) * sz ≤ n) :
      VRep w ok ρ (.msl id sz off len) (.slice (some ⟨b, off * sz, none⟩) len cap)
  | msl0 {id sz off a} (h : id < ρ.length) : VRep w ok ρ (.msl id sz off 0) (.slice a 0 0)
  | nils : VRep w ok ρ .nils (.slice none 0 0)
  | agg {cs : List V} {vs : Array Value} (hn : vs.size = cs.length) (h : ∀ i c, cs[i]? = some c → VRep w ok ρ c (vs.getD i undef)) : VRep w ok ρ (.agg cs) (.agg vs)
  | tup {cs : List V} {vs : Array Value} (hn : vs.size = cs.length) (h : ∀ i c, cs[i]? = some c → VRep w ok ρ c (vs.getD i undef)) : VRep w ok ρ (.tup cs) (.tuple vs)
  | any {v} : VRep w ok ρ .any v
  | hd {n x v} (h : DRep w (fun b => ok b ∧ n ≤ b) x v) : VRep w ok ρ (.hd n x) v
  | ld {n x v} (h : DRep w (fun b => ok b ∧ b < n) x v) : VRep w ok ρ (.ld n x) v
  | iv {lo hi x v} (h : DRep w (fun b => ok b ∧ lo ≤ b ∧ b < hi) x v) : VRep w ok ρ (.iv lo hi x) v

theorem VRep.mono {w w' : World} {ok ok' : Nat → Prop} {ρ ρ' : List (Option Nat)} {x : V} {v : Value} (h : VRep w ok ρ x v)
    (hw : ∀ b, ok b → w'.heap[b]? = w.heap[b]?) (hk : ∀ b, ok b → ok' b) (hs : ∀ b s, w.shape? b = some s → w'.shape? b = some s)
    (hρ : ∀ (id : Nat) (b : Option Nat), ρ[id]? = some b → ρ'[id]? = some b) : VRep w' ok' ρ' x v := by
  have hlen : ∀ id, id < ρ.length → id < ρ'.length := by
    intro id hid
    have := hρ id _ (List.getElem?_eq_getElem hid)
    exact (List.getElem?_eq_some_iff.1 this).1
  induction h with
  | d h => exact .d (h.mono hw hk)
  | oref h => exact .oref (hρ _ _ h)
  | aref h => exact .aref (hρ _ _ h)
  | msl h hc hs' hn => exact .msl (hρ _ _ h) hc (hs _ _ hs') hn
  | msl0 h => exact .msl0 (hlen _ h)
  | nils => exact .nils
  | agg hn _ ih => exact .agg hn ih
  | tup hn _ ih => exact .tup hn ih
  | any => exact .any
  | hd h => exact .hd (h.mono (fun b h => hw b h.1) (fun b h => ⟨hk b h.1, h.2⟩))
  | ld h => exact .ld (h.mono (fun b h => hw b h.1) (fun b h => ⟨hk b h.1, h.2⟩))
  | iv h => exact .iv (h.mono (fun b h => hw b h.1) (fun b h => ⟨hk b h.1, h.2⟩))

/-- The world bears the object id. -/
def ORep (w : World) (ok : Nat → Prop) (ρ : List (Option Nat)) (id : Nat) : O → Prop
  | .dead => True
  | .box cells => ∃ b cs t, ρ[id]? = some (some b) ∧ w.heap[b]? = some (.cells cs t (0, 0)) ∧ cs.size = cells.length ∧
      ∀ j c, cells[j]? = some c → VRep w ok ρ c (cs.getD j undef)
  | .arr sz rows => (∀ r ∈ rows, r.length = sz) ∧ ((rows = [] ∧ ρ[id]? = some none) ∨
      ∃ b cs t, ρ[id]? = some (some b) ∧ w.heap[b]? = some (.cells cs t (0, 0)) ∧ rows.length * sz ≤ cs.size ∧
        ∀ i j r x, rows[i]? = some r → r[j]? = some x → DRep w ok x (cs.getD (i * sz + j) undef))

theorem ORep.mono {w w' : World} {ok ok' : Nat → Prop} {ρ ρ' : List (Option Nat)} {id : Nat} {o : O} (h : ORep w ok ρ id o)
    (hw : ∀ b, ok b → w'.heap[b]? = w.heap[b]?) (hk : ∀ b, ok b → ok' b) (hs : ∀ b s, w.shape? b = some s → w'.shape? b = some s)
    (hρ : ∀ (id : Nat) (b : Option Nat), ρ[id]? = some b → ρ'[id]? = some b) (ho : o.live = true → ∀ b, ρ[id]? = some (some b) → w'.heap[b]? = w.heap[b]?) : ORep w' ok' ρ' id o := by
  cases o with
  | dead => trivial
  | box cells =>
    obtain ⟨b, cs, t, h1, h2, h3, h4⟩ := h
    exact ⟨b, cs, t, hρ _ _ h1, by rw [ho rfl _ h1]; exact h2, h3, fun j c hj => (h4 j c hj).mono hw hk hs hρ⟩
  | arr sz rows =>
    obtain ⟨h0, h⟩ := h
    refine ⟨h0, ?_⟩
    rcases h with ⟨h1, h2⟩ | ⟨b, cs, t, h1, h2, h3, h4⟩
    · exact .inl ⟨h1, hρ _ _ h2⟩
    · exact .inr ⟨b, cs, t, hρ _ _ h1, by rw [ho rfl _ h1]; exact h2, h3, fun i j r x hi hj => (h4 i j r x hi hj).mono hw hk⟩

/-- The world bears all objects; they lie apart from each other, and from what other data leads to. -/
structure Inv (w : World) (ok : Nat → Prop) (ρ : List (Option Nat)) (objs : List O) : Prop where
  len : ρ.length = objs.length
  okb : ∀ b, ok b → b < w.heap.size
  own : ∀ (id : Nat) (o : O), objs[id]? = some o → ORep w ok ρ id o
  dis : ∀ (i j : Nat) (oi oj : O) (b : Nat), objs[i]? = some oi → objs[j]? = some oj → oi.live = true → oj.live = true → ρ[i]? = some (some b) → ρ[j]? = some (some b) → i = j
  nok : ∀ (i : Nat) (o : O) (b : Nat), objs[i]? = some o → o.live = true → ρ[i]? = some (some b) → ¬ ok b

/-- Where a call began: the world, the data's blocks, the objects that were handed in. -/
structure Ctx where
  w : World
  ok : Nat → Prop
  ρ : List (Option Nat)
  objs : List O
  wr : Bool
  kp : Bool

/-- The block is a plain one, that may be written. -/
def Unf (w : World) (b : Nat) : Prop := ∃ cs t, w.heap[b]? = some (.cells cs t (0, 0))

/-- Of one kind: a number for a number, a truth value for a truth value. -/
def SameK (u u' : Value) : Prop := u' = u ∨ (∃ k n n', u = .int k n ∧ u' = .int k n') ∨ ∃ b b', u = .bool b ∧ u' = .bool b'

/-- What is written into these blocks keeps each cell's kind. -/
def Pres (ok : Nat → Prop) (w w' : World) : Prop := ∀ b cs t, ok b → w.heap[b]? = some (.cells cs t (0, 0)) →
  ∃ cs', w'.heap[b]? = some (.cells cs' t (0, 0)) ∧ cs'.size = cs.size ∧ ∀ j, SameK (cs.getD j undef) (cs'.getD j undef)

theorem Pres.same {ok : Nat → Prop} {w w' : World} (h : ∀ b, ok b → w'.heap[b]? = w.heap[b]?) : Pres ok w w' :=
  fun b cs t hb hc => ⟨cs, by rw [h b hb]; exact hc, rfl, fun _ => .inl rfl⟩

theorem SameK.trans {a b c : Value} (h : SameK a b) (h' : SameK b c) : SameK a c := by
  rcases h with rfl | ⟨k, n, m, rfl, rfl⟩ | ⟨x, y, rfl, rfl⟩
  · exact h'
  · rcases h' with rfl | ⟨k', n', m', e, rfl⟩ | ⟨x, y, e, rfl⟩
    · exact .inr (.inl ⟨k, n, m, rfl, rfl⟩)
    · cases e; exact .inr (.inl ⟨k, n, m', rfl, rfl⟩)
    · cases e
  · rcases h' with rfl | ⟨k', n', m', e, rfl⟩ | ⟨x', y', e, rfl⟩
    · exact .inr (.inr ⟨x, y, rfl, rfl⟩)
    · cases e
    · exact .inr (.inr ⟨x, y', rfl, rfl⟩)

theorem Pres.trans {ok ok' : Nat → Prop} {w w' w'' : World} (h : Pres ok w w') (h' : Pres ok' w' w'') (hk : ∀ b, ok b → ok' b) : Pres ok w w'' := by
  intro b cs t hb hc
  obtain ⟨cs', h1, h2, h3⟩ := h b cs t hb hc
  obtain ⟨cs'', h4, h5, h6⟩ := h' b cs' t (hk b hb) h1
  exact ⟨cs'', h4, by rw [h5, h2], fun j => (h3 j).trans (h6 j)⟩

theorem Unf.of {w w' : World} {b : Nat} (h : Unf w b) (hh : w'.heap[b]? = w.heap[b]?) : Unf w' b := by
  obtain ⟨cs, t, e⟩ := h
  exact ⟨cs, t, by rw [hh]; exact e⟩

/-- What a call has turned since then: its own objects, and those that were handed in. -/
structure Frm (x : Ctx) (w : World) (ok : Nat → Prop) (ρ : List (Option Nat)) (objs : List O) : Prop where
  os : w.os = x.w.os
  tape : w.tape = x.w.tape
  output : w.output = x.w.output
  size : x.w.heap.size ≤ w.heap.size
  block : ∀ b, b < x.w.heap.size → (∀ (id : Nat) (o : O), x.objs[id]? = some o → o.live = true → x.ρ[id]? ≠ some (some b)) → (x.wr = true → ¬ x.ok b) → w.heap[b]? = x.w.heap[b]?
  shape : ∀ b s, x.w.shape? b = some s → w.shape? b = some s
  okup : ∀ b, x.ok b → ok b
  okdn : ∀ b, ok b → x.ok b ∨ x.w.heap.size ≤ b ∨ (∃ (id : Nat) (o : O), x.objs[id]? = some o ∧ o.live = true ∧ x.ρ[id]? = some (some b) ∧ objs[id]? = some .dead)
  rho : ∀ (id : Nat) (b : Option Nat), id < x.objs.length → x.ρ[id]? = some b → ρ[id]? = some b
  own : ∀ (id : Nat) (o : O) (b : Nat), objs[id]? = some o → o.live = true → ρ[id]? = some (some b) → x.w.heap.size ≤ b ∨ ∃ (i0 : Nat) (o0 : O), x.objs[i0]? = some o0 ∧ o0.live = true ∧ x.ρ[i0]? = some (some b)
  unf : ∀ b, ok b → x.ok b ∨ Unf w b
  pres : x.wr = true → x.kp = true → Pres x.ok x.w w

/-- What a slot holds whose operation was passed over. -/
theorem skip_rep {w : World} {ok : Nat → Prop} {ρ : List (Option Nat)} : VRep w ok ρ (.tup []) undef := .tup rfl (fun j c h => by simp at h)
theorem skip_eq {w : World} {ok : Nat → Prop} {ρ : List (Option Nat)} {v : Value} (h : VRep w ok ρ (.tup []) v) : v = undef := by
  cases h with
  | tup hn _ => exact congrArg Value.tuple (Array.eq_empty_of_size_eq_zero hn)

end Go.Fw

/- The abstract machine's steps that turn no memory, and why the model's own steps follow them. -/
namespace Go.Fw

/-- What an abstract machine is told of a type. -/
inductive TK where
  | sca
  | int (k : IntKind)
  | str
  | bool
  | struct (flds : List (Nat × Nat × Bool)) (ks : List Nat)
  | slice (elem : Nat)

structure TI where
  kind : TK
  size : Nat
  bytes : Nat
  zero : List V

def zB : V → Value → Bool
  | .d (.int k n), .int k' n' => k == k' && n == n'
  | .d (.bool b), .bool b' => b == b'
  | .d (.str []), .string s => s.size == 0
  | .nils, .slice none 0 0 => true
  | .any, _ => true
  | _, _ => false

def aggB (P : Program) (t : TypeId) : Bool :=
  match P.underlying t with
  | some (.struct _) | some (.array ..) => true
  | _ => false

/-- The type's kind: 0 an integer, 1 a bool, 2 a string. -/
def plainB (P : Program) (t : TypeId) (k : Nat) : Bool :=
  match P.underlying t, k with
  | some (.int _), 0 | some .bool, 1 | some .string, 2 => true
  | _, _ => false

def fldB (P : Program) (f : Field) (p : Nat × Nat × Bool) : Bool :=
  f.offset == p.1 && (P.info? f.type).map (·.size) == some p.2.1 && aggB P f.type == p.2.2 && p.2.1 != 0 && (P.underlying f.type).isSome

def descB (P : Program) : TypeDesc → TK → Bool
  | .struct fs, .struct flds ks => fs.size == flds.length && (fs.toList.zip flds).all (fun x => fldB P x.1 x.2) && (ks.isEmpty || (ks.length == fs.size && (fs.toList.zip ks).zipIdx.all fun x => x.1.1.offset == x.2 && x.1.1.name != "_" && plainB P x.1.1.type x.1.2))
  | .slice e, .slice e' => e == e'
  | .int k, .int k' => k == k'
  | .string, .str => true
  | .bool, .bool => true
  | .struct _, _ => false
  | .array .., _ => false
  | _, .sca => true
  | _, _ => false

/-- The program's own table says so. -/
def tcheck (P : Program) (t : TypeId) (ti : TI) : Bool :=
  match P.info? t, P.underlying t with
  | some i, some d => i.size == ti.size && i.bytes == ti.bytes && descB P d ti.kind &&
    (match i.zero with | some z => z.cells.size == ti.zero.length && ti.zero.length == ti.size && (ti.zero.zip z.cells.toList).all (fun x => zB x.1 x.2) | none => false) &&
    (match ti.kind with | .struct _ (_ :: _) => !P.stoodInHeld t && !P.eqGuardType P.depth t | _ => true)
  | _, _ => false

def TOk (P : Program) (TT : Nat → Option TI) : Prop := ∀ t ti, TT t = some ti → tcheck P t ti = true

theorem zB_rep {c : V} {v : Value} (h : zB c v = true) (w : World) (ok : Nat → Prop) (ρ : List (Option Nat)) : VRep w ok ρ c v := by
  unfold zB at h
  split at h
  · simp only [Bool.and_eq_true, beq_iff_eq] at h; obtain ⟨rfl, rfl⟩ := h; exact .d .int
  · simp only [beq_iff_eq] at h; subst h; exact .d .bool
  · rename_i s
    simp only [beq_iff_eq] at h
    have : s = bytesOf [] := by
      obtain ⟨⟨l⟩⟩ := s
      have : l = [] := by simpa [ByteArray.size] using h
      subst this; rfl
    subst this; exact .d .str
  · exact .nils
  · exact .any
  · simp at h

/-- What is read off the check. -/
structure TFacts (P : Program) (t : TypeId) (ti : TI) : Prop where
  info : ∃ i, P.info? t = some i ∧ i.size = ti.size ∧ i.bytes = ti.bytes ∧ ∃ z, i.zero = some z ∧ z.cells.size = ti.zero.length ∧ ti.zero.length = ti.size ∧
    ∀ (j : Nat) (c : V), ti.zero[j]? = some c → ∀ w ok ρ, VRep w ok ρ c (z.cells.getD j undef)
  und : ∃ d, P.underlying t = some d ∧ descB P d ti.kind = true
  cmp : ∀ flds k ks, ti.kind = .struct flds (k :: ks) → P.stoodInHeld t = false ∧ P.eqGuardType P.depth t = false

theorem TOk.facts {P : Program} {TT : Nat → Option TI} (h : TOk P TT) {t : TypeId} {ti : TI} (ht : TT t = some ti) : TFacts P t ti := by
  have h := h t ti ht
  unfold tcheck at h
  split at h
  · rename_i i d hi hd
    simp only [Bool.and_eq_true, beq_iff_eq] at h
    obtain ⟨⟨⟨⟨h1, h2⟩, h3⟩, h4⟩, h5⟩ := h
    cases hz : i.zero with
    | none => rw [hz] at h4; simp at h4
    | some z =>
      rw [hz] at h4
      simp only [Bool.and_eq_true, beq_iff_eq] at h4
      obtain ⟨⟨h6, h7⟩, h8⟩ := h4
      refine ⟨⟨i, hi, h1, h2, z, hz, h6, h7, ?_⟩, ⟨d, hd, h3⟩, ?_⟩
      · intro j c hj w ok ρ
        have hjl : j < ti.zero.length := (List.getElem?_eq_some_iff.1 hj).1
        have hjz : j < z.cells.toList.length := by simpa [h6] using hjl
        have hm : (c, z.cells.toList[j]) ∈ ti.zero.zip z.cells.toList := by
          rw [List.mem_iff_getElem?]
          exact ⟨j, by rw [List.getElem?_zip_eq_some]; exact ⟨hj, List.getElem?_eq_getElem hjz⟩⟩
        have := List.all_eq_true.1 h8 _ hm
        have e : z.cells.getD j undef = z.cells.toList[j] := by simp [Array.getD, show j < z.cells.size by omega]
        rw [e]
        exact zB_rep this w ok ρ
      · intro flds k ks hk
        rw [hk] at h5
        simpa using h5
  · simp at h

theorem TFacts.run_underlying {P : Program} {t : TypeId} {ti : TI} (h : TFacts P t ti) (w : World) : ∃ d, (underlying t).run P w = .ok d w ∧ P.underlying t = some d ∧ descB P d ti.kind = true := by
  obtain ⟨d, h1, h2⟩ := h.und
  exact ⟨d, by simp [underlying, h1], h1, h2⟩

theorem TFacts.run_sizeOf {P : Program} {t : TypeId} {ti : TI} (h : TFacts P t ti) (w : World) : (sizeOf t).run P w = .ok ti.size w := by
  obtain ⟨i, h1, h2, _⟩ := h.info
  simp [sizeOf, typeInfo, h1, h2]

theorem TFacts.run_isAgg {P : Program} {t : TypeId} {ti : TI} (h : TFacts P t ti) (w : World) : (isAgg t).run P w = .ok (match ti.kind with | .struct .. => true | _ => false) w := by
  obtain ⟨d, h1, _, h2⟩ := h.run_underlying w
  simp only [isAgg, Sem.run_bind, h1, Result.andThen_ok]
  unfold descB at h2
  split at h2 <;> first | (simp_all; done) | skip
  all_goals (rename_i hk; simp [hk]) 

end Go.Fw

/- The abstract machine's steps that turn no memory: what they give. -/
namespace Go.Fw

def constV : Value → V
  | .int k n => .d (.int k n)
  | .bool b => .d (.bool b)
  | .string s => .d (.str s.data.toList)
  | .slice none 0 0 => .nils
  | v => if v.oneCell' = true then .d (.raw v) else .any

theorem constV_rep (v : Value) (w : World) (ok : Nat → Prop) (ρ : List (Option Nat)) : VRep w ok ρ (constV v) v := by
  unfold constV
  split
  · exact .d .int
  · exact .d .bool
  · rename_i s
    have : bytesOf s.data.toList = s := by obtain ⟨⟨l⟩⟩ := s; rfl
    have h : VRep w ok ρ (.d (.str s.data.toList)) (.string (bytesOf s.data.toList)) := .d .str
    rwa [this] at h
  · exact .nils
  · split
    · rename_i h; exact .d (.raw h)
    · exact .any

/-- The number is one of its kind. -/
def inR (k : IntKind) (n : Int) : Prop := k.wrap n = n

def ibits (op : BinOp) (k : IntKind) (a b : Int) : Int :=
  k.wrap ((match op with
    | .and => BitVec.ofInt k.bits a &&& BitVec.ofInt k.bits b
    | .or => BitVec.ofInt k.bits a ||| BitVec.ofInt k.bits b
    | .xor => BitVec.ofInt k.bits a ^^^ BitVec.ofInt k.bits b
    | _ => BitVec.ofInt k.bits a &&& ~~~BitVec.ofInt k.bits b).toNat)

def ibin (op : BinOp) (k : IntKind) (a b : Int) (K : V → Prop) : Prop :=
  match op with
  | .add => inR k (a + b) ∧ K (.d (.int k (a + b)))
  | .sub => inR k (a - b) ∧ K (.d (.int k (a - b)))
  | .mul => inR k (a * b) ∧ K (.d (.int k (a * b)))
  | .quo => b ≠ 0 ∧ inR k (a.tdiv b) ∧ K (.d (.int k (a.tdiv b)))
  | .rem => b ≠ 0 ∧ K (.d (.int k (a.tmod b)))
  | .and | .or | .xor | .andNot => K (.d (.int k (ibits op k a b)))
  | .eql => K (.d (.bool (decide (a = b))))
  | .neq => K (.d (.bool (decide (a ≠ b))))
  | .lss => K (.d (.bool (decide (a < b))))
  | .leq => K (.d (.bool (decide (a ≤ b))))
  | .gtr => K (.d (.bool (decide (a > b))))
  | .geq => K (.d (.bool (decide (a ≥ b))))
  | _ => False

def sbin (op : BinOp) (a b : List UInt8) (K : V → Prop) : Prop :=
  match op with
  | .add => a.length + b.length < 2 ^ 63 ∧ K (.d (.str (a ++ b)))
  | .eql => K (.d (.bool (decide (a = b))))
  | .neq => K (.d (.bool (decide (a ≠ b))))
  | _ => False

def bbin (op : BinOp) (a b : Bool) (K : V → Prop) : Prop :=
  match op with
  | .eql => K (.d (.bool (a == b)))
  | .neq => K (.d (.bool (a != b)))
  | _ => False

/-- A slice against nil. -/
def nbin (op : BinOp) (b : Bool) (K : V → Prop) : Prop :=
  match op with
  | .eql => K (.d (.bool b))
  | .neq => K (.d (.bool (!b)))
  | _ => False

/-- '==' of two cells of a kind. -/
def eqC : Nat → V → V → Option Bool
  | 0, .d (.int k a), .d (.int k' b) => if k = k' then some (decide (a = b)) else none
  | 1, .d (.bool a), .d (.bool b) => some (a == b)
  | 2, .d (.str a), .d (.str b) => some (decide (a = b))
  | _, _, _ => none

def eqCs : List Nat → List V → List V → Option Bool
  | [k], [a], [b] => eqC k a b
  | k :: ks, a :: as, b :: bs => match eqC k a b, eqCs ks as bs with
    | some x, some y => some (x && y)
    | _, _ => none
  | _, _, _ => none

def cmpKs : Option TI → List Nat
  | some { kind := .struct _ ks, .. } => ks
  | _ => []

def isSlice : Option TI → Bool
  | some { kind := .slice _, .. } => true
  | _ => false

def isBool : Option TI → Bool
  | some { kind := .bool, .. } => true
  | _ => false

def isStr : Option TI → Bool
  | some { kind := .str, .. } => true
  | _ => false

def abin (TT : Nat → Option TI) (op : BinOp) (t : TypeId) (x y : V) (K : V → Prop) : Prop :=
  match x, y with
  | .d (.int k a), .d (.int k' b) => k = k' ∧ ibin op k a b K
  | .d (.str a), .d (.str b) => sbin op a b K
  | .d (.bool a), .d (.bool b) => isBool (TT t) = true ∧ bbin op a b K
  | .agg as, .agg bs => (match op, eqCs (cmpKs (TT t)) as bs with
     | .eql, some r => K (.d (.bool r))
     | .neq, some r => K (.d (.bool (!r)))
     | _, _ => False)
  | .nils, .nils => isSlice (TT t) = true ∧ nbin op true K
  | .msl _ _ _ len, .nils => isSlice (TT t) = true ∧ 0 < len ∧ nbin op false K
  | .d (.lst rows), .nils => isSlice (TT t) = true ∧ rows ≠ [] ∧ nbin op false K
  | .d (.raw (.slice a _ _)), .nils => isSlice (TT t) = true ∧ nbin op a.isNone K
  | _, _ => False

def aun (op : UnOp) (x : V) (K : V → Prop) : Prop :=
  match op, x with
  | .not, .d (.bool b) => K (.d (.bool (!b)))
  | .neg, .d (.int k n) => inR k (0 - n) ∧ K (.d (.int k (0 - n)))
  | _, _ => False

def ldCells (ti : TI) (cs : List V) (K : V → Prop) : Prop :=
  match ti.kind with
  | .struct .. => ti.size ≤ cs.length ∧ K (.agg (cs.take ti.size))
  | _ => match cs with
    | c :: _ => K c
    | [] => False

def ald (ti : TI) (objs : List O) (x : V) (K : V → Prop) : Prop :=
  match x with
  | .oref id off => match objs[id]? with
    | some (.box cells) => ldCells ti (cells.drop off) K
    | _ => False
  | .aref id sz i off => match objs[id]? with
    | some (.arr sz' rows) => sz = sz' ∧ (match rows[i]? with
      | some r => ldCells ti ((r.drop off).map .d) K
      | none => False)
    | _ => False
  | .d (.ptr cells) => ldCells ti (cells.map .d) K
  | _ => False

def afld (off : Nat) (x : V) (K : V → Prop) : Prop :=
  match x with
  | .oref id o => K (.oref id (o + off))
  | .aref id sz i o => K (.aref id sz i (o + off))
  | .d (.ptr cells) => K (.d (.ptr (cells.drop off)))
  | _ => False

def fieldOf (ti : Option TI) (f : Nat) : Option (Nat × Nat × Bool) :=
  match ti with
  | some { kind := .struct flds _, .. } => flds[f]?
  | _ => none

def elemOf (TT : Nat → Option TI) (t : TypeId) : Option TI :=
  match TT t with
  | some { kind := .slice e, .. } => TT e
  | _ => none

def aidx (sz : Nat) (x i : V) (K : V → Prop) : Prop :=
  match x, i with
  | .d (.lst rows), .d (.int _ n) => 0 ≤ n ∧ (match rows[n.toNat]? with
    | some r => r.length = sz ∧ K (.d (.ptr r))
    | none => False)
  | .msl id sz' off len, .d (.int _ n) => 0 ≤ n ∧ n < len ∧ sz' = sz ∧ K (.aref id sz' (off + n.toNat) 0)
  | _, _ => False

/-- A bound of a slice expression. -/
def abd (x : Option V) (dflt : Nat) : Option Nat :=
  match x with
  | none => some dflt
  | some (.d (.int _ n)) => if 0 ≤ n then some n.toNat else none
  | _ => none

def aslc (TT : Nat → Option TI) (t : TypeId) (x : V) (lo hi : Option V) (K : V → Prop) : Prop :=
  match x with
  | .d (.str s) => isStr (TT t) = true ∧ (match abd lo 0, abd hi s.length with
    | some l, some h => l ≤ h ∧ h ≤ s.length ∧ K (.d (.str ((s.take h).drop l)))
    | _, _ => False)
  | .d (.lst rows) => (∃ e, elemOf TT t = some e ∧ (∀ r ∈ rows, r.length = e.size)) ∧ (match abd lo 0, abd hi rows.length with
    | some l, some h => l ≤ h ∧ h ≤ rows.length ∧ K (.d (.lst ((rows.take h).drop l)))
    | _, _ => False)
  | .msl id sz off len => (elemOf TT t).map (·.size) = some sz ∧ (match abd lo 0, abd hi len with
    | some l, some h => l ≤ h ∧ h ≤ len ∧ K (.msl id sz (off + l) (h - l))
    | _, _ => False)
  | _ => False

def alen (TT : Nat → Option TI) (t : TypeId) (x : V) (K : V → Prop) : Prop :=
  match x with
  | .d (.str s) => isStr (TT t) = true ∧ K (.d (.int .i64 s.length))
  | .d (.lst rows) => isSlice (TT t) = true ∧ K (.d (.int .i64 rows.length))
  | .msl _ _ _ len => isSlice (TT t) = true ∧ K (.d (.int .i64 len))
  | .nils => isSlice (TT t) = true ∧ K (.d (.int .i64 0))
  | _ => False

/-- One cell's value. -/
def scaB : V → Bool
  | .d _ | .oref .. | .aref .. | .msl .. | .nils | .hd .. | .ld .. | .iv .. => true
  | _ => false

def scaAll : List V → Bool
  | [] => true
  | v :: vs => scaB v && scaAll vs

/-- The cells that the value fills. -/
def V.cells : V → Option (List V)
  | .agg cs => if scaAll cs = true then some cs else none
  | v => if scaB v = true then some [v] else none

def putAt (cs : List V) (off : Nat) (new : List V) : List V := cs.take off ++ new ++ cs.drop (off + new.length)

def abuild (flds : List (Nat × Nat × Bool)) : List V → List (Nat × V) → Option (List V)
  | cs, [] => some cs
  | cs, (i, v) :: rest => match flds[i]? with
    | some (off, sz, _) => match v.cells with
      | some new => if new.length = sz ∧ off + sz ≤ cs.length then abuild flds (putAt cs off new) rest else none
      | none => none
    | none => none

def V.toD : V → Option D
  | .d x => some x
  | .nils => some (.lst [])
  | .hd n x => some (.hi n x)
  | _ => none

def toDs : List V → Option (List D)
  | [] => some []
  | v :: vs => match v.toD, toDs vs with
    | some x, some xs => some (x :: xs)
    | _, _ => none

/-- The step's value. -/
def pv (TT : Nat → Option TI) (ev : Operand → V) (objs : List O) (op : Op) (K : V → Prop) : Prop :=
  match op with
  | .move x => K (ev x)
  | .assign x => K (ev x)
  | .pick c a b => (match ev c with
    | .d (.bool t) => K (if t = true then ev a else ev b)
    | _ => False)
  | .nilCheck x => (match ev x with
    | .oref id off => K (.oref id off)
    | .aref id sz i off => K (.aref id sz i off)
    | .d (.ptr cells) => K (.d (.ptr cells))
    | _ => False)
  | .load t x => (match TT t with
    | some ti => ald ti objs (ev x) K
    | none => False)
  | .binOp op t x y _ => abin TT op t (ev x) (ev y) K
  | .unOp op _ x => aun op (ev x) K
  | .convert s t x => (TT s).isSome = true ∧ (match TT t, ev x with
    | some { kind := .int k, .. }, .d (.int _ n) => inR k n ∧ K (.d (.int k n))
    | _, _ => False)
  | .slice t x lo hi none => aslc TT t (ev x) (lo.map ev) (hi.map ev) K
  | .fieldAddr t x f => (match fieldOf (TT t) f with
    | some p => afld p.1 (ev x) K
    | none => False)
  | .field t x f => (match fieldOf (TT t) f, ev x with
    | some (off, sz, true), .agg cs => off + sz ≤ cs.length ∧ K (.agg ((cs.drop off).take sz))
    | some (off, _, false), .agg cs => (match cs[off]? with
      | some c => K c
      | none => False)
    | _, _ => False)
  | .indexAddr t x i => (match elemOf TT t with
    | some e => aidx e.size (ev x) (ev i) K
    | none => False)
  | .index t x i => isStr (TT t) = true ∧ (match ev x, ev i with
    | .d (.str s), .d (.int _ n) => 0 ≤ n ∧ (match s[n.toNat]? with
      | some b => K (.d (.int .u8 b.toNat))
      | none => False)
    | _, _ => False)
  | .extract x i => (match ev x with
    | .tup vs => (match vs[i]? with
      | some v => K v
      | none => False)
    | _ => False)
  | .build t parts => (match TT t with
    | some { kind := .struct flds _, zero := z, .. } => (match abuild flds z (parts.toList.map fun p => (p.1, ev p.2)) with
      | some cs => K (.agg cs)
      | none => False)
    | _ => False)
  | .makeFunc (.func f) first cap => first = #[] ∧ (match toDs (cap.toList.map ev) with
    | some xs => K (.d (.fn f xs))
    | none => False)
  | .call { callee := .builtin .len, args := args, argTypes := ts } => (match args.toList, ts.toList with
    | [x], [t] => alen TT t (ev x) K
    | _, _ => False)
  | .call { callee := .builtin .max, args := args, .. } => (match args.toList with
    | [x, y] => (match ev x, ev y with
      | .d (.int k a), .d (.int _ b) => K (.d (.int k (max a b)))
      | _, _ => False)
    | _ => False)
  | .call { callee := .builtin .min, args := args, .. } => (match args.toList with
    | [x, y] => (match ev x, ev y with
      | .d (.int k a), .d (.int _ b) => K (.d (.int k (min a b)))
      | _, _ => False)
    | _ => False)
  | _ => False

end Go.Fw

/- Why the model's steps give what the abstract machine's steps tell (steps that turn no memory). -/
set_option linter.unusedSimpArgs false
set_option linter.unusedVariables false
namespace Go.Fw

section
variable {P : Program} {TT : Nat → Option TI} {w : World} {ok : Nat → Prop} {ρ : List (Option Nat)}

/-- A computation that gives a value that stands for some V of which K speaks, and turns nothing. -/
def Gives (P : Program) (w : World) (ok : Nat → Prop) (ρ : List (Option Nat)) (K : V → Prop) (s : Sem Value) : Prop :=
  ∃ x v, K x ∧ s.run P w = .ok v w ∧ VRep w ok ρ x v

theorem Gives.mk {K : V → Prop} {s : Sem Value} {x : V} {v : Value} (hK : K x) (hr : s.run P w = .ok v w) (hv : VRep w ok ρ x v) : Gives P w ok ρ K s := ⟨x, v, hK, hr, hv⟩

theorem ibin_sound {op : BinOp} {k : IntKind} {a b : Int} {K : V → Prop} (h : ibin op k a b K) (t : TypeId) : Gives P w ok ρ K (binOp op t (.int k a) (.int k b)) := by
  unfold ibin at h
  split at h
  case h_1 => exact .mk h.2 (by simp [binOp, Op.intArith]; exact h.1) (.d .int)
  case h_2 => exact .mk h.2 (by simp [binOp, Op.intArith]; exact h.1) (.d .int)
  case h_3 => exact .mk h.2 (by simp [binOp, Op.intArith]; exact h.1) (.d .int)
  case h_4 => exact .mk h.2.2 (by simp [binOp, Op.intDiv, h.1]; exact h.2.1) (.d .int)
  case h_5 => exact .mk h.2 (by simp [binOp, Op.intDiv, h.1]) (.d .int)
  case h_6 => exact .mk h (by simp [binOp, Op.intBits, ibits]) (.d .int)
  case h_7 => exact .mk h (by simp [binOp, Op.intBits, ibits]) (.d .int)
  case h_8 => exact .mk h (by simp [binOp, Op.intBits, ibits]) (.d .int)
  case h_9 => exact .mk h (by simp [binOp, Op.intBits, ibits]) (.d .int)
  case h_10 => exact .mk h (by simp [binOp, Op.intCmp]; by_cases e : a = b <;> simp [e]) (.d .bool)
  case h_11 => exact .mk h (by simp [binOp, Op.intCmp]; by_cases e : a = b <;> simp [e]) (.d .bool)
  case h_12 => exact .mk h (by simp [binOp, Op.intCmp]) (.d .bool)
  case h_13 => exact .mk h (by simp [binOp, Op.intCmp]) (.d .bool)
  case h_14 => exact .mk h (by simp [binOp, Op.intCmp]) (.d .bool)
  case h_15 => exact .mk h (by simp [binOp, Op.intCmp]) (.d .bool)
  case h_16 => exact h.elim

theorem bytesOf_size (s : List UInt8) : (bytesOf s).size = s.length := by simp [bytesOf, ByteArray.size]
theorem bytesOf_toList (s : List UInt8) : (bytesOf s).toList = s := by rw [ByteArray.toList_eq]; rfl
theorem bytesOf_append (a b : List UInt8) : bytesOf a ++ bytesOf b = bytesOf (a ++ b) := by
  apply ByteArray.ext; simp [bytesOf, ByteArray.data_append]

theorem sbin_sound {op : BinOp} {a b : List UInt8} {K : V → Prop} (h : sbin op a b K) (t : TypeId) : Gives P w ok ρ K (binOp op t (.string (bytesOf a)) (.string (bytesOf b))) := by
  unfold sbin at h
  split at h
  · refine .mk h.2 (v := .string (bytesOf (a ++ b))) ?_ (.d .str)
    have : ¬ (((bytesOf a).size + (bytesOf b).size : Nat) : Int) > IntKind.i64.max := by
      rw [bytesOf_size, bytesOf_size]; have := h.1; simp [IntKind.max, IntKind.signed, IntKind.bits] at this ⊢; omega
    simp only [binOp, Op.stringOp, Sem.run_ite, this, if_false, Sem.run_pure, bytesOf_append]
  · refine .mk h (v := .bool (decide (a = b))) ?_ (.d .bool)
    simp only [binOp, Op.stringOp, Sem.run_pure, bytesOf_toList]
    by_cases e : a = b <;> simp [e]
  · refine .mk h (v := .bool (decide (a ≠ b))) ?_ (.d .bool)
    simp only [binOp, Op.stringOp, Sem.run_pure, bytesOf_toList]
    by_cases e : a = b <;> simp [e]
  · exact h.elim

theorem isBool_und {P : Program} {t : TypeId} {ti : TI} (ht : TFacts P t ti) (h : isBool (some ti) = true) : P.underlying t = some .bool := by
  obtain ⟨d, h1, h2⟩ := ht.und
  obtain ⟨k, _, _, _⟩ := ti
  cases k <;> simp [isBool] at h
  rw [h1]
  cases d <;> simp [descB] at h2 <;> rfl

theorem isStr_und {P : Program} {t : TypeId} {ti : TI} (ht : TFacts P t ti) (h : isStr (some ti) = true) : P.underlying t = some .string := by
  obtain ⟨d, h1, h2⟩ := ht.und
  obtain ⟨k, _, _, _⟩ := ti
  cases k <;> simp [isStr] at h
  rw [h1]
  cases d <;> simp [descB] at h2 <;> rfl

theorem slice_und {P : Program} {t : TypeId} {ti : TI} {e : Nat} (ht : TFacts P t ti) (h : ti.kind = .slice e) : P.underlying t = some (.slice e) := by
  obtain ⟨d, h1, h2⟩ := ht.und
  rw [h1]
  rw [h] at h2
  cases d <;> simp [descB] at h2
  subst h2; rfl

theorem int_und {P : Program} {t : TypeId} {ti : TI} {k : IntKind} (ht : TFacts P t ti) (h : ti.kind = .int k) : P.underlying t = some (.int k) := by
  obtain ⟨d, h1, h2⟩ := ht.und
  rw [h1]
  rw [h] at h2
  cases d <;> simp [descB] at h2
  subst h2; rfl

theorem struct_und {P : Program} {t : TypeId} {ti : TI} {flds : List (Nat × Nat × Bool)} {ks : List Nat} (ht : TFacts P t ti) (h : ti.kind = .struct flds ks) :
    ∃ fs : Array Field, P.underlying t = some (.struct fs) ∧ fs.size = flds.length ∧ (∀ (i : Nat) p, flds[i]? = some p → ∃ f : Field, fs[i]? = some f ∧ fldB P f p = true) ∧
      (ks ≠ [] → ks.length = fs.size ∧ ∀ (i : Nat) (f : Field) (k : Nat), fs[i]? = some f → ks[i]? = some k → f.offset = i ∧ f.name ≠ "_" ∧ plainB P f.type k = true) := by
  obtain ⟨d, h1, h2⟩ := ht.und
  rw [h] at h2
  cases d <;> simp [descB] at h2
  rename_i fs
  obtain ⟨⟨h2, h3⟩, h4⟩ := h2
  refine ⟨fs, h1, h2, ?_, ?_⟩
  · intro i p hp
    have hi : i < fs.size := by have := (List.getElem?_eq_some_iff.1 hp).1; omega
    refine ⟨fs[i], by simp [hi], ?_⟩
    have hm : (fs[i], p) ∈ fs.toList.zip flds := by
      rw [List.mem_iff_getElem?]
      exact ⟨i, by rw [List.getElem?_zip_eq_some]; exact ⟨by simp [hi], hp⟩⟩
    obtain ⟨o, z, g⟩ := p
    cases g
    · exact (h3 _ _ _).1 hm
    · exact (h3 _ _ _).2 hm
  · intro hc
    rcases h4 with h4 | ⟨h4, h5⟩
    · exact absurd h4 hc
    · refine ⟨h4, fun i f k hf hk => ?_⟩
      have hm : ((f, k), i) ∈ (fs.toList.zip ks).zipIdx := by
        rw [List.mem_zipIdx_iff_getElem?]
        rw [List.getElem?_zip_eq_some]
        exact ⟨by simpa using hf, hk⟩
      have := h5 _ _ _ hm
      exact ⟨this.1.1, this.1.2, this.2⟩

theorem bbin_sound {op : BinOp} {a b : Bool} {K : V → Prop} (h : bbin op a b K) {t : TypeId} (hk : P.underlying t = some .bool) : Gives P w ok ρ K (binOp op t (.bool a) (.bool b)) := by
  unfold bbin at h
  have hu : (Op.equal t (.bool a) (.bool b)).run P w = .ok (a == b) w := run_equalIn_bool' w 9999 t a b hk
  split at h
  · refine .mk h (v := .bool (a == b)) ?_ (.d .bool)
    show (Op.equal t (.bool a) (.bool b) >>= fun r => pure (Value.bool r)).run P w = _
    rw [Sem.run_bind, hu]; rfl
  · refine .mk h (v := .bool (a != b)) ?_ (.d .bool)
    show (Op.equal t (.bool a) (.bool b) >>= fun r => pure (Value.bool (!r))).run P w = _
    rw [Sem.run_bind, hu]; rfl
  · exact h.elim

/-- The cells of memory from a place on. -/
def CellsAt (w : World) (ok : Nat → Prop) (ρ : List (Option Nat)) (b off : Nat) (cs : List V) : Prop :=
  ∀ j c, cs[j]? = some c → ∃ v, w.cell? ⟨b, off + j, none⟩ = some v ∧ VRep w ok ρ c v

theorem addr_add (b off j : Nat) : (Addr.mk b off none).add j = ⟨b, off + j, none⟩ := by
  unfold Addr.add; split <;> simp_all

theorem ld_sound {t : TypeId} {ti : TI} {b off : Nat} {cs : List V} {K : V → Prop} (ht : TFacts P t ti) (h : ldCells ti cs K) (hc : CellsAt w ok ρ b off cs) :
    Gives P w ok ρ K (loadVar t ⟨b, off, none⟩) := by
  have ha := ht.run_isAgg w
  have hs := ht.run_sizeOf w
  have hcell : ∀ j, j < cs.length → w.cell? ⟨b, off + j, none⟩ = some ((w.cell? ⟨b, off + j, none⟩).getD undef) := by
    intro j hj
    obtain ⟨v, hv, _⟩ := hc j _ (List.getElem?_eq_getElem hj)
    simp [hv]
  unfold ldCells at h
  split at h
  · rename_i flds cmp hk
    rw [hk] at ha
    obtain ⟨hl, h⟩ := h
    let f : Nat → Value := fun j => (w.cell? ⟨b, off + j, none⟩).getD undef
    have hr := run_loadCells (P := P) w ⟨b, off, none⟩ ti.size f (fun j hj => by rw [addr_add]; exact hcell j (by omega))
    refine .mk h (v := .agg ((List.range ti.size).map f).toArray) (by simp [loadVar, ha, hs, hr]) (.agg (by simp; omega) ?_)
    intro i c hi
    have hi' : i < ti.size ∧ cs[i]? = some c := by
      rw [List.getElem?_take] at hi
      split at hi
      · exact ⟨by assumption, hi⟩
      · simp at hi
    obtain ⟨v, hv, hr⟩ := hc i c hi'.2
    have : (((List.range ti.size).map f).toArray).getD i undef = v := by
      simp [Array.getD, hi'.1, f, hv]
    rw [this]; exact hr
  · rename_i hk
    have ha' : (isAgg t).run P w = .ok false w := by
      rw [ha]; split
      · rename_i f c e; exact absurd e (hk f c)
      · rfl
    cases cs with
    | nil => exact h.elim
    | cons c cs =>
      obtain ⟨v, hv, hr⟩ := hc 0 c rfl
      simp only [Nat.add_zero] at hv
      exact .mk h (by simp [loadVar, ha', hv]) hr

theorem CellsAt.drop {b off n : Nat} {cs : List V} (h : CellsAt w ok ρ b off cs) : CellsAt w ok ρ b (off + n) (cs.drop n) := by
  intro j c hj
  rw [List.getElem?_drop] at hj
  rw [show off + n + j = off + (n + j) by omega]
  exact h _ _ hj

theorem ORep.box_cells {id : Nat} {cells : List V} (h : ORep w ok ρ id (.box cells)) : ∃ b, ρ[id]? = some (some b) ∧ CellsAt w ok ρ b 0 cells := by
  obtain ⟨b, cs, t, h1, h2, h3, h4⟩ := h
  refine ⟨b, h1, fun j c hj => ⟨cs.getD j undef, ?_, h4 j c hj⟩⟩
  have : j < cells.length := (List.getElem?_eq_some_iff.1 hj).1
  simp [World.cell?, h2, Array.getD, show j < cs.size by omega]

theorem ORep.arr_cells {id sz : Nat} {rows : List (List D)} (h : ORep w ok ρ id (.arr sz rows)) {i : Nat} {r : List D} (hr : rows[i]? = some r) :
    ∃ b, ρ[id]? = some (some b) ∧ CellsAt w ok ρ b (i * sz) (r.map .d) := by
  obtain ⟨h0, h⟩ := h
  have hi : i < rows.length := (List.getElem?_eq_some_iff.1 hr).1
  rcases h with ⟨h1, _⟩ | ⟨b, cs, t, h1, h2, h3, h4⟩
  · subst h1; simp at hi
  · refine ⟨b, h1, fun j c hj => ?_⟩
    rw [List.getElem?_map] at hj
    cases hx : r[j]? with
    | none => rw [hx] at hj; simp at hj
    | some x =>
      rw [hx] at hj
      obtain rfl : V.d x = c := by simpa using hj
      have hjr : j < sz := by
        have := h0 r (List.mem_of_getElem? hr)
        have := (List.getElem?_eq_some_iff.1 hx).1
        omega
      have hlt : i * sz + j < cs.size := by
        have : (i + 1) * sz ≤ rows.length * sz := Nat.mul_le_mul_right _ hi
        rw [Nat.succ_mul] at this
        omega
      exact ⟨cs.getD (i * sz + j) undef, by simp [World.cell?, h2, Array.getD, hlt], .d (h4 i j r x hr hx)⟩

theorem DRep.ptr_cells {cells : List D} {v : Value} (h : DRep w ok (.ptr cells) v) : ∃ b off, v = .pointer (some ⟨b, off, none⟩) ∧ CellsAt w ok ρ b off (cells.map .d) := by
  cases h with
  | @ptr _ _ b off vs hok hc hd =>
    refine ⟨b, off, rfl, fun j c hj => ?_⟩
    rw [List.getElem?_map] at hj
    cases hx : cells[j]? with
    | none => rw [hx] at hj; simp at hj
    | some x =>
      rw [hx] at hj
      obtain rfl : V.d x = c := by simpa using hj
      exact ⟨_, hc j x hx, .d (hd j x hx)⟩

theorem ald_sound {t : TypeId} {ti : TI} {objs : List O} {x : V} {v : Value} {K : V → Prop} (ht : TFacts P t ti) (hI : Inv w ok ρ objs) (h : ald ti objs x K) (hx : VRep w ok ρ x v) :
    Gives P w ok ρ K (Instr.loadAt t v) := by
  have key : ∀ (b off : Nat) (cs : List V), v = .pointer (some ⟨b, off, none⟩) → CellsAt w ok ρ b off cs → ldCells ti cs K → Gives P w ok ρ K (Instr.loadAt t v) := by
    intro b off cs hv hc hl
    obtain ⟨y, u, h1, h2, h3⟩ := ld_sound ht hl hc
    exact ⟨y, u, h1, by subst hv; simp [Instr.loadAt, Instr.sureAddr, h2], h3⟩
  unfold ald at h
  split at h
  · rename_i id off
    split at h
    · rename_i cells ho
      obtain ⟨b, hb, hc⟩ := (hI.own _ _ ho).box_cells
      cases hx with
      | oref hb' =>
        rw [hb] at hb'
        obtain rfl : b = _ := by simpa using hb'
        exact key _ _ _ rfl (by have := hc.drop (n := off); rwa [Nat.zero_add] at this) h
    · exact h.elim
  · rename_i id sz i off
    split at h
    · rename_i sz' rows ho
      obtain ⟨rfl, h⟩ := h
      split at h
      · rename_i r hr
        obtain ⟨b, hb, hc⟩ := (hI.own _ _ ho).arr_cells hr
        cases hx with
        | aref hb' =>
          rw [hb] at hb'
          obtain rfl : b = _ := by simpa using hb'
          exact key _ _ _ rfl (by have := hc.drop (n := off); rwa [← List.map_drop] at this) h
      · exact h.elim
    · exact h.elim
  · rename_i cells
    cases hx with
    | d hd =>
      obtain ⟨b, off, rfl, hc⟩ := hd.ptr_cells (ρ := ρ)
      exact key _ _ _ rfl hc h
  · exact h.elim

/-! ### '==' of structs -/
theorem run_part_plain {t : TypeId} {k : Nat} {cs : Array Value} {off : Nat} {v : Value} (hp : plainB P t k = true) (hv : cs[off]? = some v) : (part t cs off).run P w = .ok v w := by
  unfold plainB at hp
  split at hp <;> first | (simp at hp; done) | (rename_i hk; simp [part, isAgg, underlying, hk, hv])

theorem plain_int {t : TypeId} (hp : plainB P t 0 = true) : ∃ k, P.underlying t = some (.int k) := by
  unfold plainB at hp
  split at hp <;> simp_all
theorem plain_bool {t : TypeId} (hp : plainB P t 1 = true) : P.underlying t = some .bool := by
  unfold plainB at hp
  split at hp <;> simp_all
theorem plain_str {t : TypeId} (hp : plainB P t 2 = true) : P.underlying t = some .string := by
  unfold plainB at hp
  split at hp <;> simp_all

theorem eqC_sound {t : TypeId} {k : Nat} {x y : V} {v u : Value} {r : Bool} (d : Nat) (hp : plainB P t k = true) (h : eqC k x y = some r) (hx : VRep w ok ρ x v) (hy : VRep w ok ρ y u) :
    (Op.equalIn (d + 1) t v u).run P w = .ok r w := by
  unfold eqC at h
  split at h
  · rename_i a _ b
    cases hx with | d hx =>
    cases hx
    cases hy with | d hy =>
    cases hy
    split at h
    case isFalse => simp at h
    rename_i hkk
    subst hkk
    obtain rfl : decide (a = b) = r := by simpa using h
    obtain ⟨k', hu⟩ := plain_int hp
    rw [run_equalIn_int w d t _ k' a b hu]
    by_cases e : a = b <;> simp [e]
  · rename_i a b
    cases hx with | d hx =>
    cases hx
    cases hy with | d hy =>
    cases hy
    obtain rfl : (a == b) = r := by simpa using h
    exact run_equalIn_bool' w d t a b (plain_bool hp)
  · rename_i a b
    cases hx with | d hx =>
    cases hx
    cases hy with | d hy =>
    cases hy
    obtain rfl : decide (a = b) = r := by simpa using h
    rw [run_equalIn_string w d t _ _ (plain_str hp), bytesOf_toList, bytesOf_toList]
    by_cases e : a = b <;> simp [e]
  · simp at h

theorem eqCs_cons2 (k k2 : Nat) (ks : List Nat) (x y : V) (xs ys : List V) : eqCs (k :: k2 :: ks) (x :: xs) (y :: ys) = match eqC k x y, eqCs (k2 :: ks) xs ys with
    | some a, some b => some (a && b)
    | _, _ => none := by
  cases xs <;> cases ys <;> rfl

theorem eqCs_len : ∀ {ks : List Nat} {xs ys : List V} {r : Bool}, eqCs ks xs ys = some r → xs.length = ks.length ∧ ys.length = ks.length
  | [], xs, ys, r, h => by simp [eqCs] at h
  | [k], xs, ys, r, h => by
    cases xs with
    | nil => simp [eqCs] at h
    | cons x xs => cases ys with
      | nil => simp [eqCs] at h
      | cons y ys =>
        cases xs <;> cases ys <;> simp_all [eqCs]
  | k :: k2 :: ks, xs, ys, r, h => by
    cases xs with
    | nil => simp [eqCs] at h
    | cons x xs => cases ys with
      | nil => simp [eqCs] at h
      | cons y ys =>
        rw [eqCs_cons2] at h
        split at h
        · rename_i h2
          obtain ⟨h3, h4⟩ := eqCs_len h2
          simp_all
        · simp at h

theorem eqFields_sound {d : Nat} {vs us : Array Value} : ∀ (fs : List Field) (ks : List Nat) (xs ys : List V) (n : Nat) (r : Bool), eqCs ks xs ys = some r →
    fs.length = ks.length → (∀ (i : Nat) f k, fs[i]? = some f → ks[i]? = some k → f.offset = n + i ∧ f.name ≠ "_" ∧ plainB P f.type k = true) →
    (∀ (i : Nat) x, xs[i]? = some x → ∃ v, vs[n + i]? = some v ∧ VRep w ok ρ x v) → (∀ (i : Nat) y, ys[i]? = some y → ∃ v, us[n + i]? = some v ∧ VRep w ok ρ y v) →
    (Op.eqFields (d + 1) vs us fs).run P w = .ok r w := by
  intro fs
  induction fs with
  | nil =>
    intro ks xs ys n r h hl _ _ _
    cases ks with
    | nil => simp [eqCs] at h
    | cons => simp at hl
  | cons f fs ih =>
    intro ks xs ys n r h hl hf hx hy
    cases ks with
    | nil => simp at hl
    | cons k ks =>
      obtain ⟨h1, h2⟩ := eqCs_len h
      cases xs with
      | nil => simp at h1
      | cons x xs =>
        cases ys with
        | nil => simp at h2
        | cons y ys =>
          obtain ⟨ho, hn, hp⟩ := hf 0 f k rfl rfl
          obtain ⟨v, hv, hvr⟩ := hx 0 x rfl
          obtain ⟨u, hu, hur⟩ := hy 0 y rfl
          simp only [Nat.add_zero] at ho hv hu
          subst ho
          have hpv := run_part_plain (w := w) hp hv
          have hpu := run_part_plain (w := w) hp hu
          cases ks with
          | nil =>
            cases fs with
            | cons => simp at hl
            | nil =>
              cases xs with
              | cons => simp at h1
              | nil =>
                cases ys with
                | cons => simp at h2
                | nil =>
                  have := eqC_sound d hp (by simpa [eqCs] using h) hvr hur
                  simp only [Op.eqFields, hn, ne_eq, not_false_eq_true, if_true, Sem.run_bind, hpv, hpu, Result.andThen_ok, this]
                  cases r <;> simp
          | cons k2 ks =>
            have h' : ∃ r1 r2, eqC k x y = some r1 ∧ eqCs (k2 :: ks) xs ys = some r2 ∧ r = (r1 && r2) := by
              rw [eqCs_cons2] at h
              split at h
              · rename_i r1 r2 q1 q2
                exact ⟨r1, r2, q1, q2, by simpa using h.symm⟩
              · simp at h
            obtain ⟨r1, r2, e1, e2, rfl⟩ := h'
            have t1 := eqC_sound d hp e1 hvr hur
            have t2 := ih (k2 :: ks) xs ys (f.offset + 1) r2 e2 (by simpa using hl)
              (fun i f' k' h1 h2 => by have := hf (i + 1) f' k' (by simpa using h1) (by simpa using h2); rw [show f.offset + 1 + i = f.offset + (i + 1) by omega]; exact this)
              (fun i x h1 => by have := hx (i + 1) x (by simpa using h1); rw [show f.offset + 1 + i = f.offset + (i + 1) by omega]; exact this)
              (fun i x h1 => by have := hy (i + 1) x (by simpa using h1); rw [show f.offset + 1 + i = f.offset + (i + 1) by omega]; exact this)
            simp only [Op.eqFields, hn, ne_eq, not_false_eq_true, if_true, Sem.run_bind, hpv, hpu, Result.andThen_ok, t1]
            cases r1 <;> simp [t2]

theorem eq_agg_sound {t : TypeId} {ti : TI} {as bs : List V} {v u : Value} {r : Bool} (ht : TFacts P t ti) (h : eqCs (cmpKs (some ti)) as bs = some r)
    (hx : VRep w ok ρ (.agg as) v) (hy : VRep w ok ρ (.agg bs) u) : (Op.equal t v u).run P w = .ok r w ∧ ∃ xs ys, v = .agg xs ∧ u = .agg ys := by
  obtain ⟨kd, sz, by_, z⟩ := ti
  cases kd <;> simp [cmpKs, eqCs] at h
  rename_i flds ks
  have hne : ks ≠ [] := by intro e; rw [e] at h; simp [eqCs] at h
  obtain ⟨fs, hu, hs, _, hc⟩ := struct_und ht rfl
  obtain ⟨hl, hc⟩ := hc hne
  have hst : P.stoodInHeld t = false := by
    cases ks with
    | nil => exact absurd rfl hne
    | cons k ks => exact (ht.cmp flds k ks rfl).1
  obtain ⟨e1, e2⟩ := eqCs_len h
  cases hx with | agg hn hx =>
  cases hy with | agg hm hy =>
  rename_i xs ys
  refine ⟨?_, xs, ys, rfl, rfl⟩
  have hfo : P.fieldsOf t = fs := by simp [Program.fieldsOf, hu]
  show (Op.equalIn (9999 + 1) t (.agg xs) (.agg ys)).run P w = _
  rw [run_equalIn_struct w 9999 t xs ys (by rw [hfo]; exact hu) hst, hfo]
  refine eqFields_sound (ok := ok) (ρ := ρ) fs.toList ks as bs 0 r h (by simp [hl]) (fun i f k h1 h2 => by rw [Nat.zero_add]; exact hc i f k (by simpa using h1) h2) ?_ ?_
  · intro i x hi
    have := (List.getElem?_eq_some_iff.1 hi).1
    exact ⟨_, by rw [Nat.zero_add, Array.getElem?_eq_getElem (by omega)], by have := hx i x hi; simpa [Array.getD, show i < xs.size by omega] using this⟩
  · intro i x hi
    have := (List.getElem?_eq_some_iff.1 hi).1
    exact ⟨_, by rw [Nat.zero_add, Array.getElem?_eq_getElem (by omega)], by have := hy i x hi; simpa [Array.getD, show i < ys.size by omega] using this⟩

end
end Go.Fw

/- Why the model's steps give what the abstract machine's steps tell (steps that turn no memory), the rest. -/
set_option linter.unusedSimpArgs false
set_option linter.unusedVariables false
namespace Go.Fw

section
variable {P : Program} {TT : Nat → Option TI} {w : World} {ok : Nat → Prop} {ρ : List (Option Nat)}

theorem nbin_sound (hT : TOk P TT) {op : BinOp} {t : TypeId} {K : V → Prop} (hs : isSlice (TT t) = true) (a : Option Addr) {b : Bool} (hb : a.isNone = b) (h : nbin op b K) (l c : Nat) (xo yo : Operand) :
    Gives P w ok ρ K (do eqGuard op t xo yo (.slice a l c) (.slice none 0 0); binOp op t (.slice a l c) (.slice none 0 0)) := by
  cases ht : TT t with
  | none => rw [ht] at hs; simp [isSlice] at hs
  | some ti =>
    rw [ht] at hs
    obtain ⟨kd, sz, by_, z⟩ := ti
    cases kd <;> simp [isSlice] at hs
    rename_i e
    have hu := slice_und (hT.facts ht) rfl
    subst hb
    unfold nbin at h
    split at h
    · refine .mk h (v := .bool a.isNone) ?_ (.d .bool)
      rw [Sem.run_bind]
      unfold eqGuard
      simp only [Bool.not_true, Bool.false_eq_true, if_false, Sem.run_pure, Result.andThen_ok]
      show (Op.equal t (.slice a l c) (.slice none 0 0) >>= fun r => pure (Value.bool r)).run P w = _
      rw [Sem.run_bind, run_equal_slice_nil w t e a l c hu]; rfl
    · refine .mk h (v := .bool (!a.isNone)) ?_ (.d .bool)
      rw [Sem.run_bind]
      unfold eqGuard
      simp only [Bool.not_true, Bool.false_eq_true, if_false, Sem.run_pure, Result.andThen_ok]
      show (Op.equal t (.slice a l c) (.slice none 0 0) >>= fun r => pure (Value.bool (!r))).run P w = _
      rw [Sem.run_bind, run_equal_slice_nil w t e a l c hu]; rfl
    · exact h.elim

theorem abin_sound (hT : TOk P TT) {op : BinOp} {t : TypeId} {x y : V} {v u : Value} {K : V → Prop} (h : abin TT op t x y K) (hx : VRep w ok ρ x v) (hy : VRep w ok ρ y u) (xo yo : Operand) :
    Gives P w ok ρ K (do eqGuard op t xo yo v u; binOp op t v u) := by
  unfold abin at h
  split at h
  · rename_i k a k' b
    cases hx with | d hx =>
    cases hx
    cases hy with | d hy =>
    cases hy
    obtain ⟨rfl, h⟩ := h
    obtain ⟨x, v, h1, h2, h3⟩ := ibin_sound (P := P) (w := w) (ok := ok) (ρ := ρ) h t
    exact ⟨x, v, h1, by rw [Sem.run_bind]; unfold eqGuard; cases op <;> simpa using h2, h3⟩
  · rename_i a b
    cases hx with | d hx =>
    cases hx
    cases hy with | d hy =>
    cases hy
    obtain ⟨x, v, h1, h2, h3⟩ := sbin_sound (P := P) (w := w) (ok := ok) (ρ := ρ) h t
    exact ⟨x, v, h1, by rw [Sem.run_bind]; unfold eqGuard; cases op <;> simpa using h2, h3⟩
  · rename_i a b
    cases hx with | d hx =>
    cases hx
    cases hy with | d hy =>
    cases hy
    obtain ⟨hb, h⟩ := h
    cases ht : TT t with
    | none => rw [ht] at hb; simp [isBool] at hb
    | some ti =>
      rw [ht] at hb
      obtain ⟨x, v, h1, h2, h3⟩ := bbin_sound (P := P) (w := w) (ok := ok) (ρ := ρ) h (isBool_und (hT.facts ht) hb)
      exact ⟨x, v, h1, by rw [Sem.run_bind]; unfold eqGuard; cases op <;> simpa using h2, h3⟩
  · rename_i as bs
    have key : ∀ r, eqCs (cmpKs (TT t)) as bs = some r → (op = .eql ∨ op = .neq) → (do eqGuard op t xo yo v u; binOp op t v u : Sem Value).run P w = .ok (.bool (if op = .eql then r else !r)) w := by
      intro r hr ho
      cases ht : TT t with
      | none => rw [ht] at hr; simp [cmpKs, eqCs] at hr
      | some ti =>
        rw [ht] at hr
        obtain ⟨h1, xs, ys, rfl, rfl⟩ := eq_agg_sound (hT.facts ht) hr hx hy
        have hg : P.eqGuardType P.depth t = false := by
          have hf := hT.facts ht
          obtain ⟨kd, sz, by_, z⟩ := ti
          cases kd <;> simp [cmpKs, eqCs] at hr
          rename_i flds ks
          cases ks with
          | nil => simp [eqCs] at hr
          | cons k ks => exact (hf.cmp flds k ks rfl).2
        have hq : (eqGuard op t xo yo (.agg xs) (.agg ys)).run P w = .ok () w := by
          unfold eqGuard
          rcases ho with rfl | rfl <;> simp [hg]
        rw [Sem.run_bind, hq, Result.andThen_ok]
        rcases ho with rfl | rfl
        · show (Op.equal t (.agg xs) (.agg ys) >>= fun r => pure (Value.bool r)).run P w = _
          rw [Sem.run_bind, h1]; simp
        · show (Op.equal t (.agg xs) (.agg ys) >>= fun r => pure (Value.bool (!r))).run P w = _
          rw [Sem.run_bind, h1]; simp
    split at h
    · rename_i r hr
      exact .mk h (key _ (by assumption) (.inl rfl)) (.d .bool)
    · rename_i r hr
      exact .mk h (key _ (by assumption) (.inr rfl)) (.d .bool)
    · exact h.elim
  · obtain ⟨hs, h⟩ := h
    cases hx
    cases hy
    exact nbin_sound hT hs none rfl h 0 0 xo yo
  · obtain ⟨hs, hl, h⟩ := h
    cases hy
    cases hx with
    | msl hb hc hs' hn => exact nbin_sound hT hs (some _) rfl h _ _ xo yo
    | msl0 => omega
  · obtain ⟨hs, hl, h⟩ := h
    cases hy
    cases hx with
    | d hx =>
      cases hx with
      | nil => exact absurd rfl hl
      | lst => exact nbin_sound hT hs (some _) rfl h _ _ xo yo
  · obtain ⟨hs, h⟩ := h
    cases hy
    cases hx with
    | d hx =>
      cases hx
      exact nbin_sound hT hs _ rfl h _ _ xo yo
  · exact h.elim

theorem aun_sound {op : UnOp} {x : V} {v : Value} {K : V → Prop} (h : aun op x K) (hx : VRep w ok ρ x v) : Gives P w ok ρ K (Op.unary op v) := by
  unfold aun at h
  split at h
  · cases hx with | d hx =>
    cases hx
    exact .mk h (by simp [Op.unary]) (.d .bool)
  · cases hx with | d hx =>
    cases hx
    exact .mk h.2 (by simp [Op.unary, Op.intArith]; simpa [inR] using h.1) (.d .int)
  · exact h.elim

theorem afld_sound {ti : TI} {t : TypeId} {f : Nat} {p : Nat × Nat × Bool} {x : V} {v : Value} {K : V → Prop} (ht : TFacts P t ti) (hp : fieldOf (some ti) f = some p)
    (h : afld p.1 x K) (hx : VRep w ok ρ x v) : Gives P w ok ρ K (Instr.fieldAt t v f) := by
  obtain ⟨kd, sz, by_, z⟩ := ti
  cases kd <;> simp [fieldOf] at hp
  rename_i flds ks
  obtain ⟨fs, hu, _, hf, _⟩ := struct_und ht rfl
  obtain ⟨fd, hfd, hB⟩ := hf f p hp
  simp only [fldB, Bool.and_eq_true, beq_iff_eq, bne_iff_ne, ne_eq] at hB
  obtain ⟨⟨⟨⟨h1, h2⟩, h3⟩, h4⟩, h5⟩ := hB
  have hrun : ∀ b off, (Instr.fieldAt t (.pointer (some ⟨b, off, none⟩)) f).run P w = .ok (.pointer (some ⟨b, off + p.1, none⟩)) w := by
    intro b off
    have hsz : (sizeOf fd.type).run P w = .ok p.2.1 w := by
      cases hi : P.info? fd.type with
      | none => rw [hi] at h2; simp at h2
      | some i => rw [hi] at h2; simp at h2; simp [sizeOf, typeInfo, hi, h2]
    simp [Instr.fieldAt, underlying, hu, hfd, Instr.sureAddr, fieldPlace, hsz, h4, addr_add, h1]
  unfold afld at h
  split at h
  · cases hx with | oref hb => exact .mk h (hrun _ _) (.oref hb)
  · cases hx with | aref hb => exact .mk h (by rw [hrun, Nat.add_assoc]) (.aref hb)
  · cases hx with | d hx =>
    cases hx with | @ptr _ _ _ _ vs hok hc hd =>
    refine .mk h (hrun _ _) (.d (.ptr hok (vs := fun j => vs (p.1 + j)) (fun j y hj => ?_) (fun j y hj => ?_)))
    · rw [List.getElem?_drop] at hj
      rw [Nat.add_assoc]
      exact hc _ _ hj
    · rw [List.getElem?_drop] at hj
      exact hd _ _ hj
  · exact h.elim

theorem elemOf_spec (hT : TOk P TT) {t : TypeId} {e : TI} (h : elemOf TT t = some e) : ∃ u, P.underlying t = some (.slice u) ∧ TFacts P u e := by
  unfold elemOf at h
  split at h
  · rename_i u _ _ _ ht
    exact ⟨u, slice_und (hT.facts ht) rfl, hT.facts h⟩
  · simp at h

theorem aidx_sound (hT : TOk P TT) {t : TypeId} {e : TI} {x i : V} {v u : Value} {K : V → Prop} (he : elemOf TT t = some e) (h : aidx e.size x i K)
    (hx : VRep w ok ρ x v) (hi : VRep w ok ρ i u) : Gives P w ok ρ K (Instr.indexAt t v u) := by
  obtain ⟨et, hu, hf⟩ := elemOf_spec hT he
  have hs := hf.run_sizeOf w
  have hrun : ∀ (b off len cap : Nat) (k : IntKind) (n : Int), 0 ≤ n → n < len → (Instr.indexAt t (.slice (some ⟨b, off, none⟩) len cap) (.int k n)).run P w = .ok (.pointer (some ⟨b, off + n.toNat * e.size, none⟩)) w := by
    intro b off len cap k n h0 h1
    simp [Instr.indexAt, asIntOf, underlying, hu, h0, h1, hs, addr_add]
  unfold aidx at h
  split at h
  · rename_i rows k n
    cases hi with | d hi =>
    cases hi
    cases hx with | d hx =>
    obtain ⟨h0, h⟩ := h
    split at h
    · rename_i r hr
      obtain ⟨hl, h⟩ := h
      have hlt := (List.getElem?_eq_some_iff.1 hr).1
      cases hx with
      | nil => simp at hlt
      | @lst _ _ sz b off cap vs hok hsz hcap hc hd =>
        obtain rfl : sz = e.size := by rw [← hl]; exact (hsz r (List.mem_of_getElem? hr)).symm
        refine .mk h (hrun _ _ _ _ _ _ h0 (by omega)) (.d (.ptr hok (vs := fun j => vs n.toNat j) (fun j y hj => ?_) (fun j y hj => ?_)))
        · rw [Nat.add_assoc]; exact hc _ _ r y hr hj
        · exact hd _ _ r y hr hj
    · exact h.elim
  · rename_i id sz' off len k n
    cases hi with | d hi =>
    cases hi
    obtain ⟨h0, h1, rfl, h⟩ := h
    cases hx with
    | msl hb hc hsh hn =>
      refine .mk h (hrun _ _ _ _ _ _ h0 h1) ?_
      have : off * e.size + n.toNat * e.size = (off + n.toNat) * e.size + 0 := by rw [Nat.add_mul]; omega
      rw [this]
      exact .aref hb
    | msl0 => omega
  · exact h.elim

theorem bytes_index {s : List UInt8} {n : Nat} {b : UInt8} (h : s[n]? = some b) : (bytesOf s)[n]? = some b := by
  have hl := (List.getElem?_eq_some_iff.1 h).1
  have he := (List.getElem?_eq_some_iff.1 h).2
  rw [ByteArray.getElem?_lt' _ _ (by rw [bytesOf_size]; exact hl)]
  congr 1


theorem bounds_sound {ev : Operand → V} {e : Operand → Value} (hev : ∀ x, VRep w ok ρ (ev x) (e x)) (b : Bool) {len cap l h : Nat} {lo hi : Option Operand}
    (h1 : abd (lo.map ev) 0 = some l) (h2 : abd (hi.map ev) len = some h) (h3 : l ≤ h) (h4 : h ≤ cap) (h5 : len ≤ cap) :
    (Instr.sliceBounds b len cap (lo.map e) (hi.map e) none).run P w = .ok (l, h, cap) w := by
  have key : ∀ (x : Operand) (d n : Nat), abd (some (ev x)) d = some n → ∃ k : IntKind, ∃ m : Int, e x = .int k m ∧ 0 ≤ m ∧ m.toNat = n := by
    intro x d n hn
    have := hev x
    unfold abd at hn
    split at hn
    · rename_i he; simp at he
    · rename_i k m he
      simp only [Option.some.injEq] at he
      rw [he] at this
      cases this with | d this =>
      generalize e x = v at this
      cases this
      split at hn
      · rename_i h0
        exact ⟨_, _, rfl, h0, by simpa using hn⟩
      · simp at hn
    · simp at hn
  cases lo with
  | none =>
    obtain rfl : 0 = l := by simpa [abd] using h1
    cases hi with
    | none =>
      obtain rfl : len = h := by simpa [abd] using h2
      simp [Instr.sliceBounds]
    | some y =>
      obtain ⟨k, m, hy, h0, rfl⟩ := key y _ _ h2
      simp [Instr.sliceBounds, hy, run_sliceBound (P := P) w k m _ _ h0 (show m ≤ (cap : Int) by omega)]
  | some x =>
    obtain ⟨k, m, hx, h0, rfl⟩ := key x _ _ h1
    cases hi with
    | none =>
      obtain rfl : len = h := by simpa [abd] using h2
      simp [Instr.sliceBounds, hx, run_sliceBound (P := P) w k m _ _ h0 (show m ≤ (len : Int) by omega)]
    | some y =>
      obtain ⟨k', m', hy, h0', rfl⟩ := key y _ _ h2
      simp only [Instr.sliceBounds, Option.map_some, hx, hy, Sem.run_bind, Sem.run_pure, Result.andThen_ok]
      rw [run_sliceBound (P := P) w k' m' _ _ h0' (show m' ≤ (cap : Int) by omega)]
      simp only [Result.andThen_ok]
      rw [run_sliceBound (P := P) w k m _ _ h0 (show m ≤ ((m'.toNat : Nat) : Int) by omega)]
      simp

theorem bytesOf_extract (s : List UInt8) (l h : Nat) : (bytesOf s).extract l h = bytesOf ((s.take h).drop l) := by
  have := ByteArray.extract_mk s l h
  show (ByteArray.mk s.toArray).extract l h = _
  rw [this]
  simp [bytesOf, List.drop_take]

theorem aslc_sound (hT : TOk P TT) {ev : Operand → V} {e : Operand → Value} (hev : ∀ x, VRep w ok ρ (ev x) (e x)) {t : TypeId} {x : Operand} {lo hi : Option Operand} {K : V → Prop}
    (h : aslc TT t (ev x) (lo.map ev) (hi.map ev) K) : Gives P w ok ρ K (Instr.sliceAt t (e x) (lo.map e) (hi.map e) none) := by
  have hx := hev x
  generalize ev x = xv at h hx
  generalize e x = v at hx
  unfold aslc at h
  split at h
  · rename_i s
    obtain ⟨hs, h⟩ := h
    cases ht : TT t with
    | none => rw [ht] at hs; simp [isStr] at hs
    | some ti =>
      rw [ht] at hs
      have hu := isStr_und (hT.facts ht) hs
      cases hx with | d hx =>
      cases hx
      split at h
      · rename_i l hh e1 e2
        obtain ⟨h1, h2, h⟩ := h
        refine .mk h (v := .string (bytesOf ((s.take hh).drop l))) ?_ (.d .str)
        have hb := bounds_sound (P := P) hev false (len := s.length) (cap := s.length) e1 e2 h1 h2 (Nat.le_refl _)
        simp [Instr.sliceAt, Instr.slice, underlying, hu, bytesOf_size, hb, bytesOf_extract]
      · exact h.elim
  · rename_i rows
    obtain ⟨⟨et, he, hl⟩, h⟩ := h
    obtain ⟨u, hu, hf⟩ := elemOf_spec hT he
    have hs := hf.run_sizeOf w
    cases hx with | d hx =>
    split at h
    · rename_i l hh e1 e2
      obtain ⟨h1, h2, h⟩ := h
      cases hx with
      | @nil _ a cap =>
        have hh0 : hh = 0 := by simpa using h2
        subst hh0
        obtain rfl : l = 0 := by omega
        have hb := bounds_sound (P := P) hev true (len := 0) (cap := cap) e1 e2 h1 (Nat.zero_le _) (Nat.zero_le _)
        refine .mk h (v := .slice (if cap = 0 then a else a.map (·.add (0 * et.size))) 0 (cap - 0)) ?_ ?_
        · simp [Instr.sliceAt, Instr.slice, underlying, hu, hb, hs]
        · simp; exact .d .nil
      | @lst _ _ sz b off cap vs hok hsz hcap hc hd =>
        have hb := bounds_sound (P := P) hev true (len := rows.length) (cap := cap) e1 e2 h1 (Nat.le_trans h2 hcap) hcap
        by_cases hlh : l = hh
        · subst hlh
          have e0 : (rows.take l).drop l = [] := by simp
          rw [e0] at h
          refine .mk h (v := .slice (if cap = l then some ⟨b, off, none⟩ else some ⟨b, off + l * et.size, none⟩) 0 (cap - l)) ?_ (.d .nil)
          simp [Instr.sliceAt, Instr.slice, underlying, hu, hb, hs, addr_add]
        · have hne : ¬ cap = l := by omega
          have hl0 : l < rows.length := by omega
          obtain rfl : sz = et.size := by rw [← hl _ (List.getElem_mem hl0)]; exact (hsz _ (List.getElem_mem hl0)).symm
          have hlen : ((rows.take hh).drop l).length = hh - l := by simp; omega
          refine .mk h (v := .slice (some ⟨b, off + l * et.size, none⟩) ((rows.take hh).drop l).length (cap - l)) ?_ (.d (.lst (sz := et.size) (vs := fun i j => vs (l + i) j) hok ?_ ?_ ?_ ?_))
          · rw [hlen]; simp [Instr.sliceAt, Instr.slice, underlying, hu, hb, hs, addr_add, hne]
          · intro r hr; exact hsz r (List.mem_of_mem_take (List.mem_of_mem_drop hr))
          · rw [hlen]; omega
          · intro i j r y hi hj
            have hi' : rows[l + i]? = some r := by
              rw [List.getElem?_drop, List.getElem?_take] at hi
              split at hi
              · exact hi
              · simp at hi
            have := hc _ _ r y hi' hj
            rw [Nat.add_mul] at this
            rw [show off + l * et.size + (i * et.size + j) = off + (l * et.size + i * et.size + j) by omega]
            exact this
          · intro i j r y hi hj
            have hi' : rows[l + i]? = some r := by
              rw [List.getElem?_drop, List.getElem?_take] at hi
              split at hi
              · exact hi
              · simp at hi
            exact hd _ _ r y hi' hj
    · exact h.elim
  · rename_i id sz off len
    obtain ⟨he, h⟩ := h
    cases he' : elemOf TT t with
    | none => rw [he'] at he; simp at he
    | some et =>
      rw [he'] at he
      obtain rfl : et.size = sz := by simpa using he
      obtain ⟨u, hu, hf⟩ := elemOf_spec hT he'
      have hs := hf.run_sizeOf w
      split at h
      · rename_i l hh e1 e2
        obtain ⟨h1, h2, h⟩ := h
        cases hx with
        | @msl _ _ _ _ cap b tt n hb hc hsh hn =>
          have hbd := bounds_sound (P := P) hev true (len := len) (cap := cap) e1 e2 h1 (Nat.le_trans h2 hc) hc
          by_cases hcl : cap = l
          · subst hcl
            obtain rfl : hh = cap := by omega
            refine .mk h (v := .slice (some ⟨b, off * et.size, none⟩) 0 0) ?_ ?_
            · simp [Instr.sliceAt, Instr.slice, underlying, hu, hbd, hs, addr_add]
            · rw [Nat.sub_self]; exact .msl0 (List.getElem?_eq_some_iff.1 hb).1
          · refine .mk h (v := .slice (some ⟨b, (off + l) * et.size, none⟩) (hh - l) (cap - l)) ?_ (.msl hb (by omega) hsh ?_)
            · simp [Instr.sliceAt, Instr.slice, underlying, hu, hbd, hs, addr_add, hcl, Nat.add_mul]
            · rw [show off + l + (cap - l) = off + cap by omega]; exact hn
        | @msl0 _ _ _ a hid =>
          have hh0 : hh = 0 := by omega
          subst hh0
          obtain rfl : l = 0 := by omega
          have hbd := bounds_sound (P := P) hev true (len := 0) (cap := 0) e1 e2 h1 (Nat.zero_le _) (Nat.zero_le _)
          refine .mk h (v := .slice a 0 0) ?_ (.msl0 hid)
          simp [Instr.sliceAt, Instr.slice, underlying, hu, hbd, hs]
      · exact h.elim
  · exact h.elim

theorem isSlice_und {t : TypeId} {ti : TI} (ht : TFacts P t ti) (h : isSlice (some ti) = true) : ∃ u, P.underlying t = some (.slice u) := by
  obtain ⟨k, _, _, _⟩ := ti
  cases k <;> simp [isSlice] at h
  exact ⟨_, slice_und ht rfl⟩

theorem alen_sound (hT : TOk P TT) {t ty : TypeId} {x : V} {v : Value} {K : V → Prop} (h : alen TT t x K) (hx : VRep w ok ρ x v) : Gives P w ok ρ K (Builtin.len_ #[t] ty #[v]) := by
  unfold alen at h
  split at h
  · rename_i s
    obtain ⟨hs, h⟩ := h
    cases ht : TT t with
    | none => rw [ht] at hs; simp [isStr] at hs
    | some ti =>
      rw [ht] at hs
      have hu := isStr_und (hT.facts ht) hs
      cases hx with | d hx =>
      cases hx
      exact .mk h (by simp [Builtin.len_, underlying, hu, goInt, bytesOf_size]) (.d .int)
  all_goals first
    | exact h.elim
    | (obtain ⟨hs, h⟩ := h
       cases ht : TT t with
       | none => rw [ht] at hs; simp [isSlice] at hs
       | some ti =>
         rw [ht] at hs
         obtain ⟨u, hu⟩ := isSlice_und (hT.facts ht) hs
         first
           | (cases hx with | d hx =>
              cases hx <;> exact .mk h (by simp [Builtin.len_, underlying, hu, goInt]) (.d .int))
           | (cases hx <;> exact .mk h (by simp [Builtin.len_, underlying, hu, goInt]) (.d .int)))

/-! ### building a struct -/
theorem foldl_set (off : Nat) : ∀ (l : List Value) (k : Nat) (cs : Array Value), off + k + l.length ≤ cs.size →
    let r := (l.zipIdx k).foldl (fun cs (x : Value × Nat) => cs.setIfInBounds (off + x.2) x.1) cs
    r.size = cs.size ∧ ∀ j, r.getD j undef = if off + k ≤ j ∧ j < off + k + l.length then l.getD (j - (off + k)) undef else cs.getD j undef := by
  intro l
  induction l with
  | nil => intro k cs h; simp; intro j h1 h2; omega
  | cons v l ih =>
    intro k cs h
    simp only [List.length_cons] at h
    have := ih (k + 1) (cs.setIfInBounds (off + k) v) (by simp; omega)
    simp only [List.zipIdx_cons, List.foldl_cons]
    obtain ⟨h1, h2⟩ := this
    refine ⟨by rw [h1]; simp, fun j => ?_⟩
    rw [h2]
    by_cases c : off + (k + 1) ≤ j ∧ j < off + (k + 1) + l.length
    · rw [if_pos c, if_pos (by simp only [List.length_cons]; omega)]
      rw [show j - (off + k) = (j - (off + (k + 1))) + 1 by omega]
      simp
    · rw [if_neg c]
      by_cases e : j = off + k
      · subst e
        rw [if_pos (by simp only [List.length_cons]; omega)]
        simp [Array.getD, show off + k < cs.size by omega]
      · rw [if_neg (by simp only [List.length_cons]; omega)]
        simp only [Array.getD_eq_getD_getElem?]
        rw [Array.getElem?_setIfInBounds_ne (by omega)]

theorem D_cell {x : D} {v : Value} (h : DRep w ok x v) : v.oneCell' = true ∧ v.cells = #[v] := by
  induction h with
  | raw hv => refine ⟨hv, ?_⟩; rename_i v; cases v <;> first | rfl | simp [Value.oneCell'] at hv
  | wx _ _ ih => exact ih
  | hi _ ih => exact ih
  | _ => exact ⟨rfl, rfl⟩

theorem scaB_one {x : V} {v : Value} (h : VRep w ok ρ x v) (hs : scaB x = true) : v.oneCell' = true ∧ v.cells = #[v] := by
  cases h with
  | d h => exact D_cell h
  | hd h => exact D_cell h
  | ld h => exact D_cell h
  | iv h => exact D_cell h
  | agg hn h => simp [scaB] at hs
  | tup hn h => simp [scaB] at hs
  | any => simp [scaB] at hs
  | _ => exact ⟨rfl, rfl⟩

theorem scaAll_get {cs : List V} (h : scaAll cs = true) : ∀ (j : Nat) (c : V), cs[j]? = some c → scaB c = true := by
  induction cs with
  | nil => intro j c hj; simp at hj
  | cons x xs ih =>
    simp only [scaAll, Bool.and_eq_true] at h
    intro j c hj
    cases j with
    | zero => obtain rfl : x = c := by simpa using hj
              exact h.1
    | succ j => exact ih h.2 j c (by simpa using hj)

theorem cells_rep {x : V} {v : Value} {cs : List V} (h : VRep w ok ρ x v) (hc : x.cells = some cs) :
    v.cells.size = cs.length ∧ ∀ j c, cs[j]? = some c → VRep w ok ρ c (v.cells.getD j undef) ∧ (v.cells.getD j undef).oneCell' = true := by
  have one : scaB x = true → [x] = cs → v.cells.size = cs.length ∧ ∀ j c, cs[j]? = some c → VRep w ok ρ c (v.cells.getD j undef) ∧ (v.cells.getD j undef).oneCell' = true := by
    intro hs he
    obtain ⟨h1, h2⟩ := scaB_one h hs
    subst he
    rw [h2]
    refine ⟨rfl, fun j c hj => ?_⟩
    cases j with
    | zero => obtain rfl : x = c := by simpa using hj
              exact ⟨h, h1⟩
    | succ j => simp at hj
  cases x with
  | agg cs' =>
    simp only [V.cells] at hc
    split at hc
    · rename_i hs
      obtain rfl : cs' = cs := by simpa using hc
      cases h with
      | agg hn h => exact ⟨hn, fun j c hj => ⟨h j c hj, (scaB_one (h j c hj) (scaAll_get hs j c hj)).1⟩⟩
    · simp at hc
  | _ =>
    simp only [V.cells] at hc
    split at hc
    · rename_i hs; exact one hs (by simpa using hc)
    · simp at hc

theorem abuild_sound {flds : List (Nat × Nat × Bool)} {places : Array (Nat × Nat)} (hp : ∀ (i : Nat) (p : Nat × Nat × Bool), flds[i]? = some p → places[i]? = some (p.1, p.2.1)) :
    ∀ (parts : List (Nat × V)) (vparts : List (Nat × Value)) (cs out : List V) (vs : Array Value), abuild flds cs parts = some out → vs.size = cs.length →
      (∀ j c, cs[j]? = some c → VRep w ok ρ c (vs.getD j undef)) → parts.length = vparts.length →
      (∀ (j : Nat) p q, parts[j]? = some p → vparts[j]? = some q → p.1 = q.1 ∧ VRep w ok ρ p.2 q.2) →
      ∃ us, Instr.fill (places[·]?) vs vparts = some us ∧ us.size = out.length ∧ ∀ j c, out[j]? = some c → VRep w ok ρ c (us.getD j undef) := by
  intro parts
  induction parts with
  | nil =>
    intro vparts cs out vs h hs hr hl _
    cases vparts with
    | nil => obtain rfl : cs = out := by simpa [abuild] using h
             exact ⟨vs, rfl, hs, hr⟩
    | cons => simp at hl
  | cons p parts ih =>
    intro vparts cs out vs h hs hr hl hq
    cases vparts with
    | nil => simp at hl
    | cons q vparts =>
      obtain ⟨i, x⟩ := p
      obtain ⟨i', v⟩ := q
      obtain ⟨e, hx⟩ := hq 0 _ _ rfl rfl
      simp only at e hx
      subst e
      simp only [abuild] at h
      split at h
      · rename_i off sz g hf
        split at h
        · rename_i new hnew
          split at h
          · rename_i hc
            obtain ⟨h1, h2⟩ := cells_rep hx hnew
            obtain ⟨f1, f2⟩ := foldl_set off v.cells.toList 0 vs (by simp; omega)
            have hsz : (putAt cs off new).length = cs.length := by simp [putAt]; omega
            have := ih vparts (putAt cs off new) out _ h (by rw [f1, hsz]; exact hs) (fun j c hj => ?_) (by simpa using hl) (fun j p q h3 h4 => hq (j + 1) p q (by simpa using h3) (by simpa using h4))
            · obtain ⟨us, u1, u2, u3⟩ := this
              refine ⟨us, ?_, u2, u3⟩
              rw [Instr.fill, hp _ _ hf]
              simp only
              rw [if_neg (by simp; omega)]
              rw [← u1]
              congr 1
              rw [← Array.foldl_toList]
              simp
            · rw [f2]
              simp only [Nat.add_zero, Array.length_toList]
              simp only [putAt] at hj
              by_cases c1 : off ≤ j ∧ j < off + v.cells.size
              · rw [if_pos c1]
                rw [List.append_assoc, List.getElem?_append_right (by simp; omega), List.getElem?_append_left (by simp; omega)] at hj
                have hmin : min off cs.length = off := by omega
                simp only [List.length_take, hmin] at hj
                have := (h2 _ _ hj).1
                simpa [Array.getD_eq_getD_getElem?] using this
              · rw [if_neg c1]
                refine hr j c ?_
                by_cases c2 : j < off
                · rw [List.append_assoc, List.getElem?_append_left (by simp; omega), List.getElem?_take, if_pos c2] at hj
                  exact hj
                · rw [List.getElem?_append_right (by simp; omega), List.getElem?_drop] at hj
                  rw [← hj]
                  congr 1
                  simp; omega
          · simp at h
        · simp at h
      · simp at h

end
end Go.Fw

/- Why the model's steps give what the abstract machine's steps tell: all steps that turn no memory, together. -/
set_option linter.unusedSimpArgs false
set_option linter.unusedVariables false
namespace Go.Fw

section
variable {P : Program} {TT : Nat → Option TI} {w : World} {ok : Nat → Prop} {ρ : List (Option Nat)}

theorem VRep.bool_eq {b : Bool} {v : Value} (h : VRep w ok ρ (.d (.bool b)) v) : v = .bool b := by
  cases h with | d h => cases h; rfl
theorem VRep.int_eq {k : IntKind} {n : Int} {v : Value} (h : VRep w ok ρ (.d (.int k n)) v) : v = .int k n := by
  cases h with | d h => cases h; rfl
theorem VRep.str_eq {s : List UInt8} {v : Value} (h : VRep w ok ρ (.d (.str s)) v) : v = .string (bytesOf s) := by
  cases h with | d h => cases h; rfl

/-- An operation that gives a value and turns nothing. -/
def Gives1 (P : Program) (w : World) (ok : Nat → Prop) (ρ : List (Option Nat)) (K : V → Prop) (s : Sem Next) : Prop :=
  ∃ x v, K x ∧ s.run P w = .ok (.value v) w ∧ VRep w ok ρ x v

theorem Gives.one {K : V → Prop} {s : Sem Value} (h : Gives P w ok ρ K s) : Gives1 P w ok ρ K (do pure (.value (← s))) := by
  obtain ⟨x, v, h1, h2, h3⟩ := h
  exact ⟨x, v, h1, by simp [h2], h3⟩

theorem run_max_int (ts : Array TypeId) (ty : TypeId) (k k' : IntKind) (a b : Int) : (Builtin.max_ ts ty #[.int k a, .int k' b]).run P w = .ok (.int k (max a b)) w := by
  simp only [Builtin.max_, List.foldlM_cons, List.foldlM_nil, Builtin.max2, Sem.run_bind, Sem.run_pure, Result.andThen_ok]
  congr 2
  rw [Int.max_def]
  split <;> split <;> omega

theorem run_min_int (ts : Array TypeId) (ty : TypeId) (k k' : IntKind) (a b : Int) : (Builtin.min_ ts ty #[.int k a, .int k' b]).run P w = .ok (.int k (min a b)) w := by
  simp only [Builtin.min_, List.foldlM_cons, List.foldlM_nil, Builtin.min2, Sem.run_bind, Sem.run_pure, Result.andThen_ok]
  congr 2
  rw [Int.min_def]
  split <;> split <;> omega

theorem toDs_sound {ev : Operand → V} {e : Operand → Value} (hev : ∀ x, VRep w ok ρ (ev x) (e x)) : ∀ (l : List Operand) (xs : List D), toDs (l.map ev) = some xs →
    xs.length = l.length ∧ ∀ (j : Nat) x, xs[j]? = some x → DRep w ok x ((l.map e).getD j undef) := by
  intro l
  induction l with
  | nil => intro xs h; obtain rfl : [] = xs := by simpa [toDs] using h
           exact ⟨rfl, by simp⟩
  | cons o l ih =>
    intro xs h
    simp only [List.map_cons, toDs] at h
    split at h
    · rename_i x xs' h1 h2
      obtain rfl : x :: xs' = xs := by simpa using h
      obtain ⟨h3, h4⟩ := ih _ h2
      refine ⟨by simp [h3], fun j y hj => ?_⟩
      cases j with
      | zero =>
        obtain rfl : x = y := by simpa using hj
        have := hev o
        simp only [List.map_cons, List.getD_cons_zero]
        generalize ev o = z at this h1
        cases z <;> simp [V.toD] at h1
        · subst h1; cases this with | d this => exact this
        · subst h1; generalize e o = u at this; cases this; exact .nil
        · subst h1; cases this with | hd this => exact .hi this
      | succ j => simpa using h4 j y (by simpa using hj)
    · simp at h

theorem pv_sound (hT : TOk P TT) {ev : Operand → V} {e : Operand → Value} {objs : List O} (hev : ∀ x, VRep w ok ρ (ev x) (e x)) (hI : Inv w ok ρ objs) (o : Oper) {K : V → Prop}
    (h : pv TT ev objs o.op K) : Gives1 P w ok ρ K (execOp e o) := by
  unfold pv at h
  unfold execOp
  split at h
  · rename_i x ho; rw [ho]; exact ⟨_, _, h, rfl, hev x⟩
  · rename_i x ho; rw [ho]; exact ⟨_, _, h, rfl, hev x⟩
  · rename_i c a b ho
    rw [ho]
    have hc := hev c
    split at h
    · rename_i t ht
      rw [ht] at hc
      refine ⟨_, if t = true then e a else e b, h, by simp [hc.bool_eq, asBool], ?_⟩
      split
      · exact hev a
      · exact hev b
    · exact h.elim
  · rename_i x ho
    rw [ho]
    have hx := hev x
    generalize ev x = xv at h hx
    generalize hv : e x = v at hx
    split at h
    · cases hx with | oref hb => exact ⟨_, _, h, by simp [hv], .oref hb⟩
    · cases hx with | aref hb => exact ⟨_, _, h, by simp [hv], .aref hb⟩
    · cases hx with | d hx =>
      obtain ⟨b, off, rfl, _⟩ := hx.ptr_cells (ρ := ρ)
      exact ⟨_, _, h, by simp [hv], .d hx⟩
    · exact h.elim
  · rename_i t x ho
    rw [ho]
    split at h
    · rename_i ti ht
      exact (ald_sound (hT.facts ht) hI h (hev x)).one
    · exact h.elim
  · rename_i op t x y u ho
    rw [ho]
    exact (abin_sound hT h (hev x) (hev y) x y).one
  · rename_i op t x ho
    rw [ho]
    exact (aun_sound h (hev x)).one
  · rename_i s t x ho
    rw [ho]
    obtain ⟨hs, h⟩ := h
    split at h
    · rename_i k sz by_ z n k' ht hx
      have hv := hev x
      rw [hx] at hv
      have hu := int_und (hT.facts ht) rfl
      cases hts : TT s with
      | none => rw [hts] at hs; simp at hs
      | some si =>
        obtain ⟨d, hd, _⟩ := (hT.facts hts).und
        refine Gives.one (.mk h.2 ?_ (.d .int))
        have := h.1
        unfold inR at this
        simp only [convert, Sem.run_bind, run_underlying (w := w) hd, run_underlying (w := w) hu, Result.andThen_ok, hv.int_eq]
        simp [Conv.intToInt, this]
    · exact h.elim
  · rename_i t x lo hi ho
    rw [ho]
    exact (aslc_sound hT hev h).one
  · rename_i t x f ho
    rw [ho]
    split at h
    · rename_i p hp
      cases ht : TT t with
      | none => rw [ht] at hp; simp [fieldOf] at hp
      | some ti =>
        rw [ht] at hp
        exact (afld_sound (hT.facts ht) hp h (hev x)).one
    · exact h.elim
  · rename_i t x f ho
    rw [ho]
    have hx := hev x
    have hfld : ∀ p, fieldOf (TT t) f = some p → ∃ fs : Array Field, ∃ fd, P.underlying t = some (.struct fs) ∧ fs[f]? = some fd ∧ fldB P fd p = true := by
      intro p hp
      cases ht : TT t with
      | none => rw [ht] at hp; simp [fieldOf] at hp
      | some ti =>
        rw [ht] at hp
        have hF := hT.facts ht
        obtain ⟨kd, sz, by_, z⟩ := ti
        cases kd <;> simp [fieldOf] at hp
        obtain ⟨fs, hu, _, hf, _⟩ := struct_und hF rfl
        obtain ⟨fd, h1, h2⟩ := hf f p hp
        exact ⟨fs, fd, hu, h1, h2⟩
    split at h
    · rename_i off sz cs hp hxe
      rw [hxe] at hx
      obtain ⟨fs, fd, hu, hfd, hB⟩ := hfld _ hp
      simp only [fldB, Bool.and_eq_true, beq_iff_eq, bne_iff_ne, ne_eq] at hB
      obtain ⟨⟨⟨⟨h1, h2⟩, h3⟩, h4⟩, h5⟩ := hB
      generalize hev : e x = v at hx
      cases hx with | @agg _ vs hn hx =>
      obtain ⟨hle, h⟩ := h
      have hag : (isAgg fd.type).run P w = .ok true w := by
        unfold aggB at h3
        split at h3 <;> first | (simp at h3; done) | (rename_i hd; simp [isAgg, underlying, hd])
      have hsz : (sizeOf fd.type).run P w = .ok sz w := by
        cases hi : P.info? fd.type with
        | none => rw [hi] at h2; simp at h2
        | some i => rw [hi] at h2; simp at h2; simp [sizeOf, typeInfo, hi, h2]
      refine Gives.one (.mk h (v := .agg (vs.extract off (off + sz))) ?_ (.agg (by simp; omega) ?_))
      · simp [Instr.field, underlying, hu, hfd, part, hag, hsz, asAgg, hev, h1]
      · intro i c hi
        rw [List.getElem?_take] at hi
        split at hi
        · rw [List.getElem?_drop] at hi
          have := hx _ _ hi
          rename_i hlt
          have e1 : (vs.extract off (off + sz)).getD i undef = vs.getD (off + i) undef := by
            simp only [Array.getD_eq_getD_getElem?, Array.getElem?_extract]
            rw [if_pos (by omega)]
          rw [e1]; exact this
        · simp at hi
    · rename_i off sz cs hp hxe
      rw [hxe] at hx
      obtain ⟨fs, fd, hu, hfd, hB⟩ := hfld _ hp
      simp only [fldB, Bool.and_eq_true, beq_iff_eq, bne_iff_ne, ne_eq] at hB
      obtain ⟨⟨⟨⟨h1, h2⟩, h3⟩, h4⟩, h5⟩ := hB
      generalize hev : e x = v at hx
      cases hx with | @agg _ vs hn hx =>
      split at h
      · rename_i c hc
        have hlt := (List.getElem?_eq_some_iff.1 hc).1
        have hag : (isAgg fd.type).run P w = .ok false w := by
          cases hi : P.info? fd.type with
          | none => rw [hi] at h2; simp at h2
          | some i =>
            cases hd : P.underlying fd.type with
            | none =>
              rw [hd] at h5
              simp at h5
            | some d =>
              unfold aggB at h3
              rw [hd] at h3
              simp only [isAgg, underlying, Sem.run_bind, run_program, Result.andThen_ok, hd]
              cases d <;> simp_all
        have hxc := hx _ _ hc
        obtain ⟨u, hu1, hu2⟩ : ∃ u, vs[off]? = some u ∧ vs.getD off undef = u := ⟨_, Array.getElem?_eq_getElem (by omega), by simp [Array.getD, show off < vs.size by omega]⟩
        rw [hu2] at hxc
        refine Gives.one (.mk h (v := u) ?_ hxc)
        simp [Instr.field, underlying, hu, hfd, part, hag, asAgg, hev, h1, hu1]
      · exact h.elim
    · exact h.elim
  · rename_i t x i ho
    rw [ho]
    split at h
    · rename_i ti ht
      exact (aidx_sound hT ht h (hev x) (hev i)).one
    · exact h.elim
  · rename_i t x i ho
    rw [ho]
    obtain ⟨hs, h⟩ := h
    split at h
    · rename_i s k n hx hi
      obtain ⟨h0, h⟩ := h
      split at h
      · rename_i b hb
        have hxv := hev x
        have hiv := hev i
        rw [hx] at hxv
        rw [hi] at hiv
        cases ht : TT t with
        | none => rw [ht] at hs; simp [isStr] at hs
        | some ti =>
          rw [ht] at hs
          have hu := isStr_und (hT.facts ht) hs
          refine Gives.one (.mk h ?_ (.d .int))
          simp [Instr.index, asIntOf, underlying, hu, h0, bytes_index hb, hxv.str_eq, hiv.int_eq]
      · exact h.elim
    · exact h.elim
  · rename_i x i ho
    rw [ho]
    have hx := hev x
    split at h
    · rename_i vs hv
      rw [hv] at hx
      split at h
      · rename_i y hy
        generalize hxe : e x = v at hx
        cases hx with | @tup _ us hn hx =>
        have hl := (List.getElem?_eq_some_iff.1 hy).1
        have hxc := hx i y hy
        obtain ⟨u, hu1, hu2⟩ : ∃ u, us[i]? = some u ∧ us.getD i undef = u := ⟨_, Array.getElem?_eq_getElem (by omega), by simp [Array.getD, show i < us.size by omega]⟩
        rw [hu2] at hxc
        refine Gives.one (.mk h (v := u) ?_ hxc)
        simp [Instr.extract, hu1, hxe]
      · exact h.elim
    · exact h.elim
  · rename_i t parts ho
    rw [ho]
    split at h
    · rename_i flds ks sz by_ z ht
      split at h
      · rename_i cs hcs
        obtain ⟨i, h1, h2, h3, zv, h4, h5, h6, h7⟩ := (hT.facts ht).info
        obtain ⟨fs, hu, hfs, hf, _⟩ := struct_und (hT.facts ht) rfl
        have hplaces : ∀ (l : List Field), (∀ f ∈ l, ∃ p, fldB P f p = true) → (l.mapM fun f => do pure (f.offset, ← sizeOf f.type) : Sem (List (Nat × Nat))).run P w = .ok (l.map fun f => (f.offset, ((P.info? f.type).map (·.size)).getD 0)) w := by
          intro l
          induction l with
          | nil => intro _; simp
          | cons f l ih =>
            intro hl
            obtain ⟨p, hp⟩ := hl f (by simp)
            have hs : (sizeOf f.type).run P w = .ok (((P.info? f.type).map (·.size)).getD 0) w := by
              simp only [fldB, Bool.and_eq_true, beq_iff_eq] at hp
              cases hi : P.info? f.type with
              | none => rw [hi] at hp; simp at hp
              | some i => simp [sizeOf, typeInfo, hi]
            have := ih (fun f hf => hl f (by simp [hf]))
            simp only [List.mapM_cons, Sem.run_bind, hs, Result.andThen_ok, Sem.run_pure, List.map_cons]
            rw [this]
            rfl
        let places : Array (Nat × Nat) := fs.map fun f => (f.offset, ((P.info? f.type).map (·.size)).getD 0)
        have hp : (fs.mapM fun f => do pure (f.offset, ← sizeOf f.type) : Sem (Array (Nat × Nat))).run P w = .ok places w := by
          rw [Array.mapM_eq_mapM_toList]
          have := hplaces fs.toList (fun f hf' => by
            obtain ⟨j, hj⟩ := List.mem_iff_getElem?.1 hf'
            have hjl : j < flds.length := by have := (List.getElem?_eq_some_iff.1 hj).1; simp at this; omega
            obtain ⟨f', e1, e2⟩ := hf j _ (List.getElem?_eq_getElem hjl)
            have : f' = f := by simpa [e1] using hj
            exact ⟨_, this ▸ e2⟩)
          rw [Sem.run_map, this]
          simp only [Result.andThen_ok, places]
          congr 1
          apply Array.ext'
          simp
        have hpl : ∀ (i : Nat) (p : Nat × Nat × Bool), flds[i]? = some p → places[i]? = some (p.1, p.2.1) := by
          intro i p hip
          obtain ⟨f, e1, e2⟩ := hf i p hip
          simp only [fldB, Bool.and_eq_true, beq_iff_eq] at e2
          simp [places, e1, e2.1.1.1.1, e2.1.1.1.2]
        obtain ⟨us, u1, u2, u3⟩ := abuild_sound (ok := ok) (ρ := ρ) (w := w) hpl _ (parts.toList.map fun p => (p.1, e p.2)) _ _ zv.cells hcs h5 (fun j c hj => h7 j c hj w ok ρ) (by simp) (fun j p q h1 h2 => by
          rw [List.getElem?_map] at h1 h2
          cases hpj : parts.toList[j]? with
          | none => rw [hpj] at h1; simp at h1
          | some r =>
            rw [hpj] at h1 h2
            obtain rfl : (r.1, ev r.2) = p := by simpa using h1
            obtain rfl : (r.1, e r.2) = q := by simpa using h2
            exact ⟨rfl, hev _⟩)
        refine Gives.one (.mk h (v := .agg us) ?_ (.agg u2 u3))
        have hz : (zeroValue t).run P w = .ok zv w := by simp [zeroValue, typeInfo, h1, h4]
        simp only [Instr.build, Sem.run_bind, hz, Result.andThen_ok, run_underlying (w := w) hu, hp]
        have : (parts.map fun (i, x) => (i, e x)).toList = parts.toList.map fun p => (p.1, e p.2) := by simp
        rw [this, u1]
        rfl
      · exact h.elim
    · exact h.elim
  · rename_i f first cap ho
    rw [ho]
    obtain ⟨rfl, h⟩ := h
    split at h
    · rename_i xs hxs
      obtain ⟨h1, h2⟩ := toDs_sound hev _ _ hxs
      refine Gives.one (.mk h (v := .func (.func f) #[] (cap.map e)) (by simp [Instr.makeFunc]) (.d (.fn (by simp [h1]) ?_)))
      intro j x hj
      have := h2 j x hj
      simpa [Array.getD_eq_getD_getElem?, List.getD_eq_getElem?_getD] using this
    · exact h.elim
  · rename_i args ts ho
    rw [ho]
    split at h
    · rename_i x t hx ht
      obtain ⟨args⟩ := args
      obtain ⟨ts⟩ := ts
      simp only at hx ht
      subst hx ht
      obtain ⟨y, v, h1, h2, h3⟩ := alen_sound (ty := o.type) hT h (hev x)
      exact ⟨y, v, h1, by simp [resolve, invoke, builtin, h2], h3⟩
    · exact h.elim
  · rename_i args ts ho
    rw [ho]
    split at h
    · rename_i x y hx
      obtain ⟨args⟩ := args
      simp only at hx
      subst hx
      split at h
      · rename_i k a k' b hxe hye
        have hxv := hev x
        have hyv := hev y
        rw [hxe] at hxv
        rw [hye] at hyv
        exact ⟨_, _, h, by simp [resolve, invoke, builtin, hxv.int_eq, hyv.int_eq, run_max_int], .d .int⟩
      · exact h.elim
    · exact h.elim
  · rename_i args ts ho
    rw [ho]
    split at h
    · rename_i x y hx
      obtain ⟨args⟩ := args
      simp only at hx
      subst hx
      split at h
      · rename_i k a k' b hxe hye
        have hxv := hev x
        have hyv := hev y
        rw [hxe] at hxv
        rw [hye] at hyv
        exact ⟨_, _, h, by simp [resolve, invoke, builtin, hxv.int_eq, hyv.int_eq, run_min_int], .d .int⟩
      · exact h.elim
    · exact h.elim
  · exact h.elim

end
end Go.Fw

/- How the store stays borne: a new object, a write, an object that is given up, one that gets a new name. -/
set_option linter.unusedSimpArgs false
set_option linter.unusedVariables false
namespace Go.Fw

section
variable {w w' : World} {ok : Nat → Prop} {ρ : List (Option Nat)} {objs : List O} {x : Ctx}

theorem ORep.at {w : World} {ok : Nat → Prop} {ρ ρ' : List (Option Nat)} {i j : Nat} {o : O} (h : ORep w ok ρ i o) (hρ : ∀ (id : Nat) (b : Option Nat), ρ[id]? = some b → ρ'[id]? = some b)
    (hij : ∀ b : Option Nat, ρ[i]? = some b → ρ'[j]? = some b) : ORep w ok ρ' j o := by
  cases o with
  | dead => trivial
  | box cells =>
    obtain ⟨b, cs, t, h1, h2, h3, h4⟩ := h
    exact ⟨b, cs, t, hij _ h1, h2, h3, fun k c hk => (h4 k c hk).mono (fun _ _ => rfl) (fun _ h => h) (fun _ _ h => h) hρ⟩
  | arr sz rows =>
    obtain ⟨h0, h⟩ := h
    refine ⟨h0, ?_⟩
    rcases h with ⟨h1, h2⟩ | ⟨b, cs, t, h1, h2, h3, h4⟩
    · exact .inl ⟨h1, hij _ h2⟩
    · exact .inr ⟨b, cs, t, hij _ h1, h2, h3, h4⟩

theorem getElem?_snoc_old {α : Type} {l : List α} {y : α} {i : Nat} {z : α} (h : l[i]? = some z) : (l ++ [y])[i]? = some z := by
  rw [List.getElem?_append_left (List.getElem?_eq_some_iff.1 h).1]; exact h

theorem getElem?_snoc {α : Type} {l : List α} {y : α} {i : Nat} {z : α} (h : (l ++ [y])[i]? = some z) : l[i]? = some z ∨ (i = l.length ∧ z = y) := by
  rcases Nat.lt_or_ge i l.length with hi | hi
  · rw [List.getElem?_append_left hi] at h; exact .inl h
  · rw [List.getElem?_append_right hi] at h
    cases hk : i - l.length with
    | zero => rw [hk] at h; exact .inr ⟨by omega, by simpa using h.symm⟩
    | succ k => rw [hk] at h; simp at h

theorem Inv.live_lt (h : Inv w ok ρ objs) {id b : Nat} {o : O} (ho : objs[id]? = some o) (hl : o.live = true) (hb : ρ[id]? = some (some b)) : b < w.heap.size := by
  have := h.own id o ho
  cases o with
  | dead => simp [O.live] at hl
  | box cells =>
    obtain ⟨b', cs, t, h1, h2, _⟩ := this
    obtain rfl : b = b' := by rw [hb] at h1; simpa using h1
    exact (Array.getElem?_eq_some_iff.1 h2).1
  | arr sz rows =>
    obtain ⟨_, ⟨_, h2⟩ | ⟨b', cs, t, h1, h2, _⟩⟩ := this
    · rw [hb] at h2; simp at h2
    · obtain rfl : b = b' := by rw [hb] at h1; simpa using h1
      exact (Array.getElem?_eq_some_iff.1 h2).1

theorem shape_of_block {b : Nat} (h : w'.heap[b]? = w.heap[b]?) : w'.shape? b = w.shape? b := by simp [World.shape?, h]

theorem shape_lt {b : Nat} {s : TypeId × Nat} (h : w.shape? b = some s) : b < w.heap.size := by
  unfold World.shape? at h
  split at h
  · rename_i hb; exact (Array.getElem?_eq_some_iff.1 hb).1
  · simp at h

/-- A new object in new memory (or nowhere yet). -/
theorem step_new (hI : Inv w ok ρ objs) (hF : Frm x w ok ρ objs) (hsz : w.heap.size ≤ w'.heap.size) (hold : ∀ b, b < w.heap.size → w'.heap[b]? = w.heap[b]?)
    (hos : w'.os = w.os) (htape : w'.tape = w.tape) (hout : w'.output = w.output) (bo : Option Nat) (hb : ∀ b, bo = some b → w.heap.size ≤ b) {o : O}
    (ho : ORep w' ok (ρ ++ [bo]) objs.length o) :
    Inv w' ok (ρ ++ [bo]) (objs ++ [o]) ∧ Frm x w' ok (ρ ++ [bo]) (objs ++ [o]) ∧ ∀ V v, VRep w ok ρ V v → VRep w' ok (ρ ++ [bo]) V v := by
  have hρ : ∀ (id : Nat) (b : Option Nat), ρ[id]? = some b → (ρ ++ [bo])[id]? = some b := fun id b h => getElem?_snoc_old h
  have hok : ∀ b, ok b → w'.heap[b]? = w.heap[b]? := fun b h => hold b (hI.okb b h)
  have hshape : ∀ b s, w.shape? b = some s → w'.shape? b = some s := fun b s h => by rw [shape_of_block (hold b (shape_lt h))]; exact h
  have hlen : (ρ ++ [bo])[objs.length]? = some bo := by rw [← hI.len]; simp
  have hidx : ∀ (id : Nat) (b : Nat), id ≠ objs.length → (ρ ++ [bo])[id]? = some (some b) → ρ[id]? = some (some b) := by
    intro id b hne h
    rcases getElem?_snoc h with h | ⟨h, _⟩
    · exact h
    · rw [hI.len] at h; exact absurd h hne
  have hltobj : ∀ (id : Nat) (o : O), objs[id]? = some o → id ≠ objs.length := fun id o h => by have := (List.getElem?_eq_some_iff.1 h).1; omega
  refine ⟨⟨by simp [hI.len], fun b h => Nat.lt_of_lt_of_le (hI.okb b h) hsz, ?_, ?_, ?_⟩, ⟨hos.trans hF.os, htape.trans hF.tape, hout.trans hF.output, Nat.le_trans hF.size hsz, ?_, ?_, hF.okup, ?_, ?_, ?_, fun b h => (hF.unf b h).imp_right (fun hu => hu.of (hok b h)), fun e e2 => (hF.pres e e2).trans (.same hok) hF.okup⟩, ?_⟩
  · intro id o' h
    rcases getElem?_snoc h with h | ⟨rfl, rfl⟩
    · exact (hI.own id o' h).mono hok (fun _ h => h) hshape hρ (fun hl b hb' => hold b (hI.live_lt h hl hb'))
    · exact ho
  · intro i j oi oj b hi hj hli hlj hbi hbj
    rcases getElem?_snoc hi with hi1 | ⟨e1, e2⟩
    · rcases getElem?_snoc hj with hj1 | ⟨f1, f2⟩
      · exact hI.dis i j oi oj b hi1 hj1 hli hlj (hidx _ _ (hltobj _ _ hi1) hbi) (hidx _ _ (hltobj _ _ hj1) hbj)
      · have h1 := hI.live_lt hi1 hli (hidx _ _ (hltobj _ _ hi1) hbi)
        rw [f1, hlen] at hbj
        have := hb b (by simpa using hbj)
        omega
    · rcases getElem?_snoc hj with hj1 | ⟨f1, f2⟩
      · have h1 := hI.live_lt hj1 hlj (hidx _ _ (hltobj _ _ hj1) hbj)
        rw [e1, hlen] at hbi
        have := hb b (by simpa using hbi)
        omega
      · rw [e1, f1]
  · intro i o' b hi hl hbi hk
    rcases getElem?_snoc hi with hi | ⟨rfl, rfl⟩
    · exact hI.nok i o' b hi hl (hidx _ _ (hltobj _ _ hi) hbi) hk
    · rw [hlen] at hbi
      have := hb b (by simpa using hbi)
      have := hI.okb b hk
      omega
  · intro b hlt hne hnw
    rw [hold b (Nat.lt_of_lt_of_le hlt hF.size)]
    exact hF.block b hlt hne hnw
  · intro b s h; exact hshape b s (hF.shape b s h)
  · intro b h
    rcases hF.okdn b h with h | h | ⟨id, o', h1, h2, h3, h4⟩
    · exact .inl h
    · exact .inr (.inl h)
    · exact .inr (.inr ⟨id, o', h1, h2, h3, getElem?_snoc_old h4⟩)
  · intro id b hl h; exact hρ id b (hF.rho id b hl h)
  · intro id o' b hi hl hbi
    rcases getElem?_snoc hi with hi | ⟨rfl, rfl⟩
    · exact hF.own id o' b hi hl (hidx _ _ (hltobj _ _ hi) hbi)
    · rw [hlen] at hbi
      exact .inl (Nat.le_trans hF.size (hb b (by simpa using hbi)))
  · intro V v h; exact h.mono hok (fun _ h => h) hshape hρ

/-- A write to an object. -/
theorem step_write (hI : Inv w ok ρ objs) (hF : Frm x w ok ρ objs) {id b : Nat} {o o' : O} (hid : objs[id]? = some o) (hl : o.live = true) (hb : ρ[id]? = some (some b))
    (hsz : w'.heap.size = w.heap.size) (hold : ∀ k, k ≠ b → w'.heap[k]? = w.heap[k]?) (hsh : w'.shape? b = w.shape? b)
    (hos : w'.os = w.os) (htape : w'.tape = w.tape) (hout : w'.output = w.output) (ho : ORep w' ok ρ id o') (hl' : o'.live = true) :
    Inv w' ok ρ (objs.set id o') ∧ Frm x w' ok ρ (objs.set id o') ∧ ∀ V v, VRep w ok ρ V v → VRep w' ok ρ V v := by
  have hok : ∀ k, ok k → w'.heap[k]? = w.heap[k]? := fun k h => hold k (fun e => hI.nok id o b hid hl hb (e ▸ h))
  have hshape : ∀ k s, w.shape? k = some s → w'.shape? k = some s := by
    intro k s h
    by_cases e : k = b
    · subst e; rw [hsh]; exact h
    · rw [shape_of_block (hold k e)]; exact h
  have hlt := (List.getElem?_eq_some_iff.1 hid).1
  have hset : ∀ (i : Nat) (q : O), (objs.set id o')[i]? = some q → (i = id ∧ q = o') ∨ (i ≠ id ∧ objs[i]? = some q) := by
    intro i q h
    by_cases e : i = id
    · subst e; rw [List.getElem?_set_self hlt] at h; exact .inl ⟨rfl, by simpa using h.symm⟩
    · rw [List.getElem?_set_ne (Ne.symm e)] at h; exact .inr ⟨e, h⟩
  have hold' : ∀ (i : Nat) (q : O), (objs.set id o')[i]? = some q → q.live = true → ∃ q', objs[i]? = some q' ∧ q'.live = true := by
    intro i q h hq
    rcases hset i q h with ⟨rfl, rfl⟩ | ⟨_, h⟩
    · exact ⟨o, hid, hl⟩
    · exact ⟨q, h, hq⟩
  refine ⟨⟨by simp [hI.len], fun k h => by rw [hsz]; exact hI.okb k h, ?_, ?_, ?_⟩, ⟨hos.trans hF.os, htape.trans hF.tape, hout.trans hF.output, by rw [hsz]; exact hF.size, ?_, ?_, hF.okup, ?_, hF.rho, ?_, fun b h => (hF.unf b h).imp_right (fun hu => hu.of (hok b h)), fun e e2 => (hF.pres e e2).trans (.same hok) hF.okup⟩, ?_⟩
  · intro i q h
    rcases hset i q h with ⟨rfl, rfl⟩ | ⟨hne, h⟩
    · exact ho
    · refine (hI.own i q h).mono hok (fun _ h => h) hshape (fun _ _ h => h) (fun hq k hk => hold k (fun e => hne ?_))
      subst e
      exact hI.dis i id q o k h hid hq hl hk hb
  · intro i j oi oj k hi hj hli hlj hki hkj
    obtain ⟨q1, h1, h2⟩ := hold' i oi hi hli
    obtain ⟨q2, h3, h4⟩ := hold' j oj hj hlj
    exact hI.dis i j q1 q2 k h1 h3 h2 h4 hki hkj
  · intro i q k hi hq hk
    obtain ⟨q1, h1, h2⟩ := hold' i q hi hq
    exact hI.nok i q1 k h1 h2 hk
  · intro k hk hne hnw
    rw [hold k ?_]
    · exact hF.block k hk hne hnw
    · rintro rfl
      rcases hF.own id o k hid hl hb with h | ⟨i0, o0, h1, h2, h3⟩
      · omega
      · exact hne i0 o0 h1 h2 h3
  · intro k s h; exact hshape k s (hF.shape k s h)
  · intro k h
    rcases hF.okdn k h with h | h | ⟨i, q, h1, h2, h3, h4⟩
    · exact .inl h
    · exact .inr (.inl h)
    · refine .inr (.inr ⟨i, q, h1, h2, h3, ?_⟩)
      rw [List.getElem?_set_ne]
      · exact h4
      · rintro rfl; rw [hid] at h4; simp at h4; subst h4; simp [O.live] at hl
  · intro i q k hi hq hk
    obtain ⟨q1, h1, h2⟩ := hold' i q hi hq
    exact hF.own i q1 k h1 h2 hk
  · intro V v h; exact h.mono hok (fun _ h => h) hshape (fun _ _ h => h)

/-- An object is given up. -/
theorem step_kill (hI : Inv w ok ρ objs) (hF : Frm x w ok ρ objs) (id : Nat) : Inv w ok ρ (objs.set id .dead) ∧ Frm x w ok ρ (objs.set id .dead) := by
  have hset : ∀ (i : Nat) (q : O), (objs.set id .dead)[i]? = some q → q = .dead ∨ objs[i]? = some q := by
    intro i q h
    by_cases e : i = id
    · subst e
      rw [List.getElem?_set] at h
      split at h
      · split at h
        · exact .inl (by simpa using h.symm)
        · simp at h
      · exact .inr h
    · rw [List.getElem?_set_ne (Ne.symm e)] at h; exact .inr h
  have hlv : ∀ (i : Nat) (q : O), (objs.set id .dead)[i]? = some q → q.live = true → objs[i]? = some q := by
    intro i q h hq
    rcases hset i q h with rfl | h
    · simp [O.live] at hq
    · exact h
  refine ⟨⟨by simp [hI.len], hI.okb, ?_, ?_, ?_⟩, ⟨hF.os, hF.tape, hF.output, hF.size, hF.block, hF.shape, hF.okup, ?_, hF.rho, ?_, hF.unf, hF.pres⟩⟩
  · intro i q h
    rcases hset i q h with rfl | h
    · trivial
    · exact hI.own i q h
  · intro i j oi oj k hi hj hli hlj
    exact hI.dis i j oi oj k (hlv _ _ hi hli) (hlv _ _ hj hlj) hli hlj
  · intro i q k hi hq
    exact hI.nok i q k (hlv _ _ hi hq) hq
  · intro k h
    rcases hF.okdn k h with h | h | ⟨i, q, h1, h2, h3, h4⟩
    · exact .inl h
    · exact .inr (.inl h)
    · refine .inr (.inr ⟨i, q, h1, h2, h3, ?_⟩)
      have := (List.getElem?_eq_some_iff.1 h4).1
      rw [List.getElem?_set]
      split
      · rw [if_pos (by omega)]
      · exact h4
  · intro i q k hi hq hk
    exact hF.own i q k (hlv _ _ hi hq) hq hk

/-- An object gets a new name; under the old one it is given up. -/
theorem step_move (hI : Inv w ok ρ objs) (hF : Frm x w ok ρ objs) {id : Nat} {o : O} {bo : Option Nat} (hid : objs[id]? = some o) (hb : ρ[id]? = some bo) :
    Inv w ok (ρ ++ [bo]) (objs.set id .dead ++ [o]) ∧ Frm x w ok (ρ ++ [bo]) (objs.set id .dead ++ [o]) ∧ ∀ V v, VRep w ok ρ V v → VRep w ok (ρ ++ [bo]) V v := by
  have hρ : ∀ (id : Nat) (b : Option Nat), ρ[id]? = some b → (ρ ++ [bo])[id]? = some b := fun id b h => getElem?_snoc_old h
  have hlt := (List.getElem?_eq_some_iff.1 hid).1
  have hlen : (ρ ++ [bo])[objs.length]? = some bo := by rw [← hI.len]; simp
  have hsplit : ∀ (i : Nat) (q : O), (objs.set id .dead ++ [o])[i]? = some q → q.live = true → (i ≠ id ∧ i < objs.length ∧ objs[i]? = some q) ∨ (i = objs.length ∧ q = o) := by
    intro i q h hq
    rcases getElem?_snoc h with h | ⟨h1, h2⟩
    · by_cases e : i = id
      · subst e; rw [List.getElem?_set_self hlt] at h; obtain rfl : O.dead = q := by simpa using h
        simp [O.live] at hq
      · rw [List.getElem?_set_ne (Ne.symm e)] at h
        exact .inl ⟨e, (List.getElem?_eq_some_iff.1 h).1, h⟩
    · exact .inr ⟨by simpa using h1, h2⟩
  have hidx : ∀ (i b : Nat), i < objs.length → (ρ ++ [bo])[i]? = some (some b) → ρ[i]? = some (some b) := by
    intro i b hi h
    rcases getElem?_snoc h with h | ⟨h, _⟩
    · exact h
    · rw [hI.len] at h; omega
  refine ⟨⟨by simp [hI.len], hI.okb, ?_, ?_, ?_⟩, ⟨hF.os, hF.tape, hF.output, hF.size, hF.block, hF.shape, hF.okup, ?_, ?_, ?_, hF.unf, hF.pres⟩, ?_⟩
  · intro i q h
    rcases getElem?_snoc h with h | ⟨h1, h2⟩
    · by_cases e : i = id
      · subst e; rw [List.getElem?_set_self hlt] at h; obtain rfl : O.dead = q := by simpa using h
        trivial
      · rw [List.getElem?_set_ne (Ne.symm e)] at h
        exact (hI.own i q h).at hρ (fun b hb => hρ _ _ hb)
    · subst h2
      refine (hI.own id q hid).at hρ (fun b hb' => ?_)
      rw [hb] at hb'
      obtain rfl : bo = b := by simpa using hb'
      simp only [List.length_set] at h1
      rw [h1]; exact hlen
  · intro i j oi oj k hi hj hli hlj hki hkj
    rcases hsplit i oi hi hli with ⟨e1, e2, e3⟩ | ⟨rfl, rfl⟩
    · rcases hsplit j oj hj hlj with ⟨f1, f2, f3⟩ | ⟨rfl, rfl⟩
      · exact hI.dis i j oi oj k e3 f3 hli hlj (hidx _ _ e2 hki) (hidx _ _ f2 hkj)
      · rw [hlen] at hkj
        obtain rfl : bo = some k := by simpa using hkj
        exact absurd (hI.dis i id oi oj k e3 hid hli hlj (hidx _ _ e2 hki) hb) e1
    · rcases hsplit j oj hj hlj with ⟨f1, f2, f3⟩ | ⟨rfl, rfl⟩
      · rw [hlen] at hki
        obtain rfl : bo = some k := by simpa using hki
        exact absurd (hI.dis j id oj oi k f3 hid hlj hli (hidx _ _ f2 hkj) hb) f1
      · rfl
  · intro i q k hi hq hki
    rcases hsplit i q hi hq with ⟨e1, e2, e3⟩ | ⟨rfl, rfl⟩
    · exact hI.nok i q k e3 hq (hidx _ _ e2 hki)
    · rw [hlen] at hki
      obtain rfl : bo = some k := by simpa using hki
      exact hI.nok id q k hid hq hb
  · intro k h
    rcases hF.okdn k h with h | h | ⟨i, q, h1, h2, h3, h4⟩
    · exact .inl h
    · exact .inr (.inl h)
    · refine .inr (.inr ⟨i, q, h1, h2, h3, getElem?_snoc_old ?_⟩)
      have := (List.getElem?_eq_some_iff.1 h4).1
      rw [List.getElem?_set]
      split
      · simp
      · exact h4
  · intro i b hl h; exact hρ i b (hF.rho i b hl h)
  · intro i q k hi hq hki
    rcases hsplit i q hi hq with ⟨e1, e2, e3⟩ | ⟨rfl, rfl⟩
    · exact hF.own i q k e3 hq (hidx _ _ e2 hki)
    · rw [hlen] at hki
      obtain rfl : bo = some k := by simpa using hki
      exact hF.own id q k hid hq hb
  · intro V v h; exact h.mono (fun _ _ => rfl) (fun _ h => h) (fun _ _ h => h) hρ

end
end Go.Fw

/- The abstract machine's state, and its steps that turn memory. -/
set_option linter.unusedSimpArgs false
set_option linter.unusedVariables false
namespace Go.Fw

/-- How many objects were handed in; or: a law's body (its memory begins at n); a body that gives data of memory from n on; a body that writes its data's memory. -/
inductive FX where
  | p (k : Nat)
  | law (n : Nat)
  | hi (n : Nat)
  | wild
  | bw

def FX.k : FX → Nat
  | .p k => k
  | .bw => 1
  | _ => 0
def FX.wr : FX → Bool
  | .wild => true
  | .bw => true
  | _ => false
def FX.kp : FX → Bool
  | .bw => false
  | _ => true

instance {k : Nat} : OfNat FX k := ⟨.p k⟩

def FxOk (x : Ctx) (fx : FX) : Prop := x.objs.length = fx.k ∧ (x.wr = fx.wr ∧ x.kp = fx.kp) ∧ (match fx with
  | .law n => x.w.heap.size = n ∧ ∀ b, x.ok b → b < n
  | .hi n => n ≤ x.w.heap.size
  | .wild => ∀ b, x.ok b → Unf x.w b
  | .p _ => True
  | .bw => True)

/-- What the slots hold, the objects; how many slots there are; how many objects were handed in. -/
structure St where
  env : List (Nat × V)
  objs : List O
  n : Nat
  fx : FX

def getE : List (Nat × V) → Nat → V
  | [], _ => .any
  | (i, v) :: e, j => if i = j then v else getE e j

def St.ev (s : St) : Operand → V
  | .tmp t => getE s.env t
  | .const v => constV v
  | .global _ => .any
  | .func f => .d (.fn f [])

def St.put (s : St) (dst : Option Nat) (v : V) : St :=
  match dst with
  | some d => { s with env := (d, v) :: s.env }
  | none => s

def St.new (s : St) (o : O) : St := { s with objs := s.objs ++ [o] }
def St.setO (s : St) (id : Nat) (o : O) : St := { s with objs := s.objs.set id o }

/-- The state stands for the frame's slots and the world, in a call that began at x. -/
def CC (x : Ctx) (s : St) (a : Act) (w : World) : Prop :=
  ∃ ok ρ, Inv w ok ρ s.objs ∧ Frm x w ok ρ s.objs ∧ (∀ j, VRep w ok ρ (getE s.env j) (a.tmps.getD j undef)) ∧ a.tmps.size = s.n ∧ a.defers = [] ∧ FxOk x s.fx

def rowsOf (sz : Nat) : List V → Option (List (List D))
  | [] => some []
  | v :: vs => match v.cells with
    | some cs => (match toDs cs with
      | some r => if r.length = sz then (match rowsOf sz vs with
        | some rs => some (r :: rs)
        | none => none) else none
      | none => none)
    | none => none

def putD (r : List D) (off : Nat) (new : List D) : List D := r.take off ++ new ++ r.drop (off + new.length)

/-- The rows that a value to be appended has. -/
def srcRows (objs : List O) : V → Option (List (List D))
  | .d (.lst rows) => some rows
  | .d (.raw (.slice _ 0 _)) => some []
  | .nils => some []
  | .msl id sz off len => match objs[id]? with
    | some (.arr sz' rows) => if sz = sz' ∧ off + len ≤ rows.length then some ((rows.drop off).take len) else none
    | _ => none
  | _ => none

/-- The steps that turn memory. -/
def aef (TT : Nat → Option TI) (s : St) (dst : Option Nat) (op : Op) (K : St → Prop) : Prop :=
  match op with
  | .alloc t => (match TT t with
    | some ti => K ((s.new (.box ti.zero)).put dst (.oref s.objs.length 0))
    | none => False)
  | .box t x => (match (s.ev x).cells with
    | some cs => K ((s.new (.box cs)).put dst (.oref s.objs.length 0))
    | none => False)
  | .buildSlice t len parts => (match elemOf TT t with
    | some e => parts.toList.map (·.1) = List.range len ∧ len * e.size ≤ 2 ^ 24 ∧ (match rowsOf e.size (parts.toList.map fun p => s.ev p.2) with
      | some rows => K ((s.new (.arr e.size rows)).put dst (.msl s.objs.length e.size 0 len))
      | none => False)
    | none => False)
  | .store t x v => (match TT t, (s.ev v).cells with
    | some ti, some new => dst = none ∧ new.length = ti.size ∧ (match s.ev x with
      | .oref id off => (match s.objs[id]? with
        | some (.box cells) => off + new.length ≤ cells.length ∧ K (s.setO id (.box (putAt cells off new)))
        | _ => False)
      | .aref id sz i off => (match s.objs[id]? with
        | some (.arr sz' rows) => sz = sz' ∧ (match rows[i]?, toDs new with
          | some r, some ds => off + ds.length ≤ r.length ∧ K (s.setO id (.arr sz' (rows.set i (putD r off ds))))
          | _, _ => False)
        | _ => False)
      | _ => False)
    | _, _ => False)
  | .makeSlice t l c => (match elemOf TT t with
    | some e => (match s.ev l, s.ev c, toDs e.zero with
      | .d (.int .i64 n), .d (.int .i64 m), some z => n = m ∧ 0 ≤ n ∧ n < 2 ^ 63 ∧ e.bytes * n ≤ 2 ^ 48 ∧ K ((s.new (.arr e.size (List.replicate n.toNat z))).put dst (.msl s.objs.length e.size 0 n.toNat))
      | _, _, _ => False)
    | none => False)
  | .call { callee := .builtin .append, args := args, argTypes := ts } => (match args.toList, ts.toList with
    | [x, y], [t, u] => (match elemOf TT t with
      | some e => isSlice (TT u) = true ∧ (match srcRows s.objs (s.ev y) with
        | some new => (∀ r ∈ new, r.length = e.size) ∧ e.bytes ≠ 0 ∧ (match s.ev x with
          | .nils => 2 * new.length * e.bytes ≤ 2 ^ 48 ∧ K ((s.new (.arr e.size new)).put dst (.msl s.objs.length e.size 0 new.length))
          | .msl id sz off len => (match s.objs[id]? with
            | some (.arr sz' rows) => off = 0 ∧ len = rows.length ∧ sz = e.size ∧ sz' = e.size ∧ 2 * (rows.length + new.length) * e.bytes ≤ 2 ^ 48 ∧
              K (((s.setO id .dead).new (.arr e.size (rows ++ new))).put dst (.msl s.objs.length e.size 0 (rows.length + new.length)))
            | _ => False)
          | _ => False)
        | none => False)
      | none => False)
    | _, _ => False)
  | _ => False

section
variable {P : Program} {TT : Nat → Option TI} {w w' : World} {ok : Nat → Prop} {ρ : List (Option Nat)} {x : Ctx} {s : St} {a : Act}

theorem ev_rep (h : ∀ j, VRep w ok ρ (getE s.env j) (a.tmps.getD j undef)) (o : Operand) : VRep w ok ρ (s.ev o) (a.eval o) := by
  cases o with
  | tmp t => exact h t
  | const v => exact constV_rep v w ok ρ
  | global g => exact .any
  | func f => exact .d (.fn rfl (by simp))

theorem put_rep {s : St} {a : Act} {dst : Option Nat} {V0 : V} {v : Value} (h : ∀ j, VRep w ok ρ (getE s.env j) (a.tmps.getD j undef)) (hv : VRep w ok ρ V0 v)
    (hd : ∀ d, dst = some d → d < a.tmps.size) : ∀ j, VRep w ok ρ (getE (s.put dst V0).env j) ((a.put dst v).tmps.getD j undef) := by
  intro j
  cases dst with
  | none => exact h j
  | some d =>
    have hd := hd d rfl
    simp only [St.put, getE, Act.put]
    by_cases e : d = j
    · subst e
      rw [if_pos rfl]
      simp only [Array.getD_eq_getD_getElem?, Array.getElem?_setIfInBounds_self, hd, if_true, Option.getD_some]
      exact hv
    · rw [if_neg e]
      simp only [Array.getD_eq_getD_getElem?, Array.getElem?_setIfInBounds_ne e]
      have := h j
      rwa [Array.getD_eq_getD_getElem?] at this

theorem put_size (dst : Option Nat) (v : Value) : (a.put dst v).tmps.size = a.tmps.size := by cases dst <;> simp [Act.put]
theorem put_defers (dst : Option Nat) (v : Value) : (a.put dst v).defers = a.defers := by cases dst <;> rfl
theorem St.put_objs (dst : Option Nat) (v : V) : (s.put dst v).objs = s.objs := by cases dst <;> rfl
theorem St.put_n (dst : Option Nat) (v : V) : (s.put dst v).n = s.n := by cases dst <;> rfl
theorem St.put_fx (dst : Option Nat) (v : V) : (s.put dst v).fx = s.fx := by cases dst <;> rfl

theorem run_storeCells (b off : Nat) : ∀ (l : List Value) (i : Nat) (w : World) (cs : Array Value) (t : TypeId), w.heap[b]? = some (.cells cs t (0, 0)) → off + i + l.length ≤ cs.size →
    (∀ v ∈ l, v.oneCell' = true) → ∃ w' cs', (storeCells ⟨b, off, none⟩ l i).run P w = .ok () w' ∧ w'.heap[b]? = some (.cells cs' t (0, 0)) ∧ cs'.size = cs.size ∧
      (∀ j, cs'.getD j undef = if off + i ≤ j ∧ j < off + i + l.length then l.getD (j - (off + i)) undef else cs.getD j undef) ∧ (∀ k, k ≠ b → w'.heap[k]? = w.heap[k]?) ∧
      w'.heap.size = w.heap.size ∧ w'.os = w.os ∧ w'.tape = w.tape ∧ w'.output = w.output := by
  intro l
  induction l with
  | nil =>
    intro i w cs t h _ _
    exact ⟨w, cs, rfl, h, rfl, fun j => by rw [if_neg (by simp only [List.length_nil]; omega)], fun _ _ => rfl, rfl, rfl, rfl, rfl⟩
  | cons v l ih =>
    intro i w cs t h hl ho
    simp only [List.length_cons] at hl
    have hlt : off + i < cs.size := by omega
    have hc : w.cell? ⟨b, off + i, none⟩ = some cs[off + i] := by simp [World.cell?, h, hlt]
    have hf : w.frozen? ⟨b, off + i, none⟩ = false := by simp [World.frozen?, h]
    have hb := (Array.getElem?_eq_some_iff.1 h).1
    have h1 : (w.setCell ⟨b, off + i, none⟩ v).heap[b]? = some (.cells (cs.setIfInBounds (off + i) v) t (0, 0)) := by
      simp [World.setCell, Array.getElem?_modify, h]
    obtain ⟨w', cs', r1, r2, r3, r4, r5, r6, r7, r8, r9⟩ := ih (i + 1) (w.setCell ⟨b, off + i, none⟩ v) _ t h1 (by simp; omega) (fun u hu => ho u (by simp [hu]))
    refine ⟨w', cs', ?_, r2, by rw [r3]; simp, fun j => ?_, fun k hk => ?_, by rw [r6]; simp [World.setCell], by rw [r7]; rfl, by rw [r8]; rfl, by rw [r9]; rfl⟩
    · simp only [storeCells, Sem.run_bind, addr_add]
      rw [run_store P w _ v _ (ho v (by simp)), hc]
      simp only [hf, Bool.false_eq_true, if_false, Result.andThen_ok]
      exact r1
    · rw [r4]
      by_cases c : off + (i + 1) ≤ j ∧ j < off + (i + 1) + l.length
      · rw [if_pos c, if_pos (by simp only [List.length_cons]; omega), show j - (off + i) = (j - (off + (i + 1))) + 1 by omega]
        simp
      · rw [if_neg c]
        by_cases e : j = off + i
        · subst e
          rw [if_pos (by simp only [List.length_cons]; omega)]
          simp [Array.getD_eq_getD_getElem?, hlt]
        · rw [if_neg (by simp only [List.length_cons]; omega)]
          simp only [Array.getD_eq_getD_getElem?, Array.getElem?_setIfInBounds_ne (Ne.symm e)]
    · rw [r5 k hk]
      simp only [World.setCell, Array.getElem?_modify]
      rw [if_neg (Ne.symm hk)]

/-- The step ends in a state of which K speaks. -/
def Ends (P : Program) (x : Ctx) (K : St → Prop) (a : Act) (dst : Option Nat) (s : Sem Next) (w : World) : Prop :=
  (∃ v w', s.run P w = .ok (.value v) w' ∧ ∃ s', K s' ∧ CC x s' (a.put dst v) w') ∨ (∃ w', s.run P w = .ok .skip w' ∧ ∃ s', K s' ∧ CC x s' (a.put dst undef) w')

/-- A new object, and its place or slice in a slot. -/
theorem ends_new {K : St → Prop} {dst : Option Nat} {q : Sem Next} {o : O} {V0 : V} {v : Value} (hI : Inv w ok ρ s.objs) (hF : Frm x w ok ρ s.objs) (hE : ∀ j, VRep w ok ρ (getE s.env j) (a.tmps.getD j undef))
    (hn : a.tmps.size = s.n) (hd : a.defers = []) (hx : FxOk x s.fx) (hdst : ∀ d, dst = some d → d < s.n)
    (hsz : w.heap.size ≤ w'.heap.size) (hold : ∀ b, b < w.heap.size → w'.heap[b]? = w.heap[b]?)
    (hos : w'.os = w.os) (htape : w'.tape = w.tape) (hout : w'.output = w.output) (bo : Option Nat) (hb : ∀ b, bo = some b → w.heap.size ≤ b)
    (ho : ORep w' ok (ρ ++ [bo]) s.objs.length o) (hv : VRep w' ok (ρ ++ [bo]) V0 v) (hr : q.run P w = .ok (.value v) w') (hK : K ((s.new o).put dst V0)) : Ends P x K a dst q w := by
  obtain ⟨h1, h2, h3⟩ := step_new hI hF hsz hold hos htape hout bo hb ho
  refine .inl ⟨v, w', hr, _, hK, ok, ρ ++ [bo], by rw [St.put_objs]; exact h1, by rw [St.put_objs]; exact h2, ?_, by rw [put_size, hn, St.put_n]; rfl, by rw [put_defers]; exact hd, by rw [St.put_fx]; exact hx⟩
  exact put_rep (s := s.new o) (fun j => h3 _ _ (hE j)) hv (fun d hd' => by rw [hn]; exact hdst d hd')

end
end Go.Fw

/- Why the model's steps that turn memory follow the abstract machine's. -/
set_option linter.unusedSimpArgs false
set_option linter.unusedVariables false
namespace Go.Fw

section
variable {P : Program} {TT : Nat → Option TI} {w w' : World} {ok : Nat → Prop} {ρ : List (Option Nat)} {x : Ctx} {s : St} {a : Act}

theorem push_old {w : World} (o : Obj) {b : Nat} (h : b < w.heap.size) : (w.heap.push o)[b]? = w.heap[b]? := by
  rw [Array.getElem?_push, if_neg (by omega)]

theorem push_new {w : World} (o : Obj) : (w.heap.push o)[w.heap.size]? = some o := by simp

theorem cells_new_rep {w : World} {cs : Array Value} {t : TypeId} {cells : List V} {n : Nat} (hn : cs.size = cells.length) (h : ∀ j c, cells[j]? = some c → VRep w ok ρ c (cs.getD j undef))
    (hok : ∀ b, ok b → b < w.heap.size) (hl : ρ.length = n) : ORep { w with heap := w.heap.push (.cells cs t (0, 0)) } ok (ρ ++ [some w.heap.size]) n (.box cells) := by
  refine ⟨w.heap.size, cs, t, by subst hl; simp, push_new _, hn, fun j c hj => (h j c hj).mono (fun b hb => push_old _ (hok b hb)) (fun _ h => h) (fun b s hs => ?_) (fun id b hb => getElem?_snoc_old hb)⟩
  have := shape_lt hs
  rw [shape_of_block (w := w) (push_old _ this)]; exact hs

theorem snoc_len {n b : Nat} (hl : ρ.length = n) : (ρ ++ [some b])[n]? = some (some b) := by subst hl; simp

theorem alloc_sound (hT : TOk P TT) {K : St → Prop} {dst : Option Nat} {t : TypeId} {ti : TI} (hI : Inv w ok ρ s.objs) (hF : Frm x w ok ρ s.objs)
    (hE : ∀ j, VRep w ok ρ (getE s.env j) (a.tmps.getD j undef)) (hn : a.tmps.size = s.n) (hd : a.defers = []) (hx : FxOk x s.fx) (hdst : ∀ d, dst = some d → d < s.n) (ht : TT t = some ti)
    (h : K ((s.new (.box ti.zero)).put dst (.oref s.objs.length 0))) : Ends P x K a dst (do pure (.value (← Instr.alloc t true (.tuple #[])))) w := by
  obtain ⟨i, h1, _, _, zv, h4, h5, h6, h7⟩ := (hT.facts ht).info
  have hz : ∀ w, (zeroValue t).run P w = .ok zv w := fun w => by simp [zeroValue, typeInfo, h1, h4]
  refine ends_new (w' := { w with heap := w.heap.push (.cells zv.cells t (0, 0)) }) hI hF hE hn hd hx hdst (by simp) (fun b hb => push_old _ hb) rfl rfl rfl (some w.heap.size) (fun b hb => by simp at hb; omega)
    (cells_new_rep h5 (fun j c hj => h7 j c hj w ok ρ) hI.okb hI.len) (.oref (snoc_len hI.len)) ?_ h
  simp [Instr.alloc, hz, newVar, newRow]

theorem box_sound {K : St → Prop} {dst : Option Nat} {t : TypeId} {y : Operand} {cs : List V} (hI : Inv w ok ρ s.objs) (hF : Frm x w ok ρ s.objs)
    (hE : ∀ j, VRep w ok ρ (getE s.env j) (a.tmps.getD j undef)) (hn : a.tmps.size = s.n) (hd : a.defers = []) (hx : FxOk x s.fx) (hdst : ∀ d, dst = some d → d < s.n) (hc : (s.ev y).cells = some cs)
    (h : K ((s.new (.box cs)).put dst (.oref s.objs.length 0))) : Ends P x K a dst (do pure (.value (← Instr.box t (a.eval y)))) w := by
  obtain ⟨h1, h2⟩ := cells_rep (ev_rep hE y) hc
  refine ends_new (w' := { w with heap := w.heap.push (.cells (a.eval y).cells t (0, 0)) }) hI hF hE hn hd hx hdst (by simp) (fun b hb => push_old _ hb) rfl rfl rfl (some w.heap.size) (fun b hb => by simp at hb; omega)
    (cells_new_rep h1 (fun j c hj => (h2 j c hj).1) hI.okb hI.len) (.oref (snoc_len hI.len)) ?_ h
  simp [Instr.box, newVar, newRow]

theorem row_index {sz i j i' j' : Nat} (hj : j < sz) (hj' : j' < sz) (h : i * sz + j = i' * sz + j') : i = i' ∧ j = j' := by
  have h1 : (i * sz + j) / sz = i := by rw [Nat.mul_comm, Nat.mul_add_div (by omega)]; simp [Nat.div_eq_of_lt hj]
  have h2 : (i' * sz + j') / sz = i' := by rw [Nat.mul_comm, Nat.mul_add_div (by omega)]; simp [Nat.div_eq_of_lt hj']
  have : i = i' := by rw [← h1, ← h2, h]
  subst this
  omega

theorem row_lt {sz i j n : Nat} (hi : i < n) (hj : j < sz) : i * sz + j < n * sz := by
  have : (i + 1) * sz ≤ n * sz := Nat.mul_le_mul_right _ hi
  rw [Nat.succ_mul] at this
  omega

theorem toDs_get : ∀ {cs : List V} {ds : List D}, toDs cs = some ds → ds.length = cs.length ∧ ∀ (j : Nat) y, ds[j]? = some y → ∃ c, cs[j]? = some c ∧ ∀ w ok ρ v, VRep w ok ρ c v → DRep w ok y v
  | [], ds, h => by obtain rfl : [] = ds := by simpa [toDs] using h
                    exact ⟨rfl, by simp⟩
  | c :: cs, ds, h => by
    simp only [toDs] at h
    split at h
    · rename_i y ys h1 h2
      obtain rfl : y :: ys = ds := by simpa using h
      obtain ⟨h3, h4⟩ := toDs_get h2
      refine ⟨by simp [h3], fun j z hj => ?_⟩
      cases j with
      | zero =>
        obtain rfl : y = z := by simpa using hj
        refine ⟨c, rfl, fun w ok ρ v hv => ?_⟩
        cases c <;> simp [V.toD] at h1
        · subst h1; cases hv with | d hv => exact hv
        · subst h1; cases hv; exact .nil
        · subst h1; cases hv with | hd hv => exact .hi hv
      | succ j => exact h4 j z (by simpa using hj)
    · simp at h

/-- What rows look like as cells in a row. -/
def RowsIn (w : World) (ok : Nat → Prop) (sz : Nat) (rows : List (List D)) (cs : Array Value) : Prop :=
  cs.size = rows.length * sz ∧ ∀ i j r y, rows[i]? = some r → r[j]? = some y → DRep w ok y (cs.getD (i * sz + j) undef)

theorem rowsOf_fill {sz : Nat} : ∀ (vs : List V) (us : List Value) (rows : List (List D)) (k : Nat) (cs : Array Value), rowsOf sz vs = some rows → vs.length = us.length →
    (∀ (j : Nat) c v, vs[j]? = some c → us[j]? = some v → VRep w ok ρ c v) → (k + us.length) * sz ≤ cs.size →
    ∃ out, Instr.fill (fun i => some (i * sz, sz)) cs ((List.range' k us.length).zip us) = some out ∧ out.size = cs.size ∧ rows.length = vs.length ∧ (∀ r ∈ rows, r.length = sz) ∧
      (∀ j, j < k * sz → out.getD j undef = cs.getD j undef) ∧ (∀ i j r y, rows[i]? = some r → r[j]? = some y → DRep w ok y (out.getD ((k + i) * sz + j) undef)) := by
  intro vs
  induction vs with
  | nil =>
    intro us rows k cs h hl _ _
    cases us with
    | cons => simp at hl
    | nil => obtain rfl : [] = rows := by simpa [rowsOf] using h
             exact ⟨cs, rfl, rfl, rfl, by simp, fun _ _ => rfl, by simp⟩
  | cons c vs ih =>
    intro us rows k cs h hl hr hsz
    cases us with
    | nil => simp at hl
    | cons u us =>
      simp only [rowsOf] at h
      split at h
      · rename_i cl hcl
        split at h
        · rename_i r hr1
          split at h
          · rename_i hrl
            split at h
            · rename_i rs hrs
              obtain rfl : r :: rs = rows := by simpa using h
              obtain ⟨c1, c2⟩ := cells_rep (hr 0 c u rfl rfl) hcl
              obtain ⟨d1, d2⟩ := toDs_get hr1
              simp only [List.length_cons] at hsz
              have hk : (k + 1) * sz ≤ (k + (us.length + 1)) * sz := Nat.mul_le_mul_right _ (by omega)
              rw [Nat.succ_mul] at hk
              obtain ⟨f1, f2⟩ := foldl_set (k * sz) u.cells.toList 0 cs (by simp; omega)
              obtain ⟨out, o1, o2, o3, o4, o5, o6⟩ := ih us rs (k + 1) _ hrs (by simpa using hl) (fun j c v h1 h2 => hr (j + 1) c v (by simpa using h1) (by simpa using h2))
                (by rw [f1, show k + 1 + us.length = k + (us.length + 1) by omega]; exact hsz)
              refine ⟨out, ?_, by rw [o2, f1], by simp [o3], ?_, ?_, ?_⟩
              · rw [List.length_cons, List.range'_succ, List.zip_cons_cons, Instr.fill]
                simp only
                rw [if_neg (by simp; omega)]
                rw [← o1]
                congr 1
                rw [← Array.foldl_toList]
                simp
              · intro r' hr'
                rcases List.mem_cons.1 hr' with rfl | hr'
                · exact hrl
                · exact o4 r' hr'
              · intro j hj
                rw [o5 j (by rw [Nat.succ_mul]; omega), f2, if_neg (by omega)]
              · intro i j r' y hi hj
                cases i with
                | zero =>
                  obtain rfl : r = r' := by simpa using hi
                  have hjl := (List.getElem?_eq_some_iff.1 hj).1
                  obtain ⟨cc, e1, e2⟩ := d2 j y hj
                  have := (c2 j cc e1).1
                  rw [Nat.add_zero, o5 _ (by rw [Nat.succ_mul]; omega), f2, if_pos (by simp; omega)]
                  refine e2 w ok ρ _ ?_
                  rw [show k * sz + j - (k * sz + 0) = j by omega]
                  simpa [Array.getD_eq_getD_getElem?] using this
                | succ i =>
                  have := o6 i j r' y (by simpa using hi) hj
                  rw [show k + (i + 1) = k + 1 + i by omega]; exact this
            · simp at h
          · simp at h
        · simp at h
      · simp at h

theorem arr_new_rep {w w' : World} {cs : Array Value} {t : TypeId} {sz n : Nat} {rows : List (List D)} (hr : ∀ r ∈ rows, r.length = sz) (hsz : rows.length * sz ≤ cs.size)
    (h : ∀ i j r y, rows[i]? = some r → r[j]? = some y → DRep w ok y (cs.getD (i * sz + j) undef)) (hok : ∀ b, ok b → b < w.heap.size) (hl : ρ.length = n)
    (hw : w'.heap = w.heap.push (.cells cs t (0, 0))) : ORep w' ok (ρ ++ [some w.heap.size]) n (.arr sz rows) := by
  refine ⟨hr, .inr ⟨w.heap.size, cs, t, snoc_len hl, by rw [hw]; exact push_new _, hsz, fun i j r y hi hj => (h i j r y hi hj).mono (fun b hb => ?_) (fun _ h => h)⟩⟩
  rw [hw]; exact push_old _ (hok b hb)

theorem buildSlice_sound (hT : TOk P TT) {K : St → Prop} {dst : Option Nat} {t : TypeId} {len : Nat} {parts : Array (Nat × Operand)} {e : TI} {rows : List (List D)} (hI : Inv w ok ρ s.objs) (hF : Frm x w ok ρ s.objs)
    (hE : ∀ j, VRep w ok ρ (getE s.env j) (a.tmps.getD j undef)) (hn : a.tmps.size = s.n) (hd : a.defers = []) (hx : FxOk x s.fx) (hdst : ∀ d, dst = some d → d < s.n) (he : elemOf TT t = some e)
    (hp : parts.toList.map (·.1) = List.range len) (hsz : len * e.size ≤ 2 ^ 24) (hrows : rowsOf e.size (parts.toList.map fun p => s.ev p.2) = some rows)
    (h : K ((s.new (.arr e.size rows)).put dst (.msl s.objs.length e.size 0 len))) : Ends P x K a dst (do pure (.value (← Instr.buildSlice t len (parts.map fun (i, x) => (i, a.eval x))))) w := by
  obtain ⟨et, hu, hf⟩ := elemOf_spec hT he
  have hs := hf.run_sizeOf w
  obtain ⟨i, h1, _, _, zv, h4, h5, h6, h7⟩ := hf.info
  have hz : (zeroValue et).run P w = .ok zv w := by simp [zeroValue, typeInfo, h1, h4]
  have hplen : parts.toList.length = len := by have := congrArg List.length hp; simpa using this
  let us := parts.toList.map fun p => a.eval p.2
  have hul : us.length = len := by simp [us, ← hplen]
  have hparts : (parts.map fun (i, x) => (i, a.eval x)).toList = (List.range' 0 us.length).zip us := by
    rw [hul, ← List.range_eq_range', ← hp]
    simp only [Array.toList_map, us]
    generalize parts.toList = l
    clear_value us
    clear hp hplen hrows h hul
    induction l with
    | nil => rfl
    | cons p l ih => simp [ih]
  let zs : Array Value := if len * e.size = 0 then #[] else zv.cells
  obtain ⟨out, o1, o2, o3, o4, o5, o6⟩ := rowsOf_fill (w := w) (ok := ok) (ρ := ρ) _ us rows 0 ((Array.range (len * e.size)).map (zs[· % zs.size]!)) hrows (by simp [us]) (fun j c v q1 q2 => by
    rw [List.getElem?_map] at q1
    simp only [us, List.getElem?_map] at q2
    cases hq : parts.toList[j]? with
    | none => rw [hq] at q1; simp at q1
    | some r =>
      rw [hq] at q1 q2
      obtain rfl : s.ev r.2 = c := by simpa using q1
      obtain rfl : a.eval r.2 = v := by simpa using q2
      exact ev_rep hE _) (by simp [hul])
  have hsize : out.size = len * e.size := by rw [o2]; simp
  have hrl : rows.length = len := by rw [o3]; simpa using hplen
  refine ends_new (w' := { w with heap := w.heap.push (.cells out et (0, 0)) }) (v := .slice (some ⟨w.heap.size, 0, none⟩) len len) hI hF hE hn hd hx hdst (by simp) (fun b hb => push_old _ hb) rfl rfl rfl (some w.heap.size) (fun b hb => by simp at hb; omega)
    (arr_new_rep o4 (by rw [hsize, hrl]; omega) (fun i j r y q1 q2 => by have := o6 i j r y q1 q2; rwa [Nat.zero_add] at this) hI.okb hI.len rfl) ?_ ?_ h
  · have := VRep.msl (w := { w with heap := w.heap.push (.cells out et (0, 0)) }) (ok := ok) (ρ := ρ ++ [some w.heap.size]) (id := s.objs.length) (sz := e.size) (off := 0) (len := len) (cap := len) (t := et) (n := out.size) (snoc_len hI.len) (Nat.le_refl _) (by simp [World.shape?]) (by rw [Nat.zero_add, hsize]; omega)
    rwa [Nat.zero_mul] at this
  · simp only [Instr.buildSlice, Sem.run_bind, run_underlying (w := w) hu, Result.andThen_ok, hs]
    rw [if_neg (by omega)]
    by_cases c : len * e.size = 0
    · have hzs : zs = #[] := if_pos c
      rw [hzs] at o1
      rw [if_pos c]
      simp only [Sem.run_bind, Sem.run_pure, Result.andThen_ok]
      rw [hparts, o1]
      simp [newRow]
    · have hzs : zs = zv.cells := if_neg c
      rw [hzs] at o1
      rw [if_neg c]
      simp only [Sem.run_bind, hz, Sem.run_pure, Result.andThen_ok]
      rw [hparts, o1]
      simp [newRow]


/-- What the building of a slice does. -/
theorem buildSlice_run (hT : TOk P TT) {t : TypeId} {len : Nat} {parts : Array (Nat × Operand)} {e : TI} {rows : List (List D)}
    (hE : ∀ j, VRep w ok ρ (getE s.env j) (a.tmps.getD j undef)) (he : elemOf TT t = some e)
    (hp : parts.toList.map (·.1) = List.range len) (hsz : len * e.size ≤ 2 ^ 24) (hrows : rowsOf e.size (parts.toList.map fun p => s.ev p.2) = some rows) :
    ∃ out et, out.size = len * e.size ∧ rows.length = len ∧ (∀ r ∈ rows, r.length = e.size) ∧ (∀ i j r y, rows[i]? = some r → r[j]? = some y → DRep w ok y (out.getD (i * e.size + j) undef)) ∧
      (do pure (Next.value (← Instr.buildSlice t len (parts.map fun (i, x) => (i, a.eval x))))).run P w = .ok (.value (.slice (some ⟨w.heap.size, 0, none⟩) len len)) { w with heap := w.heap.push (.cells out et (0, 0)) } := by
  obtain ⟨et, hu, hf⟩ := elemOf_spec hT he
  have hs := hf.run_sizeOf w
  obtain ⟨i, h1, _, _, zv, h4, h5, h6, h7⟩ := hf.info
  have hz : (zeroValue et).run P w = .ok zv w := by simp [zeroValue, typeInfo, h1, h4]
  have hplen : parts.toList.length = len := by have := congrArg List.length hp; simpa using this
  let us := parts.toList.map fun p => a.eval p.2
  have hul : us.length = len := by simp [us, ← hplen]
  have hparts : (parts.map fun (i, x) => (i, a.eval x)).toList = (List.range' 0 us.length).zip us := by
    rw [hul, ← List.range_eq_range', ← hp]
    simp only [Array.toList_map, us]
    generalize parts.toList = l
    clear_value us
    clear hp hplen hrows hul
    induction l with
    | nil => rfl
    | cons p l ih => simp [ih]
  let zs : Array Value := if len * e.size = 0 then #[] else zv.cells
  obtain ⟨out, o1, o2, o3, o4, o5, o6⟩ := rowsOf_fill (w := w) (ok := ok) (ρ := ρ) _ us rows 0 ((Array.range (len * e.size)).map (zs[· % zs.size]!)) hrows (by simp [us]) (fun j c v q1 q2 => by
    rw [List.getElem?_map] at q1
    simp only [us, List.getElem?_map] at q2
    cases hq : parts.toList[j]? with
    | none => rw [hq] at q1; simp at q1
    | some r =>
      rw [hq] at q1 q2
      obtain rfl : s.ev r.2 = c := by simpa using q1
      obtain rfl : a.eval r.2 = v := by simpa using q2
      exact ev_rep hE _) (by simp [hul])
  have hsize : out.size = len * e.size := by rw [o2]; simp
  have hrl : rows.length = len := by rw [o3]; simpa using hplen
  refine ⟨out, et, hsize, hrl, o4, fun i j r y q1 q2 => by have := o6 i j r y q1 q2; rwa [Nat.zero_add] at this, ?_⟩
  simp only [Instr.buildSlice, Sem.run_bind, run_underlying (w := w) hu, Result.andThen_ok, hs]
  rw [if_neg (by omega)]
  by_cases c : len * e.size = 0
  · have hzs : zs = #[] := if_pos c
    rw [hzs] at o1
    rw [if_pos c]
    simp only [Sem.run_bind, Sem.run_pure, Result.andThen_ok]
    rw [hparts, o1]
    simp [newRow]
  · have hzs : zs = zv.cells := if_neg c
    rw [hzs] at o1
    rw [if_neg c]
    simp only [Sem.run_bind, hz, Sem.run_pure, Result.andThen_ok]
    rw [hparts, o1]
    simp [newRow]

end
end Go.Fw

/- Why the model's steps that turn memory follow the abstract machine's: stores, made slices. -/
set_option linter.unusedSimpArgs false
set_option linter.unusedVariables false
namespace Go.Fw

section
variable {P : Program} {TT : Nat → Option TI} {w w' : World} {ok : Nat → Prop} {ρ : List (Option Nat)} {x : Ctx} {s : St} {a : Act}

theorem storeVar_run {t : TypeId} {ti : TI} (ht : TFacts P t ti) {b off : Nat} {v : Value} {new : List V} {cs : Array Value} {bt : TypeId} {V0 : V} (hb : w.heap[b]? = some (.cells cs bt (0, 0)))
    (hv : VRep w ok ρ V0 v) (hc : V0.cells = some new) (hl : new.length = ti.size) (hsz : off + new.length ≤ cs.size) :
    ∃ w' cs', (Instr.storeAt t (.pointer (some ⟨b, off, none⟩)) v).run P w = .ok () w' ∧ w'.heap[b]? = some (.cells cs' bt (0, 0)) ∧ cs'.size = cs.size ∧
      (∀ j, off ≤ j → j < off + new.length → cs'.getD j undef = v.cells.getD (j - off) undef) ∧ (∀ j, (j < off ∨ off + new.length ≤ j) → cs'.getD j undef = cs.getD j undef) ∧ (∀ k, k ≠ b → w'.heap[k]? = w.heap[k]?) ∧
      w'.heap.size = w.heap.size ∧ w'.os = w.os ∧ w'.tape = w.tape ∧ w'.output = w.output := by
  obtain ⟨c1, c2⟩ := cells_rep hv hc
  have hone : ∀ u ∈ v.cells.toList, u.oneCell' = true := by
    intro u hu
    obtain ⟨j, hj⟩ := List.mem_iff_getElem?.1 hu
    have hjl := (List.getElem?_eq_some_iff.1 hj).1
    simp at hjl
    have hn : j < new.length := by omega
    have := (c2 j _ (List.getElem?_eq_getElem hn)).2
    have e : v.cells.getD j undef = u := by
      simp at hj
      simp [Array.getD_eq_getD_getElem?, hj]
    rwa [e] at this
  obtain ⟨w', cs', r1, r2, r3, r4, r5, r6, r7, r8, r9⟩ := run_storeCells (P := P) b off v.cells.toList 0 w cs bt hb (by simp; omega) hone
  refine ⟨w', cs', ?_, r2, r3, ?_, ?_, r5, r6, r7, r8, r9⟩
  · simp only [Instr.storeAt, Instr.sureAddr, Sem.run_bind, Sem.run_pure, Result.andThen_ok, storeVar, ht.run_sizeOf]
    rw [if_neg (by omega)]
    exact r1
  · intro j h1 h2
    rw [r4, if_pos (by simp; omega)]
    simp [List.getD_eq_getElem?_getD, Array.getD_eq_getD_getElem?]
  · intro j h1
    rw [r4, if_neg (by simp; omega)]

theorem putAt_get {cs new : List V} {off j : Nat} {c : V} (h : (putAt cs off new)[j]? = some c) (hl : off + new.length ≤ cs.length) :
    (off ≤ j ∧ j < off + new.length ∧ new[j - off]? = some c) ∨ ((j < off ∨ off + new.length ≤ j) ∧ cs[j]? = some c) := by
  simp only [putAt] at h
  have hmin : min off cs.length = off := by omega
  by_cases c1 : j < off
  · rw [List.append_assoc, List.getElem?_append_left (by simp; omega), List.getElem?_take, if_pos c1] at h
    exact .inr ⟨.inl c1, h⟩
  · by_cases c2 : j < off + new.length
    · rw [List.append_assoc, List.getElem?_append_right (by simp; omega), List.getElem?_append_left (by simp; omega)] at h
      simp only [List.length_take, hmin] at h
      exact .inl ⟨by omega, c2, h⟩
    · rw [List.getElem?_append_right (by simp; omega), List.getElem?_drop] at h
      simp only [List.length_append, List.length_take, hmin] at h
      rw [show off + new.length + (j - (off + new.length)) = j by omega] at h
      exact .inr ⟨.inr (by omega), h⟩

theorem putD_get {r ds : List D} {off j : Nat} {y : D} (h : (putD r off ds)[j]? = some y) (hl : off + ds.length ≤ r.length) :
    (off ≤ j ∧ j < off + ds.length ∧ ds[j - off]? = some y) ∨ ((j < off ∨ off + ds.length ≤ j) ∧ r[j]? = some y) := by
  simp only [putD] at h
  have hmin : min off r.length = off := by omega
  by_cases c1 : j < off
  · rw [List.append_assoc, List.getElem?_append_left (by simp; omega), List.getElem?_take, if_pos c1] at h
    exact .inr ⟨.inl c1, h⟩
  · by_cases c2 : j < off + ds.length
    · rw [List.append_assoc, List.getElem?_append_right (by simp; omega), List.getElem?_append_left (by simp; omega)] at h
      simp only [List.length_take, hmin] at h
      exact .inl ⟨by omega, c2, h⟩
    · rw [List.getElem?_append_right (by simp; omega), List.getElem?_drop] at h
      simp only [List.length_append, List.length_take, hmin] at h
      rw [show off + ds.length + (j - (off + ds.length)) = j by omega] at h
      exact .inr ⟨.inr (by omega), h⟩

theorem putD_length {r ds : List D} {off : Nat} (hl : off + ds.length ≤ r.length) : (putD r off ds).length = r.length := by
  simp [putD]; omega

/-- A store to an object, given what the store leaves. -/
theorem ends_write {K : St → Prop} {dst : Option Nat} {q : Sem Next} {o o' : O} {id b : Nat} (hI : Inv w ok ρ s.objs) (hF : Frm x w ok ρ s.objs) (hE : ∀ j, VRep w ok ρ (getE s.env j) (a.tmps.getD j undef))
    (hn : a.tmps.size = s.n) (hd : a.defers = []) (hx : FxOk x s.fx) (hdst : dst = none) (hid : s.objs[id]? = some o) (hl : o.live = true) (hb : ρ[id]? = some (some b))
    (hsz : w'.heap.size = w.heap.size) (hold : ∀ k, k ≠ b → w'.heap[k]? = w.heap[k]?) (hsh : w'.shape? b = w.shape? b)
    (hos : w'.os = w.os) (htape : w'.tape = w.tape) (hout : w'.output = w.output) (ho : ORep w' ok ρ id o') (hl' : o'.live = true) (hr : q.run P w = .ok .skip w') (hK : K (s.setO id o')) : Ends P x K a dst q w := by
  obtain ⟨h1, h2, h3⟩ := step_write hI hF hid hl hb hsz hold hsh hos htape hout ho hl'
  subst hdst
  exact .inr ⟨w', hr, _, hK, ok, ρ, h1, h2, fun j => h3 _ _ (hE j), hn, hd, hx⟩

theorem store_sound (hT : TOk P TT) {K : St → Prop} {dst : Option Nat} {t : TypeId} {y v : Operand} {ti : TI} {new : List V} (hI : Inv w ok ρ s.objs) (hF : Frm x w ok ρ s.objs)
    (hE : ∀ j, VRep w ok ρ (getE s.env j) (a.tmps.getD j undef)) (hn : a.tmps.size = s.n) (hd : a.defers = []) (hx : FxOk x s.fx) (hdst : dst = none) (ht : TT t = some ti) (hc : (s.ev v).cells = some new)
    (hl : new.length = ti.size) (h : match s.ev y with
      | .oref id off => (match s.objs[id]? with
        | some (.box cells) => off + new.length ≤ cells.length ∧ K (s.setO id (.box (putAt cells off new)))
        | _ => False)
      | .aref id sz i off => (match s.objs[id]? with
        | some (.arr sz' rows) => sz = sz' ∧ (match rows[i]?, toDs new with
          | some r, some ds => off + ds.length ≤ r.length ∧ K (s.setO id (.arr sz' (rows.set i (putD r off ds))))
          | _, _ => False)
        | _ => False)
      | _ => False) : Ends P x K a dst (do Instr.storeAt t (a.eval y) (a.eval v); pure .skip) w := by
  have hy := ev_rep hE y
  have hv := ev_rep hE v
  obtain ⟨c1, c2⟩ := cells_rep hv hc
  split at h
  · rename_i id off he
    rw [he] at hy
    split at h
    · rename_i cells ho
      obtain ⟨hle, h⟩ := h
      obtain ⟨b, cs, bt, o1, o2, o3, o4⟩ := hI.own _ _ ho
      generalize hye : a.eval y = yv at hy
      cases hy with | oref hb =>
      rw [o1] at hb
      obtain rfl : b = _ := by simpa using hb
      obtain ⟨w', cs', r1, r2, r3, r4, r5, r6, r7, r8, r9, r10⟩ := storeVar_run (hT.facts ht) (off := off) o2 hv hc hl (by omega)
      have hshape : ∀ k q, w.shape? k = some q → w'.shape? k = some q := by
        intro k q hq
        by_cases e : k = b
        · subst e; simp only [World.shape?, o2, r2] at hq ⊢; rw [r3]; exact hq
        · rw [shape_of_block (r6 k e)]; exact hq
      have hokb : ∀ k, ok k → w'.heap[k]? = w.heap[k]? := fun k hk => r6 k (fun e => hI.nok _ _ b ho rfl o1 (e ▸ hk))
      refine ends_write hI hF hE hn hd hx hdst ho rfl o1 r7 r6 (by simp [World.shape?, o2, r2, r3]) r8 r9 r10 ?_ rfl (by rw [Sem.run_bind, r1]; rfl) h
      refine ⟨b, cs', bt, o1, r2, by rw [r3, o3]; simp [putAt]; omega, fun j c hj => ?_⟩
      rcases putAt_get hj hle with ⟨e1, e2, e3⟩ | ⟨e1, e2⟩
      · rw [r4 j e1 e2]
        exact (c2 _ _ e3).1.mono hokb (fun _ h => h) hshape (fun _ _ h => h)
      · rw [r5 j e1]
        exact (o4 j c e2).mono hokb (fun _ h => h) hshape (fun _ _ h => h)
    · exact h.elim
  · rename_i id sz i off he
    rw [he] at hy
    split at h
    · rename_i sz' rows ho
      obtain ⟨rfl, h⟩ := h
      split at h
      · rename_i r ds hr hds
        obtain ⟨hle, h⟩ := h
        obtain ⟨d1, d2⟩ := toDs_get hds
        obtain ⟨o0, o1⟩ := hI.own _ _ ho
        have hi := (List.getElem?_eq_some_iff.1 hr).1
        have hrl := o0 r (List.mem_of_getElem? hr)
        rcases o1 with ⟨e1, _⟩ | ⟨b, cs, bt, o1, o2, o3, o4⟩
        · subst e1; simp at hi
        generalize hye : a.eval y = yv at hy
        cases hy with | aref hb =>
        rw [o1] at hb
        obtain rfl : b = _ := by simpa using hb
        have hi2 : (i + 1) * sz ≤ rows.length * sz := Nat.mul_le_mul_right _ hi
        rw [Nat.succ_mul] at hi2
        obtain ⟨w', cs', r1, r2, r3, r4, r5, r6, r7, r8, r9, r10⟩ := storeVar_run (hT.facts ht) (off := i * sz + off) o2 hv hc hl (by omega)
        have hokb : ∀ k, ok k → w'.heap[k]? = w.heap[k]? := fun k hk => r6 k (fun e => hI.nok _ _ b ho rfl o1 (e ▸ hk))
        refine ends_write hI hF hE hn hd hx hdst ho rfl o1 r7 r6 (by simp [World.shape?, o2, r2, r3]) r8 r9 r10 ?_ rfl (by rw [Sem.run_bind, r1]; rfl) h
        refine ⟨fun r' hr' => ?_, .inr ⟨b, cs', bt, o1, r2, by rw [r3, List.length_set]; exact o3, fun i' j r' z hi' hj => ?_⟩⟩
        · rcases List.mem_or_eq_of_mem_set hr' with hr' | rfl
          · exact o0 r' hr'
          · rw [putD_length hle]; exact hrl
        · by_cases e : i' = i
          · subst e
            rw [List.getElem?_set_self hi] at hi'
            obtain rfl : putD r off ds = r' := by simpa using hi'
            rcases putD_get hj hle with ⟨e1, e2, e3⟩ | ⟨e1, e2⟩
            · obtain ⟨c, f1, f2⟩ := d2 _ _ e3
              rw [r4 _ (by omega) (by omega), show i' * sz + j - (i' * sz + off) = j - off by omega]
              exact (f2 _ _ _ _ (c2 _ _ f1).1).mono hokb (fun _ h => h)
            · rw [r5 _ (by omega)]
              exact (o4 _ _ _ _ hr e2).mono hokb (fun _ h => h)
          · rw [List.getElem?_set_ne (Ne.symm e)] at hi'
            have hj' : j < sz := by have := (List.getElem?_eq_some_iff.1 hj).1; have := o0 r' (List.mem_of_getElem? hi'); omega
            rw [r5 _ ?_]
            · exact (o4 _ _ _ _ hi' hj).mono hokb (fun _ h => h)
            · rcases Nat.lt_or_ge i' i with hlt | hge
              · have : (i' + 1) * sz ≤ i * sz := Nat.mul_le_mul_right _ hlt
                rw [Nat.succ_mul] at this
                omega
              · have : (i + 1) * sz ≤ i' * sz := Nat.mul_le_mul_right _ (by omega)
                rw [Nat.succ_mul] at this
                omega
      · exact h.elim
    · exact h.elim
  · exact h.elim

theorem wrap_i64 {n : Int} (h0 : 0 ≤ n) (h1 : n < 2 ^ 63) : IntKind.i64.wrap n = n := by
  simp [IntKind.wrap, IntKind.bits, IntKind.signed]
  omega

theorem zero_row {e : TI} {zv : Value} {z : List D} (hz : toDs e.zero = some z) (h5 : zv.cells.size = e.zero.length) (h7 : ∀ (j : Nat) (c : V), e.zero[j]? = some c → ∀ w ok ρ, VRep w ok ρ c (zv.cells.getD j undef)) :
    z.length = e.zero.length ∧ ∀ (j : Nat) y, z[j]? = some y → DRep w ok y (zv.cells.getD j undef) := by
  obtain ⟨d1, d2⟩ := toDs_get hz
  refine ⟨d1, fun j y hj => ?_⟩
  obtain ⟨c, e1, e2⟩ := d2 j y hj
  exact e2 w ok [] _ (h7 j c e1 w ok [])

theorem makeSlice_sound (hT : TOk P TT) {K : St → Prop} {dst : Option Nat} {t : TypeId} {l c : Operand} {e : TI} {n : Int} {z : List D} (hI : Inv w ok ρ s.objs) (hF : Frm x w ok ρ s.objs)
    (hE : ∀ j, VRep w ok ρ (getE s.env j) (a.tmps.getD j undef)) (hn : a.tmps.size = s.n) (hd : a.defers = []) (hx : FxOk x s.fx) (hdst : ∀ d, dst = some d → d < s.n) (he : elemOf TT t = some e)
    (hl : s.ev l = .d (.int .i64 n)) (hc : s.ev c = .d (.int .i64 n)) (hz : toDs e.zero = some z) (h0 : 0 ≤ n) (h1 : n < 2 ^ 63) (h2 : e.bytes * n ≤ 2 ^ 48)
    (h : K ((s.new (.arr e.size (List.replicate n.toNat z))).put dst (.msl s.objs.length e.size 0 n.toNat))) : Ends P x K a dst (do pure (.value (← Instr.makeSlice t (a.eval l) (a.eval c)))) w := by
  obtain ⟨et, hu, hf⟩ := elemOf_spec hT he
  have hs := hf.run_sizeOf w
  obtain ⟨i, i1, i2, i3, zv, i4, i5, i6, i7⟩ := hf.info
  have hzv : (zeroValue et).run P w = .ok zv w := by simp [zeroValue, typeInfo, i1, i4]
  have hlv := ev_rep hE l
  have hcv := ev_rep hE c
  rw [hl] at hlv
  rw [hc] at hcv
  obtain ⟨z1, z2⟩ := zero_row (w := w) (ok := ok) hz i5 i7
  let zs : Array Value := if n.toNat * e.size = 0 then #[] else zv.cells
  let out := (Array.range (n.toNat * e.size)).map (zs[· % zs.size]!)
  have hout : out.size = n.toNat * e.size := by simp [out]
  refine ends_new (w' := { w with heap := w.heap.push (.cells out et (0, 0)) }) (v := .slice (some ⟨w.heap.size, 0, none⟩) n.toNat n.toNat) hI hF hE hn hd hx hdst (by simp) (fun b hb => push_old _ hb) rfl rfl rfl (some w.heap.size) (fun b hb => by simp at hb; omega)
    (arr_new_rep (fun r hr => by rw [List.eq_of_mem_replicate hr, z1, i6]) (by rw [hout]; simp) ?_ hI.okb hI.len rfl) ?_ ?_ h
  · intro i j r y hi hj
    have hin : i < n.toNat := by have := (List.getElem?_eq_some_iff.1 hi).1; simpa using this
    rw [List.getElem?_replicate, if_pos hin] at hi
    obtain rfl : z = r := by simpa using hi
    have hjl := (List.getElem?_eq_some_iff.1 hj).1
    have hjs : j < e.size := by omega
    have hlt : i * e.size + j < n.toNat * e.size := row_lt hin hjs
    have hzs : zs = zv.cells := if_neg (by omega)
    have : out.getD (i * e.size + j) undef = zv.cells.getD j undef := by
      simp only [out, hzs, Array.getD_eq_getD_getElem?, Array.getElem?_map]
      rw [Array.getElem?_range, if_pos hlt]
      simp only [Option.map_some, Option.getD_some]
      rw [show zv.cells.size = e.size by omega, Nat.mul_comm, Nat.mul_add_mod, Nat.mod_eq_of_lt hjs]
      simp [show j < zv.cells.size by omega]
    rw [this]
    exact z2 j y hj
  · have := VRep.msl (w := { w with heap := w.heap.push (.cells out et (0, 0)) }) (ok := ok) (ρ := ρ ++ [some w.heap.size]) (id := s.objs.length) (sz := e.size) (off := 0) (len := n.toNat) (cap := n.toNat) (t := et) (n := out.size) (snoc_len hI.len) (Nat.le_refl _) (by simp [World.shape?]) (by rw [Nat.zero_add, hout]; omega)
    rwa [Nat.zero_mul] at this
  · have hbool : (decide (n < 0) || decide ((e.bytes : Int) * n > 2 ^ 48)) = false := by simp; omega
    have hti : (typeInfo et).run P w = .ok i w := by simp [typeInfo, i1]
    rw [hlv.int_eq, hcv.int_eq]
    simp only [Instr.makeSlice, Sem.run_bind, run_underlying (w := w) hu, Result.andThen_ok, hs, asInt, asIntOf, Sem.run_pure, hti, i3, wrap_i64 h0 h1, hbool, Bool.false_or]
    rw [if_neg (by simp; omega)]
    simp only [Sem.run_bind, run_askRoom, Result.andThen_ok, hs]
    by_cases cz : n.toNat * e.size = 0
    · have hzs : zs = #[] := if_pos cz
      rw [if_pos cz]
      simp [newRow, out, hzs]
    · have hzs : zs = zv.cells := if_neg cz
      rw [if_neg cz]
      simp [newRow, out, hzs, hzv]

end
end Go.Fw

/- Why the model's steps that turn memory follow the abstract machine's: append; all of them together. -/
set_option linter.unusedSimpArgs false
set_option linter.unusedVariables false
namespace Go.Fw

section
variable {P : Program} {TT : Nat → Option TI} {w w' : World} {ok : Nat → Prop} {ρ : List (Option Nat)} {x : Ctx} {s : St} {a : Act}

theorem nextslicecap_le {need old : Nat} (h : old < need) : Builtin.nextslicecap need old ≤ 2 * need := by
  have hg : ∀ r c, c < need ∨ (256 ≤ need ∧ c ≤ 2 * need) → 256 ≤ need → Builtin.growBy need r c ≤ 2 * need := by
    intro r
    induction r with
    | zero => intro c h _; simp only [Builtin.growBy]; omega
    | succ r ih =>
      intro c h h2
      simp only [Builtin.growBy]
      split
      · omega
      · refine ih _ (.inr ⟨h2, by omega⟩) h2
  unfold Builtin.nextslicecap
  split
  · omega
  · split
    · omega
    · exact hg _ _ (.inl (by omega)) (by omega)

/-- The cells that a slice's rows fill. -/
def FillsRows (P : Program) (w : World) (ok : Nat → Prop) (sz : Nat) (rows : List (List D)) (v : Value) : Prop :=
  (∃ a n cap, v = .slice a n cap ∧ n = rows.length) ∧ ∃ cs : Array Value, (∀ w' : World, w'.heap = w.heap → (Builtin.firstCells sz rows.length v).run P w' = .ok cs w') ∧ cs.size = rows.length * sz ∧
    ∀ i j r y, rows[i]? = some r → r[j]? = some y → DRep w ok y (cs.getD (i * sz + j) undef) ∧ (cs.getD (i * sz + j) undef).oneCell' = true

theorem D_one {d : D} {v : Value} (h : DRep w ok d v) : v.oneCell' = true := by
  induction h with
  | raw h => exact h
  | wx _ _ ih => exact ih
  | hi _ ih => exact ih
  | _ => rfl

theorem fills_of {sz b off cap : Nat} {rows : List (List D)} {vs : Nat → Nat → Value} (hsz : ∀ r ∈ rows, r.length = sz)
    (hc : ∀ i j r y, rows[i]? = some r → r[j]? = some y → w.cell? ⟨b, off + (i * sz + j), none⟩ = some (vs i j))
    (hd : ∀ i j r y, rows[i]? = some r → r[j]? = some y → DRep w ok y (vs i j)) : FillsRows P w ok sz rows (.slice (some ⟨b, off, none⟩) rows.length cap) := by
  refine ⟨⟨_, _, _, rfl, rfl⟩, ?_⟩
  let f : Nat → Value := fun k => vs (k / sz) (k % sz)
  have hr := fun (w' : World) (hw : w'.heap = w.heap) => run_loadCells (P := P) w' ⟨b, off, none⟩ (rows.length * sz) f (fun k hk => by
    have hs : 0 < sz := by rcases Nat.eq_zero_or_pos sz with h | h
                           · subst h; simp at hk
                           · exact h
    have hi : k / sz < rows.length := (Nat.div_lt_iff_lt_mul hs).2 hk
    have hj : k % sz < sz := Nat.mod_lt _ hs
    have hl := hsz _ (List.getElem_mem hi)
    rw [addr_add]
    have := hc (k / sz) (k % sz) _ _ (List.getElem?_eq_getElem hi) (List.getElem?_eq_getElem (by omega))
    rw [Nat.mul_comm, Nat.div_add_mod] at this
    rw [World.cell?_of_block (w := w) (by rw [hw])]
    exact this)
  refine ⟨_, fun w' hw => by have := hr w' hw; simpa [Builtin.firstCells] using this, by simp, fun i j r y hi hj => ?_⟩
  have hil := (List.getElem?_eq_some_iff.1 hi).1
  have hjl : j < sz := by have := (List.getElem?_eq_some_iff.1 hj).1; have := hsz r (List.mem_of_getElem? hi); omega
  have hlt := row_lt (sz := sz) hil hjl
  have e : (((List.range (rows.length * sz)).map f).toArray).getD (i * sz + j) undef = vs i j := by
    have h1 : (i * sz + j) / sz = i := by rw [Nat.mul_comm, Nat.mul_add_div (by omega)]; simp [Nat.div_eq_of_lt hjl]
    have h2 : (i * sz + j) % sz = j := by rw [Nat.mul_comm, Nat.mul_add_mod]; exact Nat.mod_eq_of_lt hjl
    simp [Array.getD_eq_getD_getElem?, hlt, f, h1, h2]
  rw [e]
  exact ⟨hd i j r y hi hj, D_one (hd i j r y hi hj)⟩

theorem fills_empty {sz n cap : Nat} {o : Option Addr} : FillsRows P w ok sz [] (.slice o 0 cap) := by
  refine ⟨⟨_, _, _, rfl, rfl⟩, #[], fun w' _ => ?_, by simp, by simp⟩
  cases o with
  | none => simp [Builtin.firstCells]
  | some b => simp [Builtin.firstCells, loadCells, loadCellsFrom]

theorem arr_slice_fills {id sz off len : Nat} {rows : List (List D)} {v : Value} (hI : Inv w ok ρ s.objs) (ho : s.objs[id]? = some (.arr sz rows)) (hle : off + len ≤ rows.length)
    (hv : VRep w ok ρ (.msl id sz off len) v) : FillsRows P w ok sz ((rows.drop off).take len) v := by
  obtain ⟨h0, h1⟩ := hI.own _ _ ho
  cases hv with
  | msl0 h => 
    have : (rows.drop off).take 0 = [] := by simp
    rw [this]
    exact fills_empty (n := 0)
  | @msl _ _ _ _ cap b t n hb hc hs hn =>
    rcases h1 with ⟨e1, e2⟩ | ⟨b', cs, bt, o1, o2, o3, o4⟩
    · rw [hb] at e2; simp at e2
    rw [o1] at hb
    obtain rfl : b' = b := by simpa using hb
    have hlen : ((rows.drop off).take len).length = len := by simp; omega
    have := fills_of (P := P) (w := w) (ok := ok) (sz := sz) (b := b') (off := off * sz) (cap := cap) (rows := (rows.drop off).take len) (vs := fun i j => cs.getD ((off + i) * sz + j) undef)
      (fun r hr => h0 r (List.mem_of_mem_drop (List.mem_of_mem_take hr))) (fun i j r y hi hj => ?_) (fun i j r y hi hj => ?_)
    · rwa [hlen] at this
    · rw [List.getElem?_take] at hi
      split at hi
      · rw [List.getElem?_drop] at hi
        have hil := (List.getElem?_eq_some_iff.1 hi).1
        have hjl : j < sz := by have := (List.getElem?_eq_some_iff.1 hj).1; have := h0 r (List.mem_of_getElem? hi); omega
        have hlt := row_lt (sz := sz) hil hjl
        have hlt2 : (off + i) * sz + j < cs.size := by omega
        rw [show off * sz + (i * sz + j) = (off + i) * sz + j by rw [Nat.add_mul]; omega]
        simp [World.cell?, o2, Array.getD, hlt2]
      · simp at hi
    · rw [List.getElem?_take] at hi
      split at hi
      · rw [List.getElem?_drop] at hi
        exact o4 _ _ _ _ hi hj
      · simp at hi

theorem src_fills {y : V} {sz : Nat} {rows : List (List D)} {v : Value} (hI : Inv w ok ρ s.objs) (h : srcRows s.objs y = some rows) (hsz : ∀ r ∈ rows, r.length = sz) (hv : VRep w ok ρ y v) :
    FillsRows P w ok sz rows v := by
  unfold srcRows at h
  split at h
  · rename_i rows'
    obtain rfl : rows' = rows := by simpa using h
    cases hv with | d hv =>
    cases hv with
    | nil => exact fills_empty (n := 0)
    | @lst _ _ sz' b off cap vs hok hsz' hcap hc hd =>
      cases rows' with
      | nil => exact fills_empty (n := 0)
      | cons r rs =>
        obtain rfl : sz' = sz := by rw [← hsz r (by simp), ← hsz' r (by simp)]
        exact fills_of hsz hc hd
  · obtain rfl : [] = rows := by simpa using h
    cases hv with | d hv =>
    cases hv
    exact fills_empty (n := 0)
  · obtain rfl : [] = rows := by simpa using h
    cases hv
    exact fills_empty (n := 0)
  · rename_i id sz' off len
    split at h
    · rename_i sz2 rows' ho
      split at h
      · rename_i hle
        obtain rfl : (rows'.drop off).take len = rows := by simpa using h
        by_cases he : (rows'.drop off).take len = []
        · rw [he]
          have hl0 : len = 0 := by
            have := congrArg List.length he
            simp at this
            omega
          subst hl0
          cases hv with
          | msl0 => exact fills_empty (n := 0)
          | msl => exact fills_empty (n := 0)
        · obtain ⟨r, hr⟩ := List.exists_mem_of_ne_nil _ he
          obtain ⟨h0, _⟩ := hI.own _ _ ho
          obtain ⟨rfl, hle⟩ := hle
          obtain rfl : sz' = sz := by rw [← h0 r (List.mem_of_mem_drop (List.mem_of_mem_take hr)), hsz r hr]
          exact arr_slice_fills hI ho hle hv
      · simp at h
    · simp at h
  · simp at h

theorem isSlice_not_int {u : TypeId} (hT : TOk P TT) (h : isSlice (TT u) = true) : ∃ e, P.underlying u = some (.slice e) := by
  cases ht : TT u with
  | none => rw [ht] at h; simp [isSlice] at h
  | some ti => rw [ht] at h; exact isSlice_und (hT.facts ht) h

/-- append where a new array is made. -/
theorem append_new {t u ty : TypeId} {et eu : TypeId} {e : TI} {base : Option Addr} {sLen sCap : Nat} {rows new : List (List D)} {yv : Value}
    (ht : P.underlying t = some (.slice et)) (hu : P.underlying u = some (.slice eu)) (hf : TFacts P et e) (hrows : FillsRows P w ok e.size rows (.slice base sLen sCap)) (hnew : FillsRows P w ok e.size new yv)
    (hr : ∀ r ∈ rows ++ new, r.length = e.size) (hcap : sCap < sLen + new.length) (hb : 2 * (rows.length + new.length) * e.bytes ≤ 2 ^ 48) (hbp : e.bytes ≠ 0) (hok : ∀ b, ok b → b < w.heap.size) :
    ∃ w' cs c, (Builtin.append_ #[t, u] ty #[.slice base sLen sCap, yv]).run P w = .ok (.slice (some ⟨w.heap.size, 0, none⟩) (rows.length + new.length) c) w' ∧ w'.heap = w.heap.push (.cells cs et (0, 0)) ∧
      w'.os = w.os ∧ w'.tape = w.tape ∧ w'.output = w.output ∧ rows.length + new.length ≤ c ∧ c * e.size ≤ cs.size ∧
      (∀ i j r y, (rows ++ new)[i]? = some r → r[j]? = some y → DRep w ok y (cs.getD (i * e.size + j) undef)) := by
  obtain ⟨⟨a1, n1, c1, hv1, hn1⟩, cs1, hf1, hs1, hd1⟩ := hrows
  obtain ⟨⟨a2, n2, c2, hv2, hn2⟩, cs2, hf2, hs2, hd2⟩ := hnew
  obtain ⟨rfl, rfl, rfl⟩ : base = a1 ∧ sLen = n1 ∧ sCap = c1 := by simpa using hv1
  subst hv2
  subst hn1 hn2
  have hs := fun w => hf.run_sizeOf (w := w)
  obtain ⟨i, i1, i2, i3, zv, i4, i5, i6, i7⟩ := hf.info
  have hzv : ∀ w, (zeroValue et).run P w = .ok zv w := fun w => by simp [zeroValue, typeInfo, i1, i4]
  have hti : ∀ w, (typeInfo et).run P w = .ok i w := fun w => by simp [typeInfo, i1]
  let need := rows.length + new.length
  let q : Question := .appendCap need sCap et
  let newCap := q.cut (w.tape w.drawn q)
  have hnc : need ≤ newCap := by simp only [newCap, q, Question.cut]; omega
  let wd : World := { w with drawn := w.drawn + 1 }
  let out := cs1 ++ cs2 ++ Builtin.zeroCells zv.cells (newCap - need)
  have hzs : (Builtin.zeroCells zv.cells (newCap - need)).size = (newCap - need) * e.size := by simp [Builtin.zeroCells, i5, i6]
  have hos : out.size = newCap * e.size := by
    simp only [out, Array.size_append, hs1, hs2, hzs, ← Nat.add_mul]
    congr 1
    omega
  refine ⟨{ wd with heap := wd.heap.push (.cells out et (0, 0)) }, out, newCap, ?_, rfl, rfl, rfl, rfl, hnc, by rw [hos]; exact Nat.le_refl _, ?_⟩
  · have hbig : ¬ Builtin.nextslicecap need sCap * i.bytes > 2 ^ 48 := by
      have h1 := nextslicecap_le (need := need) (old := sCap) hcap
      have := Nat.mul_le_mul_right i.bytes h1
      rw [i3] at this ⊢
      simp only [need] at this hb ⊢
      omega
    have hchoose : (choose q).run P w = .ok newCap wd := by
      simp [choose, Sem.run, q, Question.forced, newCap, wd]
    have hu' : (underlying u).run P w = .ok (.slice eu) w := run_underlying (w := w) hu
    have ht' : (underlying t).run P w = .ok (.slice et) w := run_underlying (w := w) ht
    unfold Builtin.append_
    simp only [Sem.run_bind, ht', hs, Result.andThen_ok, hu', Builtin.lenOf, Sem.run_pure, List.getElem?_toArray, List.getElem?_cons_zero, List.getElem?_cons_succ, Bool.false_eq_true, if_false, false_or, false_and]
    rw [if_neg (by omega)]
    have hq : choose (Question.appendCap (rows.length + new.length) sCap et) = choose q := rfl
    have hbz : ¬ (((rows.length + new.length : Nat) : Int) > IntKind.i64.max ∧ i.bytes = 0) := fun h => hbp (i3 ▸ h.2)
    simp only [Sem.run_bind, hti, Result.andThen_ok]
    rw [if_neg hbz]
    simp only [Sem.run_bind, hti, Result.andThen_ok]
    rw [if_neg hbig, hq]
    have e1 := hf1 wd rfl
    have e2 := hf2 wd rfl
    simp only [Sem.run_bind, hchoose, Result.andThen_ok, hti, run_askRoom, e1, Bool.not_false, if_true, e2, hzv, newRow, run_newObj, Sem.run_pure]
    rfl
  · intro k j r y hi hj
    rcases Nat.lt_or_ge k rows.length with hk | hk
    · rw [List.getElem?_append_left hk] at hi
      have hjl : j < e.size := by have := (List.getElem?_eq_some_iff.1 hj).1; have := hr r (List.mem_append_left _ (List.mem_of_getElem? hi)); omega
      have hlt := row_lt (sz := e.size) hk hjl
      have : out.getD (k * e.size + j) undef = cs1.getD (k * e.size + j) undef := by
        simp only [out, Array.getD_eq_getD_getElem?]
        rw [Array.append_assoc, Array.getElem?_append_left (by omega)]
      rw [this]
      exact (hd1 k j r y hi hj).1
    · rw [List.getElem?_append_right hk] at hi
      have hkl := (List.getElem?_eq_some_iff.1 hi).1
      have hjl : j < e.size := by have := (List.getElem?_eq_some_iff.1 hj).1; have := hr r (List.mem_append_right _ (List.mem_of_getElem? hi)); omega
      have hlt := row_lt (sz := e.size) hkl hjl
      have e1 : k * e.size + j - rows.length * e.size = (k - rows.length) * e.size + j := by
        rw [Nat.sub_mul]
        have : rows.length * e.size ≤ k * e.size := Nat.mul_le_mul_right _ hk
        omega
      have : out.getD (k * e.size + j) undef = cs2.getD ((k - rows.length) * e.size + j) undef := by
        simp only [out, Array.getD_eq_getD_getElem?]
        have : rows.length * e.size ≤ k * e.size := Nat.mul_le_mul_right _ hk
        rw [Array.append_assoc, Array.getElem?_append_right (by omega), hs1, e1, Array.getElem?_append_left (by omega)]
      rw [this]
      exact (hd2 _ j r y hi hj).1

/-- append where there is room. -/
theorem append_here {t u ty : TypeId} {et eu : TypeId} {e : TI} {base : Option Addr} {sLen sCap : Nat} {new : List (List D)} {yv : Value}
    (ht : P.underlying t = some (.slice et)) (hu : P.underlying u = some (.slice eu)) (hf : TFacts P et e) (hnew : FillsRows P w ok e.size new yv)
    (hr : ∀ r ∈ new, r.length = e.size) (hcap : sLen + new.length ≤ sCap) {b : Nat} {cs : Array Value} {bt : TypeId} (hbase : base = some ⟨b, 0, none⟩) (hblk : w.heap[b]? = some (.cells cs bt (0, 0)))
    (hroom : sCap * e.size ≤ cs.size) :
    ∃ w' cs', (Builtin.append_ #[t, u] ty #[.slice base sLen sCap, yv]).run P w = .ok (.slice base (sLen + new.length) sCap) w' ∧ w'.heap[b]? = some (.cells cs' bt (0, 0)) ∧ cs'.size = cs.size ∧
      (∀ k, k ≠ b → w'.heap[k]? = w.heap[k]?) ∧ w'.heap.size = w.heap.size ∧ w'.os = w.os ∧ w'.tape = w.tape ∧ w'.output = w.output ∧
      (∀ j, j < sLen * e.size → cs'.getD j undef = cs.getD j undef) ∧
      (∀ i j r y, new[i]? = some r → r[j]? = some y → DRep w ok y (cs'.getD ((sLen + i) * e.size + j) undef)) := by
  obtain ⟨⟨a2, n2, c2, hv2, hn2⟩, cs2, hf2, hs2, hd2⟩ := hnew
  subst hv2
  subst hn2
  have hs := hf.run_sizeOf (w := w)
  have hone : ∀ v ∈ cs2.toList, v.oneCell' = true := by
    intro v hv
    obtain ⟨k, hk⟩ := List.mem_iff_getElem?.1 hv
    have hkl : k < cs2.size := by have := (List.getElem?_eq_some_iff.1 hk).1; simpa using this
    have hs0 : 0 < e.size := by
      rcases Nat.eq_zero_or_pos e.size with h | h
      · rw [h] at hs2; simp at hs2; subst hs2; simp at hkl
      · exact h
    rw [hs2] at hkl
    have hi : k / e.size < new.length := (Nat.div_lt_iff_lt_mul hs0).2 hkl
    have hj : k % e.size < e.size := Nat.mod_lt _ hs0
    have hl := hr _ (List.getElem_mem hi)
    have := (hd2 (k / e.size) (k % e.size) _ _ (List.getElem?_eq_getElem hi) (List.getElem?_eq_getElem (by omega))).2
    rw [Nat.mul_comm, Nat.div_add_mod] at this
    have e1 : cs2.getD k undef = v := by
      simp at hk
      simp [Array.getD_eq_getD_getElem?, hk]
    rwa [e1] at this
  have hroom2 : (sLen + new.length) * e.size ≤ sCap * e.size := Nat.mul_le_mul_right _ hcap
  rw [Nat.add_mul] at hroom2
  obtain ⟨w', cs', r1, r2, r3, r4, r5, r6, r7, r8, r9⟩ := run_storeCells (P := P) b (sLen * e.size) cs2.toList 0 w cs bt hblk (by simp [hs2]; omega) hone
  refine ⟨w', cs', ?_, r2, r3, r5, r6, r7, r8, r9, ?_, ?_⟩
  · have hu' : (underlying u).run P w = .ok (.slice eu) w := run_underlying (w := w) hu
    have ht' : (underlying t).run P w = .ok (.slice et) w := run_underlying (w := w) ht
    have e2 := hf2 w rfl
    unfold Builtin.append_
    simp only [Sem.run_bind, ht', hs, Result.andThen_ok, hu', Builtin.lenOf, Sem.run_pure, List.getElem?_toArray, List.getElem?_cons_zero, List.getElem?_cons_succ, Bool.false_eq_true, if_false, false_or, false_and]
    rw [if_pos hcap]
    simp only [Bool.not_false, if_true, Sem.run_bind, e2, Result.andThen_ok, hbase, addr_add]
    simp only [Nat.zero_add, r1, Result.andThen_ok, Sem.run_pure, Sem.run_bind]
  · intro j hj
    rw [r4, if_neg (by omega)]
  · intro i j r y hi hj
    have hil := (List.getElem?_eq_some_iff.1 hi).1
    have hjl : j < e.size := by have := (List.getElem?_eq_some_iff.1 hj).1; have := hr r (List.mem_of_getElem? hi); omega
    have hlt := row_lt (sz := e.size) hil hjl
    rw [r4, if_pos (by simp [hs2, Nat.add_mul]; omega)]
    have := (hd2 i j r y hi hj).1
    rw [show (sLen + i) * e.size + j - (sLen * e.size + 0) = i * e.size + j by rw [Nat.add_mul]; omega]
    simpa [Array.getD_eq_getD_getElem?, List.getD_eq_getElem?_getD] using this

/-- append of nothing to nothing. -/
theorem append_none {t u ty : TypeId} {et eu : TypeId} {e : TI} {base : Option Addr} {sCap : Nat} {yv : Value}
    (ht : P.underlying t = some (.slice et)) (hu : P.underlying u = some (.slice eu)) (hf : TFacts P et e) (hnew : FillsRows P w ok e.size [] yv) :
    (Builtin.append_ #[t, u] ty #[.slice base 0 sCap, yv]).run P w = .ok (.slice base 0 sCap) w := by
  obtain ⟨⟨a2, n2, c2, hv2, hn2⟩, cs2, hf2, hs2, hd2⟩ := hnew
  subst hv2
  subst hn2
  have hs := hf.run_sizeOf (w := w)
  have hu' : (underlying u).run P w = .ok (.slice eu) w := run_underlying (w := w) hu
  have ht' : (underlying t).run P w = .ok (.slice et) w := run_underlying (w := w) ht
  have e2 := hf2 w rfl
  have hcs : cs2 = #[] := by simpa using hs2
  subst hcs
  unfold Builtin.append_
  simp only [Sem.run_bind, ht', hs, Result.andThen_ok, hu', Builtin.lenOf, Sem.run_pure, List.getElem?_toArray, List.getElem?_cons_zero, List.getElem?_cons_succ, Bool.false_eq_true, if_false, false_or, false_and]
  rw [if_pos (by simp)]
  simp only [Bool.not_false, if_true, Sem.run_bind, e2, Result.andThen_ok]
  cases base <;> simp [storeCells]

theorem append_sound (hT : TOk P TT) {K : St → Prop} {dst : Option Nat} {t u ty : TypeId} {xo yo : Operand} {e : TI} {new : List (List D)} (hI : Inv w ok ρ s.objs) (hF : Frm x w ok ρ s.objs)
    (hE : ∀ j, VRep w ok ρ (getE s.env j) (a.tmps.getD j undef)) (hn : a.tmps.size = s.n) (hd : a.defers = []) (hx : FxOk x s.fx) (hdst : ∀ d, dst = some d → d < s.n) (he : elemOf TT t = some e) (hu : isSlice (TT u) = true)
    (hsrc : srcRows s.objs (s.ev yo) = some new) (hr : ∀ r ∈ new, r.length = e.size) (hbp : e.bytes ≠ 0) (h : match s.ev xo with
          | .nils => 2 * new.length * e.bytes ≤ 2 ^ 48 ∧ K ((s.new (.arr e.size new)).put dst (.msl s.objs.length e.size 0 new.length))
          | .msl id sz off len => (match s.objs[id]? with
            | some (.arr sz' rows) => off = 0 ∧ len = rows.length ∧ sz = e.size ∧ sz' = e.size ∧ 2 * (rows.length + new.length) * e.bytes ≤ 2 ^ 48 ∧
              K (((s.setO id .dead).new (.arr e.size (rows ++ new))).put dst (.msl s.objs.length e.size 0 (rows.length + new.length)))
            | _ => False)
          | _ => False) : Ends P x K a dst (do pure (.value (← Builtin.append_ #[t, u] ty #[a.eval xo, a.eval yo]))) w := by
  obtain ⟨et, ht, hf⟩ := elemOf_spec hT he
  obtain ⟨eu, hu⟩ := isSlice_not_int hT hu
  have hnew := src_fills (P := P) hI hsrc hr (ev_rep hE yo)
  have hxo := ev_rep hE xo
  generalize a.eval xo = xv at hxo
  generalize a.eval yo = yv at hnew
  split at h
  · rename_i hxe
    obtain ⟨hb, h⟩ := h
    rw [hxe] at hxo
    cases hxo
    cases hnn : new with
    | nil =>
      subst hnn
      have hrun := append_none (P := P) (w := w) (ok := ok) (ty := ty) (base := none) (sCap := 0) ht hu hf hnew
      exact ends_new (w' := w) hI hF hE hn hd hx hdst (Nat.le_refl _) (fun _ _ => rfl) rfl rfl rfl none (fun b hb => by simp at hb) (o := .arr e.size []) ⟨by simp, .inl ⟨rfl, by rw [← hI.len]; simp⟩⟩ (.msl0 (by rw [← hI.len]; simp)) (by rw [Sem.run_bind, hrun]; rfl) h
    | cons r rs =>
      obtain ⟨w', cs, c, hrun, hh, hos, htp, hout, hle, hcs, hd2⟩ := append_new (P := P) (w := w) (ok := ok) (ty := ty) (base := none) (sLen := 0) (sCap := 0) (rows := []) ht hu hf (fills_empty (n := 0)) hnew (by simpa using hr) (by rw [hnn]; simp) (by simpa using hb) hbp hI.okb
      simp only [List.length_nil, Nat.zero_add] at hrun hle
      refine ends_new (w' := w') hI hF hE hn hd hx hdst (by rw [hh]; simp) (fun b hb => by rw [hh]; exact push_old _ hb) hos htp hout (some w.heap.size) (fun b hb => by simp at hb; omega)
        (arr_new_rep (w := w) (cs := cs) (t := et) hr (Nat.le_trans (Nat.mul_le_mul_right _ hle) hcs) hd2 hI.okb hI.len hh) ?_ (by rw [Sem.run_bind, hrun]; rfl) h
      have := VRep.msl (w := w') (ok := ok) (ρ := ρ ++ [some w.heap.size]) (id := s.objs.length) (sz := e.size) (off := 0) (len := new.length) (cap := c) (t := et) (n := cs.size) (snoc_len hI.len) hle (by simp [World.shape?, hh]) (by rw [Nat.zero_add]; exact hcs)
      rwa [Nat.zero_mul] at this
  · rename_i id sz off len hxe
    rw [hxe] at hxo
    split at h
    · rename_i sz' rows ho
      obtain ⟨rfl, rfl, rfl, rfl, hb, h⟩ := h
      obtain ⟨h0, hrep⟩ := hI.own _ _ ho
      have hall : ∀ r ∈ rows ++ new, r.length = e.size := by
        intro r hr'
        rcases List.mem_append.1 hr' with h1 | h1
        · exact h0 r h1
        · exact hr r h1
      have hrows : FillsRows P w ok e.size rows xv := by
        have := arr_slice_fills (P := P) hI ho (off := 0) (len := rows.length) (by omega) hxo
        simpa using this
      -- where a new array is made
      have hgrow : ∀ base sCap, xv = .slice base rows.length sCap → sCap < rows.length + new.length → Ends P x K a dst (do pure (.value (← Builtin.append_ #[t, u] ty #[xv, yv]))) w := by
        intro base sCap hxv hlt
        subst hxv
        obtain ⟨w', cs, c, hrun, hh, hos, htp, hout, hle, hcs, hd2⟩ := append_new (P := P) (w := w) (ok := ok) (ty := ty) ht hu hf hrows hnew hall hlt hb hbp hI.okb
        obtain ⟨hI2, hF2⟩ := step_kill hI hF id
        have hl2 : (s.setO id .dead).objs.length = s.objs.length := by simp [St.setO]
        refine ends_new (s := s.setO id .dead) (w' := w') hI2 hF2 hE hn hd hx hdst (by rw [hh]; simp) (fun b hb => by rw [hh]; exact push_old _ hb) hos htp hout (some w.heap.size) (fun b hb => by simp at hb; omega)
          (arr_new_rep (w := w) (cs := cs) (t := et) hall (by rw [List.length_append]; exact Nat.le_trans (Nat.mul_le_mul_right _ hle) hcs) hd2 hI.okb (by rw [hl2]; exact hI.len) hh) ?_ (by rw [Sem.run_bind, hrun]; rfl) h
        have := VRep.msl (w := w') (ok := ok) (ρ := ρ ++ [some w.heap.size]) (id := s.objs.length) (sz := e.size) (off := 0) (len := rows.length + new.length) (cap := c) (t := et) (n := cs.size) (snoc_len hI.len) hle (by simp [World.shape?, hh]) (by rw [Nat.zero_add]; exact hcs)
        rwa [Nat.zero_mul] at this
      generalize hL : rows.length = L at hxo
      cases hxo with
      | @msl0 _ _ _ base hid =>
        have hrn : rows = [] := List.length_eq_zero_iff.1 hL
        cases hnn : new with
        | nil =>
          subst hnn hrn
          have hrun := append_none (P := P) (w := w) (ok := ok) (ty := ty) (base := base) (sCap := 0) ht hu hf hnew
          obtain ⟨hI2, hF2⟩ := step_kill hI hF id
          have hl2 : (s.setO id .dead).objs.length = s.objs.length := by simp [St.setO]
          exact ends_new (s := s.setO id .dead) (w' := w) hI2 hF2 hE hn hd hx hdst (Nat.le_refl _) (fun _ _ => rfl) rfl rfl rfl none (fun b hb => by simp at hb) (o := .arr e.size []) ⟨by simp, .inl ⟨rfl, by rw [hl2, ← hI.len]; simp⟩⟩
            (.msl0 (by rw [← hI.len]; simp)) (by rw [Sem.run_bind, hrun]; rfl) h
        | cons r rs => exact hgrow base 0 (by rw [hL]) (by rw [hnn]; simp only [List.length_cons]; omega)
      | @msl _ _ _ _ cap b bt n hb' hc hs hn' =>
        by_cases hroom : rows.length + new.length ≤ cap
        · rcases hrep with ⟨e1, e2⟩ | ⟨b', cs, bt', o1, o2, o3, o4⟩
          · rw [hb'] at e2; simp at e2
          rw [o1] at hb'
          obtain rfl : b' = b := by simpa using hb'
          have hsz : n = cs.size := by simp [World.shape?, o2] at hs; exact hs.2.symm
          subst hL
          obtain ⟨w', cs', hrun, r2, r3, r5, r6, r7, r8, r9, q1, q2⟩ := append_here (P := P) (w := w) (ok := ok) (ty := ty) (base := some ⟨b', 0 * e.size, none⟩) (b := b') ht hu hf hnew hr hroom (by simp) o2 (by rw [Nat.zero_add] at hn'; omega)
          have hsh : w'.shape? b' = w.shape? b' := by simp [World.shape?, o2, r2, r3]
          have hokb : ∀ k, ok k → w'.heap[k]? = w.heap[k]? := fun k hk => r5 k (fun q => hI.nok _ _ b' ho rfl o1 (q ▸ hk))
          have hroom2 : (rows.length + new.length) * e.size ≤ cap * e.size := Nat.mul_le_mul_right _ hroom
          rw [Nat.zero_add] at hn'
          have horep : ORep w' ok ρ id (.arr e.size (rows ++ new)) := by
            refine ⟨hall, .inr ⟨b', cs', bt', o1, r2, by rw [r3, List.length_append]; omega, fun i j r y hi hj => ?_⟩⟩
            rcases Nat.lt_or_ge i rows.length with hk | hk
            · rw [List.getElem?_append_left hk] at hi
              have hjl : j < e.size := by have := (List.getElem?_eq_some_iff.1 hj).1; have := h0 r (List.mem_of_getElem? hi); omega
              rw [q1 _ (row_lt hk hjl)]
              exact (o4 i j r y hi hj).mono hokb (fun _ h => h)
            · rw [List.getElem?_append_right hk] at hi
              have := q2 _ j r y hi hj
              rw [show rows.length + (i - rows.length) = i by omega] at this
              exact this.mono hokb (fun _ h => h)
          obtain ⟨hI2, hF2, hV2⟩ := step_write hI hF ho rfl o1 r6 r5 hsh r7 r8 r9 horep rfl
          have hlt := (List.getElem?_eq_some_iff.1 ho).1
          obtain ⟨hI3, hF3, hV3⟩ := step_move hI2 hF2 (id := id) (o := .arr e.size (rows ++ new)) (bo := some b') (by rw [List.getElem?_set_self hlt]) o1
          have hset : (s.objs.set id (.arr e.size (rows ++ new))).set id .dead = s.objs.set id .dead := by rw [List.set_set]
          rw [hset] at hI3 hF3
          refine .inl ⟨.slice (some ⟨b', 0 * e.size, none⟩) (rows.length + new.length) cap, w', by rw [Sem.run_bind, hrun]; rfl, _, h, ok, ρ ++ [some b'], by rw [St.put_objs]; exact hI3, by rw [St.put_objs]; exact hF3, ?_, by rw [put_size, hn, St.put_n]; rfl, by rw [put_defers]; exact hd, by rw [St.put_fx]; exact hx⟩
          refine put_rep (s := (s.setO id .dead).new (.arr e.size (rows ++ new))) (fun j => hV3 _ _ (hV2 _ _ (hE j))) ?_ (fun d hd' => by rw [hn]; exact hdst d hd')
          refine .msl (snoc_len hI.len) hroom (t := bt') (n := cs'.size) (by simp [World.shape?, r2]) ?_
          rw [Nat.zero_add, r3]; omega
        · exact hgrow _ cap (by rw [hL]) (by omega)
    · exact h.elim
  · exact h.elim

end
end Go.Fw

/- Calls: what a function's contract says, and what a caller gets of it. -/
set_option linter.unusedSimpArgs false
set_option linter.unusedVariables false
namespace Go.Fw

/-- A function with a body. -/
def callable (P : Program) (f : Nat) : Bool :=
  match P.funcs[f]? with
  | some fn => fn.name != "runtime.NumGoroutine" && fn.body.isSome
  | none => false

/-- The function f, called with these values and objects, returns a value and objects of which Post speaks; nothing else is turned. -/
structure ACon (P : Program) (f : Nat) (args : List V) (objs : List O) (Post : V → List O → Prop) : Prop where
  body : callable P f = true
  run : ∀ (w : World) (ok : Nat → Prop) (ρ : List (Option Nat)) (vs : Array Value), Inv w ok ρ objs → vs.size = args.length → (∀ (i : Nat) x, args[i]? = some x → VRep w ok ρ x (vs.getD i undef)) →
    Calls P f vs w fun e w' => ∃ v r objs' ok' ρ', e = .returned v ∧ Post r objs' ∧ Inv w' ok' ρ' objs' ∧ VRep w' ok' ρ' r v ∧ Frm ⟨w, ok, ρ, objs, false, true⟩ w' ok' ρ' objs'

theorem ACon.mono {P : Program} {f : Nat} {args : List V} {objs : List O} {Post Post' : V → List O → Prop} (h : ACon P f args objs Post) (hp : ∀ r os, Post r os → Post' r os) : ACon P f args objs Post' := by
  refine ⟨h.1, fun w ok ρ vs hI hs hv => ?_⟩
  refine (h.2 w ok ρ vs hI hs hv).mono ?_
  rintro e w' ⟨v, r, os, ok', ρ', h1, h2, h3⟩
  exact ⟨v, r, os, ok', ρ', h1, hp _ _ h2, h3⟩

def idx (ids : List Nat) (id : Nat) : Option Nat :=
  match ids with
  | [] => none
  | i :: r => if i = id then some 0 else (idx r id).map (· + 1)

mutual
/-- The value as the callee sees it: objects that are handed over under their new names; slices of others as data. -/
def argV (objs : List O) (ids bs : List Nat) : V → Option V
  | .msl id sz off len => match idx ids id with
    | some j => some (.msl j sz off len)
    | none => if id ∈ bs then (match objs[id]? with
      | some (.arr sz' rows) => if sz = sz' ∧ off + len ≤ rows.length then some (.d (.lst ((rows.drop off).take len))) else none
      | _ => none) else none
  | .oref id off => match idx ids id with
    | some j => some (.oref j off)
    | none => none
  | .agg cs => (argVs objs ids bs cs).map .agg
  | .d x => some (.d x)
  | .nils => some .nils
  | .any => some .any
  | .hd _ x => some (.d x)
  | .iv _ _ x => some (.d x)
  | .ld _ x => some (.d x)
  | _ => none
def argVs (objs : List O) (ids bs : List Nat) : List V → Option (List V)
  | [] => some []
  | c :: cs => match argV objs ids bs c, argVs objs ids bs cs with
    | some x, some xs => some (x :: xs)
    | _, _ => none
end

def backId (ids : List Nat) (n j : Nat) : Nat :=
  match ids[j]? with
  | some i => i
  | none => n + (j - ids.length)

mutual
/-- What the callee returns, as the caller sees it. -/
def backV (ids : List Nat) (n : Nat) : V → V
  | .msl j sz off len => .msl (backId ids n j) sz off len
  | .oref j off => .oref (backId ids n j) off
  | .aref j sz i off => .aref (backId ids n j) sz i off
  | .agg cs => .agg (backVs ids n cs)
  | .tup cs => .tup (backVs ids n cs)
  | .d x => .d x
  | .nils => .nils
  | .any => .any
  | .hd n x => .hd n x
  | .ld n x => .ld n x
  | .iv lo hi x => .iv lo hi x
def backVs (ids : List Nat) (n : Nat) : List V → List V
  | [] => []
  | c :: cs => backV ids n c :: backVs ids n cs
end

mutual
def flatV : V → Bool
  | .d x => x.flat
  | .agg cs => flatVs cs
  | .tup cs => flatVs cs
  | .hd .. => false
  | .iv .. => false
  | .ld .. => false
  | _ => true
def flatVs : List V → Bool
  | [] => true
  | c :: cs => flatV c && flatVs cs
end

def flatO : O → Prop
  | .box cells => flatVs cells = true
  | .arr _ rows => ∀ r ∈ rows, ∀ x ∈ r, x.flat = true
  | .dead => True

def backO (ids : List Nat) (n : Nat) : O → O
  | .box cells => .box (backVs ids n cells)
  | .arr sz rows => .arr sz rows
  | .dead => .dead

/-- The caller's objects behind the call. -/
def backs (ids : List Nat) (n : Nat) (objs : List O) (os : List O) : List O :=
  (ids.zip os).foldl (fun l p => l.set p.1 (backO ids n p.2)) objs ++ (os.drop ids.length).map (backO ids n)

def getO (objs : List O) : List Nat → Option (List O)
  | [] => some []
  | i :: r => match objs[i]?, getO objs r with
    | some o, some os => some (o :: os)
    | _, _ => none

/-- A box's cells as the callee sees them. -/
def argO (objs : List O) (ids bs : List Nat) : O → Option O
  | .box cells => (argVs objs ids bs cells).map .box
  | .arr sz rows => some (.arr sz rows)
  | .dead => some .dead

def argOs (objs : List O) (ids bs : List Nat) : List O → Option (List O)
  | [] => some []
  | o :: os => match argO objs ids bs o, argOs objs ids bs os with
    | some x, some xs => some (x :: xs)
    | _, _ => none

/-- A call in the state s: ids: the objects that are handed over; bs: those that are lent to be read. -/
def ACall (P : Program) (s : St) (f : Nat) (args : List V) (K : V → St → Prop) : Prop :=
  ∃ (ids bs : List Nat) (args' : List V) (os0 os : List O), argVs s.objs ids bs args = some args' ∧ ids.Nodup ∧ (∀ i ∈ bs, i ∉ ids) ∧ getO s.objs ids = some os0 ∧ argOs s.objs ids bs os0 = some os ∧ (∀ o ∈ os0, o.live = true) ∧
    ACon P f args' os fun r os' => (bs = [] ∨ (flatV r = true ∧ ∀ o ∈ os', flatO o)) ∧ K (backV ids s.objs.length r) { s with objs := backs ids s.objs.length s.objs os' }

end Go.Fw

/- Why a caller gets what a contract says. -/
set_option linter.unusedSimpArgs false
set_option linter.unusedVariables false
namespace Go.Fw

section
variable {P : Program} {TT : Nat → Option TI} {w w' : World} {ok : Nat → Prop} {ρ : List (Option Nat)} {x : Ctx} {s : St} {a : Act}

structure CCk (x : Ctx) (s : St) (a : Act) (w : World) (ok : Nat → Prop) (ρ : List (Option Nat)) : Prop where
  inv : Inv w ok ρ s.objs
  frm : Frm x w ok ρ s.objs
  env : ∀ j, VRep w ok ρ (getE s.env j) (a.tmps.getD j undef)
  size : a.tmps.size = s.n
  defers : a.defers = []
  fx : FxOk x s.fx

theorem CC_iff : CC x s a w ↔ ∃ ok ρ, CCk x s a w ok ρ :=
  ⟨fun ⟨ok, ρ, h1, h2, h3, h4, h5, h6⟩ => ⟨ok, ρ, h1, h2, h3, h4, h5, h6⟩, fun ⟨ok, ρ, h1, h2, h3, h4, h5, h6⟩ => ⟨ok, ρ, h1, h2, h3, h4, h5, h6⟩⟩

theorem idx_get : ∀ {ids : List Nat} {id j : Nat}, idx ids id = some j → ids[j]? = some id
  | [], id, j, h => by simp [idx] at h
  | i :: r, id, j, h => by
    simp only [idx] at h
    split at h
    · rename_i e; obtain rfl : 0 = j := by simpa using h
      simp [e]
    · cases hr : idx r id with
      | none => rw [hr] at h; simp at h
      | some k =>
        rw [hr] at h
        obtain rfl : k + 1 = j := by simpa using h
        simpa using idx_get hr

theorem idx_none : ∀ {ids : List Nat} {id : Nat}, idx ids id = none → id ∉ ids
  | [], id, h => by simp
  | i :: r, id, h => by
    simp only [idx] at h
    split at h
    · simp at h
    · rename_i e
      cases hr : idx r id with
      | some k => rw [hr] at h; simp at h
      | none => simp [Ne.symm e, idx_none hr]

theorem get_idx : ∀ {ids : List Nat} {id j : Nat}, ids.Nodup → ids[j]? = some id → idx ids id = some j
  | [], id, j, _, h => by simp at h
  | i :: r, id, j, hn, h => by
    simp only [List.nodup_cons] at hn
    cases j with
    | zero => obtain rfl : i = id := by simpa using h
              simp [idx]
    | succ j =>
      have hr : r[j]? = some id := by simpa using h
      have hne : i ≠ id := fun e => hn.1 (e ▸ List.mem_of_getElem? hr)
      simp [idx, hne, get_idx hn.2 hr]

theorem argVs_get {objs : List O} {ids bs : List Nat} : ∀ {cs xs : List V}, argVs objs ids bs cs = some xs → xs.length = cs.length ∧ ∀ (i : Nat) c, cs[i]? = some c → ∃ y, xs[i]? = some y ∧ argV objs ids bs c = some y
  | [], xs, h => by obtain rfl : [] = xs := by simpa [argVs] using h
                    simp
  | c :: cs, xs, h => by
    simp only [argVs] at h
    split at h
    · rename_i y ys h1 h2
      obtain rfl : y :: ys = xs := by simpa using h
      obtain ⟨h3, h4⟩ := argVs_get h2
      refine ⟨by simp [h3], fun i c' hi => ?_⟩
      cases i with
      | zero => obtain rfl : c = c' := by simpa using hi
                exact ⟨y, rfl, h1⟩
      | succ i => exact h4 i c' (by simpa using hi)
    · simp at h

def okC (objs : List O) (ok : Nat → Prop) (ρ : List (Option Nat)) (bs : List Nat) (b : Nat) : Prop :=
  ok b ∨ ∃ (id : Nat) (o : O), id ∈ bs ∧ objs[id]? = some o ∧ o.live = true ∧ ρ[id]? = some (some b)

def rhoC (ρ : List (Option Nat)) (ids : List Nat) : List (Option Nat) := ids.map fun i => (ρ[i]?).getD none

theorem rhoC_get {ids : List Nat} {j id : Nat} {b : Option Nat} (h : ids[j]? = some id) (hb : ρ[id]? = some b) : (rhoC ρ ids)[j]? = some b := by
  simp [rhoC, h, hb]

theorem argV_sound {objs : List O} {ids bs : List Nat} (hI : Inv w ok ρ objs) {y : V} {v : Value} (h : VRep w ok ρ y v) : ∀ {y' : V}, argV objs ids bs y = some y' → VRep w (okC objs ok ρ bs) (rhoC ρ ids) y' v := by
  induction h with
  | d h =>
    intro y' hy
    obtain rfl : _ = y' := by simpa [argV] using hy
    exact .d (h.mono (fun _ _ => rfl) (fun _ h => .inl h))
  | oref h =>
    intro y' hy
    simp only [argV] at hy
    split at hy
    · rename_i j hj
      obtain rfl : _ = y' := by simpa using hy
      exact .oref (rhoC_get (idx_get hj) h)
    · simp at hy
  | aref h => intro y' hy; simp [argV] at hy
  | @msl id sz off len cap b t n h hc hs hn =>
    intro y' hy
    simp only [argV] at hy
    split at hy
    · rename_i j hj
      obtain rfl : _ = y' := by simpa using hy
      exact .msl (rhoC_get (idx_get hj) h) hc hs hn
    · split at hy
      · rename_i hbs
        split at hy
        · rename_i sz' rows ho
          split at hy
          · rename_i hle
            obtain ⟨rfl, hle⟩ := hle
            obtain rfl : _ = y' := by simpa using hy
            obtain ⟨h0, h1⟩ := hI.own _ _ ho
            rcases h1 with ⟨_, e2⟩ | ⟨b', cs, bt, o1, o2, o3, o4⟩
            · rw [h] at e2; simp at e2
            rw [o1] at h
            obtain rfl : b' = b := by simpa using h
            have hlen : ((rows.drop off).take len).length = len := by simp; omega
            refine .d ?_
            have hd : DRep w (okC objs ok ρ bs) (.lst ((rows.drop off).take len)) (.slice (some ⟨b', off * sz, none⟩) ((rows.drop off).take len).length cap) := by
              refine .lst (sz := sz) (vs := fun i j => cs.getD ((off + i) * sz + j) undef) (.inr ⟨id, _, hbs, ho, rfl, o1⟩) (fun r hr => h0 r (List.mem_of_mem_drop (List.mem_of_mem_take hr))) (by omega) (fun i j r y hi hj => ?_) (fun i j r y hi hj => ?_)
              all_goals
                rw [List.getElem?_take] at hi
                split at hi
                case isFalse => simp at hi
                rw [List.getElem?_drop] at hi
              · have hil := (List.getElem?_eq_some_iff.1 hi).1
                have hjl : j < sz := by have := (List.getElem?_eq_some_iff.1 hj).1; have := h0 r (List.mem_of_getElem? hi); omega
                have hlt := row_lt (sz := sz) hil hjl
                have hlt2 : (off + i) * sz + j < cs.size := by omega
                rw [show off * sz + (i * sz + j) = (off + i) * sz + j by rw [Nat.add_mul]; omega]
                simp [World.cell?, o2, Array.getD, hlt2]
              · exact (o4 _ _ _ _ hi hj).mono (fun _ _ => rfl) (fun _ h => .inl h)
            rwa [hlen] at hd
          · simp at hy
        · simp at hy
      · simp at hy
  | @msl0 id sz off a h =>
    intro y' hy
    simp only [argV] at hy
    split at hy
    · rename_i j hj
      obtain rfl : _ = y' := by simpa using hy
      have := (List.getElem?_eq_some_iff.1 (idx_get hj)).1
      exact .msl0 (by simp [rhoC]; exact this)
    · split at hy
      · split at hy
        · split at hy
          · obtain rfl : _ = y' := by simpa using hy
            exact .d (show DRep _ _ (.lst []) _ from .nil)
          · simp at hy
        · simp at hy
      · simp at hy
  | nils => intro y' hy; obtain rfl : _ = y' := by simpa [argV] using hy
            exact .nils
  | @agg cs vs hn h ih =>
    intro y' hy
    simp only [argV] at hy
    cases hc : argVs objs ids bs cs with
    | none => rw [hc] at hy; simp at hy
    | some xs =>
      rw [hc] at hy
      obtain rfl : _ = y' := by simpa using hy
      obtain ⟨h1, h2⟩ := argVs_get hc
      refine .agg (by omega) (fun i c hi => ?_)
      have hil := (List.getElem?_eq_some_iff.1 hi).1
      obtain ⟨c', e1, e2⟩ := h2 i _ (List.getElem?_eq_getElem (by omega : i < cs.length))
      rw [hi] at e1
      obtain rfl : c = c' := by simpa using e1
      exact ih i _ (List.getElem?_eq_getElem (by omega : i < cs.length)) e2
  | tup => intro y' hy; simp [argV] at hy
  | any => intro y' hy; obtain rfl : _ = y' := by simpa [argV] using hy
           exact .any
  | hd h => intro y' hy; obtain rfl : _ = y' := by simpa [argV] using hy
            exact .d (h.mono (fun _ _ => rfl) (fun _ h => .inl h.1))
  | ld h => intro y' hy; obtain rfl : _ = y' := by simpa [argV] using hy
            exact .d (h.mono (fun _ _ => rfl) (fun _ h => .inl h.1))
  | iv h => intro y' hy; obtain rfl : _ = y' := by simpa [argV] using hy
            exact .d (h.mono (fun _ _ => rfl) (fun _ h => .inl h.1))

theorem getO_get {objs : List O} : ∀ {ids : List Nat} {os : List O}, getO objs ids = some os → os.length = ids.length ∧ ∀ (j : Nat) i, ids[j]? = some i → ∃ o, os[j]? = some o ∧ objs[i]? = some o
  | [], os, h => by obtain rfl : [] = os := by simpa [getO] using h
                    simp
  | i :: r, os, h => by
    simp only [getO] at h
    split at h
    · rename_i o os' h1 h2
      obtain rfl : o :: os' = os := by simpa using h
      obtain ⟨h3, h4⟩ := getO_get h2
      refine ⟨by simp [h3], fun j i' hj => ?_⟩
      cases j with
      | zero => obtain rfl : i = i' := by simpa using hj
                exact ⟨o, rfl, h1⟩
      | succ j => exact h4 j i' (by simpa using hj)
    · simp at h

theorem argOs_get {objs : List O} {ids bs : List Nat} : ∀ {os xs : List O}, argOs objs ids bs os = some xs → xs.length = os.length ∧ ∀ (i : Nat) o, os[i]? = some o → ∃ y, xs[i]? = some y ∧ argO objs ids bs o = some y
  | [], xs, h => by obtain rfl : [] = xs := by simpa [argOs] using h
                    simp
  | c :: cs, xs, h => by
    simp only [argOs] at h
    split at h
    · rename_i y ys h1 h2
      obtain rfl : y :: ys = xs := by simpa using h
      obtain ⟨h3, h4⟩ := argOs_get h2
      refine ⟨by simp [h3], fun i c' hi => ?_⟩
      cases i with
      | zero => obtain rfl : c = c' := by simpa using hi
                exact ⟨y, rfl, h1⟩
      | succ i => exact h4 i c' (by simpa using hi)
    · simp at h

theorem argO_live {objs : List O} {ids bs : List Nat} {o o' : O} (h : argO objs ids bs o = some o') : o'.live = o.live := by
  cases o with
  | dead => obtain rfl : _ = o' := by simpa [argO] using h
            rfl
  | arr => obtain rfl : _ = o' := by simpa [argO] using h
           rfl
  | box cells =>
    simp only [argO] at h
    cases hc : argVs objs ids bs cells with
    | none => rw [hc] at h; simp at h
    | some xs => rw [hc] at h; obtain rfl : _ = o' := by simpa using h
                 rfl

theorem argO_sound {objs : List O} {ids bs : List Nat} (hI : Inv w ok ρ objs) {i j : Nat} {o o' : O} (hj : ids[j]? = some i) (h : ORep w ok ρ i o) (ho : argO objs ids bs o = some o') :
    ORep w (okC objs ok ρ bs) (rhoC ρ ids) j o' := by
  cases o with
  | dead => obtain rfl : _ = o' := by simpa [argO] using ho
            trivial
  | arr sz rows =>
    obtain rfl : _ = o' := by simpa [argO] using ho
    obtain ⟨h0, h⟩ := h
    refine ⟨h0, ?_⟩
    rcases h with ⟨h1, h2⟩ | ⟨b, cs, t, h1, h2, h3, h4⟩
    · exact .inl ⟨h1, rhoC_get hj h2⟩
    · exact .inr ⟨b, cs, t, rhoC_get hj h1, h2, h3, fun i j r x hi hj => (h4 i j r x hi hj).mono (fun _ _ => rfl) (fun _ h => .inl h)⟩
  | box cells =>
    simp only [argO] at ho
    cases hc : argVs objs ids bs cells with
    | none => rw [hc] at ho; simp at ho
    | some xs =>
      rw [hc] at ho
      obtain rfl : _ = o' := by simpa using ho
      obtain ⟨e1, e2⟩ := argVs_get hc
      obtain ⟨b, cs, t, h1, h2, h3, h4⟩ := h
      refine ⟨b, cs, t, rhoC_get hj h1, h2, by omega, fun k c hk => ?_⟩
      have hkl := (List.getElem?_eq_some_iff.1 hk).1
      obtain ⟨c', f1, f2⟩ := e2 k _ (List.getElem?_eq_getElem (by omega : k < cells.length))
      rw [hk] at f1
      obtain rfl : c = c' := by simpa using f1
      exact argV_sound hI (h4 k _ (List.getElem?_eq_getElem (by omega : k < cells.length))) f2

theorem backVs_get {ids : List Nat} {n : Nat} : ∀ {cs : List V}, (backVs ids n cs).length = cs.length ∧ ∀ (i : Nat) c, (backVs ids n cs)[i]? = some c → ∃ c', cs[i]? = some c' ∧ c = backV ids n c'
  | [] => by simp [backVs]
  | c :: cs => by
    obtain ⟨h1, h2⟩ := @backVs_get ids n cs
    refine ⟨by simp [backVs, h1], fun i y hi => ?_⟩
    simp only [backVs] at hi
    cases i with
    | zero => exact ⟨c, rfl, by simpa using hi.symm⟩
    | succ i => exact h2 i y (by simpa using hi)

theorem flatVs_get : ∀ {cs : List V}, flatVs cs = true → ∀ (i : Nat) c, cs[i]? = some c → flatV c = true
  | [], _, i, c, h => by simp at h
  | y :: cs, hf, i, c, h => by
    simp only [flatVs, Bool.and_eq_true] at hf
    cases i with
    | zero => obtain rfl : y = c := by simpa using h
              exact hf.1
    | succ i => exact flatVs_get hf.2 i c (by simpa using h)

theorem backV_sound {ids : List Nat} {n : Nat} {ok' ok2 : Nat → Prop} {ρ' ρ2 : List (Option Nat)} {F : Prop} (hok : (∀ b, ok' b → ok2 b) ∨ F) (hρ : ∀ (j : Nat) b, ρ'[j]? = some b → ρ2[backId ids n j]? = some b) {y : V} {v : Value}
    (h : VRep w' ok' ρ' y v) (hf : F → flatV y = true) : VRep w' ok2 ρ2 (backV ids n y) v := by
  induction h with
  | d h =>
    rcases hok with hok | hF
    · exact .d (h.mono (fun _ _ => rfl) hok)
    · exact .d (h.of_flat (hf hF))
  | oref h => exact .oref (hρ _ _ h)
  | aref h => exact .aref (hρ _ _ h)
  | msl h hc hs hn => exact .msl (hρ _ _ h) hc hs hn
  | @msl0 id _ _ _ h => exact .msl0 (List.getElem?_eq_some_iff.1 (hρ id _ (List.getElem?_eq_getElem h))).1
  | nils => exact .nils
  | @agg cs vs hn h ih =>
    obtain ⟨e1, e2⟩ := @backVs_get ids n cs
    refine .agg (by omega) (fun i c hi => ?_)
    obtain ⟨c', f1, rfl⟩ := e2 i c hi
    exact ih i c' f1 (fun hF => flatVs_get (hf hF) i c' f1)
  | @tup cs vs hn h ih =>
    obtain ⟨e1, e2⟩ := @backVs_get ids n cs
    refine .tup (by omega) (fun i c hi => ?_)
    obtain ⟨c', f1, rfl⟩ := e2 i c hi
    exact ih i c' f1 (fun hF => flatVs_get (hf hF) i c' f1)
  | any => exact .any
  | hd h =>
    rcases hok with hok | hF
    · exact .hd (h.mono (fun _ _ => rfl) (fun b hb => ⟨hok b hb.1, hb.2⟩))
    · cases hf hF
  | ld h =>
    rcases hok with hok | hF
    · exact .ld (h.mono (fun _ _ => rfl) (fun b hb => ⟨hok b hb.1, hb.2⟩))
    · cases hf hF
  | iv h =>
    rcases hok with hok | hF
    · exact .iv (h.mono (fun _ _ => rfl) (fun b hb => ⟨hok b hb.1, hb.2⟩))
    · cases hf hF

theorem backO_sound {ids : List Nat} {n i j : Nat} {ok' ok2 : Nat → Prop} {ρ' ρ2 : List (Option Nat)} {F : Prop} (hok : (∀ b, ok' b → ok2 b) ∨ F) (hρ : ∀ (j : Nat) b, ρ'[j]? = some b → ρ2[backId ids n j]? = some b) {o : O}
    (h : ORep w' ok' ρ' j o) (hij : i = backId ids n j) (hf : F → flatO o) : ORep w' ok2 ρ2 i (backO ids n o) := by
  subst hij
  cases o with
  | dead => trivial
  | box cells =>
    obtain ⟨b, cs, t, h1, h2, h3, h4⟩ := h
    obtain ⟨e1, e2⟩ := @backVs_get ids n cells
    refine ⟨b, cs, t, hρ _ _ h1, h2, by omega, fun k c hk => ?_⟩
    obtain ⟨c', f1, rfl⟩ := e2 k c hk
    exact backV_sound hok hρ (h4 k c' f1) (fun hF => flatVs_get (hf hF) k c' f1)
  | arr sz rows =>
    obtain ⟨h0, h⟩ := h
    refine ⟨h0, ?_⟩
    rcases h with ⟨h1, h2⟩ | ⟨b, cs, t, h1, h2, h3, h4⟩
    · exact .inl ⟨h1, hρ _ _ h2⟩
    · refine .inr ⟨b, cs, t, hρ _ _ h1, h2, h3, fun i j r x hi hj => ?_⟩
      rcases hok with hok | hF
      · exact (h4 i j r x hi hj).mono (fun _ _ => rfl) hok
      · exact (h4 i j r x hi hj).of_flat (hf hF r (List.mem_of_getElem? hi) x (List.mem_of_getElem? hj))

theorem sets_get {n : Nat} {q : List Nat} : ∀ (ids : List Nat) (os objs : List O), ids.Nodup → os.length ≥ ids.length → (∀ i ∈ ids, i < objs.length) → ∀ (id : Nat),
    ((ids.zip os).foldl (fun l p => l.set p.1 (backO q n p.2)) objs)[id]? = match idx ids id with
      | some j => (os[j]?).map (backO q n)
      | none => objs[id]? := by
  intro ids
  induction ids with
  | nil => intro os objs _ _ _ id; simp [idx]
  | cons i ids ih =>
    intro os objs hn hl hlt id
    cases os with
    | nil => simp at hl
    | cons o os =>
      simp only [List.nodup_cons] at hn
      simp only [List.zip_cons_cons, List.foldl_cons, idx]
      rw [ih os (objs.set i (backO q n o)) hn.2 (by simpa using hl) (fun k hk => by rw [List.length_set]; exact hlt k (by simp [hk])) id]
      by_cases e : i = id
      · subst e
        rw [if_pos rfl]
        have : idx ids i = none := by
          cases hi : idx ids i with
          | none => rfl
          | some k => exact absurd (List.mem_of_getElem? (idx_get hi)) hn.1
        rw [this]
        simp [hlt i (by simp)]
      · rw [if_neg e]
        cases hi : idx ids id with
        | none => simp [List.getElem?_set_ne e]
        | some k => simp

theorem backO_live {q : List Nat} {n : Nat} {o : O} : (backO q n o).live = o.live := by cases o <;> rfl
theorem backO_dead {q : List Nat} {n : Nat} {o : O} (h : backO q n o = .dead) : o = .dead := by cases o <;> simp_all [backO]

end
end Go.Fw

/- Why a caller gets what a contract says: the call itself. -/
set_option linter.unusedSimpArgs false
set_option linter.unusedVariables false
namespace Go.Fw

section
variable {P : Program} {TT : Nat → Option TI} {w w' : World} {ok : Nat → Prop} {ρ : List (Option Nat)} {x : Ctx} {s : St} {a : Act}

/-- Behind the call: what the caller's state is. -/
theorem call_back {ids bs : List Nat} {os0 os os' : List O} {ok' : Nat → Prop} {ρ' : List (Option Nat)} {r : V} {v : Value} (hC : CCk x s a w ok ρ)
    (hnd : ids.Nodup) (hbs : ∀ i ∈ bs, i ∉ ids) (h0 : getO s.objs ids = some os0) (h1 : argOs s.objs ids bs os0 = some os) (hlv0 : ∀ o ∈ os0, o.live = true)
    (hI' : Inv w' ok' ρ' os') (hV : VRep w' ok' ρ' r v) (hF' : Frm ⟨w, okC s.objs ok ρ bs, rhoC ρ ids, os, false, true⟩ w' ok' ρ' os') (hfl : bs = [] ∨ (flatV r = true ∧ ∀ o ∈ os', flatO o)) :
    ∃ ok2 ρ2, CCk x { s with objs := backs ids s.objs.length s.objs os' } a w' ok2 ρ2 ∧ VRep w' ok2 ρ2 (backV ids s.objs.length r) v := by
  obtain ⟨hI, hF, hE, hn, hd, hx⟩ := hC
  let n := s.objs.length
  have hρn : ρ.length = n := hI.len
  obtain ⟨l0, g0⟩ := getO_get h0
  obtain ⟨l1, g1⟩ := argOs_get h1
  have hol : os.length = ids.length := by omega
  -- an object that is handed over, as the callee has it
  have hpass : ∀ (j i : Nat), ids[j]? = some i → ∃ o o', s.objs[i]? = some o ∧ os[j]? = some o' ∧ argO s.objs ids bs o = some o' := by
    intro j i hj
    obtain ⟨o, e1, e2⟩ := g0 j i hj
    obtain ⟨o', e3, e4⟩ := g1 j o e1
    exact ⟨o, o', e2, e3, e4⟩
  have hidlt : ∀ i ∈ ids, i < n := by
    intro i hi
    obtain ⟨j, hj⟩ := List.mem_iff_getElem?.1 hi
    obtain ⟨o, o', e, _⟩ := hpass j i hj
    exact (List.getElem?_eq_some_iff.1 e).1
  have hrhoC : ∀ (j i : Nat), ids[j]? = some i → ∃ b, ρ[i]? = some b ∧ ρ'[j]? = some b := by
    intro j i hj
    have hi := hidlt i (List.mem_of_getElem? hj)
    refine ⟨_, List.getElem?_eq_getElem (by omega), ?_⟩
    exact hF'.rho j _ (by simp only; have := (List.getElem?_eq_some_iff.1 hj).1; omega) (rhoC_get hj (List.getElem?_eq_getElem (by omega)))
  have hρ'l : ρ'.length ≥ ids.length := by
    rcases Nat.eq_zero_or_pos ids.length with hz | hp
    · omega
    · have hj : ids.length - 1 < ids.length := by omega
      obtain ⟨b, _, e⟩ := hrhoC _ _ (List.getElem?_eq_getElem hj)
      have := (List.getElem?_eq_some_iff.1 e).1
      omega
  have hos'l : os'.length ≥ ids.length := by rw [← hI'.len]; exact hρ'l
  let ρ2 := ρ ++ ρ'.drop ids.length
  let B : Nat → Prop := fun b => ∃ (id : Nat) (o : O), id ∈ bs ∧ s.objs[id]? = some o ∧ o.live = true ∧ ρ[id]? = some (some b)
  let ok2 : Nat → Prop := fun b => ok' b ∧ ¬ B b
  have hup : ∀ b, ok b → ok2 b := fun b hb => ⟨hF'.okup b (.inl hb), fun ⟨id, o, _, e1, e2, e3⟩ => hI.nok id o b e1 e2 e3 hb⟩
  have hρup : ∀ (id : Nat) (b : Option Nat), ρ[id]? = some b → ρ2[id]? = some b := fun id b h => by
    simp only [ρ2]; rw [List.getElem?_append_left (List.getElem?_eq_some_iff.1 h).1]; exact h
  have hback : ∀ (j : Nat) b, ρ'[j]? = some b → ρ2[backId ids n j]? = some b := by
    intro j b hb
    unfold backId
    cases hj : ids[j]? with
    | some i =>
      obtain ⟨b', e1, e2⟩ := hrhoC j i hj
      rw [hb] at e2
      obtain rfl : b = b' := by simpa using e2
      exact hρup _ _ e1
    | none =>
      have hge : ids.length ≤ j := List.getElem?_eq_none_iff.1 hj
      simp only [ρ2]
      rw [List.getElem?_append_right (by omega), List.getElem?_drop, show ids.length + (n + (j - ids.length) - ρ.length) = j by omega]
      exact hb
  have hok : (∀ b, ok' b → ok2 b) ∨ (flatV r = true ∧ ∀ o ∈ os', flatO o) := by
    rcases hfl with h | h
    · subst h
      exact .inl fun b hb => ⟨hb, fun ⟨id, o, hm, _⟩ => by simp at hm⟩
    · exact .inr h
  -- what the callee may have turned
  have hshape : ∀ b q, w.shape? b = some q → w'.shape? b = some q := hF'.shape
  have hblk : ∀ b, b < w.heap.size → (∀ (i : Nat) (o : O), i ∈ ids → s.objs[i]? = some o → o.live = true → ρ[i]? ≠ some (some b)) → w'.heap[b]? = w.heap[b]? := by
    intro b hb hne
    refine hF'.block b hb (fun j o' hj hl hbj => ?_) (fun e => by cases e)
    simp only at hj hbj
    have hjl : j < ids.length := by have := (List.getElem?_eq_some_iff.1 hj).1; omega
    obtain ⟨o, o2, e1, e2, e3⟩ := hpass j _ (List.getElem?_eq_getElem hjl)
    rw [hj] at e2
    obtain rfl : o' = o2 := by simpa using e2
    have hlv : o.live = true := by rw [← argO_live e3]; exact hl
    have hil := hidlt _ (List.getElem_mem hjl)
    have hbb := rhoC_get (ρ := ρ) (List.getElem?_eq_getElem hjl) (List.getElem?_eq_getElem (by omega : ids[j] < ρ.length))
    rw [hbj] at hbb
    refine hne _ o (List.getElem_mem hjl) e1 hlv ?_
    rw [List.getElem?_eq_getElem (by omega : ids[j] < ρ.length)]
    exact hbb.symm
  have hokb : ∀ b, ok b → w'.heap[b]? = w.heap[b]? := fun b hb => hblk b (hI.okb b hb) (fun i o _ e1 e2 e3 => hI.nok i o b e1 e2 e3 hb)
  -- the callee's live objects' blocks
  have hcal : ∀ (j : Nat) (o : O) (b : Nat), os'[j]? = some o → o.live = true → ρ'[j]? = some (some b) → w.heap.size ≤ b ∨ ∃ (i : Nat) (q : O), i ∈ ids ∧ s.objs[i]? = some q ∧ q.live = true ∧ ρ[i]? = some (some b) := by
    intro j o b hj hl hb
    rcases hF'.own j o b hj hl hb with h | ⟨i0, o0, e1, e2, e3⟩
    · exact .inl h
    · simp only at e1 e3
      have hjl : i0 < ids.length := by have := (List.getElem?_eq_some_iff.1 e1).1; omega
      obtain ⟨q, q2, f1, f2, f3⟩ := hpass i0 _ (List.getElem?_eq_getElem hjl)
      rw [e1] at f2
      obtain rfl : o0 = q2 := by simpa using f2
      have hil := hidlt _ (List.getElem_mem hjl)
      have hbb := rhoC_get (ρ := ρ) (List.getElem?_eq_getElem hjl) (List.getElem?_eq_getElem (by omega : ids[i0] < ρ.length))
      rw [e3] at hbb
      exact .inr ⟨_, q, List.getElem_mem hjl, f1, by rw [← argO_live f3]; exact e2, by rw [List.getElem?_eq_getElem (by omega : ids[i0] < ρ.length)]; exact hbb.symm⟩
  -- the objects behind the call
  let objs2 := backs ids n s.objs os'
  have hset := sets_get (n := n) (q := ids) ids os' s.objs hnd hos'l hidlt
  have hfl2 : ((ids.zip os').foldl (fun l p => l.set p.1 (backO ids n p.2)) s.objs).length = n := by
    have : ∀ (z : List (Nat × O)) (l : List O), (z.foldl (fun l p => l.set p.1 (backO ids n p.2)) l).length = l.length := by
      intro z
      induction z with
      | nil => intro l; rfl
      | cons p z ih => intro l; simp [ih]
    exact this _ _
  have hgo : ∀ (id : Nat) (o : O), objs2[id]? = some o → (id < n ∧ idx ids id = none ∧ s.objs[id]? = some o) ∨ (∃ (j : Nat) (o' : O), os'[j]? = some o' ∧ o = backO ids n o' ∧ id = backId ids n j) := by
    intro id o h
    simp only [objs2, backs] at h
    rcases Nat.lt_or_ge id n with hlt | hge
    · rw [List.getElem?_append_left (by rw [hfl2]; exact hlt), hset id] at h
      cases hi : idx ids id with
      | none => rw [hi] at h; exact .inl ⟨hlt, rfl, h⟩
      | some j =>
        rw [hi] at h
        simp only at h
        cases ho : os'[j]? with
        | none => rw [ho] at h; simp at h
        | some o' =>
          rw [ho] at h
          exact .inr ⟨j, o', ho, by simpa using h.symm, by simp [backId, idx_get hi]⟩
    · rw [List.getElem?_append_right (by rw [hfl2]; exact hge), hfl2, List.getElem?_map, List.getElem?_drop] at h
      cases ho : os'[ids.length + (id - n)]? with
      | none => rw [ho] at h; simp at h
      | some o' =>
        rw [ho] at h
        refine .inr ⟨_, o', ho, by simpa using h.symm, ?_⟩
        simp only [backId]
        rw [List.getElem?_eq_none (by omega)]
        simp only
        omega
  have hlen2 : objs2.length = n + (os'.length - ids.length) := by simp only [objs2, backs, List.length_append, hfl2, List.length_map, List.length_drop]
  have hback2 : ∀ (j : Nat) (b : Nat), j < os'.length → ρ2[backId ids n j]? = some (some b) → ρ'[j]? = some (some b) := by
    intro j b hj hb
    have hjl : j < ρ'.length := by rw [hI'.len]; exact hj
    have := hback j _ (List.getElem?_eq_getElem hjl)
    rw [hb] at this
    rw [List.getElem?_eq_getElem hjl]
    exact this.symm
  have hold2 : ∀ (id : Nat) (b : Nat), id < n → ρ2[id]? = some (some b) → ρ[id]? = some (some b) := by
    intro id b hlt hb
    simp only [ρ2] at hb
    rwa [List.getElem?_append_left (by omega)] at hb
  have hbinj : ∀ (i j : Nat), i < os'.length → j < os'.length → backId ids n i = backId ids n j → i = j := by
    intro i j hi hj h
    unfold backId at h
    cases e1 : ids[i]? with
    | some p =>
      rw [e1] at h
      have hp := hidlt p (List.mem_of_getElem? e1)
      cases e2 : ids[j]? with
      | some q =>
        rw [e2] at h
        simp only at h
        subst h
        have := get_idx hnd e1
        have h2 := get_idx hnd e2
        rw [this] at h2
        simpa using h2
      | none => rw [e2] at h; simp only at h; omega
    | none =>
      rw [e1] at h
      have g1 := List.getElem?_eq_none_iff.1 e1
      cases e2 : ids[j]? with
      | some q =>
        rw [e2] at h
        have hq := hidlt q (List.mem_of_getElem? e2)
        simp only at h
        omega
      | none =>
        rw [e2] at h
        have g2 := List.getElem?_eq_none_iff.1 e2
        simp only at h
        omega
  -- an object of the caller's own that was not handed over lies apart from what the callee has
  have hapart : ∀ (id : Nat) (o : O) (b j : Nat) (q : O), s.objs[id]? = some o → o.live = true → idx ids id = none → ρ[id]? = some (some b) → os'[j]? = some q → q.live = true → ρ'[j]? = some (some b) → False := by
    intro id o b j q e1 e2 e3 e4 e5 e6 e7
    rcases hcal j q b e5 e6 e7 with h | ⟨i, q2, f1, f2, f3, f4⟩
    · have := hI.live_lt e1 e2 e4; omega
    · have := hI.dis id i o q2 b e1 f2 e2 f3 e4 f4
      subst this
      exact idx_none e3 f1
  have hInv : Inv w' ok2 ρ2 objs2 := by
    refine ⟨?_, fun b hb => hI'.okb b hb.1, ?_, ?_, ?_⟩
    · rw [hlen2]; simp only [ρ2, List.length_append, List.length_drop, hI'.len]; omega
    · intro id o h
      rcases hgo id o h with ⟨hlt, hi, ho⟩ | ⟨j, o', hj, rfl, rfl⟩
      · refine (hI.own id o ho).mono hokb hup hshape hρup (fun hl b hb => hblk b (hI.live_lt ho hl hb) (fun i q hm e1 e2 e3 => ?_))
        have := hI.dis id i o q b ho e1 hl e2 hb e3
        subst this
        exact idx_none hi hm
      · exact backO_sound hok hback (hI'.own j o' hj) rfl (fun hF => hF.2 o' (List.mem_of_getElem? hj))
    · intro i j oi oj b hi hj hli hlj hbi hbj
      rcases hgo i oi hi with ⟨hlt, hii, hoi⟩ | ⟨p, op, hp, rfl, rfl⟩
      · rcases hgo j oj hj with ⟨hlt2, hjj, hoj⟩ | ⟨q, oq, hq, rfl, rfl⟩
        · exact hI.dis i j oi oj b hoi hoj hli hlj (hold2 _ _ hlt hbi) (hold2 _ _ hlt2 hbj)
        · exact (hapart i oi b q oq hoi hli hii (hold2 _ _ hlt hbi) hq (by rwa [backO_live] at hlj) (hback2 _ _ (List.getElem?_eq_some_iff.1 hq).1 hbj)).elim
      · rcases hgo j oj hj with ⟨hlt2, hjj, hoj⟩ | ⟨q, oq, hq, rfl, rfl⟩
        · exact (hapart j oj b p op hoj hlj hjj (hold2 _ _ hlt2 hbj) hp (by rwa [backO_live] at hli) (hback2 _ _ (List.getElem?_eq_some_iff.1 hp).1 hbi)).elim
        · have := hI'.dis p q op oq b hp hq (by rwa [backO_live] at hli) (by rwa [backO_live] at hlj) (hback2 _ _ (List.getElem?_eq_some_iff.1 hp).1 hbi) (hback2 _ _ (List.getElem?_eq_some_iff.1 hq).1 hbj)
          rw [this]
    · intro i o b hi hl hb ⟨hk, hnB⟩
      rcases hgo i o hi with ⟨hlt, hii, hoi⟩ | ⟨p, op, hp, rfl, rfl⟩
      · have hb' := hold2 _ _ hlt hb
        rcases hF'.okdn b hk with h | h | ⟨i0, o0, e1, e2, e3, e4⟩
        · rcases h with h | h
          · exact hI.nok i o b hoi hl hb' h
          · exact hnB h
        · have := hI.live_lt hoi hl hb'; simp only at h; omega
        · simp only at e1 e3
          have hjl : i0 < ids.length := by have := (List.getElem?_eq_some_iff.1 e1).1; omega
          obtain ⟨q, q2, f1, f2, f3⟩ := hpass i0 _ (List.getElem?_eq_getElem hjl)
          rw [e1] at f2
          obtain rfl : o0 = q2 := by simpa using f2
          have hil := hidlt _ (List.getElem_mem hjl)
          have hbb := rhoC_get (ρ := ρ) (List.getElem?_eq_getElem hjl) (List.getElem?_eq_getElem (by omega : ids[i0] < ρ.length))
          rw [e3] at hbb
          have := hI.dis i _ o q b hoi f1 hl (by rw [← argO_live f3]; exact e2) hb' (by rw [List.getElem?_eq_getElem (by omega : ids[i0] < ρ.length)]; exact hbb.symm)
          exact idx_none hii (this ▸ List.getElem_mem hjl)
      · exact hI'.nok p op b hp (by rwa [backO_live] at hl) (hback2 _ _ (List.getElem?_eq_some_iff.1 hp).1 hb) hk
  have hdead : ∀ id : Nat, s.objs[id]? = some .dead → objs2[id]? = some .dead := by
    intro id h
    have hlt := (List.getElem?_eq_some_iff.1 h).1
    have hlt2 : id < objs2.length := by omega
    rcases hgo id _ (List.getElem?_eq_getElem hlt2) with ⟨_, _, h2⟩ | ⟨j, o', hj, e1, e2⟩
    · rw [List.getElem?_eq_getElem hlt2, ← h2, h]
    · rw [List.getElem?_eq_getElem hlt2, e1]
      have hjn : ∃ i, ids[j]? = some i := by
        cases hji : ids[j]? with
        | some i => exact ⟨i, rfl⟩
        | none => simp only [backId, hji] at e2; have : id < n := hlt; omega
      obtain ⟨i, hji⟩ := hjn
      have hid : id = i := by simpa [backId, hji] using e2
      subst hid
      obtain ⟨o, f1, f2⟩ := g0 j id hji
      rw [h] at f2
      obtain rfl : O.dead = o := by simpa using f2
      have := hlv0 _ (List.mem_of_getElem? f1)
      simp [O.live] at this
  have hFrm : Frm x w' ok2 ρ2 objs2 := by
    refine ⟨hF'.os.trans hF.os, hF'.tape.trans hF.tape, hF'.output.trans hF.output, Nat.le_trans hF.size hF'.size, ?_, fun b q h => hshape b q (hF.shape b q h), fun b h => hup b (hF.okup b h), ?_, fun i b hl h => hρup i b (hF.rho i b hl h), ?_, fun b ⟨hk, hnB⟩ => ?_, fun e e2 => (hF.pres e e2).trans (.same hokb) hF.okup⟩
    · intro b hlt hne hnw
      rw [hblk b (Nat.lt_of_lt_of_le hlt hF.size) (fun i o _ e1 e2 e3 => ?_)]
      · exact hF.block b hlt hne hnw
      · rcases hF.own i o b e1 e2 e3 with h | ⟨i0, o0, f1, f2, f3⟩
        · omega
        · exact hne i0 o0 f1 f2 f3
    · intro b ⟨hk, hnB⟩
      rcases hF'.okdn b hk with h | h | ⟨i0, o0, e1, e2, e3, e4⟩
      · rcases h with h | h
        · rcases hF.okdn b h with h | h | ⟨i, o, f1, f2, f3, f4⟩
          · exact .inl h
          · exact .inr (.inl h)
          · exact .inr (.inr ⟨i, o, f1, f2, f3, hdead i f4⟩)
        · exact absurd h hnB
      · exact .inr (.inl (Nat.le_trans hF.size h))
      · simp only at e1 e3
        have hjl : i0 < ids.length := by have := (List.getElem?_eq_some_iff.1 e1).1; omega
        obtain ⟨q, q2, f1, f2, f3⟩ := hpass i0 _ (List.getElem?_eq_getElem hjl)
        rw [e1] at f2
        obtain rfl : o0 = q2 := by simpa using f2
        have hil := hidlt _ (List.getElem_mem hjl)
        have hbb := rhoC_get (ρ := ρ) (List.getElem?_eq_getElem hjl) (List.getElem?_eq_getElem (by omega : ids[i0] < ρ.length))
        rw [e3] at hbb
        have hb' : ρ[ids[i0]]? = some (some b) := by rw [List.getElem?_eq_getElem (by omega : ids[i0] < ρ.length)]; exact hbb.symm
        have hql : q.live = true := by rw [← argO_live f3]; exact e2
        rcases hF.own _ q b f1 hql hb' with h | ⟨i, o, g1, g2, g3⟩
        · exact .inr (.inl h)
        · refine .inr (.inr ⟨i, o, g1, g2, g3, ?_⟩)
          have hρi := hF.rho i _ (List.getElem?_eq_some_iff.1 g1).1 g3
          have hilt : i < s.objs.length := by have := (List.getElem?_eq_some_iff.1 hρi).1; omega
          cases hoi : s.objs[i]? with
          | none => have := List.getElem?_eq_none_iff.1 hoi; omega
          | some oi =>
            by_cases hlv : oi.live = true
            · have := hI.dis i _ oi q b hoi f1 hlv hql hρi hb'
              subst this
              have hlt2 : ids[i0] < objs2.length := by omega
              rcases hgo _ _ (List.getElem?_eq_getElem hlt2) with ⟨_, h2, _⟩ | ⟨j, o', hj, k1, k2⟩
              · exact absurd (List.getElem_mem hjl) (idx_none h2)
              · rw [List.getElem?_eq_getElem hlt2, k1]
                have hji : j = i0 := by
                  refine hbinj j i0 (List.getElem?_eq_some_iff.1 hj).1 (List.getElem?_eq_some_iff.1 e4).1 ?_
                  rw [← k2]
                  simp [backId, List.getElem?_eq_getElem hjl]
                subst hji
                rw [e4] at hj
                obtain rfl : O.dead = o' := by simpa using hj
                rfl
            · have : oi = .dead := by cases oi <;> simp [O.live] at hlv; rfl
              subst this
              exact hdead i hoi
    · intro i o b hi hl hb
      rcases hgo i o hi with ⟨hlt, hii, hoi⟩ | ⟨p, op, hp, rfl, rfl⟩
      · exact hF.own i o b hoi hl (hold2 _ _ hlt hb)
      · rcases hcal p op b hp (by rwa [backO_live] at hl) (hback2 _ _ (List.getElem?_eq_some_iff.1 hp).1 hb) with h | ⟨j, q, _, f1, f2, f3⟩
        · exact .inl (Nat.le_trans hF.size h)
        · exact hF.own j q b f1 f2 f3
    · rcases hF'.unf b hk with h | h
      · rcases h with h | h
        · exact (hF.unf b h).imp_right (fun hu => hu.of (hokb b h))
        · exact absurd h hnB
      · exact .inr h
  exact ⟨ok2, ρ2, ⟨hInv, hFrm, fun j => (hE j).mono hokb hup hshape hρup, hn, hd, hx⟩, backV_sound hok hback hV (fun hF => hF.1)⟩

theorem call_sound {f : Nat} {args : List V} {vs : Array Value} {K : V → St → Prop} (hC : CCk x s a w ok ρ) (hsz : vs.size = args.length) (hargs : ∀ (i : Nat) y, args[i]? = some y → VRep w ok ρ y (vs.getD i undef))
    (h : ACall P s f args K) : callable P f = true ∧ Calls P f vs w fun e w' => ∃ v, e = .returned v ∧ ∃ y s' ok2 ρ2, K y s' ∧ s'.env = s.env ∧ s'.n = s.n ∧ s'.fx = s.fx ∧ CCk x s' a w' ok2 ρ2 ∧ VRep w' ok2 ρ2 y v := by
  obtain ⟨ids, bs, args', os0, os, h1, h2, h3, h4, h5, h6, h7⟩ := h
  have hI := hC.inv
  obtain ⟨l0, g0⟩ := getO_get h4
  obtain ⟨l1, g1⟩ := argOs_get h5
  obtain ⟨la, ga⟩ := argVs_get h1
  have hpass : ∀ (j : Nat) (o' : O), os[j]? = some o' → ∃ i o, ids[j]? = some i ∧ s.objs[i]? = some o ∧ argO s.objs ids bs o = some o' := by
    intro j o' hj
    have hjl : j < ids.length := by have := (List.getElem?_eq_some_iff.1 hj).1; omega
    obtain ⟨o, e1, e2⟩ := g0 j _ (List.getElem?_eq_getElem hjl)
    obtain ⟨o2, e3, e4⟩ := g1 j o e1
    rw [hj] at e3
    obtain rfl : o' = o2 := by simpa using e3
    exact ⟨_, o, List.getElem?_eq_getElem hjl, e2, e4⟩
  have hrho : ∀ (j i : Nat) (b : Nat), ids[j]? = some i → (rhoC ρ ids)[j]? = some (some b) → ρ[i]? = some (some b) := by
    intro j i b hj hb
    simp only [rhoC, List.getElem?_map, hj, Option.map_some, Option.some.injEq] at hb
    cases hr : ρ[i]? with
    | none => rw [hr] at hb; simp at hb
    | some q => rw [hr] at hb; simp at hb; rw [hb]
  have hIc : Inv w (okC s.objs ok ρ bs) (rhoC ρ ids) os := by
    refine ⟨by simp [rhoC]; omega, ?_, ?_, ?_, ?_⟩
    · rintro b (hb | ⟨id, o, _, e1, e2, e3⟩)
      · exact hI.okb b hb
      · exact hI.live_lt e1 e2 e3
    · intro j o' hj
      obtain ⟨i, o, e1, e2, e3⟩ := hpass j o' hj
      exact argO_sound hI e1 (hI.own i o e2) e3
    · intro i j oi oj b hi hj hli hlj hbi hbj
      obtain ⟨p, o1, e1, e2, e3⟩ := hpass i oi hi
      obtain ⟨q, o2, f1, f2, f3⟩ := hpass j oj hj
      have := hI.dis p q o1 o2 b e2 f2 (by rw [← argO_live e3]; exact hli) (by rw [← argO_live f3]; exact hlj) (hrho i p b e1 hbi) (hrho j q b f1 hbj)
      subst this
      have k1 := get_idx h2 e1
      have k2 := get_idx h2 f1
      rw [k1] at k2
      simpa using k2
    · intro j o' b hj hl hb hk
      obtain ⟨i, o, e1, e2, e3⟩ := hpass j o' hj
      have hlo : o.live = true := by rw [← argO_live e3]; exact hl
      rcases hk with hk | ⟨id, q, f0, f1, f2, f3⟩
      · exact hI.nok i o b e2 hlo (hrho j i b e1 hb) hk
      · have := hI.dis i id o q b e2 f1 hlo f2 (hrho j i b e1 hb) f3
        subst this
        exact h3 i f0 (List.mem_of_getElem? e1)
  refine ⟨h7.1, ?_⟩
  refine (h7.2 w (okC s.objs ok ρ bs) (rhoC ρ ids) vs hIc (by omega) (fun i y hi => ?_)).mono ?_
  · have hil := (List.getElem?_eq_some_iff.1 hi).1
    obtain ⟨y', e1, e2⟩ := ga i _ (List.getElem?_eq_getElem (by omega : i < args.length))
    rw [hi] at e1
    obtain rfl : y = y' := by simpa using e1
    exact argV_sound hI (hargs i _ (List.getElem?_eq_getElem (by omega : i < args.length))) e2
  · rintro e w' ⟨v, r, os', ok', ρ', rfl, ⟨hfl, hK⟩, hI', hV', hF'⟩
    obtain ⟨ok2, ρ2, k1, k2⟩ := call_back hC h2 h3 h4 h5 h6 hI' hV' hF' hfl
    exact ⟨v, rfl, _, _, ok2, ρ2, hK, rfl, rfl, rfl, k1, k2⟩

end
end Go.Fw

/- Calls of functions that write into data's memory, or give data of new memory; writes into data's memory. -/
set_option linter.unusedSimpArgs false
set_option linter.unusedVariables false
namespace Go.Fw

mutual
/-- Data of which only the kinds are known. -/
def wsB : D → Bool
  | .wint _ => true
  | .wbool => true
  | .lst rows => wsRs rows
  | .ptr cells => wsCs cells
  | .wx row _ => wsCs row
  | _ => false
def wsCs : List D → Bool
  | [] => true
  | x :: xs => wsB x && wsCs xs
def wsRs : List (List D) → Bool
  | [] => true
  | r :: rs => wsCs r && wsRs rs
end

/-- What a slot may hold while data's memory is written. -/
def wvB : V → Bool
  | .d x => x.flat || wsB x
  | .any => true
  | .nils => true
  | .tup [] => true
  | .agg [.d x] => x.flat || wsB x
  | .oref .. => true
  | .aref .. => true
  | .msl .. => true
  | _ => false
def wvBs : List V → Bool
  | [] => true
  | v :: vs => wvB v && wvBs vs
def wvO : O → Prop
  | .box cells => wvBs cells = true
  | .arr _ rows => ∀ r ∈ rows, ∀ x ∈ r, (x.flat || wsB x) = true
  | .dead => True
def WO : List O → Prop
  | [] => True
  | o :: os => wvO o ∧ WO os

def WE : List (Nat × V) → Prop
  | [] => True
  | (_, v) :: e => wvB v = true ∧ WE e

mutual
/-- What is still known of a slot when the memory from n on is written. -/
def loP (n : Nat) : V → Prop
  | .d x => x.flat = true
  | .ld m _ => m ≤ n
  | .hd _ _ => False
  | .iv _ hi _ => hi ≤ n
  | .agg cs => loPs n cs
  | .tup cs => loPs n cs
  | _ => True
def loPs (n : Nat) : List V → Prop
  | [] => True
  | c :: cs => loP n c ∧ loPs n cs
end

/-- What is still known of an object then. -/
def loO (n : Nat) (o o' : O) : Prop :=
  match o' with
  | .dead => True
  | .box cells => o = .box cells ∧ loPs n cells
  | .arr sz rows => o = .arr sz rows ∧ ∀ r ∈ rows, ∀ x ∈ r, x.flat = true
def loOs (n : Nat) : List O → List O → Prop
  | [], [] => True
  | o :: os, o' :: os' => loO n o o' ∧ loOs n os os'
  | _, _ => False

/-- The slots ls alone. -/
def keepE (e : List (Nat × V)) : List Nat → List (Nat × V)
  | [] => []
  | j :: ls => (j, getE e j) :: keepE e ls

def keepP (n : Nat) (e : List (Nat × V)) : List Nat → Prop
  | [] => True
  | j :: ls => loP n (getE e j) ∧ keepP n e ls

/-- v' tells less than v, and speaks of memory from n on alone. -/
def WA (n : Nat) (v v' : V) : Prop := ∀ w ok ρ u, VRep w ok ρ v u → VRep w (fun b => ok b ∧ n ≤ b) [] v' u

def WAs (n : Nat) : List V → List V → Prop
  | [], [] => True
  | v :: vs, v' :: vs' => WA n v v' ∧ WAs n vs vs'
  | _, _ => False

/-- The function f in the mode fx, called with these values. -/
structure AXon (P : Program) (fx : FX) (f : Nat) (args : List V) (Post : V → List O → Prop) : Prop where
  body : callable P f = true
  run : ∀ (w : World) (ok : Nat → Prop) (vs : Array Value), FxOk ⟨w, ok, [], [], fx.wr, fx.kp⟩ fx → (∀ b, ok b → b < w.heap.size) → vs.size = args.length → (∀ (i : Nat) x, args[i]? = some x → VRep w ok [] x (vs.getD i undef)) →
    Calls P f vs w fun e w' => ∃ v r objs' ok' ρ', e = .returned v ∧ Post r objs' ∧ Inv w' ok' ρ' objs' ∧ VRep w' ok' ρ' r v ∧ Frm ⟨w, ok, [], [], fx.wr, fx.kp⟩ w' ok' ρ' objs'

theorem AXon.mono {P : Program} {fx : FX} {f : Nat} {args : List V} {Post Post' : V → List O → Prop} (h : AXon P fx f args Post) (hp : ∀ r os, Post r os → Post' r os) : AXon P fx f args Post' := by
  refine ⟨h.1, fun w ok vs hx hI hs hv => ?_⟩
  refine (h.2 w ok vs hx hI hs hv).mono ?_
  rintro e w' ⟨v, r, os, ok', ρ', h1, h2, h3⟩
  exact ⟨v, r, os, ok', ρ', h1, hp _ _ h2, h3⟩

/-- A call of such a function. -/
def ACallX0 (P : Program) (s : St) (f : Nat) (args : List V) (K : V → St → Prop) : Prop :=
  (∃ n args', (s.fx = .law n ∨ s.fx = .hi n) ∧ argVs s.objs [] [] args = some args' ∧ AXon P (.hi n) f args' fun r os => K (backV [] s.objs.length r) { s with objs := backs [] s.objs.length s.objs os }) ∨
  (∃ args', s.fx = .wild ∧ WO s.objs ∧ WE s.env ∧ argVs s.objs [] [] args = some args' ∧ AXon P .wild f args' fun r _ => ∃ x : D, r = .d x ∧ x.flat = true ∧ K r s) ∨
  (∃ n args' ls objs', s.fx = .law n ∧ WAs n args args' ∧ loOs n s.objs objs' ∧ keepP n s.env ls ∧ AXon P .wild f args' fun r _ => ∃ x : D, r = .d x ∧ x.flat = true ∧ K r { s with env := keepE s.env ls, objs := objs' })

section
variable {P : Program} {TT : Nat → Option TI} {w w' : World} {ok : Nat → Prop} {ρ : List (Option Nat)} {x : Ctx} {s : St} {a : Act}

theorem cell_get {b j : Nat} {cs : Array Value} {t : TypeId} {u : Value} (h : w.heap[b]? = some (.cells cs t (0, 0))) (hc : w.cell? ⟨b, j, none⟩ = some u) : j < cs.size ∧ u = cs.getD j undef := by
  simp only [World.cell?, h] at hc
  have hj := (Array.getElem?_eq_some_iff.1 hc).1
  refine ⟨hj, ?_⟩
  obtain ⟨h1, h2⟩ := Array.getElem?_eq_some_iff.1 hc
  simp [Array.getD, hj, h2]

theorem get_cell {b j : Nat} {cs : Array Value} {t : TypeId} (h : w.heap[b]? = some (.cells cs t (0, 0))) (hj : j < cs.size) : w.cell? ⟨b, j, none⟩ = some (cs.getD j undef) := by
  simp [World.cell?, h, Array.getD, hj]

theorem wsCs_get : ∀ {cs : List D}, wsCs cs = true → ∀ (j : Nat) x, cs[j]? = some x → wsB x = true
  | [], _, j, x, h => by simp at h
  | y :: ys, hw, j, x, h => by
    simp only [wsCs, Bool.and_eq_true] at hw
    cases j with
    | zero => obtain rfl : y = x := by simpa using h
              exact hw.1
    | succ j => exact wsCs_get hw.2 j x (by simpa using h)

theorem wsRs_get : ∀ {rs : List (List D)}, wsRs rs = true → ∀ (j : Nat) r, rs[j]? = some r → wsCs r = true
  | [], _, j, x, h => by simp at h
  | y :: ys, hw, j, x, h => by
    simp only [wsRs, Bool.and_eq_true] at hw
    cases j with
    | zero => obtain rfl : y = x := by simpa using h
              exact hw.1
    | succ j => exact wsRs_get hw.2 j x (by simpa using h)

theorem wsRs_rep {row : List D} (h : wsCs row = true) : ∀ L : Nat, wsRs ((List.replicate L ()).map fun _ => row) = true
  | 0 => rfl
  | L + 1 => by
    simp only [List.replicate_succ, List.map_cons, wsRs, h, Bool.true_and]
    exact wsRs_rep h L

/-- Data of which only the kinds are known stays so when the kinds are kept. -/
theorem wild_stable {d : D} {v : Value} (h : DRep w ok d v) : Pres ok w w' → (∀ b, ok b → Unf w b) → wsB d = true → ∀ v', SameK v v' → DRep w' ok d v' := by
  induction h with
  | int => intro _ _ hs; cases hs
  | bool => intro _ _ hs; cases hs
  | str => intro _ _ hs; cases hs
  | raw => intro _ _ hs; cases hs
  | fn => intro _ _ hs; cases hs
  | hi => intro _ _ hs; cases hs
  | bl0 => intro _ _ hs; cases hs
  | bl => intro _ _ hs; cases hs
  | wint =>
    rintro _ _ _ v' (rfl | ⟨k, n, n', e, rfl⟩ | ⟨b, b', e, rfl⟩)
    · exact .wint
    · cases e; exact .wint
    · cases e
  | wbool =>
    rintro _ _ _ v' (rfl | ⟨k, n, n', e, rfl⟩ | ⟨b, b', e, rfl⟩)
    · exact .wbool
    · cases e
    · exact .wbool
  | nil =>
    rintro _ _ _ v' (rfl | ⟨k, n, n', e, rfl⟩ | ⟨b, b', e, rfl⟩)
    · exact .nil
    · cases e
    · cases e
  | wx hl _ ih => exact fun hP hU hs v' hv => .wx hl (ih hP hU (wsRs_rep hs _) v' hv)
  | @lst ok rows sz b off cap vs hok hsz hcap hc hd ih =>
    rintro hP hU hs v' hv
    obtain ⟨cs, t, hb⟩ := hU b hok
    obtain ⟨cs', h1, h2, h3⟩ := hP b cs t hok hb
    have hv' : v' = .slice (some ⟨b, off, none⟩) rows.length cap := by
      rcases hv with e | ⟨k, n, n', e, _⟩ | ⟨b, b', e, _⟩
      · exact e
      · cases e
      · cases e
    subst hv'
    refine .lst (vs := fun i j => cs'.getD (off + (i * sz + j)) undef) hok hsz hcap (fun i j r y hi hj => ?_) (fun i j r y hi hj => ?_)
    · have := cell_get hb (hc i j r y hi hj)
      exact get_cell h1 (by omega)
    · have := cell_get hb (hc i j r y hi hj)
      exact ih i j r y hi hj hP hU (wsCs_get (wsRs_get hs _ _ hi) _ _ hj) _ (by rw [this.2]; exact h3 _)
  | @ptr ok cells b off vs hok hc hd ih =>
    rintro hP hU hs v' hv
    obtain ⟨cs, t, hb⟩ := hU b hok
    obtain ⟨cs', h1, h2, h3⟩ := hP b cs t hok hb
    have hv' : v' = .pointer (some ⟨b, off, none⟩) := by
      rcases hv with e | ⟨k, n, n', e, _⟩ | ⟨b, b', e, _⟩
      · exact e
      · cases e
      · cases e
    subst hv'
    refine .ptr (vs := fun j => cs'.getD (off + j) undef) hok (fun j y hj => ?_) (fun j y hj => ?_)
    · have := cell_get hb (hc j y hj)
      exact get_cell h1 (by omega)
    · have := cell_get hb (hc j y hj)
      exact ih j y hj hP hU (wsCs_get hs _ _ hj) _ (by rw [this.2]; exact h3 _)

theorem wild_d {y : D} {v : Value} (h : DRep w ok y v) (hP : Pres ok w w') (hU : ∀ b, ok b → Unf w b) (hs : (y.flat || wsB y) = true) : DRep w' ok y v := by
  rw [Bool.or_eq_true] at hs
  rcases hs with hs | hs
  · exact h.of_flat hs
  · exact wild_stable h hP hU hs _ (.inl rfl)

theorem wild_v {y : V} {v : Value} (h : VRep w ok ρ y v) (hP : Pres ok w w') (hU : ∀ b, ok b → Unf w b) (hsh : ∀ b q, w.shape? b = some q → w'.shape? b = some q) (hs : wvB y = true) : VRep w' ok ρ y v := by
  unfold wvB at hs
  split at hs
  · cases h with | d h => exact .d (wild_d h hP hU hs)
  · exact .any
  · cases h; exact .nils
  · cases h with | tup hn _ => exact .tup hn (fun i c hc => by simp at hc)
  · cases h with
    | agg hn hh =>
      refine .agg hn (fun i c hc => ?_)
      cases i with
      | zero =>
        have := hh 0 _ rfl
        obtain rfl : _ = c := by simpa using hc
        generalize Array.getD _ _ _ = u at this ⊢
        cases this with | d h => exact .d (wild_d h hP hU hs)
      | succ i => simp at hc
  · cases h with | oref h => exact .oref h
  · cases h with | aref h => exact .aref h
  · cases h with
    | msl h hc hs' hn => exact .msl h hc (hsh _ _ hs') hn
    | msl0 h => exact .msl0 h
  · cases hs

theorem wvBs_get : ∀ {cs : List V}, wvBs cs = true → ∀ (i : Nat) c, cs[i]? = some c → wvB c = true
  | [], _, i, c, h => by simp at h
  | y :: cs, hf, i, c, h => by
    simp only [wvBs, Bool.and_eq_true] at hf
    cases i with
    | zero => obtain rfl : y = c := by simpa using h
              exact hf.1
    | succ i => exact wvBs_get hf.2 i c (by simpa using h)

theorem WO_get : ∀ {os : List O}, WO os → ∀ (i : Nat) o, os[i]? = some o → wvO o
  | [], _, i, c, h => by simp at h
  | y :: cs, hf, i, c, h => by
    cases i with
    | zero => obtain rfl : y = c := by simpa using h
              exact hf.1
    | succ i => exact WO_get hf.2 i c (by simpa using h)

theorem WE_get : ∀ {e : List (Nat × V)}, WE e → ∀ j, wvB (getE e j) = true
  | [], _, j => rfl
  | (i, v) :: e, h, j => by
    simp only [getE]
    split
    · exact h.1
    · exact WE_get h.2 j

theorem wild_unf (hC : CCk x s a w ok ρ) (hfx : s.fx = .wild) : ∀ b, ok b → Unf w b := by
  intro b hb
  rcases hC.frm.unf b hb with h | h
  · obtain ⟨_, ⟨f2, fk⟩, f3⟩ := hC.fx
    rw [hfx] at f2 f3 fk
    obtain ⟨cs, t, e⟩ := f3 b h
    obtain ⟨cs', e', _⟩ := hC.frm.pres f2 fk b cs t h e
    exact ⟨cs', t, e'⟩
  · exact h

/-- In such a body all of the caller's data may be written. -/
theorem wild_ok (hC : CCk x s a w ok ρ) (hfx : s.fx = .wild) {b : Nat} (hb : b < x.w.heap.size) (hn : x.wr = true → ¬ x.ok b) : ¬ ok b := by
  intro hk
  obtain ⟨f1, ⟨f2, _⟩, f3⟩ := hC.fx
  rw [hfx] at f1 f2
  rcases hC.frm.okdn b hk with h | h | ⟨id, o, h1, _⟩
  · exact hn f2 h
  · omega
  · have : x.objs = [] := List.eq_nil_of_length_eq_zero f1
    rw [this] at h1; simp at h1

/-- The world has turned in the data's memory alone, and kept all kinds. -/
theorem wild_step (hC : CCk x s a w ok ρ) (hfx : s.fx = .wild) (ho : WO s.objs) (hE : WE s.env) (hP : Pres ok w w') (hblk : ∀ b, b < w.heap.size → ¬ ok b → w'.heap[b]? = w.heap[b]?)
    (hsz : w.heap.size ≤ w'.heap.size) (hsh : ∀ b q, w.shape? b = some q → w'.shape? b = some q) (hos : w'.os = w.os) (htape : w'.tape = w.tape) (hout : w'.output = w.output) : CCk x s a w' ok ρ := by
  have hU := wild_unf hC hfx
  have hI := hC.inv
  have hown : ∀ (i : Nat) (o : O) (b : Nat), s.objs[i]? = some o → o.live = true → ρ[i]? = some (some b) → w'.heap[b]? = w.heap[b]? :=
    fun i o b h1 h2 h3 => hblk b (hI.live_lt h1 h2 h3) (fun h => hI.nok i o b h1 h2 h3 h)
  refine ⟨⟨hI.len, fun b hb => Nat.lt_of_lt_of_le (hI.okb b hb) hsz, fun i o hi => ?_, hI.dis, hI.nok⟩, ?_, fun j => wild_v (hC.env j) hP hU hsh (WE_get hE j), hC.size, hC.defers, hC.fx⟩
  · have hw := WO_get ho i o hi
    have hr := hI.own i o hi
    cases o with
    | dead => trivial
    | box cells =>
      obtain ⟨b, cs, t, h1, h2, h3, h4⟩ := hr
      exact ⟨b, cs, t, h1, by rw [hown i _ b hi rfl h1]; exact h2, h3, fun j c hj => wild_v (h4 j c hj) hP hU hsh (wvBs_get hw j c hj)⟩
    | arr sz rows =>
      obtain ⟨h0, h⟩ := hr
      refine ⟨h0, ?_⟩
      rcases h with ⟨h1, h2⟩ | ⟨b, cs, t, h1, h2, h3, h4⟩
      · exact .inl ⟨h1, h2⟩
      · exact .inr ⟨b, cs, t, h1, by rw [hown i _ b hi rfl h1]; exact h2, h3, fun k j r y hk hj => wild_d (h4 k j r y hk hj) hP hU (hw r (List.mem_of_getElem? hk) y (List.mem_of_getElem? hj))⟩
  have hF := hC.frm
  refine ⟨hos.trans hF.os, htape.trans hF.tape, hout.trans hF.output, Nat.le_trans hF.size hsz, fun b hb h1 h2 => ?_, fun b q h => hsh b q (hF.shape b q h), hF.okup, hF.okdn, hF.rho, hF.own, fun b hb => ?_, fun e e2 => (hF.pres e e2).trans hP hF.okup⟩
  · rw [hblk b (Nat.lt_of_lt_of_le hb hF.size) (wild_ok hC hfx hb h2)]
    exact hF.block b hb h1 h2
  · obtain ⟨cs, t, e⟩ := hU b hb
    obtain ⟨cs', e', _⟩ := hP b cs t hb e
    exact .inr ⟨cs', t, e'⟩

theorem loOs_get {n : Nat} : ∀ {os os' : List O}, loOs n os os' → os'.length = os.length ∧ ∀ (i : Nat) o', os'[i]? = some o' → ∃ o, os[i]? = some o ∧ loO n o o'
  | [], [], _ => by simp
  | [], _ :: _, h => by simp [loOs] at h
  | _ :: _, [], h => by simp [loOs] at h
  | v :: vs, v' :: vs', h => by
    simp only [loOs] at h
    obtain ⟨h1, h2⟩ := loOs_get h.2
    refine ⟨by simp [h1], fun i u hi => ?_⟩
    cases i with
    | zero => obtain rfl : v' = u := by simpa using hi
              exact ⟨v, rfl, h.1⟩
    | succ i => exact h2 i u (by simpa using hi)

theorem WAs_get {n : Nat} : ∀ {vs vs' : List V}, WAs n vs vs' → vs'.length = vs.length ∧ ∀ (i : Nat) v', vs'[i]? = some v' → ∃ v, vs[i]? = some v ∧ WA n v v'
  | [], [], _ => by simp
  | [], _ :: _, h => by simp [WAs] at h
  | _ :: _, [], h => by simp [WAs] at h
  | v :: vs, v' :: vs', h => by
    simp only [WAs] at h
    obtain ⟨h1, h2⟩ := WAs_get h.2
    refine ⟨by simp [h1], fun i u hi => ?_⟩
    cases i with
    | zero => obtain rfl : v' = u := by simpa using hi
              exact ⟨v, rfl, h.1⟩
    | succ i => exact h2 i u (by simpa using hi)

theorem loPs_get {n : Nat} : ∀ {cs : List V}, loPs n cs → ∀ (i : Nat) c, cs[i]? = some c → loP n c
  | [], _, i, c, h => by simp at h
  | y :: cs, hf, i, c, h => by
    simp only [loPs] at hf
    cases i with
    | zero => obtain rfl : y = c := by simpa using h
              exact hf.1
    | succ i => exact loPs_get hf.2 i c (by simpa using h)

theorem lo_rep {n : Nat} {y : V} {v : Value} (h : VRep w ok ρ y v) (hw : ∀ b, ok b → b < n → w'.heap[b]? = w.heap[b]?) (hs : ∀ b q, w.shape? b = some q → w'.shape? b = some q) (hl : loP n y) :
    VRep w' (fun b => ok b ∧ b < n) ρ y v := by
  induction h with
  | d h => exact .d (h.of_flat hl)
  | oref h => exact .oref h
  | aref h => exact .aref h
  | msl h hc hs' hn => exact .msl h hc (hs _ _ hs') hn
  | msl0 h => exact .msl0 h
  | nils => exact .nils
  | agg hn _ ih => exact .agg hn (fun i c hi => ih i c hi (loPs_get hl i c hi))
  | tup hn _ ih => exact .tup hn (fun i c hi => ih i c hi (loPs_get hl i c hi))
  | any => exact .any
  | hd h => exact hl.elim
  | ld h =>
    simp only [loP] at hl
    exact .ld (h.mono (fun b hb => hw b hb.1 (Nat.lt_of_lt_of_le hb.2 hl)) (fun b hb => ⟨⟨hb.1, Nat.lt_of_lt_of_le hb.2 hl⟩, hb.2⟩))
  | iv h =>
    simp only [loP] at hl
    exact .iv (h.mono (fun b hb => hw b hb.1 (Nat.lt_of_lt_of_le hb.2.2 hl)) (fun b hb => ⟨⟨hb.1, Nat.lt_of_lt_of_le hb.2.2 hl⟩, hb.2⟩))

theorem flat_lo {n : Nat} : ∀ (y : V), flatV y = true → loP n y := by
  intro y
  have := @V.rec (motive_1 := fun v => flatV v = true → loP n v) (motive_2 := fun vs => flatVs vs = true → loPs n vs)
    (fun x h => h) (fun _ _ _ => trivial) (fun _ _ _ _ _ => trivial) (fun _ _ _ _ _ => trivial) (fun _ => trivial)
    (fun cs ih h => ih h) (fun cs ih h => ih h) (fun _ => trivial) (fun _ _ h => by cases h) (fun _ _ h => by cases h) (fun _ _ _ h => by cases h)
    (fun _ => trivial) (fun v vs h1 h2 h => by simp only [flatVs, Bool.and_eq_true] at h; exact ⟨h1 h.1, h2 h.2⟩)
  exact this y

theorem keepP_get {n : Nat} {e : List (Nat × V)} : ∀ {ls : List Nat}, keepP n e ls → ∀ j, getE (keepE e ls) j = .any ∨ (getE (keepE e ls) j = getE e j ∧ loP n (getE e j))
  | [], _, j => .inl rfl
  | i :: ls, h, j => by
    simp only [keepE, getE]
    split
    · rename_i e; subst e; exact .inr ⟨rfl, h.1⟩
    · exact keepP_get h.2 j

theorem callX0_sound {f : Nat} {args : List V} {vs : Array Value} {K : V → St → Prop} (hC : CCk x s a w ok ρ) (hsz : vs.size = args.length) (hargs : ∀ (i : Nat) y, args[i]? = some y → VRep w ok ρ y (vs.getD i undef))
    (h : ACallX0 P s f args K) : callable P f = true ∧ Calls P f vs w fun e w' => ∃ v, e = .returned v ∧ ∃ y s' ok2 ρ2, K y s' ∧ s'.n = s.n ∧ CCk x s' a w' ok2 ρ2 ∧ VRep w' ok2 ρ2 y v := by
  have hok : okC s.objs ok ρ [] = ok := by
    funext b
    apply propext
    exact ⟨fun h => h.elim id (fun ⟨id, o, hm, _⟩ => by simp at hm), .inl⟩
  rcases h with ⟨n, args', hfx, h1, h2⟩ | ⟨args', hfx, ho, hE, h1, h2⟩ | ⟨n, args', ls, objs', hfx, h1, hfl, hkp, h2⟩
  · refine ⟨h2.1, ?_⟩
    obtain ⟨la, ga⟩ := argVs_get h1
    have hn : n ≤ w.heap.size := by
      obtain ⟨_, _, f3⟩ := hC.fx
      have := hC.frm.size
      rcases hfx with e | e <;> rw [e] at f3
      · have := f3.1; omega
      · have f3 : n ≤ x.w.heap.size := f3
        omega
    refine (h2.2 w (okC s.objs ok ρ []) vs ⟨rfl, ⟨rfl, rfl⟩, hn⟩ (fun b hb => hC.inv.okb b (by rwa [hok] at hb)) (by omega) (fun i y hi => ?_)).mono ?_
    · have hil := (List.getElem?_eq_some_iff.1 hi).1
      obtain ⟨y', e1, e2⟩ := ga i _ (List.getElem?_eq_getElem (by omega : i < args.length))
      rw [hi] at e1
      obtain rfl : y = y' := by simpa using e1
      exact argV_sound (ids := []) hC.inv (hargs i _ (List.getElem?_eq_getElem (by omega : i < args.length))) e2
    · rintro e w' ⟨v, r, os', ok', ρ', rfl, hK, hI', hV', hF'⟩
      obtain ⟨ok2, ρ2, k1, k2⟩ := call_back (ids := []) (bs := []) (os0 := []) (os := []) hC List.nodup_nil (by simp) rfl rfl (by simp) hI' hV' hF' (.inl rfl)
      exact ⟨v, rfl, _, _, ok2, ρ2, hK, rfl, k1, k2⟩
  · refine ⟨h2.1, ?_⟩
    have hU := wild_unf hC hfx
    obtain ⟨la, ga⟩ := argVs_get h1
    refine (h2.2 w ok vs ⟨rfl, ⟨rfl, rfl⟩, hU⟩ hC.inv.okb (by omega) (fun i y hi => ?_)).mono ?_
    · have hil := (List.getElem?_eq_some_iff.1 hi).1
      obtain ⟨y', e1, e2⟩ := ga i _ (List.getElem?_eq_getElem (by omega : i < args.length))
      rw [hi] at e1
      obtain rfl : y = y' := by simpa using e1
      have := argV_sound (ids := []) hC.inv (hargs i _ (List.getElem?_eq_getElem (by omega : i < args.length))) e2
      rwa [hok] at this
    rintro e w' ⟨v, r, os', ok', ρ', rfl, ⟨y, rfl, hf, hK⟩, hI', hV', hF'⟩
    have hP : Pres ok w w' := hF'.pres rfl rfl
    refine ⟨v, rfl, _, s, ok, ρ, hK, rfl, wild_step hC hfx ho hE hP (fun b hb hn => hF'.block b hb (fun i o h => by simp at h) (fun _ => hn)) hF'.size hF'.shape hF'.os hF'.tape hF'.output, ?_⟩
    cases hV' with | d h => exact .d (h.of_flat hf)
  · refine ⟨h2.1, ?_⟩
    obtain ⟨la, ga⟩ := WAs_get h1
    obtain ⟨f1, ⟨f2, _⟩, f3⟩ := hC.fx
    rw [hfx] at f1 f2 f3
    have f3 : x.w.heap.size = n ∧ ∀ b, x.ok b → b < n := f3
    have hF := hC.frm
    have hI := hC.inv
    have hU : ∀ b, ok b ∧ n ≤ b → Unf w b := by
      intro b ⟨hb, hn⟩
      rcases hF.unf b hb with h | h
      · have := f3.2 b h; omega
      · exact h
    refine (h2.2 w (fun b => ok b ∧ n ≤ b) vs ⟨rfl, ⟨rfl, rfl⟩, hU⟩ (fun b hb => hI.okb b hb.1) (by omega) (fun i y hi => ?_)).mono ?_
    · obtain ⟨v, e1, e2⟩ := ga i y hi
      exact e2 w ok ρ _ (hargs i v e1)
    rintro e w' ⟨v, r, os', ok', ρ', rfl, ⟨y, rfl, hf, hK⟩, hI', hV', hF'⟩
    have hblk : ∀ b, b < w.heap.size → ¬ (ok b ∧ n ≤ b) → w'.heap[b]? = w.heap[b]? := fun b hb hn => hF'.block b hb (fun i o h => by simp at h) (fun _ => hn)
    have hlo : ∀ b, ok b → b < n → w'.heap[b]? = w.heap[b]? := fun b hb hn => hblk b (hI.okb b hb) (fun h => by omega)
    have hown : ∀ (i : Nat) (o : O) (b : Nat), s.objs[i]? = some o → o.live = true → ρ[i]? = some (some b) → w'.heap[b]? = w.heap[b]? := by
      intro i o b h1 h2 h3
      exact hblk b (hI.live_lt h1 h2 h3) (fun h => hI.nok i o b h1 h2 h3 h.1)
    obtain ⟨ll, lg⟩ := loOs_get hfl
    have hx0 : x.objs = [] := List.eq_nil_of_length_eq_zero f1
    have hlv : ∀ (i : Nat) (o' : O), objs'[i]? = some o' → o'.live = true → s.objs[i]? = some o' := by
      intro i o' hi hl
      obtain ⟨o, h1, h2⟩ := lg i o' hi
      cases o' with
      | dead => cases hl
      | box cells => rw [h1, h2.1]
      | arr sz rows => rw [h1, h2.1]
    refine ⟨v, rfl, _, _, (fun b => ok b ∧ b < n), ρ, hK, rfl, ⟨⟨by rw [hI.len]; exact ll.symm, fun b hb => Nat.lt_of_lt_of_le (hI.okb b hb.1) hF'.size, fun i o' hi => ?_, fun i j oi oj b h1 h2 h3 h4 => hI.dis i j oi oj b (hlv i oi h1 h3) (hlv j oj h2 h4) h3 h4, fun i o b h1 h2 h3 h4 => hI.nok i o b (hlv i o h1 h2) h2 h3 h4.1⟩, ?_, fun j => ?_, hC.size, hC.defers, hC.fx⟩, ?_⟩
    · obtain ⟨o, hi0, hlo'⟩ := lg i o' hi
      have ho := hI.own i o hi0
      cases o' with
      | dead => trivial
      | box cells =>
        obtain ⟨rfl, hc⟩ := hlo'
        obtain ⟨b, cs, t, h1, h2, h3, h4⟩ := ho
        exact ⟨b, cs, t, h1, by rw [hown i _ b hi0 rfl h1]; exact h2, h3, fun j c hj => lo_rep (h4 j c hj) hlo hF'.shape (loPs_get hc j c hj)⟩
      | arr sz rows =>
        obtain ⟨rfl, hfo⟩ := hlo'
        obtain ⟨h0, h⟩ := ho
        refine ⟨h0, ?_⟩
        rcases h with ⟨h1, h2⟩ | ⟨b, cs, t, h1, h2, h3, h4⟩
        · exact .inl ⟨h1, h2⟩
        · exact .inr ⟨b, cs, t, h1, by rw [hown i _ b hi0 rfl h1]; exact h2, h3, fun k j r y hk hj => (h4 k j r y hk hj).of_flat (hfo r (List.mem_of_getElem? hk) y (List.mem_of_getElem? hj))⟩
    · refine ⟨hF'.os.trans hF.os, hF'.tape.trans hF.tape, hF'.output.trans hF.output, Nat.le_trans hF.size hF'.size, fun b hb h1 h2 => ?_, fun b q h => hF'.shape b q (hF.shape b q h), fun b hb => ⟨hF.okup b hb, f3.2 b hb⟩, fun b hb => (hF.okdn b hb.1).imp_right (fun h => h.imp_right (fun ⟨id, o, g1, _⟩ => by rw [hx0] at g1; simp at g1)), hF.rho, fun i o b h1 h2 h3 => hF.own i o b (hlv i o h1 h2) h2 h3, fun b hb => ?_, fun e => by rw [f2] at e; cases e⟩
      · rw [hblk b (Nat.lt_of_lt_of_le hb hF.size) (fun h => by have := f3.1; omega)]
        exact hF.block b hb h1 h2
      · exact (hF.unf b hb.1).imp_right (fun hu => hu.of (hlo b hb.1 hb.2))
    · rcases keepP_get hkp j with e | ⟨e, hl⟩
      · show VRep w' _ ρ (getE (keepE s.env ls) j) _
        rw [e]; exact .any
      · show VRep w' _ ρ (getE (keepE s.env ls) j) _
        rw [e]; exact lo_rep (hC.env j) hlo hF'.shape hl
    · cases hV' with | d h => exact .d (h.of_flat hf)

/-- A write into data's memory. -/
def aopSt (TT : Nat → Option TI) (s : St) (dst : Option Nat) (t : TypeId) (x v : Operand) (K : St → Prop) : Prop :=
  dst = none ∧ s.fx = .wild ∧ WO s.objs ∧ WE s.env ∧ (match TT t with | some ti => ti.size = 1 | none => False) ∧ (match s.ev x, s.ev v with
    | .d (.ptr (.wint k :: _)), .d (.int k' _) => k = k' ∧ K s
    | .d (.ptr (.wbool :: _)), .d (.bool _) => K s
    | _, _ => False)

theorem wild_write {t : TypeId} {y v : Operand} {ti : TI} {c u : D} {cells : List D} (hT : TFacts P t ti) (h1 : ti.size = 1) (hC : CCk x s a w ok ρ) (hfx : s.fx = .wild) (ho : WO s.objs) (hE : WE s.env)
    (hy : s.ev y = .d (.ptr (c :: cells))) (hv : s.ev v = .d u) (hk : ∀ a b, DRep w ok c a → DRep w ok u b → SameK a b) :
    ∃ w', (do Instr.storeAt t (a.eval y) (a.eval v); pure .skip : Sem Next).run P w = .ok .skip w' ∧ CCk x s a w' ok ρ := by
  have ry := ev_rep hC.env y
  have rv := ev_rep hC.env v
  rw [hy] at ry
  rw [hv] at rv
  generalize hye : a.eval y = yv at ry
  generalize hve : a.eval v = vv at rv
  cases ry with | d ry =>
  cases ry with | @ptr _ _ b off vs hok hc hd =>
  obtain ⟨cs, bt, hb⟩ := wild_unf hC hfx b hok
  obtain ⟨g1, g2⟩ := cell_get hb (hc 0 c rfl)
  have hcl : (V.d u).cells = some [.d u] := rfl
  obtain ⟨c1, c2⟩ := cells_rep rv hcl
  obtain ⟨w', cs', r1, r2, r3, r4, r5, r6, r7, r8, r9, r10⟩ := storeVar_run (P := P) hT (off := off) hb rv hcl (by simp [h1]) (by simp only [List.length_cons, List.length_nil]; omega)
  have hP : Pres ok w w' := by
    intro k cs0 t0 hk0 hb0
    by_cases e : k = b
    · subst e
      rw [hb] at hb0
      cases hb0
      refine ⟨cs', r2, r3, fun j => ?_⟩
      by_cases e2 : j = off
      · subst e2
        rw [r4 j (Nat.le_refl _) (by simp)]
        have h0 := (c2 0 _ rfl).1
        rw [Nat.sub_self]
        generalize Array.getD _ 0 undef = q at h0 ⊢
        cases h0 with | d h0 =>
        have hd0 := hd 0 c rfl
        rw [g2] at hd0
        exact hk _ _ hd0 h0
      · rw [r5 j (by simp only [List.length_cons, List.length_nil]; omega)]
        exact .inl rfl
    · exact ⟨cs0, by rw [r6 k e]; exact hb0, rfl, fun _ => .inl rfl⟩
  refine ⟨w', by rw [Sem.run_bind, r1]; rfl, wild_step hC hfx ho hE hP (fun k hk hn => r6 k (fun e => hn (e ▸ hok))) (by omega) (fun k q hq => ?_) r8 r9 r10⟩
  by_cases e : k = b
  · subst e; simp only [World.shape?, hb, r2] at hq ⊢; rw [r3]; exact hq
  · rw [shape_of_block (r6 k e)]; exact hq

theorem aopSt_sound (hT : TOk P TT) {K : St → Prop} {dst : Option Nat} {t : TypeId} {y v : Operand} (hC : CCk x s a w ok ρ) (h : aopSt TT s dst t y v K) :
    dst = none ∧ ∃ w', (do Instr.storeAt t (a.eval y) (a.eval v); pure .skip : Sem Next).run P w = .ok .skip w' ∧ K s ∧ CCk x s a w' ok ρ := by
  obtain ⟨h1, h2, h3, h4, h5, h6⟩ := h
  refine ⟨h1, ?_⟩
  split at h5
  · rename_i ti ht
    split at h6
    · rename_i k r k' n e1 e2
      obtain ⟨rfl, hK⟩ := h6
      obtain ⟨w', g1, g2⟩ := wild_write (hT.facts ht) h5 hC h2 h3 h4 e1 e2 (fun a b ha hb => by cases ha; cases hb; exact .inr (.inl ⟨_, _, _, rfl, rfl⟩))
      exact ⟨w', g1, hK, g2⟩
    · rename_i r n e1 e2
      obtain ⟨w', g1, g2⟩ := wild_write (hT.facts ht) h5 hC h2 h3 h4 e1 e2 (fun a b ha hb => by cases ha; cases hb; exact .inr (.inr ⟨_, _, rfl, rfl⟩))
      exact ⟨w', g1, h6, g2⟩
    · exact h6.elim
  · exact h5.elim

end
end Go.Fw

/- Calls that write into named data's memory; calls that give data of memory from now on; calls that write data of a stretch of memory. -/
set_option linter.unusedSimpArgs false
set_option linter.unusedVariables false
namespace Go.Fw

/-- v' tells of v that its memory is older than n. -/
def LA (n : Nat) (v v' : V) : Prop := ∀ w ok ρ u, (∀ b, ok b → b < n) → VRep w ok ρ v u → VRep w ok ρ v' u
def LAs (n : Nat) : List V → List V → Prop
  | [], [] => True
  | v :: vs, v' :: vs' => LA n v v' ∧ LAs n vs vs'
  | _, _ => False

theorem LAs_get {n : Nat} : ∀ {vs vs' : List V}, LAs n vs vs' → vs'.length = vs.length ∧ ∀ (i : Nat) v', vs'[i]? = some v' → ∃ v, vs[i]? = some v ∧ LA n v v'
  | [], [], _ => by simp
  | [], _ :: _, h => by simp [LAs] at h
  | _ :: _, [], h => by simp [LAs] at h
  | v :: vs, v' :: vs', h => by
    simp only [LAs] at h
    obtain ⟨h1, h2⟩ := LAs_get h.2
    refine ⟨by simp [h1], fun i u hi => ?_⟩
    cases i with
    | zero => obtain rfl : v' = u := by simpa using hi
              exact ⟨v, rfl, h.1⟩
    | succ i => exact h2 i u (by simpa using hi)

/-- Named data that the rows hold. -/
def BlIn (rows : List (List D)) (b : Nat) : Prop := ∃ r ∈ rows, ∃ sz q, D.bl (some b) sz q ∈ r
/-- Rows of flat cells and of named data. -/
def okRows (rows : List (List D)) : Prop := ∀ r ∈ rows, ∀ x ∈ r, x.flat = true ∨ ∃ b sz q, x = .bl b sz q
/-- A block of named data that the state holds. -/
def KnownB (s : St) (b : Nat) : Prop := (∃ (j sz : Nat) (q : List (List D)), getE s.env j = .d (.bl (some b) sz q)) ∨ (∃ (i sz : Nat) (rows : List (List D)), s.objs[i]? = some (O.arr sz rows) ∧ BlIn rows b) ∨
  ∃ (i j sz : Nat) (cells : List V) (q : List (List D)), s.objs[i]? = some (O.box cells) ∧ cells[j]? = some (.d (.bl (some b) sz q))

/-- An age that the state's data shows to be past. -/
def KnownA (s : St) (k : Nat) : Prop := ∃ (i j : Nat) (cells : List V) (rows : List (List D)), s.objs[i]? = some (O.box cells) ∧ cells[j]? = some (.hd k (.lst rows)) ∧ rows ≠ []

/-- An object of whose data's memory it is known that it is older than m. -/
def cvO (m : Nat) (o o' : O) : Prop := o' = o ∨ o' = .dead ∨ ∃ cells cells', o = .box cells ∧ o' = .box cells' ∧ LAs m cells cells'
def cvOs (m : Nat) : List O → List O → Prop
  | [], [] => True
  | o :: os, o' :: os' => cvO m o o' ∧ cvOs m os os'
  | _, _ => False

/-- v' tells less than v, and speaks of memory from lo to hi alone. -/
def WB (lo hi : Nat) (v v' : V) : Prop := ∀ w ok ρ u, VRep w ok ρ v u → VRep w (fun b => ok b ∧ lo ≤ b ∧ b < hi) [] v' u
def WBs (lo hi : Nat) : List V → List V → Prop
  | [], [] => True
  | v :: vs, v' :: vs' => WB lo hi v v' ∧ WBs lo hi vs vs'
  | _, _ => False

mutual
/-- What is still known of a slot when the memory from lo to hi is written. -/
def loB (lo hi : Nat) : V → Prop
  | .d x => x.flat = true
  | .ld m _ => m ≤ lo
  | .hd m _ => hi ≤ m
  | .iv a b _ => b ≤ lo ∨ hi ≤ a
  | .agg cs => loBs lo hi cs
  | .tup cs => loBs lo hi cs
  | _ => True
def loBs (lo hi : Nat) : List V → Prop
  | [] => True
  | c :: cs => loB lo hi c ∧ loBs lo hi cs
end

/-- What is still known of an object then. -/
def loBO (lo hi : Nat) (o o' : O) : Prop :=
  match o' with
  | .dead => True
  | .box cells => o = .box cells ∧ loBs lo hi cells
  | .arr sz rows => o = .arr sz rows ∧ okRows rows ∧ ∀ b, BlIn rows b → b < lo ∨ hi ≤ b
def loBOs (lo hi : Nat) : List O → List O → Prop
  | [], [] => True
  | o :: os, o' :: os' => loBO lo hi o o' ∧ loBOs lo hi os os'
  | _, _ => False
def keepB (lo hi : Nat) (e : List (Nat × V)) : List Nat → Prop
  | [] => True
  | j :: ls => loB lo hi (getE e j) ∧ keepB lo hi e ls

/-- The other objects, when named data that is not older than lo is written. -/
def otO (lo : Nat) (id k : Nat) : List O → Prop
  | [] => True
  | o :: os => (k = id ∨ (match o with
    | .dead => True
    | .box cells => loPs lo cells
    | .arr _ rows => ∀ r ∈ rows, ∀ x ∈ r, x.flat = true)) ∧ otO lo id (k + 1) os

/-- The function f, called with an object whose rows hold named data: it may write that too. -/
structure AZon (P : Program) (f : Nat) (args : List V) (sz : Nat) (rows : List (List D)) (Post : V → List O → Prop) : Prop where
  body : callable P f = true
  run : ∀ (w : World) (ok : Nat → Prop) (ρ : List (Option Nat)) (vs : Array Value), Inv w ok ρ [.arr sz rows] → vs.size = args.length → (∀ (i : Nat) x, args[i]? = some x → VRep w ok ρ x (vs.getD i undef)) →
    Calls P f vs w fun e w' => ∃ v r objs' ok' ρ', e = .returned v ∧ Post r objs' ∧ Inv w' ok' ρ' objs' ∧ VRep w' ok' ρ' r v ∧ Frm ⟨w, ok, ρ, [.arr sz rows], true, false⟩ w' ok' ρ' objs'

theorem AZon.mono {P : Program} {f : Nat} {args : List V} {sz : Nat} {rows : List (List D)} {Post Post' : V → List O → Prop} (h : AZon P f args sz rows Post) (hp : ∀ r os, Post r os → Post' r os) : AZon P f args sz rows Post' := by
  refine ⟨h.1, fun w ok ρ vs hI hs hv => ?_⟩
  refine (h.2 w ok ρ vs hI hs hv).mono ?_
  rintro e w' ⟨v, r, os, ok', ρ', h1, h2, h3⟩
  exact ⟨v, r, os, ok', ρ', h1, hp _ _ h2, h3⟩

/-- Such calls. -/
def ACallY (P : Program) (s : St) (f : Nat) (args : List V) (K : V → St → Prop) : Prop :=
  (∃ n, (s.fx = .law n ∨ s.fx = .hi n) ∧ callable P f = true ∧ ∀ m, n ≤ m → (∀ b, KnownB s b → b < m) → (∀ k, KnownA s k → k < m) → ∃ env' objs' args', (∀ j, LA m (getE s.env j) (getE env' j)) ∧ cvOs m s.objs objs' ∧ argVs s.objs [] [] args = some args' ∧
    AXon P (.hi m) f args' fun r os => K (backV [] s.objs.length r) ⟨env', backs [] s.objs.length objs' os, s.n, s.fx⟩) ∨
  (∃ n lo hi args' ls objs', s.fx = .law n ∧ n ≤ lo ∧ WBs lo hi args args' ∧ loBOs lo hi s.objs objs' ∧ keepB lo hi s.env ls ∧ AXon P .wild f args' fun r _ => ∃ x : D, r = .d x ∧ x.flat = true ∧ K r { s with env := keepE s.env ls, objs := objs' }) ∨
  (∃ bo sz q szA rows i j r ls, ∃ fl : List D, s.fx = .bw ∧ s.objs = [.arr szA rows] ∧ rows[i]? = some r ∧ r[j]? = some (.bl bo sz q) ∧ args = .d (.bl bo sz q) :: fl.map .d ∧ (∀ x ∈ fl, x.flat = true) ∧ okRows rows ∧
    (∀ i' j' r' b' sz' q', rows[i']? = some r' → r'[j']? = some (.bl (some b') sz' q') → ¬ (i' = i ∧ j' = j) → bo ≠ some b') ∧ (∀ k ∈ ls, flatV (getE s.env k) = true) ∧
    ACon P f (.msl 0 sz 0 q.length :: fl.map .d) [.arr sz q] fun y os => ∃ (x : D) (q' : List (List D)), y = .d x ∧ x.flat = true ∧ os = [.arr sz q'] ∧ q'.length = q.length ∧ (∀ r ∈ q', ∀ x ∈ r, x.flat = true) ∧
      K y { s with env := keepE s.env ls, objs := [.arr szA (rows.set i (r.set j (.bl bo sz q')))] }) ∨
  (∃ id szA rows args' ls lo, s.objs[id]? = some (.arr szA rows) ∧ ((s.fx = .bw ∧ id = 0) ∨ ∃ n, s.fx = .law n ∧ n ≤ lo) ∧ (∀ b, BlIn rows b → lo ≤ b) ∧ okRows rows ∧ otO lo id 0 s.objs ∧ argVs s.objs [id] [] args = some args' ∧ flatVs args' = true ∧ keepP lo s.env ls ∧
    AZon P f args' szA rows fun r os => ∃ (x : D) (rows' : List (List D)), r = .d x ∧ x.flat = true ∧ os = [.arr szA rows'] ∧ okRows rows' ∧ K r { s with env := keepE s.env ls, objs := s.objs.set id (.arr szA rows') })

/-- A call of such a function. -/
def ACallX (P : Program) (s : St) (f : Nat) (args : List V) (K : V → St → Prop) : Prop := ACallX0 P s f args K ∨ ACallY P s f args K

section
variable {P : Program} {TT : Nat → Option TI} {w w' : World} {ok : Nat → Prop} {ρ : List (Option Nat)} {x : Ctx} {s : St} {a : Act}

theorem bl_ok {b sz : Nat} {q : List (List D)} {v : Value} (h : DRep w ok (.bl (some b) sz q) v) : ok b := by
  cases h with
  | bl hok => exact hok

theorem bl_keep {ok2 : Nat → Prop} {bo : Option Nat} {sz : Nat} {q : List (List D)} {v : Value} (h : DRep w ok (.bl bo sz q) v) (hk : ∀ b, bo = some b → ok b → ok2 b ∧ w'.heap[b]? = w.heap[b]?) : DRep w' ok2 (.bl bo sz q) v := by
  cases h with
  | bl0 => exact .bl0
  | bl hok hsz hh hcap hcs hfl hd =>
    obtain ⟨h1, h2⟩ := hk _ rfl hok
    exact .bl h1 hsz (by rw [h2]; exact hh) hcap hcs hfl (fun i j r y hi hj => (hd i j r y hi hj).of_flat (hfl r (List.mem_of_getElem? hi) y (List.mem_of_getElem? hj)))

/-- Flat cells and named data stay when the named blocks do. -/
theorem row_keep {ok2 : Nat → Prop} {rows : List (List D)} (ho : okRows rows) (hk : ∀ b, BlIn rows b → ok b → ok2 b ∧ w'.heap[b]? = w.heap[b]?) {i j : Nat} {r : List D} {y : D} {v : Value} (hi : rows[i]? = some r) (hj : r[j]? = some y) (h : DRep w ok y v) : DRep w' ok2 y v := by
  rcases ho r (List.mem_of_getElem? hi) y (List.mem_of_getElem? hj) with hf | ⟨b, sz, q, rfl⟩
  · exact h.of_flat hf
  · exact bl_keep h fun b' e => hk b' ⟨r, List.mem_of_getElem? hi, sz, q, e ▸ List.mem_of_getElem? hj⟩

theorem known_row (hI : Inv w ok ρ s.objs) {i sz : Nat} {rows : List (List D)} (ho : s.objs[i]? = some (.arr sz rows)) {b : Nat} (hb : BlIn rows b) : ok b := by
  obtain ⟨r, hr, sz', q, hx⟩ := hb
  obtain ⟨k, hk⟩ := List.mem_iff_getElem?.1 hr
  obtain ⟨j, hj⟩ := List.mem_iff_getElem?.1 hx
  obtain ⟨_, ⟨e, _⟩ | ⟨b', cs, t, h1, h2, h3, h4⟩⟩ := hI.own i _ ho
  · subst e; simp at hr
  · exact bl_ok (h4 k j r _ hk hj)

theorem known_ok (hC : CCk x s a w ok ρ) {b : Nat} (hb : KnownB s b) : ok b := by
  rcases hb with ⟨j, sz, q, h1⟩ | ⟨i, sz, rows, h1, h2⟩ | ⟨i, j, sz, cells, q, h1, h2⟩
  · have := hC.env j
    rw [h1] at this
    cases this with | d h => exact bl_ok h
  · exact known_row hC.inv h1 h2
  · obtain ⟨b', cs, t, _, _, _, h4⟩ := hC.inv.own i _ h1
    have := h4 j _ h2
    generalize cs.getD j undef = u at this
    cases this with | d h => exact bl_ok h

theorem known_age (hC : CCk x s a w ok ρ) {k : Nat} (hk : KnownA s k) : k < w.heap.size := by
  obtain ⟨i, j, cells, rows, h1, h2, h3⟩ := hk
  obtain ⟨b', cs, t, _, _, _, h4⟩ := hC.inv.own i _ h1
  have := h4 j _ h2
  generalize cs.getD j undef = u at this
  cases this with | hd h =>
  cases h with
  | nil => exact absurd rfl h3
  | lst hok => exact Nat.lt_of_le_of_lt hok.2 (hC.inv.okb _ hok.1)

theorem loBs_get {lo hi : Nat} : ∀ {cs : List V}, loBs lo hi cs → ∀ (i : Nat) c, cs[i]? = some c → loB lo hi c
  | [], _, i, c, h => by simp at h
  | y :: cs, hf, i, c, h => by
    simp only [loBs] at hf
    cases i with
    | zero => obtain rfl : y = c := by simpa using h
              exact hf.1
    | succ i => exact loBs_get hf.2 i c (by simpa using h)

theorem loB_rep {lo hi : Nat} {y : V} {v : Value} (h : VRep w ok ρ y v) (hw : ∀ b, ok b → (b < lo ∨ hi ≤ b) → w'.heap[b]? = w.heap[b]?) (hs : ∀ b q, w.shape? b = some q → w'.shape? b = some q) (hl : loB lo hi y) :
    VRep w' (fun b => ok b ∧ (b < lo ∨ hi ≤ b)) ρ y v := by
  induction h with
  | d h => exact .d (h.of_flat hl)
  | oref h => exact .oref h
  | aref h => exact .aref h
  | msl h hc hs' hn => exact .msl h hc (hs _ _ hs') hn
  | msl0 h => exact .msl0 h
  | nils => exact .nils
  | agg hn _ ih => exact .agg hn (fun i c hi => ih i c hi (loBs_get hl i c hi))
  | tup hn _ ih => exact .tup hn (fun i c hi => ih i c hi (loBs_get hl i c hi))
  | any => exact .any
  | hd h =>
    simp only [loB] at hl
    exact .hd (h.mono (fun b hb => hw b hb.1 (.inr (Nat.le_trans hl hb.2))) (fun b hb => ⟨⟨hb.1, .inr (Nat.le_trans hl hb.2)⟩, hb.2⟩))
  | ld h =>
    simp only [loB] at hl
    exact .ld (h.mono (fun b hb => hw b hb.1 (.inl (Nat.lt_of_lt_of_le hb.2 hl))) (fun b hb => ⟨⟨hb.1, .inl (Nat.lt_of_lt_of_le hb.2 hl)⟩, hb.2⟩))
  | iv h =>
    simp only [loB] at hl
    have hk : ∀ b c d, c ≤ b ∧ b < d → d ≤ lo ∨ hi ≤ c → b < lo ∨ hi ≤ b := fun b c d h1 h2 => by omega
    exact .iv (h.mono (fun b hb => hw b hb.1 (hk b _ _ hb.2 hl)) (fun b hb => ⟨⟨hb.1, hk b _ _ hb.2 hl⟩, hb.2⟩))

theorem loBOs_get {lo hi : Nat} : ∀ {os os' : List O}, loBOs lo hi os os' → os'.length = os.length ∧ ∀ (i : Nat) o', os'[i]? = some o' → ∃ o, os[i]? = some o ∧ loBO lo hi o o'
  | [], [], _ => by simp
  | [], _ :: _, h => by simp [loBOs] at h
  | _ :: _, [], h => by simp [loBOs] at h
  | v :: vs, v' :: vs', h => by
    simp only [loBOs] at h
    obtain ⟨h1, h2⟩ := loBOs_get h.2
    refine ⟨by simp [h1], fun i u hi => ?_⟩
    cases i with
    | zero => obtain rfl : v' = u := by simpa using hi
              exact ⟨v, rfl, h.1⟩
    | succ i => exact h2 i u (by simpa using hi)
theorem WBs_get {lo hi : Nat} : ∀ {vs vs' : List V}, WBs lo hi vs vs' → vs'.length = vs.length ∧ ∀ (i : Nat) v', vs'[i]? = some v' → ∃ v, vs[i]? = some v ∧ WB lo hi v v'
  | [], [], _ => by simp
  | [], _ :: _, h => by simp [WBs] at h
  | _ :: _, [], h => by simp [WBs] at h
  | v :: vs, v' :: vs', h => by
    simp only [WBs] at h
    obtain ⟨h1, h2⟩ := WBs_get h.2
    refine ⟨by simp [h1], fun i u hi => ?_⟩
    cases i with
    | zero => obtain rfl : v' = u := by simpa using hi
              exact ⟨v, rfl, h.1⟩
    | succ i => exact h2 i u (by simpa using hi)
theorem keepB_get {lo hi : Nat} {e : List (Nat × V)} : ∀ {ls : List Nat}, keepB lo hi e ls → ∀ j, getE (keepE e ls) j = .any ∨ (getE (keepE e ls) j = getE e j ∧ loB lo hi (getE e j))
  | [], _, j => .inl rfl
  | i :: ls, h, j => by
    simp only [keepE, getE]
    split
    · rename_i e; subst e; exact .inr ⟨rfl, h.1⟩
    · exact keepB_get h.2 j
theorem cvOs_get {m : Nat} : ∀ {os os' : List O}, cvOs m os os' → os'.length = os.length ∧ ∀ (i : Nat) o', os'[i]? = some o' → ∃ o, os[i]? = some o ∧ cvO m o o'
  | [], [], _ => by simp
  | [], _ :: _, h => by simp [cvOs] at h
  | _ :: _, [], h => by simp [cvOs] at h
  | v :: vs, v' :: vs', h => by
    simp only [cvOs] at h
    obtain ⟨h1, h2⟩ := cvOs_get h.2
    refine ⟨by simp [h1], fun i u hi => ?_⟩
    cases i with
    | zero => obtain rfl : v' = u := by simpa using hi
              exact ⟨v, rfl, h.1⟩
    | succ i => exact h2 i u (by simpa using hi)
theorem otO_get {lo id : Nat} : ∀ {os : List O} {k : Nat}, otO lo id k os → ∀ (i : Nat) o, os[i]? = some o → k + i = id ∨ (match o with
    | .dead => True
    | .box cells => loPs lo cells
    | .arr _ rows => ∀ r ∈ rows, ∀ x ∈ r, x.flat = true)
  | [], _, _, i, o, h => by simp at h
  | p :: os, k, h, i, o, hi => by
    simp only [otO] at h
    cases i with
    | zero => obtain rfl : p = o := by simpa using hi
              exact h.1
    | succ i => have := otO_get h.2 i o (by simpa using hi)
                rcases this with e | e
                · exact .inl (by omega)
                · exact .inr e

/-- The state, with what is known of the memory's age. -/
theorem cv_state {m : Nat} {env' : List (Nat × V)} {objs' : List O} (hC : CCk x s a w ok ρ) (hm : ∀ b, ok b → b < m) (hE : ∀ j, LA m (getE s.env j) (getE env' j)) (hO : cvOs m s.objs objs') : CCk x ⟨env', objs', s.n, s.fx⟩ a w ok ρ := by
  obtain ⟨hI, hF, he, hn, hd, hx⟩ := hC
  obtain ⟨l1, l2⟩ := cvOs_get hO
  have hlv : ∀ (i : Nat) (o : O), objs'[i]? = some o → o.live = true → ∃ o0, s.objs[i]? = some o0 ∧ o0.live = true := by
    intro i o h1 h2
    obtain ⟨o0, e1, e2⟩ := l2 i o h1
    rcases e2 with rfl | rfl | ⟨cs, cs', rfl, rfl, _⟩
    · exact ⟨_, e1, h2⟩
    · cases h2
    · exact ⟨_, e1, rfl⟩
  refine ⟨⟨by rw [hI.len]; exact l1.symm, hI.okb, fun i o hi => ?_, fun i j oi oj b h1 h2 h3 h4 => ?_, fun i o b h1 h2 => ?_⟩, ⟨hF.os, hF.tape, hF.output, hF.size, hF.block, hF.shape, hF.okup, fun b hb => ?_, hF.rho, fun i o b h1 h2 => ?_, hF.unf, hF.pres⟩, fun j => hE j w ok ρ _ hm (he j), hn, hd, hx⟩
  · obtain ⟨o0, e1, e2⟩ := l2 i o hi
    have := hI.own i o0 e1
    rcases e2 with rfl | rfl | ⟨cs, cs', rfl, rfl, hc⟩
    · exact this
    · trivial
    · obtain ⟨b, cv, t, h1, h2, h3, h4⟩ := this
      obtain ⟨g1, g2⟩ := LAs_get hc
      refine ⟨b, cv, t, h1, h2, by rw [h3]; exact g1.symm, fun j c hj => ?_⟩
      obtain ⟨c0, f1, f2⟩ := g2 j c hj
      exact f2 w ok ρ _ hm (h4 j c0 f1)
  · obtain ⟨o1, e1, e2⟩ := hlv i oi h1 h3
    obtain ⟨o2, f1, f2⟩ := hlv j oj h2 h4
    exact hI.dis i j o1 o2 b e1 f1 e2 f2
  · obtain ⟨o1, e1, e2⟩ := hlv i o h1 h2
    exact hI.nok i o1 b e1 e2
  · refine (hF.okdn b hb).imp_right (fun h => h.imp_right (fun ⟨i, o, g1, g2, g3, g4⟩ => ⟨i, o, g1, g2, g3, ?_⟩))
    have hil : i < objs'.length := by rw [l1]; exact (List.getElem?_eq_some_iff.1 g4).1
    obtain ⟨o0, e1, e2⟩ := l2 i _ (List.getElem?_eq_getElem hil)
    rw [g4] at e1
    obtain rfl := Option.some.inj e1
    rcases e2 with e | e | ⟨cs, cs', e, _⟩
    · rw [List.getElem?_eq_getElem hil, e]
    · rw [List.getElem?_eq_getElem hil, e]
    · cases e
  · obtain ⟨o1, e1, e2⟩ := hlv i o h1 h2
    exact hF.own i o1 b e1 e2

theorem okC_nil {objs : List O} : okC objs ok ρ [] = ok := by
  funext b
  apply propext
  exact ⟨fun h => h.elim id (fun ⟨id, o, hm, _⟩ => by simp at hm), .inl⟩

theorem callY1_sound {f n : Nat} {args : List V} {vs : Array Value} {K : V → St → Prop} (hC : CCk x s a w ok ρ) (hsz : vs.size = args.length) (hargs : ∀ (i : Nat) y, args[i]? = some y → VRep w ok ρ y (vs.getD i undef))
    (hfx : s.fx = .law n ∨ s.fx = .hi n) (h : ∀ m, n ≤ m → (∀ b, KnownB s b → b < m) → (∀ k, KnownA s k → k < m) → ∃ env' objs' args', (∀ j, LA m (getE s.env j) (getE env' j)) ∧ cvOs m s.objs objs' ∧ argVs s.objs [] [] args = some args' ∧
      AXon P (.hi m) f args' fun r os => K (backV [] s.objs.length r) ⟨env', backs [] s.objs.length objs' os, s.n, s.fx⟩) :
    Calls P f vs w fun e w' => ∃ v, e = .returned v ∧ ∃ y s' ok2 ρ2, K y s' ∧ s'.n = s.n ∧ CCk x s' a w' ok2 ρ2 ∧ VRep w' ok2 ρ2 y v := by
  have hn : n ≤ w.heap.size := by
    obtain ⟨_, _, f3⟩ := hC.fx
    have := hC.frm.size
    rcases hfx with e | e <;> rw [e] at f3
    · have := f3.1; omega
    · have f3 : n ≤ x.w.heap.size := f3
      omega
  obtain ⟨env', objs', args', hE, hO, h1, h2⟩ := h w.heap.size hn (fun b hb => hC.inv.okb b (known_ok hC hb)) (fun k hk => known_age hC hk)
  have hC' := cv_state hC hC.inv.okb hE hO
  obtain ⟨la, ga⟩ := argVs_get h1
  have hl := (cvOs_get hO).1
  refine (h2.2 w ok vs ⟨rfl, ⟨rfl, rfl⟩, Nat.le_refl _⟩ hC.inv.okb (by omega) (fun i y hi => ?_)).mono ?_
  · have hil := (List.getElem?_eq_some_iff.1 hi).1
    obtain ⟨y', e1, e2⟩ := ga i _ (List.getElem?_eq_getElem (by omega : i < args.length))
    rw [hi] at e1
    obtain rfl : y = y' := by simpa using e1
    have := argV_sound (ids := []) hC.inv (hargs i _ (List.getElem?_eq_getElem (by omega : i < args.length))) e2
    rwa [okC_nil] at this
  · rintro e w' ⟨v, r, os', ok', ρ', rfl, hK, hI', hV', hF'⟩
    obtain ⟨ok2, ρ2, k1, k2⟩ := call_back (ids := []) (bs := []) (os0 := []) (os := []) hC' List.nodup_nil (by simp) rfl rfl (by simp) hI' hV' (by rw [okC_nil]; exact hF') (.inl rfl)
    rw [hl] at k1 k2
    exact ⟨v, rfl, _, _, ok2, ρ2, hK, rfl, k1, k2⟩

theorem callY2_sound {f n lo hi : Nat} {args args' : List V} {ls : List Nat} {objs' : List O} {vs : Array Value} {K : V → St → Prop} (hC : CCk x s a w ok ρ) (hsz : vs.size = args.length) (hargs : ∀ (i : Nat) y, args[i]? = some y → VRep w ok ρ y (vs.getD i undef))
    (hfx : s.fx = .law n) (hnl : n ≤ lo) (h1 : WBs lo hi args args') (hfl : loBOs lo hi s.objs objs') (hkp : keepB lo hi s.env ls) (h2 : AXon P .wild f args' fun r _ => ∃ x : D, r = .d x ∧ x.flat = true ∧ K r { s with env := keepE s.env ls, objs := objs' }) :
    Calls P f vs w fun e w' => ∃ v, e = .returned v ∧ ∃ y s' ok2 ρ2, K y s' ∧ s'.n = s.n ∧ CCk x s' a w' ok2 ρ2 ∧ VRep w' ok2 ρ2 y v := by
  obtain ⟨la, ga⟩ := WBs_get h1
  obtain ⟨f1, ⟨f2, _⟩, f3⟩ := hC.fx
  rw [hfx] at f1 f2 f3
  have f3 : x.w.heap.size = n ∧ ∀ b, x.ok b → b < n := f3
  have hF := hC.frm
  have hI := hC.inv
  have hU : ∀ b, ok b ∧ lo ≤ b ∧ b < hi → Unf w b := by
    intro b ⟨hb, hn, _⟩
    rcases hF.unf b hb with h | h
    · have := f3.2 b h; omega
    · exact h
  refine (h2.2 w (fun b => ok b ∧ lo ≤ b ∧ b < hi) vs ⟨rfl, ⟨rfl, rfl⟩, hU⟩ (fun b hb => hI.okb b hb.1) (by omega) (fun i y hi => ?_)).mono ?_
  · obtain ⟨v, e1, e2⟩ := ga i y hi
    exact e2 w ok ρ _ (hargs i v e1)
  rintro e w' ⟨v, r, os', ok', ρ', rfl, ⟨y, rfl, hf, hK⟩, hI', hV', hF'⟩
  have hblk : ∀ b, b < w.heap.size → ¬ (ok b ∧ lo ≤ b ∧ b < hi) → w'.heap[b]? = w.heap[b]? := fun b hb hn => hF'.block b hb (fun i o h => by simp at h) (fun _ => hn)
  have hlo : ∀ b, ok b → (b < lo ∨ hi ≤ b) → w'.heap[b]? = w.heap[b]? := fun b hb hn => hblk b (hI.okb b hb) (fun h => by omega)
  have hown : ∀ (i : Nat) (o : O) (b : Nat), s.objs[i]? = some o → o.live = true → ρ[i]? = some (some b) → w'.heap[b]? = w.heap[b]? := by
    intro i o b h1 h2 h3
    exact hblk b (hI.live_lt h1 h2 h3) (fun h => hI.nok i o b h1 h2 h3 h.1)
  obtain ⟨ll, lg⟩ := loBOs_get hfl
  have hx0 : x.objs = [] := List.eq_nil_of_length_eq_zero f1
  have hlv : ∀ (i : Nat) (o' : O), objs'[i]? = some o' → o'.live = true → s.objs[i]? = some o' := by
    intro i o' hi hl
    obtain ⟨o, h1, h2⟩ := lg i o' hi
    cases o' with
    | dead => cases hl
    | box cells => rw [h1, h2.1]
    | arr sz rows => rw [h1, h2.1]
  refine ⟨v, rfl, _, _, (fun b => ok b ∧ (b < lo ∨ hi ≤ b)), ρ, hK, rfl, ⟨⟨by rw [hI.len]; exact ll.symm, fun b hb => Nat.lt_of_lt_of_le (hI.okb b hb.1) hF'.size, fun i o' hi => ?_, fun i j oi oj b h1 h2 h3 h4 => hI.dis i j oi oj b (hlv i oi h1 h3) (hlv j oj h2 h4) h3 h4, fun i o b h1 h2 h3 h4 => hI.nok i o b (hlv i o h1 h2) h2 h3 h4.1⟩, ?_, fun j => ?_, hC.size, hC.defers, hC.fx⟩, ?_⟩
  · obtain ⟨o, hi0, hlo'⟩ := lg i o' hi
    have ho := hI.own i o hi0
    cases o' with
    | dead => trivial
    | box cells =>
      obtain ⟨rfl, hc⟩ := hlo'
      obtain ⟨b, cs, t, h1, h2, h3, h4⟩ := ho
      exact ⟨b, cs, t, h1, by rw [hown i _ b hi0 rfl h1]; exact h2, h3, fun j c hj => loB_rep (h4 j c hj) hlo hF'.shape (loBs_get hc j c hj)⟩
    | arr sz rows =>
      obtain ⟨rfl, hfo, hbo⟩ := hlo'
      obtain ⟨h0, h⟩ := ho
      refine ⟨h0, ?_⟩
      rcases h with ⟨h1, h2⟩ | ⟨b, cs, t, h1, h2, h3, h4⟩
      · exact .inl ⟨h1, h2⟩
      · exact .inr ⟨b, cs, t, h1, by rw [hown i _ b hi0 rfl h1]; exact h2, h3, fun k j r y hk hj => row_keep hfo (fun b hb hk => ⟨⟨hk, hbo b hb⟩, hlo b hk (hbo b hb)⟩) hk hj (h4 k j r y hk hj)⟩
  · refine ⟨hF'.os.trans hF.os, hF'.tape.trans hF.tape, hF'.output.trans hF.output, Nat.le_trans hF.size hF'.size, fun b hb h1 h2 => ?_, fun b q h => hF'.shape b q (hF.shape b q h), fun b hb => ⟨hF.okup b hb, .inl (Nat.lt_of_lt_of_le (f3.2 b hb) hnl)⟩, fun b hb => (hF.okdn b hb.1).imp_right (fun h => h.imp_right (fun ⟨id, o, g1, _⟩ => by rw [hx0] at g1; simp at g1)), hF.rho, fun i o b h1 h2 h3 => hF.own i o b (hlv i o h1 h2) h2 h3, fun b hb => ?_, fun e => by rw [f2] at e; cases e⟩
    · rw [hblk b (Nat.lt_of_lt_of_le hb hF.size) (fun h => by have := f3.1; omega)]
      exact hF.block b hb h1 h2
    · exact (hF.unf b hb.1).imp_right (fun hu => hu.of (hlo b hb.1 hb.2))
  · rcases keepB_get hkp j with e | ⟨e, hl⟩
    · show VRep w' _ ρ (getE (keepE s.env ls) j) _
      rw [e]; exact .any
    · show VRep w' _ ρ (getE (keepE s.env ls) j) _
      rw [e]; exact loB_rep (hC.env j) hlo hF'.shape hl
  · cases hV' with | d h => exact .d (h.of_flat hf)

theorem flat_any {ok2 : Nat → Prop} {y : V} {v : Value} (h : VRep w ok ρ y v) (hf : flatV y = true) (hs : ∀ b q, w.shape? b = some q → w'.shape? b = some q) : VRep w' ok2 ρ y v :=
  (lo_rep (n := 0) h (fun b _ hb => by omega) hs (flat_lo y hf)).mono (fun _ _ => rfl) (fun b hb => by omega) (fun _ _ h => h) (fun _ _ h => h)

theorem keepF_get {e : List (Nat × V)} : ∀ {ls : List Nat}, (∀ k ∈ ls, flatV (getE e k) = true) → ∀ j, getE (keepE e ls) j = .any ∨ (getE (keepE e ls) j = getE e j ∧ flatV (getE e j) = true)
  | [], _, j => .inl rfl
  | i :: ls, h, j => by
    simp only [keepE, getE]
    split
    · rename_i e; subst e; exact .inr ⟨rfl, h _ (by simp)⟩
    · exact keepF_get (fun k hk => h k (by simp [hk])) j

/-- Named data as an object of the callee's. -/
theorem bl_obj {bo : Option Nat} {sz : Nat} {q : List (List D)} {v : Value} (h : DRep w ok (.bl bo sz q) v) : Inv w (fun _ => False) [bo] [.arr sz q] ∧ VRep w (fun _ => False) [bo] (.msl 0 sz 0 q.length) v := by
  have hone : ∀ {α : Type} {z : α} {i : Nat} {y : α}, [z][i]? = some y → i = 0 ∧ y = z := by
    intro α z i y hi
    cases i with
    | zero => exact ⟨rfl, by simpa using hi.symm⟩
    | succ i => simp at hi
  cases h with
  | bl0 =>
    refine ⟨⟨rfl, fun b h => h.elim, fun i o hi => ?_, fun i j oi oj b hi hj _ _ _ _ => by rw [(hone hi).1, (hone hj).1], fun i o b _ _ _ h => h⟩, (show VRep w (fun _ => False) [none] (V.msl 0 sz 0 0) _ from .msl0 Nat.zero_lt_one)⟩
    obtain ⟨rfl, rfl⟩ := hone hi
    exact ⟨fun r hr => by simp at hr, .inl ⟨rfl, rfl⟩⟩
  | @bl _ b _ cap _ cs t hok hszr hh hcap hcs hfl hd =>
    refine ⟨⟨rfl, fun b h => h.elim, fun i o hi => ?_, fun i j oi oj b hi hj _ _ _ _ => by rw [(hone hi).1, (hone hj).1], fun i o b _ _ _ h => h⟩, ?_⟩
    · obtain ⟨rfl, rfl⟩ := hone hi
      exact ⟨hszr, .inr ⟨b, cs, t, rfl, hh, Nat.le_trans (Nat.mul_le_mul_right sz hcap) hcs, fun i j r y hi hj => (hd i j r y hi hj).of_flat (hfl r (List.mem_of_getElem? hi) y (List.mem_of_getElem? hj))⟩⟩
    · have := @VRep.msl w (fun _ => False) [some b] 0 sz 0 q.length cap b t cs.size rfl hcap (by simp [World.shape?, hh]) (by rw [Nat.zero_add]; exact hcs)
      rwa [Nat.zero_mul] at this

theorem callY3_sound {f sz szA i j : Nat} {bo : Option Nat} {q rows : List (List D)} {r fl : List D} {ls : List Nat} {args : List V} {vs : Array Value} {K : V → St → Prop} (hC : CCk x s a w ok ρ) (hsz : vs.size = args.length) (hargs : ∀ (i : Nat) y, args[i]? = some y → VRep w ok ρ y (vs.getD i undef))
    (hfx : s.fx = .bw) (hob : s.objs = [.arr szA rows]) (hri : rows[i]? = some r) (hrj : r[j]? = some (.bl bo sz q)) (ha : args = .d (.bl bo sz q) :: fl.map .d) (hfl : ∀ x ∈ fl, x.flat = true) (hok : okRows rows)
    (hsep : ∀ i' j' r' b' sz' q', rows[i']? = some r' → r'[j']? = some (.bl (some b') sz' q') → ¬ (i' = i ∧ j' = j) → bo ≠ some b') (hkp : ∀ k ∈ ls, flatV (getE s.env k) = true)
    (h2 : ACon P f (.msl 0 sz 0 q.length :: fl.map .d) [.arr sz q] fun y os => ∃ (x : D) (q' : List (List D)), y = .d x ∧ x.flat = true ∧ os = [.arr sz q'] ∧ q'.length = q.length ∧ (∀ r ∈ q', ∀ x ∈ r, x.flat = true) ∧
      K y { s with env := keepE s.env ls, objs := [.arr szA (rows.set i (r.set j (.bl bo sz q')))] }) :
    Calls P f vs w fun e w' => ∃ v, e = .returned v ∧ ∃ y s' ok2 ρ2, K y s' ∧ s'.n = s.n ∧ CCk x s' a w' ok2 ρ2 ∧ VRep w' ok2 ρ2 y v := by
  subst ha
  have hI := hC.inv
  have hF := hC.frm
  obtain ⟨f1, ⟨f2, fk⟩, _⟩ := hC.fx
  rw [hfx] at f1 f2 fk
  have h0 := hargs 0 _ rfl
  generalize hv0 : vs.getD 0 undef = v0 at h0
  cases h0 with | d h0 =>
  obtain ⟨hIc, hVc⟩ := bl_obj h0
  refine (h2.2 w (fun _ => False) [bo] vs hIc (by simpa using hsz) (fun k y hk => ?_)).mono ?_
  · cases k with
    | zero => obtain rfl := Option.some.inj hk
              rw [hv0]; exact hVc
    | succ k =>
      have hk' : (fl.map V.d)[k]? = some y := by simpa using hk
      have := hargs (k + 1) y (by simpa using hk')
      rw [List.getElem?_map, Option.map_eq_some_iff] at hk'
      obtain ⟨z, hz, rfl⟩ := hk'
      cases this with | d h => exact .d (h.of_flat (hfl z (List.mem_of_getElem? hz)))
  rintro e w' ⟨v, _, _, ok', ρ', rfl, ⟨y, q', rfl, hyf, rfl, hql, hqf, hK⟩, hI', hV', hF'⟩
  have hobj0 : s.objs[0]? = some (.arr szA rows) := by rw [hob]; rfl
  obtain ⟨hlr, hA⟩ := hI.own 0 _ hobj0
  obtain ⟨bA, csA, tA, a1, a2, a3, a4⟩ := hA.resolve_left (fun h => by rw [h.1] at hri; simp at hri)
  have hokb : ∀ b, bo = some b → ok b := fun b e => by subst e; exact bl_ok h0
  have hblk : ∀ k, k < w.heap.size → bo ≠ some k → w'.heap[k]? = w.heap[k]? := by
    intro k hk hne
    refine hF'.block k hk (fun id o h1 h2 h3 => ?_) (fun h => by cases h)
    cases id with
    | zero => exact hne (by simpa using h3)
    | succ id => simp at h1
  have hplain : ∀ b, bo = some b → ∃ cs t cs' t', w.heap[b]? = some (.cells cs t (0, 0)) ∧ w'.heap[b]? = some (.cells cs' t' (0, 0)) ∧ cs'.size = cs.size ∧ (∀ r ∈ q', r.length = sz) ∧ ∀ i j r y, q'[i]? = some r → r[j]? = some y → DRep w' ok y (cs'.getD (i * sz + j) undef) := by
    intro b hbo
    subst hbo
    obtain ⟨_, ⟨_, e⟩ | ⟨b1, cs, t, o1, o2, o3, o4⟩⟩ := hIc.own 0 _ rfl
    · simp at e
    obtain rfl : b = b1 := by simpa using o1
    have hr := hF'.rho 0 (some b) (by simp) rfl
    obtain ⟨g0, ⟨_, e⟩ | ⟨b2, cs', t', p1, p2, p3, p4⟩⟩ := hI'.own 0 _ rfl
    · rw [hr] at e; simp at e
    rw [hr] at p1
    obtain rfl : b = b2 := by simpa using p1
    have hsh := hF'.shape b (t, cs.size) (by simp [World.shape?, o2])
    simp only [World.shape?, p2, Option.some.injEq, Prod.mk.injEq] at hsh
    exact ⟨cs, t, cs', t', o2, p2, hsh.2, g0, fun i j r y hi hj => (p4 i j r y hi hj).of_flat (hqf r (List.mem_of_getElem? hi) y (List.mem_of_getElem? hj))⟩
  have hnew : ∀ u, DRep w ok (.bl bo sz q) u → DRep w' ok (.bl bo sz q') u := by
    intro u hu
    cases hu with
    | bl0 =>
      obtain rfl : q' = [] := List.eq_nil_of_length_eq_zero hql
      exact .bl0
    | @bl _ b _ cap _ cs0 t0 hok' hszr hh hcap hcs _ _ =>
      obtain ⟨cs, t, cs', t', e1, e2, e3, e4, e5⟩ := hplain b rfl
      rw [hh] at e1
      cases e1
      rw [← hql]
      exact .bl hok' e4 e2 (by omega) (by omega) hqf e5
  have hbA : bo ≠ some bA := fun e => hI.nok 0 _ bA hobj0 rfl a1 (hokb bA e)
  have hAlt : bA < w.heap.size := (Array.getElem?_eq_some_iff.1 a2).1
  have hone : ∀ {α : Type} {z : α} {i : Nat} {y : α}, [z][i]? = some y → i = 0 ∧ y = z := by
    intro α z i y hi
    cases i with
    | zero => exact ⟨rfl, by simpa using hi.symm⟩
    | succ i => simp at hi
  have hx1 : ∀ (id : Nat) (o : O), s.objs[id]? = some o → id = 0 ∧ o = .arr szA rows := fun id o h => by rw [hob] at h; exact hone h
  have hdn : ∀ k, ok k → x.ok k ∨ x.w.heap.size ≤ k := fun k hk => (hF.okdn k hk).imp_right (fun h => h.elim id (fun ⟨i0, o0, _, _, _, h4⟩ => by have := (hx1 i0 _ h4).2; cases this))
  refine ⟨v, rfl, _, _, ok, ρ, hK, rfl, ⟨⟨by rw [hI.len, hob]; rfl, fun k hk => Nat.lt_of_lt_of_le (hI.okb k hk) hF'.size, fun k o hk => ?_, fun k l ok' ol b' hk hl _ _ _ _ => by rw [(hone hk).1, (hone hl).1], fun k o b' hk _ hb' => ?_⟩, ?_, fun k => ?_, hC.size, hC.defers, hC.fx⟩, ?_⟩
  · obtain ⟨rfl, rfl⟩ := hone hk
    refine ⟨fun r' hr' => ?_, .inr ⟨bA, csA, tA, a1, by rw [hblk bA hAlt hbA]; exact a2, by rw [List.length_set]; exact a3, fun i' j' r' y' hi' hj' => ?_⟩⟩
    · rcases List.mem_or_eq_of_mem_set hr' with h | rfl
      · exact hlr _ h
      · rw [List.length_set]; exact hlr _ (List.mem_of_getElem? hri)
    · have hoth : ∀ r0, rows[i']? = some r0 → r0[j']? = some y' → ¬ (i' = i ∧ j' = j) → DRep w' ok y' (csA.getD (i' * szA + j') undef) := by
        intro r0 e1 e2 hne
        have hold := a4 i' j' r0 y' e1 e2
        rcases hok r0 (List.mem_of_getElem? e1) y' (List.mem_of_getElem? e2) with hf | ⟨b', sz', q'', rfl⟩
        · exact hold.of_flat hf
        · refine bl_keep hold fun b'' e hb' => ⟨hb', hblk b'' (hI.okb b'' hb') ?_⟩
          subst e
          exact hsep i' j' r0 b'' sz' q'' e1 e2 hne
      rw [List.getElem?_set] at hi'
      split at hi'
      · rename_i e
        subst e
        rw [if_pos (List.getElem?_eq_some_iff.1 hri).1] at hi'
        obtain rfl := Option.some.inj hi'
        rw [List.getElem?_set] at hj'
        split at hj'
        · rename_i e
          subst e
          rw [if_pos (List.getElem?_eq_some_iff.1 hrj).1] at hj'
          obtain rfl := Option.some.inj hj'
          exact hnew _ (a4 _ _ r _ hri hrj)
        · rename_i e
          exact hoth r hri hj' (fun h => e h.2.symm)
      · rename_i e
        exact hoth r' hi' hj' (fun h => e h.1.symm)
  · obtain ⟨rfl, _⟩ := hone hk
    exact hI.nok 0 _ b' hobj0 rfl hb'
  · refine ⟨hF'.os.trans hF.os, hF'.tape.trans hF.tape, hF'.output.trans hF.output, Nat.le_trans hF.size hF'.size, fun k hk g1 g2 => ?_, fun k z h => hF'.shape k z (hF.shape k z h), hF.okup, fun k hk => (hdn k hk).imp_right .inl, hF.rho, fun k o b' hk hl hb' => ?_, fun k hk => ?_, fun _ e => by rw [fk] at e; cases e⟩
    · rw [hblk k (Nat.lt_of_lt_of_le hk hF.size) (fun e => ?_)]
      · exact hF.block k hk g1 g2
      · rcases hdn k (hokb k e) with h | h
        · exact g2 f2 h
        · omega
    · obtain ⟨rfl, _⟩ := hone hk
      exact hF.own 0 _ b' hobj0 rfl hb'
    · by_cases hkb : bo = some k
      · obtain ⟨_, _, cs', t', _, e2, _⟩ := hplain k hkb
        exact .inr ⟨cs', t', e2⟩
      · exact (hF.unf k hk).imp_right fun hu => hu.of (hblk k (hI.okb k hk) hkb)
  · rcases keepF_get hkp k with e | ⟨e, hl⟩
    · show VRep w' _ ρ (getE (keepE s.env ls) k) _
      rw [e]; exact .any
    · show VRep w' _ ρ (getE (keepE s.env ls) k) _
      rw [e]; exact flat_any (hC.env k) hl hF'.shape
  · cases hV' with | d h => exact .d (h.of_flat hyf)

theorem callY4_sound {f id szA lo : Nat} {rows : List (List D)} {args args' : List V} {ls : List Nat} {vs : Array Value} {K : V → St → Prop} (hC : CCk x s a w ok ρ) (hsz : vs.size = args.length) (hargs : ∀ (i : Nat) y, args[i]? = some y → VRep w ok ρ y (vs.getD i undef))
    (hid : s.objs[id]? = some (.arr szA rows)) (hm : (s.fx = .bw ∧ id = 0) ∨ ∃ n, s.fx = .law n ∧ n ≤ lo) (hlo : ∀ b, BlIn rows b → lo ≤ b) (hok : okRows rows) (hot : otO lo id 0 s.objs) (h1 : argVs s.objs [id] [] args = some args') (hfa : flatVs args' = true) (hkp : keepP lo s.env ls)
    (h2 : AZon P f args' szA rows fun r os => ∃ (x : D) (rows' : List (List D)), r = .d x ∧ x.flat = true ∧ os = [.arr szA rows'] ∧ okRows rows' ∧ K r { s with env := keepE s.env ls, objs := s.objs.set id (.arr szA rows') }) :
    Calls P f vs w fun e w' => ∃ v, e = .returned v ∧ ∃ y s' ok2 ρ2, K y s' ∧ s'.n = s.n ∧ CCk x s' a w' ok2 ρ2 ∧ VRep w' ok2 ρ2 y v := by
  have hI := hC.inv
  have hF := hC.frm
  have hone : ∀ {α : Type} {z : α} {i : Nat} {y : α}, [z][i]? = some y → i = 0 ∧ y = z := by
    intro α z i y hi
    cases i with
    | zero => exact ⟨rfl, by simpa using hi.symm⟩
    | succ i => simp at hi
  have hil : id < ρ.length := by rw [hI.len]; exact (List.getElem?_eq_some_iff.1 hid).1
  obtain ⟨bo, hbo⟩ : ∃ bo, ρ[id]? = some bo := ⟨_, List.getElem?_eq_getElem hil⟩
  have hrc : rhoC ρ [id] = [bo] := by simp [rhoC, hbo]
  have hbl : ∀ b, BlIn rows b → ok b := fun b hb => known_row hI hid hb
  have hIc : Inv w (BlIn rows) [bo] [.arr szA rows] := by
    refine ⟨rfl, fun b hb => hI.okb b (hbl b hb), fun i o hi => ?_, fun i j oi oj b hi hj _ _ _ _ => by rw [(hone hi).1, (hone hj).1], fun i o b hi _ hb hk => ?_⟩
    · obtain ⟨rfl, rfl⟩ := hone hi
      obtain ⟨hl, hA⟩ := hI.own id _ hid
      refine ⟨hl, ?_⟩
      rcases hA with ⟨e1, e2⟩ | ⟨bA, cs, t, p1, p2, p3, p4⟩
      · rw [hbo] at e2
        exact .inl ⟨e1, e2⟩
      · rw [hbo] at p1
        exact .inr ⟨bA, cs, t, p1, p2, p3, fun i j r y hi hj => row_keep hok (fun b hb _ => ⟨hb, rfl⟩) hi hj (p4 i j r y hi hj)⟩
    · obtain ⟨rfl, rfl⟩ := hone hi
      have hb : bo = some b := by simpa using hb
      exact hI.nok id _ b hid rfl (by rw [hbo, hb]) (hbl b hk)
  obtain ⟨la, ga⟩ := argVs_get h1
  refine (h2.2 w (BlIn rows) [bo] vs hIc (by omega) (fun i y hi => ?_)).mono ?_
  · have hil := (List.getElem?_eq_some_iff.1 hi).1
    obtain ⟨y', e1, e2⟩ := ga i _ (List.getElem?_eq_getElem (by omega : i < args.length))
    rw [hi] at e1
    obtain rfl : y = y' := by simpa using e1
    have := argV_sound (ids := [id]) hC.inv (hargs i _ (List.getElem?_eq_getElem (by omega : i < args.length))) e2
    rw [hrc] at this
    exact flat_any this (flatVs_get hfa i y hi) (fun _ _ h => h)
  rintro e w' ⟨v, _, _, ok', ρ', rfl, ⟨y, rows', rfl, hyf, rfl, hok', hK⟩, hI', hV', hF'⟩
  have hρ' : ρ'[0]? = some bo := hF'.rho 0 bo (by simp) rfl
  have hdn : ∀ b, ok' b → BlIn rows b ∨ w.heap.size ≤ b := fun b hb => (hF'.okdn b hb).imp_right (fun h => h.elim (fun h => h) (fun ⟨i0, o0, _, _, _, h4⟩ => by have := (hone h4).2; cases this))
  have hblk : ∀ k, k < w.heap.size → bo ≠ some k → ¬ BlIn rows k → w'.heap[k]? = w.heap[k]? := by
    intro k hk hne hnb
    refine hF'.block k hk (fun i o h1 h2 h3 => ?_) (fun _ => hnb)
    obtain ⟨rfl, _⟩ := hone h1
    exact hne (by simpa using h3)
  have hbok : ∀ b, ok b → bo ≠ some b := fun b hb e => hI.nok id _ b hid rfl (by rw [hbo, e]) hb
  have hokl : ∀ b, ok b → b < lo → ¬ BlIn rows b := fun b _ hb h => by have := hlo b h; omega
  have hlow : ∀ b, ok b → b < lo → w'.heap[b]? = w.heap[b]? := fun b hb hl => hblk b (hI.okb b hb) (hbok b hb) (hokl b hb hl)
  have hset : ∀ (i : Nat) (o : O), (s.objs.set id (.arr szA rows'))[i]? = some o → (i = id ∧ o = .arr szA rows') ∨ (i ≠ id ∧ s.objs[i]? = some o) := by
    intro i o h
    by_cases e : i = id
    · subst e
      rw [List.getElem?_set_self (List.getElem?_eq_some_iff.1 hid).1] at h
      exact .inl ⟨rfl, by simpa using h.symm⟩
    · rw [List.getElem?_set_ne (Ne.symm e)] at h
      exact .inr ⟨e, h⟩
  have hlv : ∀ (i : Nat) (o : O), (s.objs.set id (.arr szA rows'))[i]? = some o → o.live = true → ∃ o0, s.objs[i]? = some o0 ∧ o0.live = true := by
    intro i o h hl
    rcases hset i o h with ⟨rfl, rfl⟩ | ⟨_, h⟩
    · exact ⟨_, hid, rfl⟩
    · exact ⟨o, h, hl⟩
  have hdn0 : ∀ k, ok k → x.ok k ∨ x.w.heap.size ≤ k ∨ (∃ (i0 : Nat) (o0 : O), x.objs[i0]? = some o0 ∧ o0.live = true ∧ x.ρ[i0]? = some (some k) ∧ (s.objs.set id (.arr szA rows'))[i0]? = some .dead) := by
    intro k hk
    refine (hF.okdn k hk).imp_right (fun h => h.imp_right (fun ⟨i0, o0, g1, g2, g3, g4⟩ => ⟨i0, o0, g1, g2, g3, ?_⟩))
    rw [List.getElem?_set_ne]
    · exact g4
    · rintro rfl
      rw [hid] at g4; cases g4
  let ok2 : Nat → Prop := fun b => (ok b ∧ ¬ BlIn rows b) ∨ (ok' b ∧ (x.ok b ∨ Unf w' b))
  have hup : ∀ b, ok b → b < lo → ok2 b := fun b hb hl => .inl ⟨hb, hokl b hb hl⟩
  refine ⟨v, rfl, _, _, ok2, ρ, hK, rfl, ⟨⟨by rw [List.length_set]; exact hI.len, fun b hb => ?_, fun i o hi => ?_, fun i j oi oj b h1 h2 h3 h4 => ?_, fun i o b h1 h2 h3 h4 => ?_⟩, ?_, fun j => ?_, hC.size, hC.defers, hC.fx⟩, ?_⟩
  · rcases hb with hb | hb
    · exact Nat.lt_of_lt_of_le (hI.okb b hb.1) hF'.size
    · exact hI'.okb b hb.1
  · rcases hset i o hi with ⟨rfl, rfl⟩ | ⟨hne, hi⟩
    · obtain ⟨g0, hA⟩ := hI'.own 0 _ rfl
      refine ⟨g0, ?_⟩
      rcases hA with ⟨e1, e2⟩ | ⟨bA, cs, t, p1, p2, p3, p4⟩
      · rw [hρ'] at e2
        exact .inl ⟨e1, by rw [hbo]; exact e2⟩
      · rw [hρ'] at p1
        refine .inr ⟨bA, cs, t, by rw [hbo]; exact p1, p2, p3, fun i j r z hi hj => ?_⟩
        have := p4 i j r z hi hj
        rcases hok' r (List.mem_of_getElem? hi) z (List.mem_of_getElem? hj) with hf | ⟨b', sz', q, rfl⟩
        · exact this.of_flat hf
        · generalize cs.getD (i * szA + j) undef = u at this ⊢
          cases this with
          | bl0 => exact .bl0
          | bl k1 k2 k3 k4 k5 k6 k7 => exact .bl (.inr ⟨k1, .inr ⟨_, _, k3⟩⟩) k2 k3 k4 k5 k6 (fun i j r y hi hj => (k7 i j r y hi hj).of_flat (k6 r (List.mem_of_getElem? hi) y (List.mem_of_getElem? hj)))
    · have hcase := (otO_get hot i o hi).resolve_left (by omega)
      have ho := hI.own i o hi
      have hown : o.live = true → ∀ b, ρ[i]? = some (some b) → w'.heap[b]? = w.heap[b]? := fun hl b hb =>
        hblk b (hI.live_lt hi hl hb) (fun e => hne (hI.dis i id o _ b hi hid hl rfl hb (by rw [hbo, e]))) (fun h => hI.nok i o b hi hl hb (hbl b h))
      cases o with
      | dead => trivial
      | box cells =>
        obtain ⟨b, cs, t, g1, g2, g3, g4⟩ := ho
        exact ⟨b, cs, t, g1, by rw [hown rfl b g1]; exact g2, g3, fun j c hj => (lo_rep (g4 j c hj) hlow hF'.shape (loPs_get hcase j c hj)).mono (fun _ _ => rfl) (fun b hb => hup b hb.1 hb.2) (fun _ _ h => h) (fun _ _ h => h)⟩
      | arr sz rs =>
        obtain ⟨g0, hA⟩ := ho
        refine ⟨g0, ?_⟩
        rcases hA with ⟨e1, e2⟩ | ⟨bA, cs, t, p1, p2, p3, p4⟩
        · exact .inl ⟨e1, e2⟩
        · exact .inr ⟨bA, cs, t, p1, by rw [hown rfl bA p1]; exact p2, p3, fun i j r z hi hj => (p4 i j r z hi hj).of_flat (hcase r (List.mem_of_getElem? hi) z (List.mem_of_getElem? hj))⟩
  · obtain ⟨o1, e1, e2⟩ := hlv i oi h1 h3
    obtain ⟨o2, f1, f2⟩ := hlv j oj h2 h4
    exact hI.dis i j o1 o2 b e1 f1 e2 f2
  · have hk := h4
    obtain ⟨o1, e1, e2⟩ := hlv i o h1 h2
    rcases hk with hk | hk
    · exact hI.nok i o1 b e1 e2 h3 hk.1
    · rcases hset i o h1 with ⟨rfl, rfl⟩ | ⟨hne, hi⟩
      · rw [hbo] at h3
        exact hI'.nok 0 _ b rfl rfl (by rw [hρ']; exact h3) hk.1
      · rcases hdn b hk.1 with h | h
        · exact hI.nok i o1 b e1 e2 h3 (hbl b h)
        · have := hI.live_lt e1 e2 h3; omega
  · refine ⟨hF'.os.trans hF.os, hF'.tape.trans hF.tape, hF'.output.trans hF.output, Nat.le_trans hF.size hF'.size, fun k hk g1 g2 => ?_, fun k z h => hF'.shape k z (hF.shape k z h), fun b hb => ?_, fun b hb => ?_, hF.rho, fun i o b h1 h2 h3 => ?_, fun b hb => ?_, fun e1 e2 => ?_⟩
    · rw [hblk k (Nat.lt_of_lt_of_le hk hF.size) (fun e => ?_) (fun hb => ?_)]
      · exact hF.block k hk g1 g2
      · rcases hF.own id _ k hid rfl (by rw [hbo, e]) with h | ⟨i0, o0, k1, k2, k3⟩
        · omega
        · exact g1 i0 o0 k1 k2 k3
      · obtain ⟨f1, ⟨f2, fk⟩, f3⟩ := hC.fx
        rcases hm with ⟨e, rfl⟩ | ⟨n, e, hn⟩
        · rw [e] at f1 f2
          rcases hF.okdn k (hbl k hb) with h | h | ⟨i0, o0, k1, _, _, k4⟩
          · exact g2 f2 h
          · omega
          · have h0 : i0 = 0 := by
              have := (List.getElem?_eq_some_iff.1 k1).1
              have f1 : x.objs.length = 1 := f1
              omega
            subst h0
            rw [hid] at k4; cases k4
        · rw [e] at f3
          have := f3.1
          have := hlo k hb
          omega
    · by_cases h : BlIn rows b
      · exact .inr ⟨hF'.okup b h, .inl hb⟩
      · exact .inl ⟨hF.okup b hb, h⟩
    · rcases hb with hb | hb
      · exact hdn0 b hb.1
      · rcases hdn b hb.1 with h | h
        · exact hdn0 b (hbl b h)
        · exact .inr (.inl (Nat.le_trans hF.size h))
    · obtain ⟨o1, k1, k2⟩ := hlv i o h1 h2
      exact hF.own i o1 b k1 k2 h3
    · rcases hb with hb | hb
      · exact (hF.unf b hb.1).imp_right fun hu => hu.of (hblk b (hI.okb b hb.1) (hbok b hb.1) hb.2)
      · exact hb.2
    · obtain ⟨f1, ⟨f2, fk⟩, f3⟩ := hC.fx
      rcases hm with ⟨e, _⟩ | ⟨n, e, _⟩
      · rw [e] at fk; rw [fk] at e2; cases e2
      · rw [e] at f2; rw [f2] at e1; cases e1
  · rcases keepP_get hkp j with e | ⟨e, hl⟩
    · show VRep w' _ ρ (getE (keepE s.env ls) j) _
      rw [e]; exact .any
    · show VRep w' _ ρ (getE (keepE s.env ls) j) _
      rw [e]
      exact (lo_rep (hC.env j) hlow hF'.shape hl).mono (fun _ _ => rfl) (fun b hb => hup b hb.1 hb.2) (fun _ _ h => h) (fun _ _ h => h)
  · cases hV' with | d h => exact .d (h.of_flat hyf)

theorem callX_sound {f : Nat} {args : List V} {vs : Array Value} {K : V → St → Prop} (hC : CCk x s a w ok ρ) (hsz : vs.size = args.length) (hargs : ∀ (i : Nat) y, args[i]? = some y → VRep w ok ρ y (vs.getD i undef))
    (h : ACallX P s f args K) : callable P f = true ∧ Calls P f vs w fun e w' => ∃ v, e = .returned v ∧ ∃ y s' ok2 ρ2, K y s' ∧ s'.n = s.n ∧ CCk x s' a w' ok2 ρ2 ∧ VRep w' ok2 ρ2 y v := by
  rcases h with h | ⟨n, h1, hc, h2⟩ | ⟨n, lo, hi, args', ls, objs', h1, h2, h3, h4, h5, h6⟩ | ⟨bo, sz, q, szA, rows, i, j, r, ls, fl, h1, h2, h3, h4, h5, h6, h7, h8, h9, h10⟩ | ⟨id, szA, rows, args', ls, lo, h1, h2, h3, h4, h5, h6, h7, h8, h9⟩
  · exact callX0_sound hC hsz hargs h
  · exact ⟨hc, callY1_sound hC hsz hargs h1 h2⟩
  · exact ⟨h6.1, callY2_sound hC hsz hargs h1 h2 h3 h4 h5 h6⟩
  · exact ⟨h10.1, callY3_sound hC hsz hargs h1 h2 h3 h4 h5 h6 h7 h8 h9 h10⟩
  · exact ⟨h9.1, callY4_sound hC hsz hargs h1 h2 h3 h4 h5 h6 h7 h8 h9⟩

end
end Go.Fw
