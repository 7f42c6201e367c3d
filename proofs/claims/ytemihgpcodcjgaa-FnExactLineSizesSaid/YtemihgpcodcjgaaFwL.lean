/- Calls: what a function's contract says, and what a caller gets of it. -/
import Derived.Test.YtemihgpcodcjgaaFwK
set_option linter.unusedSimpArgs false
set_option linter.unusedVariables false
namespace Go.Fw

/-- A function with a body. -/
def callable (P : Program) (f : Nat) : Bool :=
  match P.funcs[f]? with
  | some fn => fn.name != "runtime.NumGoroutine" && fn.body.isSome
  | none => false

/-- The function f, called with these values and objects, returns a value and objects of which Post speaks; nothing else is turned. -/
structure ACon (P : Program) (f : Nat) (args : List V) (objs : List O) (Post : V → List O → Prop) : Prop where
  body : callable P f = true
  run : ∀ (w : World) (ok : Nat → Prop) (ρ : List (Option Nat)) (vs : Array Value), Inv w ok ρ objs → vs.size = args.length → (∀ (i : Nat) x, args[i]? = some x → VRep w ok ρ x (vs.getD i undef)) →
    Calls P f vs w fun e w' => ∃ v r objs' ok' ρ', e = .returned v ∧ Post r objs' ∧ Inv w' ok' ρ' objs' ∧ VRep w' ok' ρ' r v ∧ Frm ⟨w, ok, ρ, objs⟩ w' ok' ρ' objs'

theorem ACon.mono {P : Program} {f : Nat} {args : List V} {objs : List O} {Post Post' : V → List O → Prop} (h : ACon P f args objs Post) (hp : ∀ r os, Post r os → Post' r os) : ACon P f args objs Post' := by
  refine ⟨h.1, fun w ok ρ vs hI hs hv => ?_⟩
  refine (h.2 w ok ρ vs hI hs hv).mono ?_
  rintro e w' ⟨v, r, os, ok', ρ', h1, h2, h3⟩
  exact ⟨v, r, os, ok', ρ', h1, hp _ _ h2, h3⟩

def idx (ids : List Nat) (id : Nat) : Option Nat :=
  match ids with
  | [] => none
  | i :: r => if i = id then some 0 else (idx r id).map (· + 1)

mutual
/-- The value as the callee sees it: objects that are handed over under their new names; slices of others as data. -/
def argV (objs : List O) (ids bs : List Nat) : V → Option V
  | .msl id sz off len => match idx ids id with
    | some j => some (.msl j sz off len)
    | none => if id ∈ bs then (match objs[id]? with
      | some (.arr sz' rows) => if sz = sz' ∧ off + len ≤ rows.length then some (.d (.lst ((rows.drop off).take len))) else none
      | _ => none) else none
  | .oref id off => match idx ids id with
    | some j => some (.oref j off)
    | none => none
  | .agg cs => (argVs objs ids bs cs).map .agg
  | .d x => some (.d x)
  | .nils => some .nils
  | .any => some .any
  | _ => none
def argVs (objs : List O) (ids bs : List Nat) : List V → Option (List V)
  | [] => some []
  | c :: cs => match argV objs ids bs c, argVs objs ids bs cs with
    | some x, some xs => some (x :: xs)
    | _, _ => none
end

def backId (ids : List Nat) (n j : Nat) : Nat :=
  match ids[j]? with
  | some i => i
  | none => n + (j - ids.length)

mutual
/-- What the callee returns, as the caller sees it. -/
def backV (ids : List Nat) (n : Nat) : V → V
  | .msl j sz off len => .msl (backId ids n j) sz off len
  | .oref j off => .oref (backId ids n j) off
  | .aref j sz i off => .aref (backId ids n j) sz i off
  | .agg cs => .agg (backVs ids n cs)
  | .tup cs => .tup (backVs ids n cs)
  | .d x => .d x
  | .nils => .nils
  | .any => .any
def backVs (ids : List Nat) (n : Nat) : List V → List V
  | [] => []
  | c :: cs => backV ids n c :: backVs ids n cs
end

mutual
def flatV : V → Bool
  | .d x => x.flat
  | .agg cs => flatVs cs
  | .tup cs => flatVs cs
  | _ => true
def flatVs : List V → Bool
  | [] => true
  | c :: cs => flatV c && flatVs cs
end

def flatO : O → Prop
  | .box cells => flatVs cells = true
  | .arr _ rows => ∀ r ∈ rows, ∀ x ∈ r, x.flat = true
  | .dead => True

def backO (ids : List Nat) (n : Nat) : O → O
  | .box cells => .box (backVs ids n cells)
  | .arr sz rows => .arr sz rows
  | .dead => .dead

/-- The caller's objects behind the call. -/
def backs (ids : List Nat) (n : Nat) (objs : List O) (os : List O) : List O :=
  (ids.zip os).foldl (fun l p => l.set p.1 (backO ids n p.2)) objs ++ (os.drop ids.length).map (backO ids n)

def getO (objs : List O) : List Nat → Option (List O)
  | [] => some []
  | i :: r => match objs[i]?, getO objs r with
    | some o, some os => some (o :: os)
    | _, _ => none

/-- A box's cells as the callee sees them. -/
def argO (objs : List O) (ids bs : List Nat) : O → Option O
  | .box cells => (argVs objs ids bs cells).map .box
  | .arr sz rows => some (.arr sz rows)
  | .dead => some .dead

def argOs (objs : List O) (ids bs : List Nat) : List O → Option (List O)
  | [] => some []
  | o :: os => match argO objs ids bs o, argOs objs ids bs os with
    | some x, some xs => some (x :: xs)
    | _, _ => none

/-- A call in the state s: ids: the objects that are handed over; bs: those that are lent to be read. -/
def ACall (P : Program) (s : St) (f : Nat) (args : List V) (K : V → St → Prop) : Prop :=
  ∃ (ids bs : List Nat) (args' : List V) (os0 os : List O), argVs s.objs ids bs args = some args' ∧ ids.Nodup ∧ (∀ i ∈ bs, i ∉ ids) ∧ getO s.objs ids = some os0 ∧ argOs s.objs ids bs os0 = some os ∧ (∀ o ∈ os0, o.live = true) ∧
    ACon P f args' os fun r os' => (bs = [] ∨ (flatV r = true ∧ ∀ o ∈ os', flatO o)) ∧ K (backV ids s.objs.length r) { s with objs := backs ids s.objs.length s.objs os' }

end Go.Fw
