/- The abstract machine's steps that turn no memory: what they give. -/
import Derived.Test.YtemihgpcodcjgaaFwB
namespace Go.Fw

def constV : Value → V
  | .int k n => .d (.int k n)
  | .bool b => .d (.bool b)
  | .string s => .d (.str s.data.toList)
  | .slice none 0 0 => .nils
  | v => if v.oneCell' = true then .d (.raw v) else .any

theorem constV_rep (v : Value) (w : World) (ok : Nat → Prop) (ρ : List (Option Nat)) : VRep w ok ρ (constV v) v := by
  unfold constV
  split
  · exact .d .int
  · exact .d .bool
  · rename_i s
    have : bytesOf s.data.toList = s := by obtain ⟨⟨l⟩⟩ := s; rfl
    have h : VRep w ok ρ (.d (.str s.data.toList)) (.string (bytesOf s.data.toList)) := .d .str
    rwa [this] at h
  · exact .nils
  · split
    · rename_i h; exact .d (.raw h)
    · exact .any

/-- The number is one of its kind. -/
def inR (k : IntKind) (n : Int) : Prop := k.wrap n = n

def ibits (op : BinOp) (k : IntKind) (a b : Int) : Int :=
  k.wrap ((match op with
    | .and => BitVec.ofInt k.bits a &&& BitVec.ofInt k.bits b
    | .or => BitVec.ofInt k.bits a ||| BitVec.ofInt k.bits b
    | .xor => BitVec.ofInt k.bits a ^^^ BitVec.ofInt k.bits b
    | _ => BitVec.ofInt k.bits a &&& ~~~BitVec.ofInt k.bits b).toNat)

def ibin (op : BinOp) (k : IntKind) (a b : Int) (K : V → Prop) : Prop :=
  match op with
  | .add => inR k (a + b) ∧ K (.d (.int k (a + b)))
  | .sub => inR k (a - b) ∧ K (.d (.int k (a - b)))
  | .mul => inR k (a * b) ∧ K (.d (.int k (a * b)))
  | .quo => b ≠ 0 ∧ inR k (a.tdiv b) ∧ K (.d (.int k (a.tdiv b)))
  | .rem => b ≠ 0 ∧ K (.d (.int k (a.tmod b)))
  | .and | .or | .xor | .andNot => K (.d (.int k (ibits op k a b)))
  | .eql => K (.d (.bool (decide (a = b))))
  | .neq => K (.d (.bool (decide (a ≠ b))))
  | .lss => K (.d (.bool (decide (a < b))))
  | .leq => K (.d (.bool (decide (a ≤ b))))
  | .gtr => K (.d (.bool (decide (a > b))))
  | .geq => K (.d (.bool (decide (a ≥ b))))
  | _ => False

def sbin (op : BinOp) (a b : List UInt8) (K : V → Prop) : Prop :=
  match op with
  | .add => a.length + b.length < 2 ^ 63 ∧ K (.d (.str (a ++ b)))
  | .eql => K (.d (.bool (decide (a = b))))
  | .neq => K (.d (.bool (decide (a ≠ b))))
  | _ => False

def bbin (op : BinOp) (a b : Bool) (K : V → Prop) : Prop :=
  match op with
  | .eql => K (.d (.bool (a == b)))
  | .neq => K (.d (.bool (a != b)))
  | _ => False

/-- '==' of two cells of a kind. -/
def eqC : Nat → V → V → Option Bool
  | 0, .d (.int k a), .d (.int k' b) => if k = k' then some (decide (a = b)) else none
  | 1, .d (.bool a), .d (.bool b) => some (a == b)
  | 2, .d (.str a), .d (.str b) => some (decide (a = b))
  | _, _, _ => none

def eqCs : List Nat → List V → List V → Option Bool
  | [k], [a], [b] => eqC k a b
  | k :: ks, a :: as, b :: bs => match eqC k a b, eqCs ks as bs with
    | some x, some y => some (x && y)
    | _, _ => none
  | _, _, _ => none

def cmpKs : Option TI → List Nat
  | some { kind := .struct _ ks, .. } => ks
  | _ => []

def isSlice : Option TI → Bool
  | some { kind := .slice _, .. } => true
  | _ => false

def isBool : Option TI → Bool
  | some { kind := .bool, .. } => true
  | _ => false

def isStr : Option TI → Bool
  | some { kind := .str, .. } => true
  | _ => false

def abin (TT : Nat → Option TI) (op : BinOp) (t : TypeId) (x y : V) (K : V → Prop) : Prop :=
  match x, y with
  | .d (.int k a), .d (.int k' b) => k = k' ∧ ibin op k a b K
  | .d (.str a), .d (.str b) => sbin op a b K
  | .d (.bool a), .d (.bool b) => isBool (TT t) = true ∧ bbin op a b K
  | .agg as, .agg bs => (match op, eqCs (cmpKs (TT t)) as bs with
     | .eql, some r => K (.d (.bool r))
     | .neq, some r => K (.d (.bool (!r)))
     | _, _ => False)
  | _, _ => False

def aun (op : UnOp) (x : V) (K : V → Prop) : Prop :=
  match op, x with
  | .not, .d (.bool b) => K (.d (.bool (!b)))
  | .neg, .d (.int k n) => inR k (0 - n) ∧ K (.d (.int k (0 - n)))
  | _, _ => False

def ldCells (ti : TI) (cs : List V) (K : V → Prop) : Prop :=
  match ti.kind with
  | .struct .. => ti.size ≤ cs.length ∧ K (.agg (cs.take ti.size))
  | _ => match cs with
    | c :: _ => K c
    | [] => False

def ald (ti : TI) (objs : List O) (x : V) (K : V → Prop) : Prop :=
  match x with
  | .oref id off => match objs[id]? with
    | some (.box cells) => ldCells ti (cells.drop off) K
    | _ => False
  | .aref id sz i off => match objs[id]? with
    | some (.arr sz' rows) => sz = sz' ∧ (match rows[i]? with
      | some r => ldCells ti ((r.drop off).map .d) K
      | none => False)
    | _ => False
  | .d (.ptr cells) => ldCells ti (cells.map .d) K
  | _ => False

def afld (off : Nat) (x : V) (K : V → Prop) : Prop :=
  match x with
  | .oref id o => K (.oref id (o + off))
  | .aref id sz i o => K (.aref id sz i (o + off))
  | .d (.ptr cells) => K (.d (.ptr (cells.drop off)))
  | _ => False

def fieldOf (ti : Option TI) (f : Nat) : Option (Nat × Nat × Bool) :=
  match ti with
  | some { kind := .struct flds _, .. } => flds[f]?
  | _ => none

def elemOf (TT : Nat → Option TI) (t : TypeId) : Option TI :=
  match TT t with
  | some { kind := .slice e, .. } => TT e
  | _ => none

def aidx (sz : Nat) (x i : V) (K : V → Prop) : Prop :=
  match x, i with
  | .d (.lst rows), .d (.int _ n) => 0 ≤ n ∧ (match rows[n.toNat]? with
    | some r => r.length = sz ∧ K (.d (.ptr r))
    | none => False)
  | .msl id sz' off len, .d (.int _ n) => 0 ≤ n ∧ n < len ∧ sz' = sz ∧ K (.aref id sz' (off + n.toNat) 0)
  | _, _ => False

/-- A bound of a slice expression. -/
def abd (x : Option V) (dflt : Nat) : Option Nat :=
  match x with
  | none => some dflt
  | some (.d (.int _ n)) => if 0 ≤ n then some n.toNat else none
  | _ => none

def aslc (TT : Nat → Option TI) (t : TypeId) (x : V) (lo hi : Option V) (K : V → Prop) : Prop :=
  match x with
  | .d (.str s) => isStr (TT t) = true ∧ (match abd lo 0, abd hi s.length with
    | some l, some h => l ≤ h ∧ h ≤ s.length ∧ K (.d (.str ((s.take h).drop l)))
    | _, _ => False)
  | .d (.lst rows) => (∃ e, elemOf TT t = some e ∧ (∀ r ∈ rows, r.length = e.size)) ∧ (match abd lo 0, abd hi rows.length with
    | some l, some h => l ≤ h ∧ h ≤ rows.length ∧ K (.d (.lst ((rows.take h).drop l)))
    | _, _ => False)
  | .msl id sz off len => (elemOf TT t).map (·.size) = some sz ∧ (match abd lo 0, abd hi len with
    | some l, some h => l ≤ h ∧ h ≤ len ∧ K (.msl id sz (off + l) (h - l))
    | _, _ => False)
  | _ => False

def alen (TT : Nat → Option TI) (t : TypeId) (x : V) (K : V → Prop) : Prop :=
  match x with
  | .d (.str s) => isStr (TT t) = true ∧ K (.d (.int .i64 s.length))
  | .d (.lst rows) => isSlice (TT t) = true ∧ K (.d (.int .i64 rows.length))
  | .msl _ _ _ len => isSlice (TT t) = true ∧ K (.d (.int .i64 len))
  | .nils => isSlice (TT t) = true ∧ K (.d (.int .i64 0))
  | _ => False

/-- One cell's value. -/
def scaB : V → Bool
  | .d _ | .oref .. | .aref .. | .msl .. | .nils => true
  | _ => false

def scaAll : List V → Bool
  | [] => true
  | v :: vs => scaB v && scaAll vs

/-- The cells that the value fills. -/
def V.cells : V → Option (List V)
  | .agg cs => if scaAll cs = true then some cs else none
  | v => if scaB v = true then some [v] else none

def putAt (cs : List V) (off : Nat) (new : List V) : List V := cs.take off ++ new ++ cs.drop (off + new.length)

def abuild (flds : List (Nat × Nat × Bool)) : List V → List (Nat × V) → Option (List V)
  | cs, [] => some cs
  | cs, (i, v) :: rest => match flds[i]? with
    | some (off, sz, _) => match v.cells with
      | some new => if new.length = sz ∧ off + sz ≤ cs.length then abuild flds (putAt cs off new) rest else none
      | none => none
    | none => none

def V.toD : V → Option D
  | .d x => some x
  | .nils => some (.lst [])
  | _ => none

def toDs : List V → Option (List D)
  | [] => some []
  | v :: vs => match v.toD, toDs vs with
    | some x, some xs => some (x :: xs)
    | _, _ => none

/-- The step's value. -/
def pv (TT : Nat → Option TI) (ev : Operand → V) (objs : List O) (op : Op) (K : V → Prop) : Prop :=
  match op with
  | .move x => K (ev x)
  | .assign x => K (ev x)
  | .pick c a b => (match ev c with
    | .d (.bool t) => K (if t = true then ev a else ev b)
    | _ => False)
  | .nilCheck x => (match ev x with
    | .oref id off => K (.oref id off)
    | .aref id sz i off => K (.aref id sz i off)
    | .d (.ptr cells) => K (.d (.ptr cells))
    | _ => False)
  | .load t x => (match TT t with
    | some ti => ald ti objs (ev x) K
    | none => False)
  | .binOp op t x y _ => abin TT op t (ev x) (ev y) K
  | .unOp op _ x => aun op (ev x) K
  | .convert s t x => (TT s).isSome = true ∧ (match TT t, ev x with
    | some { kind := .int k, .. }, .d (.int _ n) => inR k n ∧ K (.d (.int k n))
    | _, _ => False)
  | .slice t x lo hi none => aslc TT t (ev x) (lo.map ev) (hi.map ev) K
  | .fieldAddr t x f => (match fieldOf (TT t) f with
    | some p => afld p.1 (ev x) K
    | none => False)
  | .field t x f => (match fieldOf (TT t) f, ev x with
    | some (off, sz, true), .agg cs => off + sz ≤ cs.length ∧ K (.agg ((cs.drop off).take sz))
    | some (off, _, false), .agg cs => (match cs[off]? with
      | some c => K c
      | none => False)
    | _, _ => False)
  | .indexAddr t x i => (match elemOf TT t with
    | some e => aidx e.size (ev x) (ev i) K
    | none => False)
  | .index t x i => isStr (TT t) = true ∧ (match ev x, ev i with
    | .d (.str s), .d (.int _ n) => 0 ≤ n ∧ (match s[n.toNat]? with
      | some b => K (.d (.int .u8 b.toNat))
      | none => False)
    | _, _ => False)
  | .extract x i => (match ev x with
    | .tup vs => (match vs[i]? with
      | some v => K v
      | none => False)
    | _ => False)
  | .build t parts => (match TT t with
    | some { kind := .struct flds _, zero := z, .. } => (match abuild flds z (parts.toList.map fun p => (p.1, ev p.2)) with
      | some cs => K (.agg cs)
      | none => False)
    | _ => False)
  | .makeFunc (.func f) first cap => first = #[] ∧ (match toDs (cap.toList.map ev) with
    | some xs => K (.d (.fn f xs))
    | none => False)
  | .call { callee := .builtin .len, args := args, argTypes := ts } => (match args.toList, ts.toList with
    | [x], [t] => alen TT t (ev x) K
    | _, _ => False)
  | .call { callee := .builtin .max, args := args, .. } => (match args.toList with
    | [x, y] => (match ev x, ev y with
      | .d (.int k a), .d (.int _ b) => K (.d (.int k (max a b)))
      | _, _ => False)
    | _ => False)
  | .call { callee := .builtin .min, args := args, .. } => (match args.toList with
    | [x, y] => (match ev x, ev y with
      | .d (.int k a), .d (.int _ b) => K (.d (.int k (min a b)))
      | _, _ => False)
    | _ => False)
  | _ => False

end Go.Fw
