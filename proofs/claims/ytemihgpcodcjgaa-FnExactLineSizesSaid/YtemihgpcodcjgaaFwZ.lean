/- The abstract machine's steps as functions whose values the unifier reckons: going through a region without simp. -/
import Derived.Test.YtemihgpcodcjgaaFwY
set_option linter.unusedSimpArgs false
set_option linter.unusedVariables false
namespace Go.Fw

def getB : List (Nat × V) → Nat → V
  | [], _ => .any
  | (i, v) :: e, j => match Nat.beq i j with
    | true => v
    | false => getB e j

theorem getB_eq : ∀ (e : List (Nat × V)) (j : Nat), getB e j = getE e j
  | [], _ => rfl
  | (i, v) :: e, j => by
    simp only [getB, getE]
    rw [getB_eq e j]
    cases h : Nat.beq i j with
    | true => rw [if_pos (Nat.eq_of_beq_eq_true h)]
    | false => rw [if_neg (Nat.ne_of_beq_eq_false h)]

def evB (env : List (Nat × V)) : Operand → V
  | .tmp t => getB env t
  | .const v => constV v
  | .global _ => .any
  | .func f => .d (.fn f [])

theorem evB_eq {env : List (Nat × V)} {objs : List O} {n fx : Nat} (o : Operand) : evB env o = St.ev ⟨env, objs, n, fx⟩ o := by
  cases o <;> simp [evB, St.ev, getB_eq]

inductive PR where
  | no
  | ok (v : V) (side : Prop)

def PR.holds (r : PR) (K : V → Prop) : Prop :=
  match r with
  | .no => False
  | .ok v s => s ∧ K v

/-- The value, in a form that shows its kind. -/
def force {α : Type} (v : V) (k : V → α) : α :=
  match v with
  | .d x => (match x with
    | .int k' n => k (.d (.int k' n))
    | .bool b => k (.d (.bool b))
    | .str s => k (.d (.str s))
    | .raw v => k (.d (.raw v))
    | .lst rows => k (.d (.lst rows))
    | .ptr cells => k (.d (.ptr cells))
    | .fn f cap => k (.d (.fn f cap)))
  | .oref id off => k (.oref id off)
  | .aref id sz i off => k (.aref id sz i off)
  | .msl id sz off len => k (.msl id sz off len)
  | .nils => k .nils
  | .agg cs => k (.agg cs)
  | .tup vs => k (.tup vs)
  | .any => k .any

theorem force_eq {α : Type} (v : V) (k : V → α) : force v k = k v := by
  cases v with
  | d x => cases x <;> rfl
  | _ => rfl

def forceL {α : Type} : List V → (List V → α) → α
  | [], k => k []
  | v :: vs, k => force v fun v' => forceL vs fun vs' => k (v' :: vs')

theorem forceL_eq {α : Type} : ∀ (vs : List V) (k : List V → α), forceL vs k = k vs
  | [], _ => rfl
  | v :: vs, k => by simp only [forceL, force_eq, forceL_eq vs]

def ibinB (op : BinOp) (k : IntKind) (a b : Int) : PR :=
  match op with
  | .add => .ok (.d (.int k (a + b))) (inR k (a + b))
  | .sub => .ok (.d (.int k (a - b))) (inR k (a - b))
  | .mul => .ok (.d (.int k (a * b))) (inR k (a * b))
  | .quo => .ok (.d (.int k (a.tdiv b))) (b ≠ 0 ∧ inR k (a.tdiv b))
  | .rem => .ok (.d (.int k (a.tmod b))) (b ≠ 0)
  | .and => .ok (.d (.int k (ibits .and k a b))) True
  | .or => .ok (.d (.int k (ibits .or k a b))) True
  | .xor => .ok (.d (.int k (ibits .xor k a b))) True
  | .andNot => .ok (.d (.int k (ibits .andNot k a b))) True
  | .eql => .ok (.d (.bool (decide (a = b)))) True
  | .neq => .ok (.d (.bool (decide (a ≠ b)))) True
  | .lss => .ok (.d (.bool (decide (a < b)))) True
  | .leq => .ok (.d (.bool (decide (a ≤ b)))) True
  | .gtr => .ok (.d (.bool (decide (a > b)))) True
  | .geq => .ok (.d (.bool (decide (a ≥ b)))) True
  | _ => .no

theorem ibinB_sound {op : BinOp} {k : IntKind} {a b : Int} {K : V → Prop} (h : (ibinB op k a b).holds K) : ibin op k a b K := by
  unfold ibinB at h
  split at h <;> simp only [PR.holds] at h <;> simp only [ibin] <;> first | exact h | exact h.2 | exact ⟨h.1.1, h.1.2, h.2⟩ | exact h.elim

def abinB (TT : Nat → Option TI) (op : BinOp) (t : TypeId) (x y : V) : PR :=
  match x with
  | .d (.int k a) => (match y with
    | .d (.int k' b) => (match ibinB op k a b with
      | .ok v s => .ok v (k = k' ∧ s)
      | .no => .no)
    | _ => .no)
  | .d (.str a) => (match y with
    | .d (.str b) => (match op with
      | .add => .ok (.d (.str (a ++ b))) (a.length + b.length < 2 ^ 63)
      | .eql => .ok (.d (.bool (decide (a = b)))) True
      | .neq => .ok (.d (.bool (decide (a ≠ b)))) True
      | _ => .no)
    | _ => .no)
  | .d (.bool a) => (match y with
    | .d (.bool b) => (match op with
      | .eql => .ok (.d (.bool (a == b))) (isBool (TT t) = true)
      | .neq => .ok (.d (.bool (a != b))) (isBool (TT t) = true)
      | _ => .no)
    | _ => .no)
  | .agg as => (match y with
    | .agg bs => (match eqCs (cmpKs (TT t)) as bs with
      | some r => (match op with
        | .eql => .ok (.d (.bool r)) True
        | .neq => .ok (.d (.bool (!r))) True
        | _ => .no)
      | none => .no)
    | _ => .no)
  | _ => .no

theorem abinB_sound {TT : Nat → Option TI} {op : BinOp} {t : TypeId} {x y : V} {K : V → Prop} (h : (abinB TT op t x y).holds K) : abin TT op t x y K := by
  unfold abinB at h
  unfold abin
  split at h
  · split at h
    · split at h
      · rename_i k a _ k' b _ v s hi
        obtain ⟨⟨h1, h2⟩, h3⟩ := h
        exact ⟨h1, ibinB_sound (by rw [hi]; exact ⟨h2, h3⟩)⟩
      · exact h.elim
    · exact h.elim
  · split at h
    · split at h
      · exact h
      · exact h.2
      · exact h.2
      · exact h.elim
    · exact h.elim
  · split at h
    · split at h
      · exact h
      · exact h
      · exact h.elim
    · exact h.elim
  · split at h
    · split at h
      · rename_i r hr
        split at h
        · simp only [hr]; exact h.2
        · simp only [hr]; exact h.2
        · exact h.elim
      · exact h.elim
    · exact h.elim
  · exact h.elim

def ldCellsB (ti : TI) (cs : List V) : PR :=
  match ti.kind with
  | .struct .. => forceL (cs.take ti.size) fun r => .ok (.agg r) (Nat.ble ti.size cs.length = true)
  | _ => (match cs with
    | c :: _ => force c fun c => .ok c True
    | [] => .no)

theorem ldCellsB_sound {ti : TI} {cs : List V} {K : V → Prop} (h : (ldCellsB ti cs).holds K) : ldCells ti cs K := by
  unfold ldCellsB at h
  unfold ldCells
  split at h
  · rename_i hk; rw [forceL_eq] at h; simp only [hk]; exact ⟨Nat.le_of_ble_eq_true h.1, h.2⟩
  · rename_i hk
    cases cs with
    | nil => exact h.elim
    | cons c cs =>
      simp only [force_eq] at h
      split
      · rename_i hk2; exact (hk _ _ hk2).elim
      · exact h.2

def aldB (ti : TI) (objs : List O) (x : V) : PR :=
  match x with
  | .oref id off => (match objs[id]? with
    | some (.box cells) => ldCellsB ti (cells.drop off)
    | _ => .no)
  | .d (.ptr cells) => ldCellsB ti (cells.map .d)
  | _ => .no

theorem aldB_sound {ti : TI} {objs : List O} {x : V} {K : V → Prop} (h : (aldB ti objs x).holds K) : ald ti objs x K := by
  unfold aldB at h
  unfold ald
  split at h
  · split at h
    · rename_i ho; simp only [ho]; exact ldCellsB_sound h
    · exact h.elim
  · exact ldCellsB_sound h
  · exact h.elim

def afldB (off : Nat) (x : V) : PR :=
  match x with
  | .oref id o => .ok (.oref id (o + off)) True
  | .aref id sz i o => .ok (.aref id sz i (o + off)) True
  | .d (.ptr cells) => .ok (.d (.ptr (cells.drop off))) True
  | _ => .no

theorem afldB_sound {off : Nat} {x : V} {K : V → Prop} (h : (afldB off x).holds K) : afld off x K := by
  unfold afldB at h
  unfold afld
  split at h
  · exact h.2
  · exact h.2
  · exact h.2
  · exact h.elim

def evL {α : Type} (env : List (Nat × V)) : List Operand → (List V → α) → α
  | [], k => k []
  | o :: os, k => force (evB env o) fun v => evL env os fun vs => k (v :: vs)

theorem evL_eq {α : Type} (env : List (Nat × V)) : ∀ (os : List Operand) (k : List V → α), evL env os k = k (os.map (evB env))
  | [], _ => rfl
  | o :: os, k => by simp only [evL, force_eq, evL_eq env os, List.map_cons]

/-- The step's value, if it is one of those that are reckoned here. -/
def pvB (TT : Nat → Option TI) (env : List (Nat × V)) (objs : List O) (op : Op) : PR :=
  match op with
  | .move x => force (evB env x) fun v => .ok v True
  | .assign x => force (evB env x) fun v => .ok v True
  | .pick c a b => (match evB env c with
    | .d (.bool true) => force (evB env a) fun v => .ok v True
    | .d (.bool false) => force (evB env b) fun v => .ok v True
    | _ => .no)
  | .nilCheck x => (match evB env x with
    | .oref id off => .ok (.oref id off) True
    | .aref id sz i off => .ok (.aref id sz i off) True
    | .d (.ptr cells) => .ok (.d (.ptr cells)) True
    | _ => .no)
  | .load t x => (match TT t with
    | some ti => aldB ti objs (evB env x)
    | none => .no)
  | .binOp op t x y _ => abinB TT op t (evB env x) (evB env y)
  | .unOp op _ x => (match op with
    | .not => (match evB env x with
      | .d (.bool b) => .ok (.d (.bool (!b))) True
      | _ => .no)
    | .neg => (match evB env x with
      | .d (.int k n) => .ok (.d (.int k (0 - n))) (inR k (0 - n))
      | _ => .no)
    | _ => .no)
  | .convert s t x => (match TT t with
    | some { kind := .int k, .. } => (match evB env x with
      | .d (.int _ n) => .ok (.d (.int k n)) ((TT s).isSome = true ∧ inR k n)
      | _ => .no)
    | _ => .no)
  | .fieldAddr t x f => (match fieldOf (TT t) f with
    | some (off, _) => afldB off (evB env x)
    | none => .no)
  | .field t x f => (match fieldOf (TT t) f with
    | some (off, sz, true) => (match evB env x with
      | .agg cs => forceL ((cs.drop off).take sz) fun r => .ok (.agg r) (Nat.ble (off + sz) cs.length = true)
      | _ => .no)
    | some (off, _, false) => (match evB env x with
      | .agg cs => (match cs[off]? with
        | some c => force c fun c => .ok c True
        | none => .no)
      | _ => .no)
    | _ => .no)
  | .extract x i => (match evB env x with
    | .tup vs => (match vs[i]? with
      | some v => force v fun v => .ok v True
      | none => .no)
    | _ => .no)
  | .build t parts => (match TT t with
    | some { kind := .struct flds _, zero := z, .. } => (match abuild flds z (parts.toList.map fun p => (p.1, evB env p.2)) with
      | some cs => forceL cs fun cs => .ok (.agg cs) True
      | none => .no)
    | _ => .no)
  | .call { callee := .builtin .len, args := args, argTypes := ts } => (match args.toList with
    | [x] => (match ts.toList with
      | [t] => (match evB env x with
        | .d (.str s) => .ok (.d (.int .i64 s.length)) (isStr (TT t) = true)
        | .d (.lst rows) => .ok (.d (.int .i64 rows.length)) (isSlice (TT t) = true)
        | .msl _ _ _ len => .ok (.d (.int .i64 len)) (isSlice (TT t) = true)
        | .nils => .ok (.d (.int .i64 0)) (isSlice (TT t) = true)
        | _ => .no)
      | _ => .no)
    | _ => .no)
  | .call { callee := .builtin .max, args := args, .. } => (match args.toList with
    | [x, y] => (match evB env x with
      | .d (.int k a) => (match evB env y with
        | .d (.int _ b) => .ok (.d (.int k (max a b))) True
        | _ => .no)
      | _ => .no)
    | _ => .no)
  | .call { callee := .builtin .min, args := args, .. } => (match args.toList with
    | [x, y] => (match evB env x with
      | .d (.int k a) => (match evB env y with
        | .d (.int _ b) => .ok (.d (.int k (min a b))) True
        | _ => .no)
      | _ => .no)
    | _ => .no)
  | _ => .no

theorem pvB_sound {TT : Nat → Option TI} {env : List (Nat × V)} {objs : List O} {n fx : Nat} {op : Op} {K : V → Prop} (h : (pvB TT env objs op).holds K) : pv TT (St.ev ⟨env, objs, n, fx⟩) objs op K := by
  have hev : ∀ o, evB env o = St.ev ⟨env, objs, n, fx⟩ o := fun o => evB_eq o
  unfold pvB at h
  split at h <;> try simp only [force_eq, forceL_eq, hev] at h
  all_goals try simp only [pv]
  all_goals try exact h.2
  all_goals try exact h.elim
  · split at h
    · rename_i hc; rw [hc]; exact h.2
    · rename_i hc; rw [hc]; exact h.2
    · exact h.elim
  · split at h
    · rename_i hc; rw [hc]; exact h.2
    · rename_i hc; rw [hc]; exact h.2
    · rename_i hc; rw [hc]; exact h.2
    · exact h.elim
  · split at h
    · rename_i hc; rw [hc]; exact aldB_sound h
    · exact h.elim
  · exact abinB_sound h
  · unfold aun
    split at h
    · split at h
      · rename_i hc; rw [hc]; exact h.2
      · exact h.elim
    · split at h
      · rename_i hc; rw [hc]; exact h
      · exact h.elim
    · exact h.elim
  · split at h
    · rename_i hc
      split at h
      · rename_i hx; rw [hc, hx]; exact ⟨h.1.1, h.1.2, h.2⟩
      · exact h.elim
    · exact h.elim
  · split at h
    · rename_i hc; rw [hc]; exact afldB_sound h
    · exact h.elim
  · split at h
    · rename_i hc
      split at h
      · rename_i hx; rw [hc, hx]; exact ⟨Nat.le_of_ble_eq_true h.1, h.2⟩
      · exact h.elim
    · rename_i hc
      split at h
      · rename_i hx
        split at h
        · rename_i hy; rw [hc, hx]; simp only [hy]; exact h.2
        · exact h.elim
      · exact h.elim
    · exact h.elim
  · split at h
    · rename_i hx
      split at h
      · rename_i hy; rw [hx]; simp only [hy]; exact h.2
      · exact h.elim
    · exact h.elim
  · split at h
    · rename_i hc
      split at h
      · rename_i hy; rw [hc]; simp only [hy]; exact h.2
      · exact h.elim
    · exact h.elim
  · split at h
    · rename_i hx
      split at h
      · rename_i ht
        simp only [hx, ht]
        unfold alen
        split at h
        · rename_i hc; rw [hc]; exact h
        · rename_i hc; rw [hc]; exact h
        · rename_i hc; rw [hc]; exact h
        · rename_i hc; rw [hc]; exact h
        · exact h.elim
      · exact h.elim
    · exact h.elim
  · split at h
    · rename_i hx
      try simp only [hx]
      split at h
      · rename_i hc
        split at h
        · rename_i hd; rw [hc, hd]; exact h.2
        · exact h.elim
      · exact h.elim
    · exact h.elim
  · split at h
    · rename_i hx
      try simp only [hx]
      split at h
      · rename_i hc
        split at h
        · rename_i hd; rw [hc, hd]; exact h.2
        · exact h.elim
      · exact h.elim
    · exact h.elim

/-- One operation without a guard that turns no memory. -/
theorem xo {P : Program} {TT : Nat → Option TI} {ds : List (Option Nat)} {op : Op} {d : Nat} {ty : TypeId} {pos : String} {af : Array Edge} {os : List Oper} {env : List (Nat × V)} {objs : List O} {n fx : Nat} {K : St → Prop} {v : V} {side : Prop}
    (h : pvB TT env objs op = .ok v side) (hs : side) (hk : aops TT P ds os ⟨(d, v) :: env, objs, n, fx⟩ K) : aops TT P ds (⟨some d, op, ty, pos, af, none⟩ :: os) ⟨env, objs, n, fx⟩ K := by
  have hp := pvB_sound (n := n) (fx := fx) (K := fun v => aops TT P ds os ⟨(d, v) :: env, objs, n, fx⟩ K) (by rw [h]; exact ⟨hs, hk⟩)
  have he : isEff op = false := by
    cases op <;> try rfl
    all_goals try (simp [pvB] at h; done)
    rename_i c
    obtain ⟨callee, args, ts⟩ := c
    cases callee <;> try rfl
    rename_i b
    cases b <;> first | rfl | (simp [pvB] at h; done)
  have hnc : ∀ f args ts, op ≠ .call { callee := .value f, args := args, argTypes := ts } := by
    intro f args ts e
    subst e
    simp [pvB] at h
  show aopg TT P ds _ _ _
  unfold aopg aop
  simp only
  split
  · rename_i hh; rw [he] at hh; cases hh
  · exact hp

/-- A list with another element at the place. -/
def setK {α β : Type} : List α → Nat → α → (List α → β) → β → β
  | [], _, _, _, z => z
  | _ :: xs, 0, y, k, _ => k (y :: xs)
  | x :: xs, i + 1, y, k, z => setK xs i y (fun r => k (x :: r)) z

theorem setK_eq {α β : Type} : ∀ (xs : List α) (i : Nat) (y : α) (k : List α → β) (z : β), i < xs.length → setK xs i y k z = k (xs.set i y)
  | [], _, _, _, _, h => by simp at h
  | x :: xs, 0, y, k, z, _ => rfl
  | x :: xs, i + 1, y, k, z, h => by
    simp only [setK, List.set_cons_succ]
    exact setK_eq xs i y _ z (by simpa using h)
theorem setK_no {α β : Type} : ∀ (xs : List α) (i : Nat) (y : α) (k : List α → β) (z : β), xs.length ≤ i → setK xs i y k z = z
  | [], _, _, _, _, _ => rfl
  | x :: xs, 0, y, k, z, h => by simp at h
  | x :: xs, i + 1, y, k, z, h => by
    simp only [setK]
    exact setK_no xs i y _ z (by simpa using h)

/-- Several elements from the place on. -/
def setsK {γ β : Type} : List γ → Nat → List γ → (List γ → β) → β → β
  | cs, _, [], k, _ => k cs
  | cs, i, y :: ys, k, z => setK cs i y (fun cs => setsK cs (i + 1) ys k z) z

theorem putAt_cons {cs : List V} {i : Nat} {y : V} {ys : List V} (h : i + (y :: ys).length ≤ cs.length) : putAt cs i (y :: ys) = putAt (cs.set i y) (i + 1) ys := by
  simp only [List.length_cons] at h
  unfold putAt
  rw [List.take_succ_eq_append_getElem (by rw [List.length_set]; omega), List.drop_set_of_lt (by omega), List.getElem_set_self]
  simp only [List.length_cons]
  rw [show i + (ys.length + 1) = i + 1 + ys.length by omega, List.take_set, List.set_eq_of_length_le (by simp; omega)]
  simp

theorem putD_cons {cs : List D} {i : Nat} {y : D} {ys : List D} (h : i + (y :: ys).length ≤ cs.length) : putD cs i (y :: ys) = putD (cs.set i y) (i + 1) ys := by
  simp only [List.length_cons] at h
  unfold putD
  rw [List.take_succ_eq_append_getElem (by rw [List.length_set]; omega), List.drop_set_of_lt (by omega), List.getElem_set_self]
  simp only [List.length_cons]
  rw [show i + (ys.length + 1) = i + 1 + ys.length by omega, List.take_set, List.set_eq_of_length_le (by simp; omega)]
  simp

theorem setsKD_eq {β : Type} : ∀ (new cs : List D) (i : Nat) (k : List D → β) (z : β), i + new.length ≤ cs.length → setsK cs i new k z = k (putD cs i new)
  | [], cs, i, k, z, h => by simp [setsK, putD]
  | y :: ys, cs, i, k, z, h => by
    simp only [List.length_cons] at h
    simp only [setsK]
    rw [setK_eq _ _ _ _ _ (by omega), setsKD_eq ys _ _ _ _ (by rw [List.length_set]; omega), putD_cons (by simp only [List.length_cons]; omega)]

theorem setsK_eq {β : Type} : ∀ (new cs : List V) (i : Nat) (k : List V → β) (z : β), i + new.length ≤ cs.length → setsK cs i new k z = k (putAt cs i new)
  | [], cs, i, k, z, h => by simp [setsK, putAt]
  | y :: ys, cs, i, k, z, h => by
    simp only [List.length_cons] at h
    simp only [setsK]
    rw [setK_eq _ _ _ _ _ (by omega), setsK_eq ys _ _ _ _ (by rw [List.length_set]; omega), putAt_cons (by simp only [List.length_cons]; omega)]

inductive ER where
  | no
  | ok (objs : List O) (side : Prop)

def cellsB (v : V) : Option (List V) :=
  match v with
  | .agg cs => forceL cs fun cs => if scaAll cs = true then some cs else none
  | v => force v fun v => if scaB v = true then some [v] else none

theorem cellsB_eq (v : V) : cellsB v = v.cells := by
  cases v <;> simp only [cellsB, V.cells, forceL_eq, force_eq]

/-- A store into a variable. -/
def stB (TT : Nat → Option TI) (env : List (Nat × V)) (objs : List O) (t : TypeId) (x v : Operand) : ER :=
  match TT t with
  | some ti => (match cellsB (evB env v) with
    | some new => (match evB env x with
      | .oref id off => (match objs[id]? with
        | some (.box cells) => setsK cells off new (fun cells' => setK objs id (.box cells') (fun objs' => .ok objs' (Nat.beq new.length ti.size = true ∧ Nat.ble (off + new.length) cells.length = true)) .no) .no
        | _ => .no)
      | _ => .no)
    | none => .no)
  | none => .no

theorem xst {P : Program} {TT : Nat → Option TI} {ds : List (Option Nat)} {t : TypeId} {x v : Operand} {ty : TypeId} {pos : String} {af : Array Edge} {os : List Oper} {env : List (Nat × V)} {objs objs' : List O} {n fx : Nat} {K : St → Prop} {side : Prop}
    (h : stB TT env objs t x v = .ok objs' side) (hs : side) (hk : aops TT P ds os ⟨env, objs', n, fx⟩ K) : aops TT P ds (⟨none, .store t x v, ty, pos, af, none⟩ :: os) ⟨env, objs, n, fx⟩ K := by
  have hev : ∀ o, evB env o = St.ev ⟨env, objs, n, fx⟩ o := fun o => evB_eq o
  rw [aops_store]
  unfold stB at h
  simp only [hev, cellsB_eq] at h
  split at h
  · rename_i ti ht
    split at h
    · rename_i new hn
      split at h
      · rename_i id off hx
        split at h
        · rename_i cells hc
          have hid := (List.getElem?_eq_some_iff.1 hc).1
          rcases Nat.lt_or_ge cells.length (off + new.length) with hl | hl
          · exfalso
            have : ∀ (new cs : List V) (i : Nat) (k : List V → ER), (∀ c, k c = .no ∨ ∃ o, k c = .ok o (Nat.beq new.length ti.size = true ∧ False)) → True := fun _ _ _ _ _ => trivial
            -- the store does not fit
            have hb : ∀ (new cs : List V) (i : Nat) (k : List V → ER), cs.length < i + new.length → new ≠ [] → setsK cs i new k .no = .no := by
              intro new
              induction new with
              | nil => intro cs i k _ hne; exact absurd rfl hne
              | cons y ys ih =>
                intro cs i k hlt _
                simp only [setsK]
                rcases Nat.lt_or_ge i cs.length with hi | hi
                · rw [setK_eq _ _ _ _ _ hi]
                  cases ys with
                  | nil => simp at hlt; omega
                  | cons z zs => exact ih _ _ _ (by rw [List.length_set]; simp only [List.length_cons] at hlt ⊢; omega) (by simp)
                · exact setK_no _ _ _ _ _ hi
            cases new with
            | nil =>
              simp only [setsK] at h
              rw [setK_eq _ _ _ _ _ hid] at h
              injection h with h1 h2
              rw [← h2] at hs
              have := Nat.le_of_ble_eq_true hs.2
              omega
            | cons y ys =>
              rw [hb _ _ _ _ hl (by simp)] at h
              cases h
          · rw [setsK_eq _ _ _ _ _ hl, setK_eq _ _ _ _ _ hid] at h
            injection h with h1 h2
            rw [← h2] at hs
            simp only [ht, hn, hx, hc]
            refine ⟨trivial, Nat.eq_of_beq_eq_true hs.1, hl, ?_⟩
            rw [← h1] at hk
            exact hk
        · cases h
      · cases h
    · cases h
  · cases h

theorem xalloc {P : Program} {TT : Nat → Option TI} {ds : List (Option Nat)} {d : Nat} {t : TypeId} {ty : TypeId} {pos : String} {af : Array Edge} {os : List Oper} {env : List (Nat × V)} {objs : List O} {n fx : Nat} {K : St → Prop} {k : TK} {sz by' : Nat} {z : List V}
    (h : TT t = some ⟨k, sz, by', z⟩) (hk : aops TT P ds os ⟨(d, .oref objs.length 0) :: env, objs ++ [.box z], n, fx⟩ K) : aops TT P ds (⟨some d, .alloc t, ty, pos, af, none⟩ :: os) ⟨env, objs, n, fx⟩ K := by
  rw [aops_alloc, h]; exact hk

theorem xbox {P : Program} {TT : Nat → Option TI} {ds : List (Option Nat)} {d : Nat} {t : TypeId} {x : Operand} {ty : TypeId} {pos : String} {af : Array Edge} {os : List Oper} {env : List (Nat × V)} {objs : List O} {n fx : Nat} {K : St → Prop} {cs : List V}
    (h : cellsB (evB env x) = some cs) (hk : aops TT P ds os ⟨(d, .oref objs.length 0) :: env, objs ++ [.box cs], n, fx⟩ K) : aops TT P ds (⟨some d, .box t x, ty, pos, af, none⟩ :: os) ⟨env, objs, n, fx⟩ K := by
  have hev : evB env x = St.ev ⟨env, objs, n, fx⟩ x := evB_eq x
  rw [aops_box]
  rw [cellsB_eq, hev] at h
  rw [h]; exact hk

theorem xguard {P : Program} {TT : Nat → Option TI} {ds : List (Option Nat)} {dst : Option Nat} {op : Op} {j : Nat} {b c : Bool} {d : Nat} {ty : TypeId} {pos : String} {af : Array Edge} {os : List Oper} {env : List (Nat × V)} {objs : List O} {n fx : Nat} {K : St → Prop}
    (hd : ds[j]? = some (some d)) (hc : getB env d = .d (.bool c)) (h1 : c = b → aops TT P ds (⟨dst, op, ty, pos, af, none⟩ :: os) ⟨(d, .d (.bool b)) :: env, objs, n, fx⟩ K)
    (h2 : c = (!b) → aops TT P ds os (St.put ⟨(d, .d (.bool (!b))) :: env, objs, n, fx⟩ dst .any) K) : aops TT P ds (⟨dst, op, ty, pos, af, some (j, b)⟩ :: os) ⟨env, objs, n, fx⟩ K := by
  rw [getB_eq] at hc
  rw [aops_guard, hd]
  simp only [hc]
  exact ⟨h1, h2⟩

theorem xcond {P : Program} {c : Operand} {d e : Code} {Q : Exit → St → Prop} {env : List (Nat × V)} {objs : List O} {n fx : Nat} {t : Bool} (hc : evB env c = .d (.bool t)) (h1 : t = true → AW P d Q ⟨env, objs, n, fx⟩) (h2 : t = false → AW P e Q ⟨env, objs, n, fx⟩) :
    AW P (.cond c d e) Q ⟨env, objs, n, fx⟩ := AW.cond (by rw [← evB_eq]; exact hc) h1 h2


/-! ### Calls -/

def callB (env : List (Nat × V)) (f : Operand) (args : List Operand) : Option (Nat × List V) :=
  match evB env f with
  | .d (.fn g cap) => evL env args fun vs => forceL (vs ++ cap.map .d) fun vs => some (g, vs)
  | _ => none

section
variable {P : Program} {TT : Nat → Option TI} {ds : List (Option Nat)} {dst : Option Nat} {d : Nat} {ty : TypeId} {pos : String} {af : Array Edge} {os : List Oper} {env : List (Nat × V)} {objs : List O} {n fx : Nat} {K : St → Prop}
  {f : Operand} {args : Array Operand} {ts : Array TypeId} {g : Nat} {vs args' : List V} {R : V} {OS : List O}

theorem xcall (h : callB env f args.toList = some (g, vs)) (hc : ACall P ⟨env, objs, n, fx⟩ g vs fun y s' => aops TT P ds os (s'.put dst y) K) :
    aops TT P ds (⟨dst, .call { callee := .value f, args := args, argTypes := ts }, ty, pos, af, none⟩ :: os) ⟨env, objs, n, fx⟩ K := by
  have hev : evB env = St.ev ⟨env, objs, n, fx⟩ := funext fun o => evB_eq o
  rw [aops_call]
  unfold callB at h
  split at h
  · rename_i g' cap hf
    rw [evL_eq, forceL_eq] at h
    obtain ⟨rfl, rfl⟩ : g' = g ∧ args.toList.map (evB env) ++ cap.map .d = vs := by simpa using h
    rw [hev] at hf hc
    rw [hf]
    exact hc
  · cases h

theorem xcallIs (h : callB env f args.toList = some (g, vs)) (ha : argVs objs [] [] vs = some args') (hc : ACon P g args' [] (Is R)) (hr : noRef R = true) (hk : aops TT P ds os ⟨(d, R) :: env, objs, n, fx⟩ K) :
    aops TT P ds (⟨some d, .call { callee := .value f, args := args, argTypes := ts }, ty, pos, af, none⟩ :: os) ⟨env, objs, n, fx⟩ K :=
  xcall h (ACall.is ha hc (by rw [noRef_back hr]; exact hk))

theorem xcallLend (bs : List Nat) (h : callB env f args.toList = some (g, vs)) (hc : ACon P g args' [] (Is R)) (ha : argVs objs [] bs vs = some args') (hr : noRef R = true) (hf : flatV R = true) (hk : aops TT P ds os ⟨(d, R) :: env, objs, n, fx⟩ K) :
    aops TT P ds (⟨some d, .call { callee := .value f, args := args, argTypes := ts }, ty, pos, af, none⟩ :: os) ⟨env, objs, n, fx⟩ K :=
  xcall h (ACall.isLend bs ha hc hf (by rw [noRef_back hr]; exact hk))

theorem xcallOwn (h : callB env f args.toList = some (g, vs)) (ha : argVs objs [] [] vs = some args') (hc : ACon P g args' [] (Own R OS)) (hk : aops TT P ds os ⟨(d, backV [] objs.length R) :: env, objs ++ OS.map (backO [] objs.length), n, fx⟩ K) :
    aops TT P ds (⟨some d, .call { callee := .value f, args := args, argTypes := ts }, ty, pos, af, none⟩ :: os) ⟨env, objs, n, fx⟩ K :=
  xcall h (ACall.own ha hc hk)

theorem xcallOwnLend (bs : List Nat) (h : callB env f args.toList = some (g, vs)) (hc : ACon P g args' [] (Own R OS)) (ha : argVs objs [] bs vs = some args') (hf : flatV R = true ∧ ∀ o ∈ OS, flatO o)
    (hk : aops TT P ds os ⟨(d, backV [] objs.length R) :: env, objs ++ OS.map (backO [] objs.length), n, fx⟩ K) :
    aops TT P ds (⟨some d, .call { callee := .value f, args := args, argTypes := ts }, ty, pos, af, none⟩ :: os) ⟨env, objs, n, fx⟩ K :=
  xcall h (ACall.ownLend bs ha hc hf hk)

/-- A function that reads of a reader: its place goes on from lo to at most hi; the result is data. -/
def Rd (code : D) (lo hi : Int) (R : V → Prop) : V → List O → Prop := fun r os => ∃ p : Int, lo ≤ p ∧ p ≤ hi ∧ os = [.box [.d code, .d (.int .i64 p)]] ∧ noRef r = true ∧ R r

theorem xcallRd {i : Nat} {code : D} {p lo hi : Int} {Q : V → Prop} (h : callB env f args.toList = some (g, .oref i 0 :: vs)) (ho : objs[i]? = some (.box [.d code, .d (.int .i64 p)])) (ha : argVs objs [i] [] vs = some args')
    (hc : ACon P g (.oref 0 0 :: args') [.box [.d code, .d (.int .i64 p)]] (Rd code lo hi Q))
    (hk : ∀ r p', lo ≤ p' → p' ≤ hi → Q r → aops TT P ds os ⟨(d, r) :: env, objs.set i (.box [.d code, .d (.int .i64 p')]), n, fx⟩ K) :
    aops TT P ds (⟨some d, .call { callee := .value f, args := args, argTypes := ts }, ty, pos, af, none⟩ :: os) ⟨env, objs, n, fx⟩ K := by
  refine xcall h (ACall.hand [i] (args' := .oref 0 0 :: args') (by simp [argVs, argV, idx, ha]) (by simp) (os0 := [.box [.d code, .d (.int .i64 p)]]) (os1 := [.box [.d code, .d (.int .i64 p)]]) (by simp [getO, ho]) rfl (by simp [O.live]) hc ?_)
  rintro r os' ⟨p', h1, h2, rfl, hn, hq⟩
  have hb : ∀ {v : V}, noRef v = true → backV [i] objs.length v = v := by
    have key : ∀ (ids : List Nat) (n : Nat), (∀ v : V, noRef v = true → backV ids n v = v) := by
      intro ids n v
      have := @V.rec (motive_1 := fun v => noRef v = true → backV ids n v = v) (motive_2 := fun vs => noRefs vs = true → backVs ids n vs = vs)
        (fun x _ => rfl) (fun _ _ h => by simp [noRef] at h) (fun _ _ _ _ h => by simp [noRef] at h) (fun _ _ _ _ h => by simp [noRef] at h) (fun _ => rfl)
        (fun cs ih h => by simp only [noRef] at h; simp only [backV, ih h]) (fun cs ih h => by simp only [noRef] at h; simp only [backV, ih h]) (fun _ => rfl)
        (fun _ => rfl) (fun v vs h1 h2 h => by simp only [noRefs, Bool.and_eq_true] at h; simp only [backVs, h1 h.1, h2 h.2])
      exact this v
    exact fun {v} h => key _ _ v h
  rw [hb hn]
  have := hk r p' h1 h2 hq
  simpa [backs, backO, backVs, backV, St.put] using this

/-! ### Slices -/

def idxAdd (off m : Nat) : Nat := match off with
  | 0 => m
  | off + 1 => off + 1 + m
@[go_sem] theorem idxAdd_zero (m : Nat) : idxAdd 0 m = m := rfl
theorem idxAdd_eq (off m : Nat) : idxAdd off m = off + m := by cases off <;> simp [idxAdd]

theorem xidxL {t : TypeId} {x i : Operand} {e : TI} {rows : List (List D)} {k : IntKind} {m : Int} {r : List D} (he : elemOf TT t = some e) (hx : evB env x = .d (.lst rows)) (hi : evB env i = .d (.int k m)) (hr : rows[m.toNat]? = some r) (h0 : 0 ≤ m) (hl : r.length = e.size)
    (hk : aops TT P ds os ⟨(d, .d (.ptr r)) :: env, objs, n, fx⟩ K) : aops TT P ds (⟨some d, .indexAddr t x i, ty, pos, af, none⟩ :: os) ⟨env, objs, n, fx⟩ K := by
  rw [aops_indexAddr, he]
  rw [evB_eq (objs := objs) (n := n) (fx := fx)] at hx hi
  simp only [hx, hi, aidx, hr]
  exact ⟨h0, hl, hk⟩

theorem xidxM {t : TypeId} {x i : Operand} {e : TI} {id sz off len : Nat} {k : IntKind} {m : Int} (he : elemOf TT t = some e) (hx : evB env x = .msl id sz off len) (hi : evB env i = .d (.int k m)) (h0 : 0 ≤ m) (h1 : m < len) (hs : sz = e.size)
    (hk : aops TT P ds os ⟨(d, .aref id sz (idxAdd off m.toNat) 0) :: env, objs, n, fx⟩ K) : aops TT P ds (⟨some d, .indexAddr t x i, ty, pos, af, none⟩ :: os) ⟨env, objs, n, fx⟩ K := by
  rw [aops_indexAddr, he]
  rw [evB_eq (objs := objs) (n := n) (fx := fx)] at hx hi
  rw [idxAdd_eq] at hk
  simp only [hx, hi, aidx]
  exact ⟨h0, h1, hs, hk⟩

theorem xldA {t : TypeId} {x : Operand} {ti : TI} {id sz i off : Nat} {rows : List (List D)} {r : List D} {v : V} {side : Prop} (ht : TT t = some ti) (hx : evB env x = .aref id sz i off) (ho : objs[id]? = some (.arr sz rows)) (hr : rows[i]? = some r)
    (hv : ldCellsB ti ((r.drop off).map .d) = .ok v side) (hs : side) (hk : aops TT P ds os ⟨(d, v) :: env, objs, n, fx⟩ K) : aops TT P ds (⟨some d, .load t x, ty, pos, af, none⟩ :: os) ⟨env, objs, n, fx⟩ K := by
  rw [aops_load, ht]
  rw [evB_eq (objs := objs) (n := n) (fx := fx)] at hx
  simp only [hx, ald, ho, hr]
  exact ⟨trivial, ldCellsB_sound (by rw [hv]; exact ⟨hs, hk⟩)⟩

theorem xstA {t : TypeId} {x v : Operand} {ti : TI} {id sz i off : Nat} {rows : List (List D)} {r xs r' : List D} {new : List V} (ht : TT t = some ti) (hv : cellsB (evB env v) = some new) (hx : evB env x = .aref id sz i off) (ho : objs[id]? = some (.arr sz rows)) (hr : rows[i]? = some r)
    (hd : toDs new = some xs) (hs : setsK r off xs some none = some r') (h1 : new.length = ti.size) (h2 : Nat.ble (off + xs.length) r.length = true)
    (hk : aops TT P ds os ⟨env, objs.set id (.arr sz (rows.set i r')), n, fx⟩ K) : aops TT P ds (⟨none, .store t x v, ty, pos, af, none⟩ :: os) ⟨env, objs, n, fx⟩ K := by
  rw [aops_store, ht]
  rw [evB_eq (objs := objs) (n := n) (fx := fx)] at hx
  rw [cellsB_eq, evB_eq (objs := objs) (n := n) (fx := fx)] at hv
  have h2 := Nat.le_of_ble_eq_true h2
  rw [setsKD_eq _ _ _ _ _ h2] at hs
  cases hs
  simp only [hv, hx, ho, hr, hd]
  exact ⟨trivial, h1, trivial, h2, hk⟩

/-- A part of a slice that is data. -/
theorem xslc {t : TypeId} {x : Operand} {lo hi : Option Operand} {e : TI} {rows : List (List D)} {l h : Nat} (he : elemOf TT t = some e) (hx : evB env x = .d (.lst rows)) (hlo : abd (lo.map (evB env)) 0 = some l) (hhi : abd (hi.map (evB env)) rows.length = some h)
    (hsz : ∀ r ∈ rows, r.length = e.size) (h1 : l ≤ h) (h2 : h ≤ rows.length) (hk : aops TT P ds os ⟨(d, .d (.lst ((rows.take h).drop l))) :: env, objs, n, fx⟩ K) :
    aops TT P ds (⟨some d, .slice t x lo hi none, ty, pos, af, none⟩ :: os) ⟨env, objs, n, fx⟩ K := by
  have hev : evB env = St.ev ⟨env, objs, n, fx⟩ := funext fun o => evB_eq o
  rw [aops_slice]
  rw [hev] at hx hlo hhi
  rw [hx]
  unfold aslc
  simp only
  rw [hlo, hhi]
  exact ⟨⟨e, he, hsz⟩, h1, h2, hk⟩

theorem xslcLo {α : Type} {t : TypeId} {x lo : Operand} {e : TI} {xs : List α} {enc : α → List D} {k : IntKind} {m : Int} (he : elemOf TT t = some e) (hx : evB env x = .d (.lst (xs.map enc))) (hlo : evB env lo = .d (.int k m))
    (hsz : ∀ r ∈ xs.map enc, r.length = e.size) (h : 0 ≤ m ∧ m ≤ xs.length) (hk : aops TT P ds os ⟨(d, .d (.lst ((xs.drop m.toNat).map enc))) :: env, objs, n, fx⟩ K) :
    aops TT P ds (⟨some d, .slice t x (some lo) none none, ty, pos, af, none⟩ :: os) ⟨env, objs, n, fx⟩ K := by
  refine xslc (l := m.toNat) (h := (xs.map enc).length) he hx (by simp [abd, hlo, h.1]) (by simp [abd]) hsz (by rw [List.length_map]; omega) (Nat.le_refl _) ?_
  rw [List.take_length, ← List.map_drop]; exact hk

theorem xslcHi {α : Type} {t : TypeId} {x hi : Operand} {e : TI} {xs : List α} {enc : α → List D} {k : IntKind} {m : Int} (he : elemOf TT t = some e) (hx : evB env x = .d (.lst (xs.map enc))) (hhi : evB env hi = .d (.int k m))
    (hsz : ∀ r ∈ xs.map enc, r.length = e.size) (h : 0 ≤ m ∧ m ≤ xs.length) (hk : aops TT P ds os ⟨(d, .d (.lst ((xs.take m.toNat).map enc))) :: env, objs, n, fx⟩ K) :
    aops TT P ds (⟨some d, .slice t x none (some hi) none, ty, pos, af, none⟩ :: os) ⟨env, objs, n, fx⟩ K := by
  refine xslc (l := 0) (h := m.toNat) he hx (by simp [abd]) (by simp [abd, hhi, h.1]) hsz (Nat.zero_le _) (by rw [List.length_map]; omega) ?_
  rw [List.drop_zero, ← List.map_take]; exact hk

theorem xslcB {α : Type} {t : TypeId} {x lo hi : Operand} {e : TI} {xs : List α} {enc : α → List D} {k k' : IntKind} {m m' : Int} (he : elemOf TT t = some e) (hx : evB env x = .d (.lst (xs.map enc))) (hlo : evB env lo = .d (.int k m)) (hhi : evB env hi = .d (.int k' m'))
    (hsz : ∀ r ∈ xs.map enc, r.length = e.size) (h : 0 ≤ m ∧ m ≤ m' ∧ m' ≤ xs.length) (hk : aops TT P ds os ⟨(d, .d (.lst (((xs.drop m.toNat).take (m'.toNat - m.toNat)).map enc))) :: env, objs, n, fx⟩ K) :
    aops TT P ds (⟨some d, .slice t x (some lo) (some hi) none, ty, pos, af, none⟩ :: os) ⟨env, objs, n, fx⟩ K := by
  refine xslc (l := m.toNat) (h := m'.toNat) he hx (by simp [abd, hlo, h.1]) (by simp [abd, hhi, show 0 ≤ m' by omega]) hsz (by omega) (by rw [List.length_map]; omega) ?_
  rw [List.drop_take, ← List.map_drop, ← List.map_take]; exact hk

/-- What is not reckoned otherwise. -/
theorem xsim {l : List Oper} {s : St} (h : aops TT P ds l s K) : aops TT P ds l s K := h

end

theorem xend {P : Program} {TT : Nat → Option TI} {ds : List (Option Nat)} {s : St} {K : St → Prop} (h : K s) : aops TT P ds [] s K := h

/-! ### What follows a code's end -/

section
variable {P : Program} {b : Code} {Q : Exit → St → Prop} {s : St} {i id : Nat}
theorem xthen (h : AW P b Q s) : thenQ P b Q .normal s := h
theorem xthen_r (h : Q .ret s) : thenQ P b Q .ret s := h
theorem xthen_e (h : Q (.exit i) s) : thenQ P b Q (.exit i) s := h
theorem xblock (h : Q .normal s) : blockQ id Q .normal s := h
theorem xblock_r (h : Q .ret s) : blockQ id Q .ret s := h
theorem xblock_e (h : Q .normal s) : blockQ id Q (.exit id) s := by simpa [blockQ] using h
theorem xblock_n (hn : Nat.beq i id = false) (h : Q (.exit i) s) : blockQ id Q (.exit i) s := by
  simp only [blockQ]; rw [if_neg (Nat.ne_of_beq_eq_false hn)]; exact h
theorem xround_r {α : Type} {S : α → St} {Pre : α → Prop} {μ : α → Nat} {j : α} (h : Q .ret s) : roundQ S Pre μ j Q .ret s := h
theorem xround_e {α : Type} {S : α → St} {Pre : α → Prop} {μ : α → Nat} {j : α} (h : Q (.exit i) s) : roundQ S Pre μ j Q (.exit i) s := h
end

def resB (TT : Nat → Option TI) (env : List (Nat × V)) (objs : List O) : List ResultVar → (List V → PR) → PR
  | [], k => k []
  | .tmp t :: r, k => force (getB env t) fun v => resB TT env objs r fun vs => k (v :: vs)
  | .cell a t :: r, k => match TT t with
    | some ti => (match aldB ti objs (getB env a) with
      | .ok v s => (match resB TT env objs r (fun vs => k (v :: vs)) with
        | .ok v' s' => .ok v' (s ∧ s')
        | .no => .no)
      | .no => .no)
    | none => .no

theorem resB_sound {TT : Nat → Option TI} {env : List (Nat × V)} {objs : List O} {n fx : Nat} : ∀ (res : List ResultVar) (k : List V → PR) (K : List V → Prop), (∀ vs, (k vs).holds (fun _ => True) → K vs) → (resB TT env objs res k).holds (fun _ => True) → ares TT ⟨env, objs, n, fx⟩ res K
  | [], k, K, hk, h => hk _ h
  | .tmp t :: r, k, K, hk, h => by
    simp only [resB, force_eq] at h
    simp only [ares]
    rw [← getB_eq]
    exact resB_sound r _ _ (fun vs hv => hk _ hv) h
  | .cell a t :: r, k, K, hk, h => by
    simp only [resB] at h
    simp only [ares]
    split at h
    · rename_i ti ht
      rw [ht]
      split at h
      · rename_i v s hv
        split at h
        · rename_i v' s' hr
          obtain ⟨⟨h1, h2⟩, _⟩ := h
          refine aldB_sound ?_
          rw [← getB_eq, hv]
          exact ⟨h1, resB_sound r _ _ (fun vs hv => hk _ hv) (by rw [hr]; exact ⟨h2, trivial⟩)⟩
        · exact h.elim
      · exact h.elim
    · exact h.elim

def oneB (v : V) : List V → PR
  | [u] => .ok .any (u = v)
  | vs => .ok .any (V.tup vs = v)

def outB (vs : List V) : PR :=
  match vs with
  | [] => .ok (.tup []) True
  | [u] => .ok u True
  | u :: w :: vs => .ok (.tup (u :: w :: vs)) True

theorem outB_eq (vs : List V) : outB vs = .ok (oneOf vs) True := by
  match vs with
  | [] => rfl
  | [u] => rfl
  | u :: w :: vs => rfl

/-- What is asked of a body's end, of a state that may be weakened first. -/
def endW (TT : Nat → Option TI) (res : List ResultVar) (Post : V → List O → Prop) (e : Exit) (s : St) : Prop := ∃ s', Weak s s' ∧ endQ TT res Post e s'

theorem endW.of {TT : Nat → Option TI} {res : List ResultVar} {Post : V → List O → Prop} {e : Exit} {s : St} (h : endQ TT res Post e s) : endW TT res Post e s := ⟨s, Weak.refl s, h⟩
theorem xfinW {TT : Nat → Option TI} {res : List ResultVar} {Post : V → List O → Prop} {e : Exit} {s s' : St} (hw : Weak s s') (h : endW TT res Post e s') : endW TT res Post e s := by
  obtain ⟨s'', h1, h2⟩ := h
  exact ⟨s'', hw.trans h1, h2⟩

theorem ACon.introW {P : Program} {TT : Nat → Option TI} (hT : TOk P TT) {f nt : Nat} {fn : Func} {c : Code} {res : List ResultVar} {args : List V} {objs : List O} {Post : V → List O → Prop} (hf : P.funcs[f]? = some fn) (hb : fn.body = some c)
    (hr : fn.results = ⟨res⟩) (hnt : fn.ntmps = nt) (hc : callable P f = true) (hn : Nat.ble args.length nt = true) (h : AW P c (endW TT res Post) ⟨args0 0 args, objs, nt, objs.length⟩) : ACon P f args objs Post := by
  refine ACon.intro hT hf hb hr hnt hc hn ⟨fun x a w hC => ?_⟩
  refine wp_mono (h.run x a w hC) ?_
  rintro e a' w' ⟨s', ⟨s'', h1, h2⟩, h3⟩
  exact ⟨s'', h2, h1.run _ _ _ h3⟩

section
variable {TT : Nat → Option TI} {env : List (Nat × V)} {objs : List O} {n fx : Nat} {res : List ResultVar} {v R : V} {side : Prop} {Post : V → List O → Prop}

theorem xfinK0 {e : Exit} (he : e = .normal ∨ e = .ret) (h : resB TT env objs res outB = .ok v side) (hs : side)
    (hp : ∃ (π : List Nat) (y : V) (os : List O), π.Nodup ∧ idsB fx π = true ∧ renOs π objs π os ∧ renV π y = some v ∧ Post y os) : endQ TT res Post e ⟨env, objs, n, fx⟩ := by
  refine ⟨by rcases he with rfl | rfl <;> trivial, ?_⟩
  have key : ∀ (res : List ResultVar) (k : List V → PR) (v : V) (side : Prop), (∀ vs, k vs = .no ∨ ∃ s, k vs = .ok (oneOf vs) s ∨ True) → True := fun _ _ _ _ _ => trivial
  -- the value that is reckoned is the results' own
  have hres : ∀ (res : List ResultVar) (pre : List V) (v : V) (side : Prop), resB TT env objs res (fun vs => outB (pre ++ vs)) = .ok v side → side → ares TT ⟨env, objs, n, fx⟩ res fun vs => oneOf (pre ++ vs) = v := by
    intro res
    induction res with
    | nil =>
      intro pre v side h hs
      simp only [resB, outB_eq] at h
      injection h
    | cons r res ih =>
      intro pre v side h hs
      cases r with
      | tmp t =>
        simp only [resB, force_eq] at h
        simp only [ares]
        rw [← getB_eq]
        have := ih (pre ++ [getB env t]) v side (by simpa using h) hs
        simpa using this
      | cell a t =>
        simp only [resB] at h
        simp only [ares]
        split at h
        · rename_i ti ht
          rw [ht]
          split at h
          · rename_i v1 s1 hv1
            split at h
            · rename_i v2 s2 hr
              injection h with h1 h2
              subst h1
              rw [← h2] at hs
              refine aldB_sound ?_
              rw [← getB_eq, hv1]
              refine ⟨hs.1, ?_⟩
              have := ih (pre ++ [v1]) v2 s2 (by simpa using hr) hs.2
              simpa using this
            · cases h
          · cases h
        · cases h
  have ares_mono : ∀ (res : List ResultVar) (s : St) (K K' : List V → Prop), (∀ vs, K vs → K' vs) → ares TT s res K → ares TT s res K' := by
    intro res
    induction res with
    | nil => intro s K K' hk h; exact hk _ h
    | cons r res ih =>
      intro s K K' hk h
      cases r with
      | tmp t => exact ih s _ _ (fun vs hv => hk _ hv) h
      | cell a t =>
        simp only [ares] at h ⊢
        split at h
        · rename_i ti ht
          exact ald_mo _ _ (fun v hv => ih s _ _ (fun vs hv => hk _ hv) hv) h
        · exact h.elim
  refine ares_mono _ _ _ _ (fun vs hv => ?_) (hres res [] v side (by simpa using h) hs)
  rw [List.nil_append] at hv
  rw [hv]
  exact hp

theorem xfinK {e : Exit} (he : e = .normal ∨ e = .ret) (h : resB TT env objs res outB = .ok v side) (hs : side)
    (hp : ∃ (π : List Nat) (y : V) (os : List O), π.Nodup ∧ idsB fx π = true ∧ renOs π objs π os ∧ renV π y = some v ∧ Post y os) : endW TT res Post e ⟨env, objs, n, fx⟩ := .of (xfinK0 he h hs hp)

theorem xfinIs {e : Exit} (he : e = .normal ∨ e = .ret) (h : resB TT env objs res outB = .ok v side) (hs : side) (hR : noRef R = true) (hv : R = v) (hfx : idsB fx [] = true) : endW TT res (Is R) e ⟨env, objs, n, fx⟩ := by
  refine xfinK he h hs ⟨[], R, [], List.nodup_nil, hfx, by cases objs <;> trivial, ?_, rfl, rfl⟩
  rw [← hv]
  have key : ∀ v : V, noRef v = true → renV [] v = some v := by
    intro v
    have := @V.rec (motive_1 := fun v => noRef v = true → renV [] v = some v) (motive_2 := fun vs => noRefs vs = true → renVs [] vs = some vs)
      (fun x _ => rfl) (fun _ _ h => by simp [noRef] at h) (fun _ _ _ _ h => by simp [noRef] at h) (fun _ _ _ _ h => by simp [noRef] at h) (fun _ => rfl)
      (fun cs ih h => by simp only [noRef] at h; simp only [renV, ih h, Option.map_some]) (fun cs ih h => by simp only [noRef] at h; simp only [renV, ih h, Option.map_some]) (fun _ => rfl)
      (fun _ => rfl) (fun v vs h1 h2 h => by simp only [noRefs, Bool.and_eq_true] at h; simp only [renVs, h1 h.1, h2 h.2])
    exact this v
  exact key R hR

/-- A loop's state out of the state behind a round: slot by slot. -/
theorem renE_c {π : List Nat} {env0 e : List (Nat × V)} {j : Nat} {y v : V} (h1 : force (getB env0 j) some = some v) (h2 : renV π y = some v) (h3 : renE π env0 e) : renE π env0 ((j, y) :: e) := by
  rw [force_eq, getB_eq] at h1
  exact ⟨by rw [h2, ← h1], h3⟩
theorem xwk {π : List Nat} {env env' : List (Nat × V)} {objs objs' : List O} {n fx : Nat} (hnd : π.Nodup) (hid : idsB fx π = true) (ho : renOs π objs π objs') (he : renE π env env') : Weak ⟨env, objs, n, fx⟩ ⟨env', objs', n, fx⟩ :=
  Weak.of π rfl rfl hnd hid ho he
theorem renE_n {π : List Nat} {env0 : List (Nat × V)} : renE π env0 [] := trivial

end

/-! ### Regions whose order is drawn -/

section
variable {P : Program} {TT : Nat → Option TI} {ops : List Oper} {K : St → Prop} {s : St} {i j k : Nat} {p r t : Plan} {o o' o'' : Oper}

theorem xrun_f (h : K s) : arun TT P ops .fin s K := h
theorem xrun_e (h : ops[i]? = some o) (hk : aops TT P (ops.map (·.dst)) [o] s fun s' => arun TT P ops p s' K) : arun TT P ops (.e i p) s K := by
  simp only [arun, h]; exact hk
theorem xrun_q (h : ops[i]? = some o) (hc : callOf o.op = none) (he : isEff o.op = false) (hk : aops TT P (ops.map (·.dst)) [o] s fun s' => arun TT P ops p s' K) : arun TT P ops (.q i p) s K := by
  simp only [arun, h, aone, hc]; exact ⟨he, hk⟩
theorem xrun_c {env : List (Nat × V)} {objs : List O} {n fx : Nat} {f : Operand} {args : List Operand} {g : Nat} {vs args' : List V} {R : V} {d : Nat} (h : ops[i]? = some o) (hc : callOf o.op = some (f, args)) (hg : o.guard = none) (hd : o.dst = some d) (hb : callB env f args = some (g, vs))
    (ha : argVs objs [] [] vs = some args') (hcon : ACon P g args' [] (Is R)) (hr : noRef R = true) (hk : arun TT P ops p ⟨(d, R) :: env, objs, n, fx⟩ K) : arun TT P ops (.q i p) ⟨env, objs, n, fx⟩ K := by
  have hev : evB env = St.ev ⟨env, objs, n, fx⟩ := funext fun o => evB_eq o
  simp only [arun, h, aone, hc, hg]
  unfold callB at hb
  split at hb
  · rename_i g' cap hf
    rw [evL_eq, forceL_eq] at hb
    obtain ⟨rfl, rfl⟩ : g' = g ∧ args.map (evB env) ++ cap.map .d = vs := by simpa using hb
    rw [hev] at hf ha
    rw [hf]
    refine ACallQ.of ha hcon hr ?_
    rw [hd]; exact hk
  · cases hb
theorem xrun_2 (h : ops[i]? = some o) (h' : ops[j]? = some o') (hk : aops TT P (ops.map (·.dst)) [o] s fun s' => arun TT P ops p s' K) (hk' : aops TT P (ops.map (·.dst)) [o'] s fun s' => arun TT P ops r s' K) : arun TT P ops (.two i p j r) s K := by
  simp only [arun, h, h']; exact ⟨hk, hk'⟩
theorem xrun_3 (h : ops[i]? = some o) (h' : ops[j]? = some o') (h'' : ops[k]? = some o'') (hk : aops TT P (ops.map (·.dst)) [o] s fun s' => arun TT P ops p s' K) (hk' : aops TT P (ops.map (·.dst)) [o'] s fun s' => arun TT P ops r s' K)
    (hk'' : aops TT P (ops.map (·.dst)) [o''] s fun s' => arun TT P ops t s' K) : arun TT P ops (.three i p j r k t) s K := by
  simp only [arun, h, h', h'']; exact ⟨hk, hk', hk''⟩
end

attribute [go_sem] Bool.and_self Bool.true_and Bool.and_true Bool.and_false Bool.false_and

theorem xdrawS {P : Program} {id : Nat} {ops : Array Oper} {c : Code} {Q : Exit → St → Prop} {s : St} (h : AW P (.seq (.region id ops true) c) Q s) : AW P (.seq (.region id ops true) c) Q s := h
theorem xdraw {P : Program} {id : Nat} {ops : Array Oper} {Q : Exit → St → Prop} {s : St} (h : AW P (.region id ops true) Q s) : AW P (.region id ops true) Q s := h
theorem xstepS {P : Program} {id : Nat} {ops : Array Oper} {c : Code} {Q : Exit → St → Prop} {s : St} (h : AW P (.seq (.region id ops false) c) Q s) : AW P (.seq (.region id ops false) c) Q s := h
theorem xstep {P : Program} {id : Nat} {ops : Array Oper} {Q : Exit → St → Prop} {s : St} (h : AW P (.region id ops false) Q s) : AW P (.region id ops false) Q s := h

theorem xarun {P : Program} {TT : Nat → Option TI} {ops : List Oper} {p : Plan} {K : St → Prop} {s : St} (h : arun TT P ops p s K) : arun TT P ops p s K := h
theorem xaw {P : Program} {c : Code} {Q : Exit → St → Prop} {s : St} (h : AW P c Q s) : AW P c Q s := h

theorem xfinOwn {TT : Nat → Option TI} {env : List (Nat × V)} {objs OS : List O} {n fx : Nat} {res : List ResultVar} {v R : V} {side : Prop} {e : Exit} (π : List Nat) (he : e = .normal ∨ e = .ret) (h : resB TT env objs res outB = .ok v side) (hs : side)
    (hn : π.Nodup) (hi : idsB fx π = true) (ho : renOs π objs π OS) (hr : renV π R = some v) : endW TT res (Own R OS) e ⟨env, objs, n, fx⟩ :=
  xfinK he h hs ⟨π, R, OS, hn, hi, ho, hr, rfl, rfl⟩

theorem xlenM {P : Program} {TT : Nat → Option TI} {ds : List (Option Nat)} {d : Nat} {ty : TypeId} {pos : String} {af : Array Edge} {os : List Oper} {env : List (Nat × V)} {objs : List O} {n fx : Nat} {K : St → Prop} {α : Type} {xs : List α} {enc : α → List D} {x : Operand} {t : TypeId}
    (hx : evB env x = .d (.lst (xs.map enc))) (ht : isSlice (TT t) = true) (hk : aops TT P ds os ⟨(d, .d (.int .i64 xs.length)) :: env, objs, n, fx⟩ K) :
    aops TT P ds (⟨some d, .call { callee := .builtin .len, args := #[x], argTypes := #[t] }, ty, pos, af, none⟩ :: os) ⟨env, objs, n, fx⟩ K := by
  rw [aops_len]
  rw [evB_eq (objs := objs) (n := n) (fx := fx)] at hx
  simp only [hx, alen, List.length_map]
  exact ⟨ht, hk⟩

/-- A call that hands over one array. -/
theorem xcallHand {P : Program} {TT : Nat → Option TI} {ds : List (Option Nat)} {d : Nat} {ty : TypeId} {pos : String} {af : Array Edge} {os : List Oper} {env : List (Nat × V)} {objs : List O} {n fx : Nat} {K : St → Prop} {f : Operand} {args : Array Operand} {ts : Array TypeId} {g : Nat} {vs args' : List V} {R : V} {o1 : O}
    (i : Nat) {sz : Nat} {rows : List (List D)} (h : callB env f args.toList = some (g, vs)) (ho : objs[i]? = some (.arr sz rows)) (hc : ACon P g args' [.arr sz rows] (Own R [o1])) (ha : argVs objs [i] [] vs = some args') (hr : noRef R = true)
    (h1 : o1 = .dead ∨ ∃ sz rows, o1 = .arr sz rows) (hk : aops TT P ds os ⟨(d, R) :: env, objs.set i o1, n, fx⟩ K) :
    aops TT P ds (⟨some d, .call { callee := .value f, args := args, argTypes := ts }, ty, pos, af, none⟩ :: os) ⟨env, objs, n, fx⟩ K := by
  refine xcall h (ACall.hand [i] ha (by simp) (os0 := [.arr sz rows]) (os1 := [.arr sz rows]) (by simp [getO, ho]) rfl (by simp [O.live]) hc ?_)
  rintro r os' ⟨rfl, rfl⟩
  have hb : ∀ (v : V), noRef v = true → backV [i] objs.length v = v := by
    intro v
    have := @V.rec (motive_1 := fun v => noRef v = true → backV [i] objs.length v = v) (motive_2 := fun vs => noRefs vs = true → backVs [i] objs.length vs = vs)
      (fun x _ => rfl) (fun _ _ h => by simp [noRef] at h) (fun _ _ _ _ h => by simp [noRef] at h) (fun _ _ _ _ h => by simp [noRef] at h) (fun _ => rfl)
      (fun cs ih h => by simp only [noRef] at h; simp only [backV, ih h]) (fun cs ih h => by simp only [noRef] at h; simp only [backV, ih h]) (fun _ => rfl)
      (fun _ => rfl) (fun v vs h1 h2 h => by simp only [noRefs, Bool.and_eq_true] at h; simp only [backVs, h1 h.1, h2 h.2])
    exact this v
  rw [hb _ hr]
  have hbo : backO [i] objs.length o1 = o1 := by
    rcases h1 with rfl | ⟨sz', rows', rfl⟩ <;> rfl
  simpa [backs, hbo, St.put] using hk

theorem flat1 {α : Type} {sz : Nat} {xs : List α} {enc : α → List D} (h : ∀ a, (enc a).all D.flat = true) : ∀ o ∈ [O.arr sz (xs.map enc)], flatO o := by
  intro o ho
  obtain rfl := List.mem_singleton.1 ho
  intro r hr x hx
  obtain ⟨a, _, rfl⟩ := List.mem_map.1 hr
  exact List.all_eq_true.1 (h a) x hx

/-! ### Readers -/

/-- A byte of the input. -/
structure Byte where
  v : Int
  h : 0 ≤ v ∧ v < 256
@[go_sem] def encByte (b : Byte) : List D := [.int .u8 b.v]
@[go_sem] def encInt (n : Int) : List D := [.int .i64 n]

theorem inR_byte (b : Byte) : inR .i64 b.v := inR_i64.mpr (by have := b.h; omega)
theorem atI {α β : Type} {f : α → β} {xs : List α} {m : Int} (h : 0 ≤ m ∧ m < xs.length) : (xs.map f)[m.toNat]? = some (f (xs[m.toNat]'(by omega))) := by
  rw [List.getElem?_map, List.getElem?_eq_getElem (by omega), Option.map_some]

theorem noRef_ren {π : List Nat} : ∀ v : V, noRef v = true → renV π v = some v := by
  intro v
  have := @V.rec (motive_1 := fun v => noRef v = true → renV π v = some v) (motive_2 := fun vs => noRefs vs = true → renVs π vs = some vs)
    (fun x _ => rfl) (fun _ _ h => by simp [noRef] at h) (fun _ _ _ _ h => by simp [noRef] at h) (fun _ _ _ _ h => by simp [noRef] at h) (fun _ => rfl)
    (fun cs ih h => by simp only [noRef] at h; simp only [renV, ih h, Option.map_some]) (fun cs ih h => by simp only [noRef] at h; simp only [renV, ih h, Option.map_some]) (fun _ => rfl)
    (fun _ => rfl) (fun v vs h1 h2 h => by simp only [noRefs, Bool.and_eq_true] at h; simp only [renVs, h1 h.1, h2 h.2])
  exact this v
theorem noRef_backI {ids : List Nat} {n : Nat} : ∀ v : V, noRef v = true → backV ids n v = v := by
  intro v
  have := @V.rec (motive_1 := fun v => noRef v = true → backV ids n v = v) (motive_2 := fun vs => noRefs vs = true → backVs ids n vs = vs)
    (fun x _ => rfl) (fun _ _ h => by simp [noRef] at h) (fun _ _ _ _ h => by simp [noRef] at h) (fun _ _ _ _ h => by simp [noRef] at h) (fun _ => rfl)
    (fun cs ih h => by simp only [noRef] at h; simp only [backV, ih h]) (fun cs ih h => by simp only [noRef] at h; simp only [backV, ih h]) (fun _ => rfl)
    (fun _ => rfl) (fun v vs h1 h2 h => by simp only [noRefs, Bool.and_eq_true] at h; simp only [backVs, h1 h.1, h2 h.2])
  exact this v

/-- A reader at p. -/
def rdr (code : D) (p : Int) : O := .box [.d code, .d (.int .i64 p)]

theorem xfinRd {TT : Nat → Option TI} {env : List (Nat × V)} {rest : List O} {n : Nat} {res : List ResultVar} {v : V} {side : Prop} {e : Exit} {code : D} {p lo hi : Int} {Q : V → Prop} (he : e = .normal ∨ e = .ret)
    (h : resB TT env (.box [.d code, .d (.int .i64 p)] :: rest) res outB = .ok v side) (hs : side) (hr : noRef v = true) (h1 : lo ≤ p) (h2 : p ≤ hi) (hq : Q v) :
    endW TT res (Rd code lo hi Q) e ⟨env, .box [.d code, .d (.int .i64 p)] :: rest, n, 1⟩ :=
  xfinK he h hs ⟨[0], v, [.box [.d code, .d (.int .i64 p)]], by decide, rfl, ⟨.inr ⟨_, rfl, rfl⟩, trivial⟩, noRef_ren v hr, p, h1, h2, rfl, hr, hq⟩

/-- One of the numbers of a slice that is handed over with the reader. -/
def Rd2 (code : D) (lo hi : Int) (R : V → Prop) : V → List O → Prop := fun r os => ∃ p : Int, lo ≤ p ∧ p ≤ hi ∧ os = [.box [.d code, .d (.int .i64 p)], .dead] ∧ noRef r = true ∧ R r

theorem xfinRd2 {TT : Nat → Option TI} {env : List (Nat × V)} {o : O} {rest : List O} {n : Nat} {res : List ResultVar} {v : V} {side : Prop} {e : Exit} {code : D} {p lo hi : Int} {Q : V → Prop} (he : e = .normal ∨ e = .ret)
    (h : resB TT env (.box [.d code, .d (.int .i64 p)] :: o :: rest) res outB = .ok v side) (hs : side) (hr : noRef v = true) (h1 : lo ≤ p) (h2 : p ≤ hi) (hq : Q v) :
    endW TT res (Rd2 code lo hi Q) e ⟨env, .box [.d code, .d (.int .i64 p)] :: o :: rest, n, 2⟩ :=
  xfinK he h hs ⟨[0, 1], v, [.box [.d code, .d (.int .i64 p)], .dead], by decide, rfl, ⟨.inr ⟨_, rfl, rfl⟩, .inl ⟨rfl, by simp⟩, trivial⟩, noRef_ren v hr, p, h1, h2, rfl, hr, hq⟩

theorem xcallOne {P : Program} {TT : Nat → Option TI} {ds : List (Option Nat)} {d : Nat} {ty : TypeId} {pos : String} {af : Array Edge} {os : List Oper} {env : List (Nat × V)} {objs : List O} {n fx : Nat} {K : St → Prop} {f : Operand} {args : Array Operand} {ts : Array TypeId} {g : Nat}
    {i j sz len : Nat} {rows : List (List D)} {code : D} {p lo hi : Int} {Q : V → Prop} (h : callB env f args.toList = some (g, [.oref i 0, .msl j sz 0 len])) (ho : objs[i]? = some (.box [.d code, .d (.int .i64 p)])) (ho2 : objs[j]? = some (.arr sz rows)) (hij : Nat.beq j i = false)
    (hc : ACon P g [.oref 0 0, .msl 1 sz 0 len] [.box [.d code, .d (.int .i64 p)], .arr sz rows] (Rd2 code lo hi Q))
    (hk : ∀ r p', lo ≤ p' → p' ≤ hi → Q r → aops TT P ds os ⟨(d, r) :: env, (objs.set i (.box [.d code, .d (.int .i64 p')])).set j .dead, n, fx⟩ K) :
    aops TT P ds (⟨some d, .call { callee := .value f, args := args, argTypes := ts }, ty, pos, af, none⟩ :: os) ⟨env, objs, n, fx⟩ K := by
  have hne := Nat.ne_of_beq_eq_false hij
  refine xcall h (ACall.hand [i, j] (args' := [.oref 0 0, .msl 1 sz 0 len]) ?_ (by simp [Ne.symm hne]) (os0 := [.box [.d code, .d (.int .i64 p)], .arr sz rows]) (os1 := [.box [.d code, .d (.int .i64 p)], .arr sz rows]) (by simp [getO, ho, ho2]) rfl (by simp [O.live]) hc ?_)
  · simp [argVs, argV, idx, Ne.symm hne]
  · rintro r os' ⟨p', h1, h2, rfl, hn, hq⟩
    rw [noRef_backI r hn]
    have := hk r p' h1 h2 hq
    simpa [backs, backO, backVs, backV, St.put] using this

def unInts {β : Type} : List (List D) → (List Int → β) → β → β
  | [], k, _ => k []
  | [.int .i64 n] :: r, k, z => unInts r (fun ns => k (n :: ns)) z
  | _, _, z => z

theorem unInts_some : ∀ {rows : List (List D)} {zs : List Int}, unInts rows some none = some zs → rows = zs.map encInt := by
  have key : ∀ (rows : List (List D)) (k : List Int → Option (List Int)) (zs : List Int), unInts rows k none = some zs → ∃ ns, rows = ns.map encInt ∧ k ns = some zs := by
    intro rows
    induction rows with
    | nil => intro k zs h; exact ⟨[], rfl, h⟩
    | cons r rows ih =>
      intro k zs h
      by_cases hr : ∃ n, r = [.int .i64 n]
      · obtain ⟨n, rfl⟩ := hr
        obtain ⟨ns, h1, h2⟩ := ih (fun ns => k (n :: ns)) zs h
        exact ⟨n :: ns, by rw [h1]; rfl, h2⟩
      · have : unInts (r :: rows) k none = none := by
          unfold unInts
          split
          · rename_i hh; cases hh
          · rename_i hh; exact absurd ⟨_, (List.cons.inj hh).1⟩ hr
          · rfl
        rw [this] at h
        cases h
  intro rows zs h
  obtain ⟨ns, h1, h2⟩ := key rows some zs h
  cases h2
  exact h1

/-! ### A slice that is written out -/

def dsB {β : Type} : List V → (List D → β) → β → β
  | [], k, _ => k []
  | v :: vs, k, z => match v with
    | .d x => dsB vs (fun xs => k (x :: xs)) z
    | .nils => dsB vs (fun xs => k (.lst [] :: xs)) z
    | _ => z

def rowsB {β : Type} : List V → (List (List D) → β) → β → β
  | [], k, _ => k []
  | v :: vs, k, z => match v with
    | .agg cs => dsB cs (fun r => rowsB vs (fun rs => k (r :: rs)) z) z
    | .d x => rowsB vs (fun rs => k ([x] :: rs)) z
    | _ => z

theorem dsB_some : ∀ (vs : List V) (k : List D → Option (List (List D))) (q : List (List D)), dsB vs k none = some q → ∃ xs, toDs vs = some xs ∧ scaAll vs = true ∧ k xs = some q
  | [], k, q, h => ⟨[], rfl, rfl, h⟩
  | v :: vs, k, q, h => by
    simp only [dsB] at h
    split at h
    · obtain ⟨xs, h1, h2, h3⟩ := dsB_some vs _ _ h
      exact ⟨_ :: xs, by simp [toDs, V.toD, h1], by simp [scaAll, scaB, h2], h3⟩
    · obtain ⟨xs, h1, h2, h3⟩ := dsB_some vs _ _ h
      exact ⟨_ :: xs, by simp [toDs, V.toD, h1], by simp [scaAll, scaB, h2], h3⟩
    · cases h

theorem rowsB_some {sz : Nat} : ∀ (vs : List V) (k : List (List D) → Option (List (List D))) (q : List (List D)), rowsB vs k none = some q → ∃ rs, k rs = some q ∧ ((∀ r ∈ rs, r.length = sz) → rowsOf sz vs = some rs)
  | [], k, q, h => ⟨[], h, fun _ => rfl⟩
  | v :: vs, k, q, h => by
    simp only [rowsB] at h
    split at h
    · rename_i cs
      obtain ⟨xs, h1, h2, h3⟩ := dsB_some cs _ _ h
      obtain ⟨rs, h4, h5⟩ := rowsB_some (sz := sz) vs _ _ h3
      refine ⟨xs :: rs, h4, fun hl => ?_⟩
      have hx := hl xs (by simp)
      simp [rowsOf, V.cells, h2, h1, hx, h5 (fun r hr => hl r (by simp [hr]))]
    · rename_i x
      obtain ⟨rs, h4, h5⟩ := rowsB_some (sz := sz) vs _ _ h
      refine ⟨[x] :: rs, h4, fun hl => ?_⟩
      have hx : [x].length = sz := hl [x] (by simp)
      have hx' : 1 = sz := hx
      simp [rowsOf, V.cells, scaB, toDs, V.toD, hx', h5 (fun r hr => hl r (by simp [hr]))]
    · cases h

theorem xbuild {P : Program} {TT : Nat → Option TI} {ds : List (Option Nat)} {d : Nat} {ty : TypeId} {pos : String} {af : Array Edge} {os : List Oper} {env : List (Nat × V)} {objs : List O} {n fx : Nat} {K : St → Prop} {t : TypeId} {len : Nat} {parts : Array (Nat × Operand)} {e : TI} {rows : List (List D)}
    (he : elemOf TT t = some e) (hr : evL env (parts.toList.map (·.2)) (fun vs => rowsB vs some none) = some rows) (hp : parts.toList.map (·.1) = List.range len) (hl : (rows.all fun r => Nat.beq r.length e.size) = true) (hs : Nat.ble (len * e.size) (2 ^ 24) = true)
    (hk : aops TT P ds os ⟨(d, .msl objs.length e.size 0 len) :: env, objs ++ [.arr e.size rows], n, fx⟩ K) : aops TT P ds (⟨some d, .buildSlice t len parts, ty, pos, af, none⟩ :: os) ⟨env, objs, n, fx⟩ K := by
  have hev : evB env = St.ev ⟨env, objs, n, fx⟩ := funext fun o => evB_eq o
  rw [aops_buildSlice, he]
  rw [evL_eq, hev, List.map_map] at hr
  obtain ⟨rs, h1, h2⟩ := rowsB_some (sz := e.size) _ _ _ hr
  cases h1
  have h3 := h2 fun r hr' => Nat.eq_of_beq_eq_true (List.all_eq_true.1 hl r hr')
  refine ⟨hp, Nat.le_of_ble_eq_true hs, ?_⟩
  rw [show (parts.toList.map fun p => St.ev ⟨env, objs, n, fx⟩ p.2) = parts.toList.map (St.ev ⟨env, objs, n, fx⟩ ∘ fun x => x.2) from rfl, h3]
  exact hk

/-! ### Contracts whose objects are given up or get other names -/

theorem ACon.frz {P : Program} {f : Nat} {args : List V} {objs : List O} {Post Post' : V → List O → Prop} (h : ACon P f args objs Post)
    (hp : ∀ r os, Post r os → ∃ id sz rows, r = .msl id sz 0 rows.length ∧ os[id]? = some (.arr sz rows) ∧ Post' (.d (.lst rows)) (os.set id .dead)) : ACon P f args objs Post' := by
  refine ⟨h.1, fun w ok ρ vs hI hs hv => ?_⟩
  refine (h.2 w ok ρ vs hI hs hv).mono ?_
  rintro e w' ⟨v, r, os, ok', ρ', h1, h2, h3, h4, h5⟩
  obtain ⟨id, sz, rows, rfl, ho, hq⟩ := hp _ _ h2
  obtain ⟨g1, g2⟩ := step_freeze h3 h5 ho
  have := freeze_rep h3 ho (off := 0) (len := rows.length) (by omega) h4
  rw [List.drop_zero, List.take_length] at this
  exact ⟨v, _, _, _, ρ', h1, hq, g1, .d this, g2⟩

theorem ACon.ren {P : Program} {f : Nat} {args : List V} {objs : List O} {Post Post' : V → List O → Prop} (h : ACon P f args objs Post)
    (hp : ∀ r os, Post r os → ∃ (π : List Nat) (r' : V) (os' : List O), π.Nodup ∧ idsB objs.length π = true ∧ renOs π os π os' ∧ renV π r' = some r ∧ Post' r' os') : ACon P f args objs Post' := by
  refine ⟨h.1, fun w ok ρ vs hI hs hv => ?_⟩
  refine (h.2 w ok ρ vs hI hs hv).mono ?_
  rintro e w' ⟨v, r, os, ok', ρ', h1, h2, h3, h4, h5⟩
  obtain ⟨π, r', os', q1, q2, q3, q4, q5⟩ := hp _ _ h2
  obtain ⟨ρ2, g1, g2, g3⟩ := ren_core h3 h5 rfl q1 (idsB_get q2) q3
  exact ⟨v, r', os', ok', ρ2, h1, q5, g1, g3 _ _ _ q4 h4, g2⟩

/-- Some value that is data. -/
def Sm (Q : V → Prop) : V → List O → Prop := fun r os => os = [] ∧ noRef r = true ∧ Q r

/-- A reader's function that gives a new slice of rows. -/
def RdA {α : Type} (code : D) (lo hi : Int) (sz : Nat) (enc : α → List D) (Q : List α → Prop) : V → List O → Prop := fun r os =>
  ∃ (p : Int) (xs : List α), lo ≤ p ∧ p ≤ hi ∧ r = .msl 1 sz 0 xs.length ∧ os = [.box [.d code, .d (.int .i64 p)], .arr sz (xs.map enc)] ∧ Q xs

/-- The same as data. -/
def RowsOf {α : Type} (enc : α → List D) (Q : List α → Prop) (r : V) : Prop := ∃ xs : List α, r = .d (.lst (xs.map enc)) ∧ Q xs

theorem RdA.data {α : Type} {P : Program} {f : Nat} {args : List V} {o : O} {code : D} {lo hi : Int} {sz : Nat} {enc : α → List D} {Q : List α → Prop} (h : ACon P f args [o] (RdA code lo hi sz enc Q)) :
    ACon P f args [o] (Rd code lo hi (RowsOf enc Q)) := by
  have h2 : ACon P f args [o] (fun r os => ∃ (p : Int) (xs : List α), lo ≤ p ∧ p ≤ hi ∧ r = .d (.lst (xs.map enc)) ∧ os = [.box [.d code, .d (.int .i64 p)], .dead] ∧ Q xs) := by
    refine h.frz ?_
    rintro r os ⟨p, xs, h1, h2, rfl, rfl, h3⟩
    exact ⟨1, sz, xs.map enc, by rw [List.length_map], rfl, p, xs, h1, h2, rfl, rfl, h3⟩
  refine h2.ren ?_
  rintro r os ⟨p, xs, h1, h2, rfl, rfl, h3⟩
  exact ⟨[0], .d (.lst (xs.map enc)), [.box [.d code, .d (.int .i64 p)]], by decide, rfl, ⟨.inr ⟨_, rfl, rfl⟩, trivial⟩, rfl, p, h1, h2, rfl, rfl, xs, rfl, h3⟩

section
variable {P : Program} {TT : Nat → Option TI} {ds : List (Option Nat)} {dst : Option Nat} {d : Nat} {ty : TypeId} {pos : String} {af : Array Edge} {os : List Oper} {env : List (Nat × V)} {objs : List O} {n fx : Nat} {K : St → Prop}
  {f : Operand} {args : Array Operand} {ts : Array TypeId} {g : Nat} {vs args' : List V}

theorem xcallSm {Q : V → Prop} (h : callB env f args.toList = some (g, vs)) (ha : argVs objs [] [] vs = some args') (hc : ACon P g args' [] (Sm Q)) (hk : ∀ r, Q r → aops TT P ds os ⟨(d, r) :: env, objs, n, fx⟩ K) :
    aops TT P ds (⟨some d, .call { callee := .value f, args := args, argTypes := ts }, ty, pos, af, none⟩ :: os) ⟨env, objs, n, fx⟩ K := by
  refine xcall h (ACall.pure ha (hc.mono ?_))
  rintro r os' ⟨rfl, hn, hq⟩
  rw [noRef_back hn]
  simpa [St.put] using hk r hq

theorem xcallRdA {α : Type} {i sz : Nat} {enc : α → List D} {code : D} {p lo hi : Int} {Q : List α → Prop} (h : callB env f args.toList = some (g, .oref i 0 :: vs)) (ho : objs[i]? = some (.box [.d code, .d (.int .i64 p)])) (ha : argVs objs [i] [] vs = some args')
    (hc : ACon P g (.oref 0 0 :: args') [.box [.d code, .d (.int .i64 p)]] (RdA code lo hi sz enc Q))
    (hk : ∀ p' xs, lo ≤ p' → p' ≤ hi → Q xs → aops TT P ds os ⟨(d, .msl objs.length sz 0 xs.length) :: env, objs.set i (.box [.d code, .d (.int .i64 p')]) ++ [.arr sz (xs.map enc)], n, fx⟩ K) :
    aops TT P ds (⟨some d, .call { callee := .value f, args := args, argTypes := ts }, ty, pos, af, none⟩ :: os) ⟨env, objs, n, fx⟩ K := by
  refine xcall h (ACall.hand [i] (args' := .oref 0 0 :: args') (by simp [argVs, argV, idx, ha]) (by simp) (os0 := [.box [.d code, .d (.int .i64 p)]]) (os1 := [.box [.d code, .d (.int .i64 p)]]) (by simp [getO, ho]) rfl (by simp [O.live]) hc ?_)
  rintro r os' ⟨p', xs, h1, h2, rfl, rfl, hq⟩
  have := hk p' xs h1 h2 hq
  simpa [backs, backO, backVs, backV, backId, St.put] using this

end

theorem xfinSm {TT : Nat → Option TI} {env : List (Nat × V)} {objs : List O} {n : Nat} {res : List ResultVar} {v : V} {side : Prop} {e : Exit} {Q : V → Prop} (he : e = .normal ∨ e = .ret)
    (h : resB TT env objs res outB = .ok v side) (hs : side) (hr : noRef v = true) (hq : Q v) : endW TT res (Sm Q) e ⟨env, objs, n, 0⟩ :=
  xfinK he h hs ⟨[], v, [], by decide, rfl, by cases objs <;> trivial, noRef_ren v hr, rfl, hr, hq⟩

theorem xfinRdA {α : Type} {TT : Nat → Option TI} {env : List (Nat × V)} {objs : List O} {n j : Nat} {res : List ResultVar} {sz len : Nat} {side : Prop} {e : Exit} {code : D} {p lo hi : Int} {enc : α → List D} {Q : List α → Prop} {xs : List α} (he : e = .normal ∨ e = .ret)
    (h : resB TT env objs res outB = .ok (.msl j sz 0 len) side) (hs : side) (h0 : objs[0]? = some (.box [.d code, .d (.int .i64 p)])) (hj : objs[j]? = some (.arr sz (xs.map enc))) (hne : Nat.beq 0 j = false) (hl : len = xs.length) (h1 : lo ≤ p) (h2 : p ≤ hi) (hq : Q xs) :
    endW TT res (RdA code lo hi sz enc Q) e ⟨env, objs, n, 1⟩ := by
  have hne := Nat.ne_of_beq_eq_false hne
  subst hl
  exact xfinK he h hs ⟨[0, j], .msl 1 sz 0 xs.length, [.box [.d code, .d (.int .i64 p)], .arr sz (xs.map enc)], by simp [hne], rfl, ⟨.inr ⟨_, rfl, h0⟩, .inr ⟨_, rfl, hj⟩, trivial⟩, rfl, p, xs, h1, h2, rfl, rfl, hq⟩

theorem xguardS {P : Program} {TT : Nat → Option TI} {ds : List (Option Nat)} {d' : Nat} {op : Op} {j : Nat} {b c : Bool} {d : Nat} {ty : TypeId} {pos : String} {af : Array Edge} {os : List Oper} {env : List (Nat × V)} {objs : List O} {n fx : Nat} {K : St → Prop}
    (hd : ds[j]? = some (some d)) (hc : getB env d = .d (.bool c)) (h1 : c = b → aops TT P ds (⟨some d', op, ty, pos, af, none⟩ :: os) ⟨(d, .d (.bool b)) :: env, objs, n, fx⟩ K)
    (h2 : c = (!b) → aops TT P ds os ⟨(d', .any) :: (d, .d (.bool (!b))) :: env, objs, n, fx⟩ K) : aops TT P ds (⟨some d', op, ty, pos, af, some (j, b)⟩ :: os) ⟨env, objs, n, fx⟩ K := xguard hd hc h1 h2
theorem xguardN {P : Program} {TT : Nat → Option TI} {ds : List (Option Nat)} {op : Op} {j : Nat} {b c : Bool} {d : Nat} {ty : TypeId} {pos : String} {af : Array Edge} {os : List Oper} {env : List (Nat × V)} {objs : List O} {n fx : Nat} {K : St → Prop}
    (hd : ds[j]? = some (some d)) (hc : getB env d = .d (.bool c)) (h1 : c = b → aops TT P ds (⟨none, op, ty, pos, af, none⟩ :: os) ⟨(d, .d (.bool b)) :: env, objs, n, fx⟩ K)
    (h2 : c = (!b) → aops TT P ds os ⟨(d, .d (.bool (!b))) :: env, objs, n, fx⟩ K) : aops TT P ds (⟨none, op, ty, pos, af, some (j, b)⟩ :: os) ⟨env, objs, n, fx⟩ K := xguard hd hc h1 h2

section
variable {P : Program} {TT : Nat → Option TI} {ops : List Oper} {K : St → Prop} {i j k : Nat} {p : Plan} {o : Oper}

theorem xrun_g {env : List (Nat × V)} {objs : List O} {n fx : Nat} {f : Operand} {args : List Operand} {want b : Bool} {d dj : Nat} (h : ops[i]? = some o) (hc : callOf o.op = some (f, args)) (hg : o.guard = some (j, want)) (hd : o.dst = some d) (hj : (ops.map (·.dst))[j]? = some (some dj)) (hv : getB env dj = .d (.bool b))
    (h1 : b = want → ACallQ P ⟨env, objs, n, fx⟩ (St.ev ⟨env, objs, n, fx⟩ f) (args.map (St.ev ⟨env, objs, n, fx⟩)) fun v => arun TT P ops p ⟨(d, v) :: env, objs, n, fx⟩ K) (h2 : b = (!want) → arun TT P ops p ⟨(d, .any) :: env, objs, n, fx⟩ K) :
    arun TT P ops (.q i p) ⟨env, objs, n, fx⟩ K := by
  rw [getB_eq] at hv
  simp only [arun, h, aone, hc, hg, hj, hv, hd]
  exact ⟨h1, h2⟩
theorem xcallQ {env : List (Nat × V)} {objs : List O} {n fx : Nat} {f : Operand} {args : List Operand} {g : Nat} {vs args' : List V} {R : V} {K : V → Prop} (hb : callB env f args = some (g, vs)) (ha : argVs objs [] [] vs = some args') (hcon : ACon P g args' [] (Is R)) (hr : noRef R = true) (hk : K R) :
    ACallQ P ⟨env, objs, n, fx⟩ (St.ev ⟨env, objs, n, fx⟩ f) (args.map (St.ev ⟨env, objs, n, fx⟩)) K := by
  have hev : evB env = St.ev ⟨env, objs, n, fx⟩ := funext fun o => evB_eq o
  unfold callB at hb
  split at hb
  · rename_i g' cap hf
    rw [evL_eq, forceL_eq] at hb
    obtain ⟨rfl, rfl⟩ : g' = g ∧ args.map (evB env) ++ cap.map .d = vs := by simpa using hb
    rw [hev] at hf ha
    rw [hf]
    exact ACallQ.of ha hcon hr hk
  · cases hb
end

section
variable {P : Program} {TT : Nat → Option TI} {ds : List (Option Nat)} {d : Nat} {ty : TypeId} {pos : String} {af : Array Edge} {os : List Oper} {env : List (Nat × V)} {objs : List O} {n fx : Nat} {K : St → Prop}

/-- Parts of an own slice. -/
theorem xslcM {t : TypeId} {x : Operand} {lo hi : Option Operand} {id sz off len l h : Nat} (he : (elemOf TT t).map (·.size) = some sz) (hx : evB env x = .msl id sz off len) (hlo : abd (lo.map (evB env)) 0 = some l) (hhi : abd (hi.map (evB env)) len = some h)
    (h1 : l ≤ h) (h2 : h ≤ len) (hk : aops TT P ds os ⟨(d, .msl id sz (off + l) (h - l)) :: env, objs, n, fx⟩ K) :
    aops TT P ds (⟨some d, .slice t x lo hi none, ty, pos, af, none⟩ :: os) ⟨env, objs, n, fx⟩ K := by
  have hev : evB env = St.ev ⟨env, objs, n, fx⟩ := funext fun o => evB_eq o
  rw [aops_slice]
  rw [hev] at hx hlo hhi
  rw [hx]
  unfold aslc
  simp only
  rw [hlo, hhi]
  exact ⟨he, h1, h2, hk⟩
theorem xslcMHi {t : TypeId} {x hi : Operand} {id sz off len : Nat} {k : IntKind} {m : Int} (he : (elemOf TT t).map (·.size) = some sz) (hx : evB env x = .msl id sz off len) (hhi : evB env hi = .d (.int k m)) (h : 0 ≤ m ∧ m ≤ len)
    (hk : aops TT P ds os ⟨(d, .msl id sz off m.toNat) :: env, objs, n, fx⟩ K) : aops TT P ds (⟨some d, .slice t x none (some hi) none, ty, pos, af, none⟩ :: os) ⟨env, objs, n, fx⟩ K :=
  xslcM (l := 0) (h := m.toNat) he hx (by simp [abd]) (by simp [abd, hhi, h.1]) (Nat.zero_le _) (by omega) hk
theorem xslcMLo {t : TypeId} {x lo : Operand} {id sz off len : Nat} {k : IntKind} {m : Int} (he : (elemOf TT t).map (·.size) = some sz) (hx : evB env x = .msl id sz off len) (hlo : evB env lo = .d (.int k m)) (h : 0 ≤ m ∧ m ≤ len)
    (hk : aops TT P ds os ⟨(d, .msl id sz (idxAdd off m.toNat) (len - m.toNat)) :: env, objs, n, fx⟩ K) : aops TT P ds (⟨some d, .slice t x (some lo) none none, ty, pos, af, none⟩ :: os) ⟨env, objs, n, fx⟩ K :=
  xslcM (l := m.toNat) (h := len) he hx (by simp [abd, hlo, h.1]) (by simp [abd]) (by omega) (Nat.le_refl _) (by rw [← idxAdd_eq]; exact hk)
theorem xslcMB {t : TypeId} {x lo hi : Operand} {id sz off len : Nat} {k k' : IntKind} {m m' : Int} (he : (elemOf TT t).map (·.size) = some sz) (hx : evB env x = .msl id sz off len) (hlo : evB env lo = .d (.int k m)) (hhi : evB env hi = .d (.int k' m')) (h : 0 ≤ m ∧ m ≤ m' ∧ m' ≤ len)
    (hk : aops TT P ds os ⟨(d, .msl id sz (idxAdd off m.toNat) (m'.toNat - m.toNat)) :: env, objs, n, fx⟩ K) : aops TT P ds (⟨some d, .slice t x (some lo) (some hi) none, ty, pos, af, none⟩ :: os) ⟨env, objs, n, fx⟩ K :=
  xslcM (l := m.toNat) (h := m'.toNat) he hx (by simp [abd, hlo, h.1]) (by simp [abd, hhi, show 0 ≤ m' by omega]) (by omega) (by omega) (by rw [← idxAdd_eq]; exact hk)
end

theorem Weak.freezeA {env : List (Nat × V)} {objs : List O} {n fx : Nat} (t id sz : Nat) {len : Nat} {rows : List (List D)} (ht : getB env t = .msl id sz 0 len) (ho : objs[id]? = some (.arr sz rows)) (hl : len = rows.length) :
    Weak ⟨env, objs, n, fx⟩ ⟨(t, .d (.lst rows)) :: env, objs.set id .dead, n, fx⟩ := by
  rw [getB_eq] at ht
  have := Weak.freeze (s := ⟨env, objs, n, fx⟩) t id sz 0 len ht ho (by omega)
  rw [List.drop_zero, hl, List.take_length] at this
  exact this

/-- A function value. -/
theorem xmkf {P : Program} {TT : Nat → Option TI} {ds : List (Option Nat)} {d : Nat} {ty : TypeId} {pos : String} {af : Array Edge} {os : List Oper} {env : List (Nat × V)} {objs : List O} {n fx : Nat} {K : St → Prop} {f : Nat} {cap : Array Operand} {xs : List D}
    (h : evL env cap.toList toDs = some xs) (hk : aops TT P ds os ⟨(d, .d (.fn f xs)) :: env, objs, n, fx⟩ K) : aops TT P ds (⟨some d, .makeFunc (.func f) #[] cap, ty, pos, af, none⟩ :: os) ⟨env, objs, n, fx⟩ K := by
  have hev : evB env = St.ev ⟨env, objs, n, fx⟩ := funext fun o => evB_eq o
  rw [aops_makeFunc]
  rw [evL_eq, hev] at h
  rw [h]
  exact ⟨rfl, hk⟩

end Go.Fw
