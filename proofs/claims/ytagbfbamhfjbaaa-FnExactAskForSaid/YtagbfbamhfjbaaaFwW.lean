/- The abstract machine over the model and its proofs, joined out of several texts. -/
import Derived.Test.YtagbfbamhfjbaaaFwP

/- How the abstract machine's steps are reckoned: the equations that simp uses. -/
set_option linter.unusedSimpArgs false
set_option linter.unusedVariables false
namespace Go.Fw

@[congr] theorem AW_congr {P : Program} {c : Code} {Q : Exit → St → Prop} {s s' : St} (h : s = s') : AW P c Q s = AW P c Q s' := by rw [h]
@[congr] theorem aops_congr {TT : Nat → Option TI} {P : Program} {ds : List (Option Nat) × Bool} {l : List Oper} {K : St → Prop} {s s' : St} (h : s = s') : aops TT P ds l s K = aops TT P ds l s' K := by rw [h]
@[congr] theorem ACall_congr {P : Program} {f : Nat} {K : V → St → Prop} {s s' : St} {args args' : List V} (h : s = s') (h' : args = args') : ACall P s f args K = ACall P s' f args' K := by rw [h, h']

section
variable {TT : Nat → Option TI} {P : Program} {ds : List (Option Nat) × Bool} {s : St} {dst : Option Nat} {ty : TypeId} {pos : String} {af : Array Edge} {os : List Oper} {K : St → Prop}

@[go_sem] theorem aops_nil : aops TT P ds [] s K = K s := rfl

/-- An operation with a guard. -/
@[go_sem] theorem aops_guard {op : Op} {j : Nat} {b : Bool} : aops TT P ds (⟨dst, op, ty, pos, af, some (j, b)⟩ :: os) s K = match ds.1[j]? with
    | some (some d) => (match getE s.env d with
      | .d (.bool c) => (c = b → aops TT P ds (⟨dst, op, ty, pos, af, none⟩ :: os) (s.put (some d) (.d (.bool b))) K) ∧ (c = (!b) → aops TT P ds os ((s.put (some d) (.d (.bool (!b)))).put dst (.tup [])) K)
      | .tup [] => aops TT P ds os (s.put dst (.tup [])) K
      | _ => False)
    | _ => False := rfl

@[go_sem] theorem aops_move {x : Operand} : aops TT P ds (⟨dst, .move x, ty, pos, af, none⟩ :: os) s K = aops TT P ds os (s.put dst (s.ev x)) K := rfl
@[go_sem] theorem aops_assign {x : Operand} : aops TT P ds (⟨dst, .assign x, ty, pos, af, none⟩ :: os) s K = aops TT P ds os (s.put dst (s.ev x)) K := rfl

/-- An operation that turns no memory. -/
def cont (TT : Nat → Option TI) (P : Program) (ds : List (Option Nat) × Bool) (os : List Oper) (s : St) (dst : Option Nat) (K : St → Prop) : V → Prop := fun v => aops TT P ds os (s.put dst v) K

@[congr] theorem cont_congr {s s' : St} {v v' : V} (h : s = s') (h' : v = v') : cont TT P ds os s dst K v = cont TT P ds os s' dst K v' := by rw [h, h']
@[go_sem] theorem cont_eq {v : V} : cont TT P ds os s dst K v = aops TT P ds os (s.put dst v) K := rfl

@[go_sem] theorem aops_pick {c a b : Operand} : aops TT P ds (⟨dst, .pick c a b, ty, pos, af, none⟩ :: os) s K = match s.ev c with
    | .d (.bool t) => cont TT P ds os s dst K (if t = true then s.ev a else s.ev b)
    | _ => False := rfl
@[go_sem] theorem aops_nilCheck {x : Operand} : aops TT P ds (⟨dst, .nilCheck x, ty, pos, af, none⟩ :: os) s K = match s.ev x with
    | .oref id off => cont TT P ds os s dst K (.oref id off)
    | .aref id sz i off => cont TT P ds os s dst K (.aref id sz i off)
    | .d (.ptr cells) => cont TT P ds os s dst K (.d (.ptr cells))
    | _ => False := rfl
@[go_sem] theorem aops_load {t : TypeId} {x : Operand} : aops TT P ds (⟨dst, .load t x, ty, pos, af, none⟩ :: os) s K = match TT t with
    | some ti => ald ti s.objs (s.ev x) (cont TT P ds os s dst K)
    | none => False := rfl
@[go_sem] theorem aops_bin {op : BinOp} {t u : TypeId} {x y : Operand} : aops TT P ds (⟨dst, .binOp op t x y u, ty, pos, af, none⟩ :: os) s K = abin TT op t (s.ev x) (s.ev y) (cont TT P ds os s dst K) := rfl
@[go_sem] theorem aops_un {op : UnOp} {t : TypeId} {x : Operand} : aops TT P ds (⟨dst, .unOp op t x, ty, pos, af, none⟩ :: os) s K = aun op (s.ev x) (cont TT P ds os s dst K) := rfl
@[go_sem] theorem aops_slice {t : TypeId} {x : Operand} {lo hi : Option Operand} : aops TT P ds (⟨dst, .slice t x lo hi none, ty, pos, af, none⟩ :: os) s K = aslc TT t (s.ev x) (lo.map s.ev) (hi.map s.ev) (cont TT P ds os s dst K) := rfl
@[go_sem] theorem aops_fieldAddr {t : TypeId} {x : Operand} {f : Nat} : aops TT P ds (⟨dst, .fieldAddr t x f, ty, pos, af, none⟩ :: os) s K = match fieldOf (TT t) f with
    | some p => afld p.1 (s.ev x) (cont TT P ds os s dst K)
    | none => False := rfl
@[go_sem] theorem aops_field {t : TypeId} {x : Operand} {f : Nat} : aops TT P ds (⟨dst, .field t x f, ty, pos, af, none⟩ :: os) s K = match fieldOf (TT t) f, s.ev x with
    | some (off, sz, true), .agg cs => off + sz ≤ cs.length ∧ cont TT P ds os s dst K (.agg ((cs.drop off).take sz))
    | some (off, _, false), .agg cs => (match cs[off]? with
      | some c => cont TT P ds os s dst K c
      | none => False)
    | _, _ => False := rfl
@[go_sem] theorem aops_indexAddr {t : TypeId} {x i : Operand} : aops TT P ds (⟨dst, .indexAddr t x i, ty, pos, af, none⟩ :: os) s K = match elemOf TT t with
    | some e => aidx e.size (s.ev x) (s.ev i) (cont TT P ds os s dst K)
    | none => False := rfl
@[go_sem] theorem aops_extract {x : Operand} {i : Nat} : aops TT P ds (⟨dst, .extract x i, ty, pos, af, none⟩ :: os) s K = match s.ev x with
    | .tup vs => (match vs[i]? with
      | some v => cont TT P ds os s dst K v
      | none => False)
    | _ => False := rfl
@[go_sem] theorem aops_len {ts : Array TypeId} {args : Array Operand} : aops TT P ds (⟨dst, .call { callee := .builtin .len, args := args, argTypes := ts }, ty, pos, af, none⟩ :: os) s K = match args.toList, ts.toList with
    | [x], [t] => alen TT t (s.ev x) (cont TT P ds os s dst K)
    | _, _ => False := rfl
@[go_sem] theorem aops_max {ts : Array TypeId} {args : Array Operand} : aops TT P ds (⟨dst, .call { callee := .builtin .max, args := args, argTypes := ts }, ty, pos, af, none⟩ :: os) s K = match args.toList with
    | [x, y] => (match s.ev x, s.ev y with
      | .d (.int k a), .d (.int _ b) => cont TT P ds os s dst K (.d (.int k (max a b)))
      | _, _ => False)
    | _ => False := rfl
@[go_sem] theorem aops_min {ts : Array TypeId} {args : Array Operand} : aops TT P ds (⟨dst, .call { callee := .builtin .min, args := args, argTypes := ts }, ty, pos, af, none⟩ :: os) s K = match args.toList with
    | [x, y] => (match s.ev x, s.ev y with
      | .d (.int k a), .d (.int _ b) => cont TT P ds os s dst K (.d (.int k (min a b)))
      | _, _ => False)
    | _ => False := rfl
@[go_sem] theorem aops_build {t : TypeId} {parts : Array (Nat × Operand)} : aops TT P ds (⟨dst, .build t parts, ty, pos, af, none⟩ :: os) s K = match TT t with
    | some { kind := .struct flds _, zero := z, .. } => (match abuild flds z (parts.toList.map fun p => (p.1, s.ev p.2)) with
      | some cs => cont TT P ds os s dst K (.agg cs)
      | none => False)
    | _ => False := rfl
@[go_sem] theorem aops_convert {t u : TypeId} {x : Operand} : aops TT P ds (⟨dst, .convert t u x, ty, pos, af, none⟩ :: os) s K = ((TT t).isSome = true ∧ match TT u, s.ev x with
    | some { kind := .int k, .. }, .d (.int _ n) => inR k n ∧ cont TT P ds os s dst K (.d (.int k n))
    | _, _ => False) := rfl
@[go_sem] theorem aops_makeFunc {f : Nat} {first cap : Array Operand} : aops TT P ds (⟨dst, .makeFunc (.func f) first cap, ty, pos, af, none⟩ :: os) s K = (first = #[] ∧ match toDs (cap.toList.map s.ev) with
    | some xs => cont TT P ds os s dst K (.d (.fn f xs))
    | none => False) := rfl
@[go_sem] theorem aops_index {t : TypeId} {x i : Operand} : aops TT P ds (⟨dst, .index t x i, ty, pos, af, none⟩ :: os) s K = (isStr (TT t) = true ∧ match s.ev x, s.ev i with
    | .d (.str q), .d (.int _ n) => 0 ≤ n ∧ (match q[n.toNat]? with
      | some b => cont TT P ds os s dst K (.d (.int .u8 b.toNat))
      | none => False)
    | _, _ => False) := rfl

/-- A call. -/
def contC (TT : Nat → Option TI) (P : Program) (ds : List (Option Nat) × Bool) (os : List Oper) (dst : Option Nat) (K : St → Prop) : V → St → Prop := fun v s => aops TT P ds os (s.put dst v) K
@[congr] theorem contC_congr {s s' : St} {v v' : V} (h : s = s') (h' : v = v') : contC TT P ds os dst K v s = contC TT P ds os dst K v' s' := by rw [h, h']
@[go_sem] theorem contC_eq {v : V} : contC TT P ds os dst K v s = aops TT P ds os (s.put dst v) K := rfl
theorem aops_call {f : Operand} {ts : Array TypeId} {args : Array Operand} (h : match s.ev f with
    | .d (.fn g cap) => ACall P s g (args.toList.map s.ev ++ cap.map .d) (contC TT P ds os dst K)
    | _ => False) : aops TT P ds (⟨dst, .call { callee := .value f, args := args, argTypes := ts }, ty, pos, af, none⟩ :: os) s K := .inl h
theorem aops_callX {f : Operand} {ts : Array TypeId} {args : Array Operand} (hu : ds.2 = true) (h : match s.ev f with
    | .d (.fn g cap) => ACallX P s g (args.toList.map s.ev ++ cap.map .d) (contC TT P ds os dst K)
    | _ => False) : aops TT P ds (⟨dst, .call { callee := .value f, args := args, argTypes := ts }, ty, pos, af, none⟩ :: os) s K := .inr ⟨hu, h⟩

/-- A step that turns memory. -/
def contM (TT : Nat → Option TI) (P : Program) (ds : List (Option Nat) × Bool) (os : List Oper) (K : St → Prop) : St → Prop := fun s => aops TT P ds os s K
@[congr] theorem contM_congr {s s' : St} (h : s = s') : contM TT P ds os K s = contM TT P ds os K s' := by rw [h]
@[go_sem] theorem contM_eq : contM TT P ds os K s = aops TT P ds os s K := rfl
@[go_sem] theorem aops_alloc {t : TypeId} : aops TT P ds (⟨dst, .alloc t, ty, pos, af, none⟩ :: os) s K = match TT t with
    | some ti => contM TT P ds os K ((s.new (.box ti.zero)).put dst (.oref s.objs.length 0))
    | none => False := rfl
@[go_sem] theorem aops_box {t : TypeId} {x : Operand} : aops TT P ds (⟨dst, .box t x, ty, pos, af, none⟩ :: os) s K = match (s.ev x).cells with
    | some cs => contM TT P ds os K ((s.new (.box cs)).put dst (.oref s.objs.length 0))
    | none => False := rfl
@[go_sem] theorem aops_buildSlice {t : TypeId} {len : Nat} {parts : Array (Nat × Operand)} : aops TT P ds (⟨dst, .buildSlice t len parts, ty, pos, af, none⟩ :: os) s K = match elemOf TT t with
    | some e => parts.toList.map (·.1) = List.range len ∧ len * e.size ≤ 2 ^ 24 ∧ (match rowsOf e.size (parts.toList.map fun p => s.ev p.2) with
      | some rows => contM TT P ds os K ((s.new (.arr e.size rows)).put dst (.msl s.objs.length e.size 0 len))
      | none => False)
    | none => False := rfl
theorem aops_store {t : TypeId} {x v : Operand} (h : match TT t, (s.ev v).cells with
    | some ti, some new => dst = none ∧ new.length = ti.size ∧ (match s.ev x with
      | .oref id off => (match s.objs[id]? with
        | some (.box cells) => off + new.length ≤ cells.length ∧ contM TT P ds os K (s.setO id (.box (putAt cells off new)))
        | _ => False)
      | .aref id sz i off => (match s.objs[id]? with
        | some (.arr sz' rows) => sz = sz' ∧ (match rows[i]?, toDs new with
          | some r, some xs => off + xs.length ≤ r.length ∧ contM TT P ds os K (s.setO id (.arr sz' (rows.set i (putD r off xs))))
          | _, _ => False)
        | _ => False)
      | _ => False)
    | _, _ => False) : aops TT P ds (⟨dst, .store t x v, ty, pos, af, none⟩ :: os) s K := .inl h
theorem aops_storeW {t : TypeId} {x v : Operand} (hu : ds.2 = true) (h : aopSt TT s dst t x v (contM TT P ds os K)) : aops TT P ds (⟨dst, .store t x v, ty, pos, af, none⟩ :: os) s K := .inr ⟨hu, h⟩
@[go_sem] theorem aops_makeSlice {t : TypeId} {l c : Operand} : aops TT P ds (⟨dst, .makeSlice t l c, ty, pos, af, none⟩ :: os) s K = match elemOf TT t with
    | some e => (match s.ev l, s.ev c, toDs e.zero with
      | .d (.int .i64 n), .d (.int .i64 m), some z => n = m ∧ 0 ≤ n ∧ n < 2 ^ 63 ∧ e.bytes * n ≤ 2 ^ 48 ∧ contM TT P ds os K ((s.new (.arr e.size (List.replicate n.toNat z))).put dst (.msl s.objs.length e.size 0 n.toNat))
      | _, _, _ => False)
    | none => False := rfl
@[go_sem] theorem aops_append {ts : Array TypeId} {args : Array Operand} : aops TT P ds (⟨dst, .call { callee := .builtin .append, args := args, argTypes := ts }, ty, pos, af, none⟩ :: os) s K = match args.toList, ts.toList with
    | [x, y], [t, u] => (match elemOf TT t with
      | some e => isSlice (TT u) = true ∧ (match srcRows s.objs (s.ev y) with
        | some new => (∀ r ∈ new, r.length = e.size) ∧ e.bytes ≠ 0 ∧ (match s.ev x with
          | .nils => 2 * new.length * e.bytes ≤ 2 ^ 48 ∧ contM TT P ds os K ((s.new (.arr e.size new)).put dst (.msl s.objs.length e.size 0 new.length))
          | .msl id sz off len => (match s.objs[id]? with
            | some (.arr sz' rows) => off = 0 ∧ len = rows.length ∧ sz = e.size ∧ sz' = e.size ∧ 2 * (rows.length + new.length) * e.bytes ≤ 2 ^ 48 ∧
              contM TT P ds os K (((s.setO id .dead).new (.arr e.size (rows ++ new))).put dst (.msl s.objs.length e.size 0 (rows.length + new.length)))
            | _ => False)
          | _ => False)
        | none => False)
      | none => False)
    | _, _ => False := rfl
end

theorem inR_i64 {n : Int} : inR .i64 n = (-9223372036854775808 ≤ n ∧ n < 9223372036854775808) := by
  have e : IntKind.i64.wrap n = if n % 18446744073709551616 ≥ 9223372036854775808 then n % 18446744073709551616 - 18446744073709551616 else n % 18446744073709551616 := by
    simp [IntKind.wrap, IntKind.bits, IntKind.signed]
  apply propext
  unfold inR
  rw [e]
  split <;> constructor <;> intro h <;> omega

attribute [go_sem] St.put St.ev St.new St.setO getE constV inR_i64
attribute [go_sem] ald ldCells afld fieldOf elemOf aidx aslc abd alen abin ibin sbin bbin nbin aun cmpKs eqCs eqC isSlice isStr isBool
attribute [go_sem] V.cells scaB scaAll toDs V.toD rowsOf putAt putD abuild srcRows args0
attribute [go_sem] thenQ blockQ endQ ares oneOf
attribute [go_sem] argV argVs idx
attribute [go_sem] backV backVs backId backO flatV flatVs D.flat renV renVs renO renE renOs idsB

@[go_sem] theorem backs_nil {n : Nat} {objs os : List O} : backs [] n objs os = objs ++ os.map (backO [] n) := by simp [backs]
@[go_sem] theorem dsts_nil : ([] : List Oper).map (fun o => o.dst) = [] := rfl
@[go_sem] theorem dsts_cons {dst : Option Nat} {op : Op} {ty : TypeId} {pos : String} {af : Array Edge} {g : Option (Nat × Bool)} {os : List Oper} :
    ((⟨dst, op, ty, pos, af, g⟩ : Oper) :: os).map (fun o => o.dst) = dst :: os.map (fun o => o.dst) := rfl

theorem AW.condE {P : Program} {c : Operand} {d e : Code} {Q : Exit → St → Prop} {s : St}
    (h : match s.ev c with | .d (.bool t) => (t = true → AW P d Q s) ∧ (t = false → AW P e Q s) | _ => False) : AW P (.cond c d e) Q s := by
  split at h
  · rename_i t ht; exact AW.cond ht h.1 h.2
  · exact h.elim

/-- The result is R, and no object goes back. -/
def Is (R : V) : V → List O → Prop := fun r os => r = R ∧ os = []

/-- A call that hands over no object and lends none, of a function that gives R. -/
theorem ACall.is {P : Program} {s : St} {f : Nat} {args args' : List V} {K : V → St → Prop} {R : V} (h : argVs s.objs [] [] args = some args')
    (hc : ACon P f args' [] (Is R)) (hK : K (backV [] s.objs.length R) s) : ACall P s f args K := by
  refine ⟨[], [], args', [], [], h, List.nodup_nil, by simp, rfl, rfl, by simp, hc.mono fun r os hr => ⟨.inl rfl, ?_⟩⟩
  obtain ⟨rfl, rfl⟩ := hr
  rw [backs_nil, List.map_nil, List.append_nil]; exact hK

/-- A call that lends the objects bs, of a function that gives R. -/
theorem ACall.isLend {P : Program} {s : St} {f : Nat} {args args' : List V} {K : V → St → Prop} {R : V} (bs : List Nat) (h : argVs s.objs [] bs args = some args')
    (hc : ACon P f args' [] (Is R)) (hf : flatV R = true) (hK : K (backV [] s.objs.length R) s) : ACall P s f args K := by
  refine ⟨[], bs, args', [], [], h, List.nodup_nil, by simp, rfl, rfl, by simp, hc.mono fun r os hr => ?_⟩
  obtain ⟨rfl, rfl⟩ := hr
  rw [backs_nil, List.map_nil, List.append_nil]; exact ⟨.inr ⟨hf, by simp⟩, hK⟩

theorem fin_is {objs : List O} {z R : V} (h : renV [] R = some z) : ∃ (π : List Nat) (y : V) (os : List O), π.Nodup ∧ renOs π objs π os ∧ renV π y = some z ∧ Is R y os :=
  ⟨[], R, [], List.nodup_nil, by cases objs <;> trivial, h, rfl, rfl⟩

theorem fin_k {objs : List O} {z R : V} {K : V → List O → Prop} (h : renV [] R = some z) (hK : K R []) : ∃ (π : List Nat) (y : V) (os : List O), π.Nodup ∧ renOs π objs π os ∧ renV π y = some z ∧ K y os :=
  ⟨[], R, [], List.nodup_nil, by cases objs <;> trivial, h, hK⟩

/-- A call that hands over no object and lends none. -/
theorem ACall.pure {P : Program} {s : St} {f : Nat} {args args' : List V} {K : V → St → Prop} (h : argVs s.objs [] [] args = some args')
    (hc : ACon P f args' [] fun r os => K (backV [] s.objs.length r) { s with objs := s.objs ++ os.map (backO [] s.objs.length) }) : ACall P s f args K := by
  refine ⟨[], [], args', [], [], h, List.nodup_nil, by simp, rfl, rfl, by simp, hc.mono fun r os hK => ⟨.inl rfl, ?_⟩⟩
  rw [backs_nil]; exact hK

/-- A call that lends the objects bs. -/
theorem ACall.lend {P : Program} {s : St} {f : Nat} {args args' : List V} {K : V → St → Prop} (bs : List Nat) (h : argVs s.objs [] bs args = some args')
    (hc : ACon P f args' [] fun r os => (flatV r = true ∧ ∀ o ∈ os, flatO o) ∧ K (backV [] s.objs.length r) { s with objs := s.objs ++ os.map (backO [] s.objs.length) }) : ACall P s f args K := by
  refine ⟨[], bs, args', [], [], h, List.nodup_nil, by simp, rfl, rfl, by simp, hc.mono fun r os hK => ⟨.inr hK.1, ?_⟩⟩
  rw [backs_nil]; exact hK.2

end Go.Fw

/- Small laws that proofs of functions use. -/
namespace Go.Fw


@[go_sem] theorem argVs_mapd {objs : List O} {ids bs : List Nat} : ∀ {l : List D}, argVs objs ids bs (l.map .d) = some (l.map .d)
  | [] => rfl
  | _ :: l => by simp only [List.map_cons, argVs, argV, argVs_mapd (l := l)]
@[go_sem] theorem renVs_mapd {π : List Nat} : ∀ {l : List D}, renVs π (l.map .d) = some (l.map .d)
  | [] => rfl
  | _ :: l => by simp only [List.map_cons, renVs, renV, renVs_mapd (l := l)]
@[go_sem] theorem backVs_mapd {ids : List Nat} {n : Nat} : ∀ {l : List D}, backVs ids n (l.map .d) = l.map .d
  | [] => rfl
  | _ :: l => by simp only [List.map_cons, backVs, backV, backVs_mapd (l := l)]

theorem take_one {α : Type} {a : α} : List.take 1 [a] = [a] := rfl
@[go_sem] theorem take_map_len {α β : Type} {f : α → β} {xs : List α} : (xs.map f).take xs.length = xs.map f := List.take_of_length_le (by simp)
theorem ltT {k n : Nat} (h : k < n) : ((k : Int) < n) = True := eq_true (by omega)
theorem ltF {k n : Nat} (h : ¬ k < n) : ((k : Int) < n) = False := eq_false (by omega)
theorem at_map {α β : Type} {f : α → β} {xs : List α} {k : Nat} (h : k < xs.length) : (xs.map f)[k]? = some (f xs[k]) := by
  rw [List.getElem?_map, List.getElem?_eq_getElem h, Option.map_some]

@[go_sem] theorem roundQ_ret {α : Type} {S : α → St} {Pre : α → Prop} {μ : α → Nat} {i : α} {Q : Exit → St → Prop} {s : St} : roundQ S Pre μ i Q .ret s = Q .ret s := rfl
@[go_sem] theorem roundQ_exit {α : Type} {S : α → St} {Pre : α → Prop} {μ : α → Nat} {i : α} {Q : Exit → St → Prop} {j : Nat} {s : St} : roundQ S Pre μ i Q (.exit j) s = Q (.exit j) s := rfl

/-- A loop's round ends: it goes on at j. -/
theorem round_end {α : Type} {Pre : α → Prop} {μ : α → Nat} {S : α → St} {Q : Exit → St → Prop} {s : St} {i : α} (j : α) (hp : Pre j) (hμ : μ j < μ i) (hw : Weak s (S j)) :
    roundQ S Pre μ i Q .normal s := ⟨j, hp, hμ, hw⟩
end Go.Fw

/- Operations that only yield a value: what they yield, and what it leans on. -/
set_option linter.unusedSimpArgs false
set_option linter.unusedVariables false
namespace Go.Fw

/-- If it holds, then of one value. -/
def Ex (F : (V → Prop) → Prop) : Prop := ∀ K, F K → ∃ v, K v ∧ F (· = v)

theorem Ex.one (v : V) : Ex fun K => K v := fun _ h => ⟨v, h, rfl⟩
theorem Ex.no : Ex fun _ => False := fun _ h => h.elim
theorem Ex.and {p : Prop} {F : (V → Prop) → Prop} (h : Ex F) : Ex fun K => p ∧ F K := fun K hK => by
  obtain ⟨v, h1, h2⟩ := h K hK.2
  exact ⟨v, h1, hK.1, h2⟩

theorem ibin_ex {op : BinOp} {k : IntKind} {a b : Int} : Ex (ibin op k a b) := by
  unfold ibin
  cases op <;> first | exact .one _ | exact .no | exact .and (.one _) | exact .and (.and (.one _))
theorem sbin_ex {op : BinOp} {a b : List UInt8} : Ex (sbin op a b) := by
  unfold sbin
  cases op <;> first | exact .one _ | exact .no | exact .and (.one _)
theorem bbin_ex {op : BinOp} {a b : Bool} : Ex (bbin op a b) := by
  unfold bbin
  cases op <;> first | exact .one _ | exact .no | exact .and (.one _)
theorem nbin_ex {op : BinOp} {b : Bool} : Ex (nbin op b) := by
  unfold nbin
  cases op <;> first | exact .one _ | exact .no | exact .and (.one _)
theorem abin_ex {TT : Nat → Option TI} {op : BinOp} {t : TypeId} {x y : V} : Ex (abin TT op t x y) := by
  unfold abin
  split
  · exact .and ibin_ex
  · exact sbin_ex
  · exact .and bbin_ex
  · split <;> first | exact .one _ | exact .no
  · exact .and nbin_ex
  · exact .and (.and nbin_ex)
  · exact .and (.and nbin_ex)
  · exact .and nbin_ex
  · exact .no
theorem aun_ex {op : UnOp} {x : V} : Ex (aun op x) := by
  unfold aun
  split <;> first | exact .one _ | exact .no | exact .and (.one _)
theorem ldCells_ex {ti : TI} {cs : List V} : Ex (ldCells ti cs) := by
  unfold ldCells
  split
  · exact .and (.one _)
  · split <;> first | exact .one _ | exact .no
theorem ald_ex {ti : TI} {objs : List O} {x : V} : Ex (ald ti objs x) := by
  unfold ald
  split
  · split <;> first | exact ldCells_ex | exact .no
  · split
    · refine .and ?_
      split <;> first | exact ldCells_ex | exact .no
    · exact .no
  · exact ldCells_ex
  · exact .no
theorem afld_ex {off : Nat} {x : V} : Ex (afld off x) := by
  unfold afld
  split <;> first | exact .one _ | exact .no
theorem aidx_ex {sz : Nat} {x i : V} : Ex (aidx sz x i) := by
  unfold aidx
  split
  · refine .and ?_
    split <;> first | exact .and (.one _) | exact .no
  · exact .and (.and (.and (.one _)))
  · exact .no
theorem aslc_ex {TT : Nat → Option TI} {t : TypeId} {x : V} {lo hi : Option V} : Ex (aslc TT t x lo hi) := by
  unfold aslc
  split <;> first | exact .no | (refine .and ?_; split <;> first | exact .and (.and (.one _)) | exact .no)
theorem alen_ex {TT : Nat → Option TI} {t : TypeId} {x : V} : Ex (alen TT t x) := by
  unfold alen
  split <;> first | exact .and (.one _) | exact .no

theorem pv_ex {TT : Nat → Option TI} {ev : Operand → V} {objs : List O} {op : Op} : Ex (pv TT ev objs op) := by
  unfold pv
  split
  · exact .one _
  · exact .one _
  · split <;> first | exact .one _ | exact .no
  · split <;> first | exact .one _ | exact .no
  · split <;> first | exact ald_ex | exact .no
  · exact abin_ex
  · exact aun_ex
  · refine .and ?_
    split <;> first | exact .and (.one _) | exact .no
  · exact aslc_ex
  · split <;> first | exact afld_ex | exact .no
  · split
    · exact .and (.one _)
    · split <;> first | exact .one _ | exact .no
    · exact .no
  · split <;> first | exact aidx_ex | exact .no
  · refine .and ?_
    split
    · refine .and ?_
      split <;> first | exact .one _ | exact .no
    · exact .no
  · split
    · split <;> first | exact .one _ | exact .no
    · exact .no
  · split
    · split <;> first | exact .one _ | exact .no
    · exact .no
  · refine .and ?_
    split <;> first | exact .one _ | exact .no
  · split <;> first | exact alen_ex | exact .no
  · split
    · split <;> first | exact .one _ | exact .no
    · exact .no
  · split
    · split <;> first | exact .one _ | exact .no
    · exact .no
  · exact .no

/-- What holds of more values. -/
def Mo (F : (V → Prop) → Prop) : Prop := ∀ K K' : V → Prop, (∀ v, K v → K' v) → F K → F K'
theorem Mo.one (v : V) : Mo fun K => K v := fun _ _ h h' => h _ h'
theorem Mo.no : Mo fun _ => False := fun _ _ _ h => h
theorem Mo.and {p : Prop} {F : (V → Prop) → Prop} (h : Mo F) : Mo fun K => p ∧ F K := fun K K' hk hK => ⟨hK.1, h K K' hk hK.2⟩
theorem ibin_mo {op : BinOp} {k : IntKind} {a b : Int} : Mo (ibin op k a b) := by
  unfold ibin
  cases op <;> first | exact .one _ | exact .no | exact .and (.one _) | exact .and (.and (.one _))
theorem sbin_mo {op : BinOp} {a b : List UInt8} : Mo (sbin op a b) := by
  unfold sbin
  cases op <;> first | exact .one _ | exact .no | exact .and (.one _)
theorem bbin_mo {op : BinOp} {a b : Bool} : Mo (bbin op a b) := by
  unfold bbin
  cases op <;> first | exact .one _ | exact .no | exact .and (.one _)
theorem nbin_mo {op : BinOp} {b : Bool} : Mo (nbin op b) := by
  unfold nbin
  cases op <;> first | exact .one _ | exact .no | exact .and (.one _)
theorem abin_mo {TT : Nat → Option TI} {op : BinOp} {t : TypeId} {x y : V} : Mo (abin TT op t x y) := by
  unfold abin
  split
  · exact .and ibin_mo
  · exact sbin_mo
  · exact .and bbin_mo
  · split <;> first | exact .one _ | exact .no
  · exact .and nbin_mo
  · exact .and (.and nbin_mo)
  · exact .and (.and nbin_mo)
  · exact .and nbin_mo
  · exact .no
theorem aun_mo {op : UnOp} {x : V} : Mo (aun op x) := by
  unfold aun
  split <;> first | exact .one _ | exact .no | exact .and (.one _)
theorem ldCells_mo {ti : TI} {cs : List V} : Mo (ldCells ti cs) := by
  unfold ldCells
  split
  · exact .and (.one _)
  · split <;> first | exact .one _ | exact .no
theorem ald_mo {ti : TI} {objs : List O} {x : V} : Mo (ald ti objs x) := by
  unfold ald
  split
  · split <;> first | exact ldCells_mo | exact .no
  · split
    · refine .and ?_
      split <;> first | exact ldCells_mo | exact .no
    · exact .no
  · exact ldCells_mo
  · exact .no
theorem afld_mo {off : Nat} {x : V} : Mo (afld off x) := by
  unfold afld
  split <;> first | exact .one _ | exact .no
theorem aidx_mo {sz : Nat} {x i : V} : Mo (aidx sz x i) := by
  unfold aidx
  split
  · refine .and ?_
    split <;> first | exact .and (.one _) | exact .no
  · exact .and (.and (.and (.one _)))
  · exact .no
theorem aslc_mo {TT : Nat → Option TI} {t : TypeId} {x : V} {lo hi : Option V} : Mo (aslc TT t x lo hi) := by
  unfold aslc
  split <;> first | exact .no | (refine .and ?_; split <;> first | exact .and (.and (.one _)) | exact .no)
theorem alen_mo {TT : Nat → Option TI} {t : TypeId} {x : V} : Mo (alen TT t x) := by
  unfold alen
  split <;> first | exact .and (.one _) | exact .no

theorem pv_mo {TT : Nat → Option TI} {ev : Operand → V} {objs : List O} {op : Op} : Mo (pv TT ev objs op) := by
  unfold pv
  split
  · exact .one _
  · exact .one _
  · split <;> first | exact .one _ | exact .no
  · split <;> first | exact .one _ | exact .no
  · split <;> first | exact ald_mo | exact .no
  · exact abin_mo
  · exact aun_mo
  · refine .and ?_
    split <;> first | exact .and (.one _) | exact .no
  · exact aslc_mo
  · split <;> first | exact afld_mo | exact .no
  · split
    · exact .and (.one _)
    · split <;> first | exact .one _ | exact .no
    · exact .no
  · split <;> first | exact aidx_mo | exact .no
  · refine .and ?_
    split
    · refine .and ?_
      split <;> first | exact .one _ | exact .no
    · exact .no
  · split
    · split <;> first | exact .one _ | exact .no
    · exact .no
  · split
    · split <;> first | exact .one _ | exact .no
    · exact .no
  · refine .and ?_
    split <;> first | exact .one _ | exact .no
  · split <;> first | exact alen_mo | exact .no
  · split
    · split <;> first | exact .one _ | exact .no
    · exact .no
  · split
    · split <;> first | exact .one _ | exact .no
    · exact .no
  · exact .no

theorem pv_mono {TT : Nat → Option TI} {ev : Operand → V} {objs : List O} {op : Op} {K K' : V → Prop} (h : ∀ v, K v → K' v) (hp : pv TT ev objs op K) : pv TT ev objs op K' :=
  pv_mo K K' h hp

theorem Option.map_same {α β : Type} {f g : α → β} {o : Option α} (h : ∀ x, o = some x → f x = g x) : o.map f = o.map g := by
  cases o with
  | none => rfl
  | some x => simp [h x rfl]

/-- What the value leans on: the operands alone. -/
theorem pv_frame {TT : Nat → Option TI} {ev ev' : Operand → V} {objs : List O} {op : Op} {K : V → Prop} (h : ∀ x ∈ op.operands.toList, ev' x = ev x)
    (hp : pv TT ev objs op K) : pv TT ev' objs op K := by
  unfold pv at hp
  split at hp
  · rw [← h _ (by simp [Op.operands])] at hp; exact hp
  · rw [← h _ (by simp [Op.operands])] at hp; exact hp
  · rename_i c a b
    rw [← h c (by simp [Op.operands]), ← h a (by simp [Op.operands]), ← h b (by simp [Op.operands])] at hp; exact hp
  · rw [← h _ (by simp [Op.operands])] at hp; exact hp
  · rename_i t x
    rw [← h x (by simp [Op.operands])] at hp; exact hp
  · rename_i op t x y u
    rw [← h x (by simp [Op.operands]), ← h y (by simp [Op.operands])] at hp; exact hp
  · rename_i op t x
    rw [← h x (by simp [Op.operands])] at hp; exact hp
  · rename_i a t x
    rw [← h x (by simp [Op.operands])] at hp; exact hp
  · rename_i t x lo hi
    rw [← h x (by simp [Op.operands]), Option.map_same (f := ev) (g := ev') (o := lo) (fun y hy => (h y (by simp [Op.operands, hy])).symm),
      Option.map_same (f := ev) (g := ev') (o := hi) (fun y hy => (h y (by simp [Op.operands, hy])).symm)] at hp; exact hp
  · rename_i t x f
    rw [← h x (by simp [Op.operands])] at hp; exact hp
  · rename_i t x f
    rw [← h x (by simp [Op.operands])] at hp; exact hp
  · rename_i t x i
    rw [← h x (by simp [Op.operands]), ← h i (by simp [Op.operands])] at hp; exact hp
  · rename_i t x i
    rw [← h x (by simp [Op.operands]), ← h i (by simp [Op.operands])] at hp; exact hp
  · rename_i x i
    rw [← h x (by simp [Op.operands])] at hp; exact hp
  · rename_i t ps
    rw [show (ps.toList.map fun p => (p.1, ev p.2)) = ps.toList.map fun p => (p.1, ev' p.2) from List.map_congr_left fun p hm => by
      rw [h p.2 (by simp only [Op.operands, List.mem_map]; exact ⟨p, hm, rfl⟩)]] at hp
    exact hp
  · rename_i f first cap
    rw [show cap.toList.map ev = cap.toList.map ev' from List.map_congr_left fun p hm => (h p (by simp only [Op.operands, Array.toList_append, List.mem_append]; exact .inr hm)).symm] at hp
    exact hp
  · rename_i args ts
    have e : ∀ x ∈ args.toList, ev' x = ev x := fun x hx => h x (by simp only [Op.operands, Call.operands, Array.toList_append, List.mem_append]; exact .inr hx)
    show (match args.toList, ts.toList with | [x], [t] => alen TT t (ev' x) K | _, _ => False)
    split at hp
    · rename_i x t h1 h2
      rw [h1, h2]
      rw [← e x (by rw [h1]; simp)] at hp
      exact hp
    · exact hp.elim
  · rename_i args ts
    have e : ∀ x ∈ args.toList, ev' x = ev x := fun x hx => h x (by simp only [Op.operands, Call.operands, Array.toList_append, List.mem_append]; exact .inr hx)
    show (match args.toList with | [x, y] => (match ev' x, ev' y with | .d (.int k a), .d (.int _ b) => K (.d (.int k (max a b))) | _, _ => False) | _ => False)
    split at hp
    · rename_i x y h1
      rw [h1]
      rw [← e x (by rw [h1]; simp), ← e y (by rw [h1]; simp)] at hp
      exact hp
    · exact hp.elim
  · rename_i args ts
    have e : ∀ x ∈ args.toList, ev' x = ev x := fun x hx => h x (by simp only [Op.operands, Call.operands, Array.toList_append, List.mem_append]; exact .inr hx)
    show (match args.toList with | [x, y] => (match ev' x, ev' y with | .d (.int k a), .d (.int _ b) => K (.d (.int k (min a b))) | _, _ => False) | _ => False)
    split at hp
    · rename_i x y h1
      rw [h1]
      rw [← e x (by rw [h1]; simp), ← e y (by rw [h1]; simp)] at hp
      exact hp
    · exact hp.elim
  · exact hp.elim

/-- Whether the objects are looked at. -/
def readsB : Op → Bool
  | .load .. => true
  | _ => false

theorem ald_ext {ti : TI} {objs os : List O} {x : V} {K : V → Prop} (h : ald ti objs x K) : ald ti (objs ++ os) x K := by
  unfold ald at h ⊢
  split at h
  · rename_i id off
    split at h
    · rename_i cells hc
      rw [List.getElem?_append_left (List.getElem?_eq_some_iff.1 hc).1, hc]
      exact h
    · exact h.elim
  · rename_i id sz i off
    split at h
    · rename_i sz' rows hc
      rw [List.getElem?_append_left (List.getElem?_eq_some_iff.1 hc).1, hc]
      exact h
    · exact h.elim
  · exact h
  · exact h.elim

theorem pv_objs {TT : Nat → Option TI} {ev : Operand → V} {objs objs' : List O} {op : Op} {K : V → Prop} (h : readsB op = true → ∃ os, objs' = objs ++ os) (hp : pv TT ev objs op K) : pv TT ev objs' op K := by
  unfold pv at hp
  split at hp
  case h_5 t x =>
    obtain ⟨os, rfl⟩ := h rfl
    show (match TT t with | some ti => ald ti (objs ++ os) (ev x) K | none => False)
    cases ht : TT t with
    | some ti => rw [ht] at hp; exact ald_ext hp
    | none => rw [ht] at hp; exact hp.elim
  all_goals first | exact hp | exact hp.elim

end Go.Fw

/- Regions whose order is drawn: operations that only yield a value; what an operation leans on. -/
set_option linter.unusedSimpArgs false
set_option linter.unusedVariables false
namespace Go.Fw

/-- The same state, told otherwise. -/
def Sim (s s' : St) : Prop := (∀ j, getE s.env j = getE s'.env j) ∧ s.objs = s'.objs ∧ s.n = s'.n ∧ s.fx = s'.fx

theorem Sim.refl (s : St) : Sim s s := ⟨fun _ => rfl, rfl, rfl, rfl⟩
theorem Sim.symm {s s' : St} (h : Sim s s') : Sim s' s := ⟨fun j => (h.1 j).symm, h.2.1.symm, h.2.2.1.symm, h.2.2.2.symm⟩
theorem Sim.trans {s s' s'' : St} (h : Sim s s') (h' : Sim s' s'') : Sim s s'' := ⟨fun j => (h.1 j).trans (h'.1 j), h.2.1.trans h'.2.1, h.2.2.1.trans h'.2.2.1, h.2.2.2.trans h'.2.2.2⟩

theorem Sim.cc {x : Ctx} {s s' : St} {a : Act} {w : World} (h : Sim s s') (hC : CC x s a w) : CC x s' a w := by
  obtain ⟨h1, h2, h3, h4⟩ := h
  obtain ⟨ok, ρ, c1, c2, c3, c4, c5, c6⟩ := hC
  exact ⟨ok, ρ, h2 ▸ c1, h2 ▸ c2, fun j => by rw [← h1]; exact c3 j, h3 ▸ c4, c5, h4 ▸ c6⟩

theorem getE_put (s : St) (dst : Option Nat) (v : V) (t : Nat) : getE (s.put dst v).env t = if dst = some t then v else getE s.env t := by
  cases dst with
  | none => simp [St.put]
  | some d => simp [St.put, getE]

mutual
/-- No object is named. -/
def noRef : V → Bool
  | .d _ | .nils | .any | .hd .. | .ld .. | .iv .. => true
  | .agg cs => noRefs cs
  | .tup cs => noRefs cs
  | _ => false
def noRefs : List V → Bool
  | [] => true
  | c :: cs => noRef c && noRefs cs
end

mutual
theorem noRef_back {n : Nat} : ∀ {v : V}, noRef v = true → backV [] n v = v
  | .d _, _ => rfl
  | .nils, _ => rfl
  | .any, _ => rfl
  | .hd .., _ => rfl
  | .iv .., _ => rfl
  | .ld .., _ => rfl
  | .agg cs, h => by simp only [noRef] at h; simp only [backV, noRefs_back h]
  | .tup cs, h => by simp only [noRef] at h; simp only [backV, noRefs_back h]
  | .oref .., h => by simp [noRef] at h
  | .aref .., h => by simp [noRef] at h
  | .msl .., h => by simp [noRef] at h
theorem noRefs_back {n : Nat} : ∀ {vs : List V}, noRefs vs = true → backVs [] n vs = vs
  | [], _ => rfl
  | c :: cs, h => by
    simp only [noRefs, Bool.and_eq_true] at h
    simp only [backVs, noRef_back h.1, noRefs_back h.2]
end

theorem idx_nil (i : Nat) : idx [] i = none := rfl

mutual
theorem argV_nil {objs objs' : List O} : ∀ (v : V), argV objs [] [] v = argV objs' [] [] v
  | .d _ => rfl
  | .nils => rfl
  | .any => rfl
  | .hd .. => rfl
  | .iv .. => rfl
  | .ld .. => rfl
  | .agg cs => by simp only [argV, argVs_nil (objs := objs) (objs' := objs') cs]
  | .tup cs => rfl
  | .oref .. => by simp [argV]
  | .aref .. => rfl
  | .msl .. => by simp [argV, idx_nil]
theorem argVs_nil {objs objs' : List O} : ∀ (vs : List V), argVs objs [] [] vs = argVs objs' [] [] vs
  | [] => rfl
  | c :: cs => by simp only [argVs, argV_nil (objs := objs) (objs' := objs') c, argVs_nil (objs := objs) (objs' := objs') cs]
end

/-- A call that gives one value and touches nothing. -/
def ACallQ (P : Program) (s : St) (fv : V) (args : List V) (K : V → Prop) : Prop :=
  ∃ g cap R args', fv = .d (.fn g cap) ∧ argVs s.objs [] [] (args ++ cap.map .d) = some args' ∧ ACon P g args' [] (Is R) ∧ noRef R = true ∧ K R

/-- The callee and the arguments of a call of a value. -/
def callOf : Op → Option (Operand × List Operand)
  | .call { callee := .value f, args := args, .. } => some (f, args.toList)
  | _ => none

/-- An operation that only yields a value. -/
def aopq (TT : Nat → Option TI) (P : Program) (s : St) (op : Op) (K : V → Prop) : Prop :=
  match callOf op with
  | some (f, args) => ACallQ P s (s.ev f) (args.map s.ev) K
  | none => isEff op = false ∧ pv TT s.ev s.objs op K

def aopqg (TT : Nat → Option TI) (P : Program) (ds : List (Option Nat)) (s : St) (o : Oper) (K : V → Prop) : Prop :=
  match o.guard with
  | none => aopq TT P s o.op K
  | some (j, want) => (match ds[j]? with
    | some (some d) => (match getE s.env d with
      | .d (.bool b) => (b = want → aopq TT P s o.op K) ∧ (b = (!want) → K (.tup []))
      | .tup [] => K (.tup [])
      | _ => False)
    | _ => False)

/-- The building of a slice that is data at once. -/
def aopqB (TT : Nat → Option TI) (s : St) (o : Oper) (K : V → Prop) : Prop :=
  o.guard = none ∧ ∃ t len parts e rows, o.op = .buildSlice t len parts ∧ elemOf TT t = some e ∧ parts.toList.map (·.1) = List.range len ∧ len * e.size ≤ 2 ^ 24 ∧ rowsOf e.size (parts.toList.map fun p => s.ev p.2) = some rows ∧ K (.d (.lst rows))

/-- A load that looks at data alone. -/
def aopqE (TT : Nat → Option TI) (s : St) (o : Oper) (K : V → Prop) : Prop := o.guard = none ∧ callOf o.op = none ∧ isEff o.op = false ∧ pv TT s.ev [] o.op K

def aopqX (TT : Nat → Option TI) (P : Program) (ds : List (Option Nat)) (s : St) (o : Oper) (K : V → Prop) : Prop := aopqB TT s o K ∨ aopqg TT P ds s o K

def looks (ds : List (Option Nat)) (o : Oper) : List Nat :=
  (o.op.operands.toList.filterMap fun | .tmp t => some t | _ => none) ++ (match o.guard with
    | some (g, _) => (match ds[g]? with
      | some (some d) => [d]
      | _ => [])
    | none => [])

section
variable {TT : Nat → Option TI} {P : Program} {ds : List (Option Nat)}

theorem ev_same {s s' : St} {l : List Operand} (h : ∀ t ∈ l.filterMap (fun | .tmp t => some t | _ => none), getE s'.env t = getE s.env t) : ∀ x ∈ l, s'.ev x = s.ev x := by
  intro x hx
  cases x with
  | tmp t => exact h t (List.mem_filterMap.2 ⟨_, hx, rfl⟩)
  | const v => rfl
  | global g => rfl
  | func f => rfl

theorem callOf_some {op : Op} {f : Operand} {args : List Operand} (h : callOf op = some (f, args)) : ∃ a ts, op = .call { callee := .value f, args := a, argTypes := ts } ∧ a.toList = args := by
  unfold callOf at h
  split at h
  · rename_i f' a' ts'
    simp only [Option.some.injEq, Prod.mk.injEq] at h
    exact ⟨a', ts', by rw [h.1], h.2⟩
  · cases h

theorem aop_call {s : St} {dst : Option Nat} {op : Op} {f : Operand} {args : List Operand} {K : St → Prop} (h : callOf op = some (f, args)) : aop TT P s dst op K = match s.ev f with
    | .d (.fn g cap) => ACall P s g (args.map s.ev ++ cap.map .d) fun y s' => K (s'.put dst y)
    | _ => False := by
  obtain ⟨a, ts, rfl, rfl⟩ := callOf_some h
  rfl

theorem aop_pure {s : St} {dst : Option Nat} {op : Op} {K : St → Prop} (h : callOf op = none) (he : isEff op = false) : aop TT P s dst op K = pv TT s.ev s.objs op fun v => K (s.put dst v) := by
  unfold aop
  split
  · simp [callOf] at h
  · rw [if_neg (by rw [he]; decide)]

theorem aop_eff {s : St} {dst : Option Nat} {op : Op} {K : St → Prop} (h : callOf op = none) (he : isEff op = true) : aop TT P s dst op K = aef TT s dst op K := by
  unfold aop
  split
  · simp [callOf] at h
  · rw [if_pos he]

theorem ev_args {s s' : St} {op : Op} {f : Operand} {args : List Operand} (h : callOf op = some (f, args)) (he : ∀ x ∈ op.operands.toList, s'.ev x = s.ev x) : s'.ev f = s.ev f ∧ args.map s'.ev = args.map s.ev := by
  obtain ⟨a, ts, rfl, rfl⟩ := callOf_some h
  exact ⟨he f (by simp [Op.operands, Call.operands]), List.map_congr_left fun p hm => he p (by simp only [Op.operands, Call.operands, Array.toList_append, List.mem_append]; exact .inr hm)⟩

theorem aopq_mono {s s' : St} {op : Op} {K K' : V → Prop} (ho : readsB op = true → ∃ os, s'.objs = s.objs ++ os) (he : ∀ x ∈ op.operands.toList, s'.ev x = s.ev x) (hK : ∀ v, K v → K' v)
    (h : aopq TT P s op K) : aopq TT P s' op K' := by
  unfold aopq at h ⊢
  split at h
  · rename_i f args hc
    obtain ⟨e1, e2⟩ := ev_args hc he
    obtain ⟨g, cap, R, args', h1, h2, h3, h4, h5⟩ := h
    exact ⟨g, cap, R, args', by rw [e1]; exact h1, by rw [e2, argVs_nil (objs' := s.objs)]; exact h2, h3, h4, hK _ h5⟩
  · rename_i hc
    exact ⟨h.1, pv_objs ho (pv_mono hK (pv_frame he h.2))⟩

theorem aopq_ex {s : St} {op : Op} {K : V → Prop} (h : aopq TT P s op K) : ∃ v, K v ∧ aopq TT P s op (· = v) := by
  unfold aopq at h ⊢
  split at h
  · obtain ⟨g, cap, R, args', h1, h2, h3, h4, h5⟩ := h
    exact ⟨R, h5, g, cap, R, args', h1, h2, h3, h4, rfl⟩
  · obtain ⟨v, h1, h2⟩ := pv_ex K h.2
    exact ⟨v, h1, h.1, h2⟩

theorem aopq_aop {s : St} {dst : Option Nat} {op : Op} {v : V} {K : St → Prop} (h : aopq TT P s op (· = v)) (hK : K (s.put dst v)) : aop TT P s dst op K := by
  unfold aopq at h
  split at h
  · rename_i f args hc
    obtain ⟨g, cap, R, args', h1, h2, h3, h4, rfl⟩ := h
    rw [aop_call hc, h1]
    exact ACall.is h2 h3 (by rw [noRef_back h4]; exact hK)
  · rename_i hc
    rw [aop_pure hc h.1]
    exact pv_mono (fun u hu => by rw [hu]; exact hK) h.2

theorem aopqg_det {s : St} {o : Oper} {K : V → Prop} (h : aopqg TT P ds s o K) :
    ∃ v, K v ∧ ∀ s', (readsB o.op = true → ∃ os, s'.objs = s.objs ++ os) → (∀ t ∈ looks ds o, getE s'.env t = getE s.env t) → aopqg TT P ds s' o (· = v) := by
  unfold aopqg at h
  split at h
  · rename_i hg
    obtain ⟨v, h1, h2⟩ := aopq_ex h
    refine ⟨v, h1, fun s' ho he => ?_⟩
    unfold aopqg
    rw [hg]
    exact aopq_mono ho (ev_same fun t ht => he t (List.mem_append.2 (.inl ht))) (fun _ h => h) h2
  · rename_i j want hg
    split at h
    · rename_i d hd
      have hlook : ∀ s' : St, (∀ t ∈ looks ds o, getE s'.env t = getE s.env t) → getE s'.env d = getE s.env d := fun s' he => he d (by
        unfold looks; rw [hg]; simp [hd])
      split at h
      · rename_i b hb
        by_cases hbw : b = want
        · obtain ⟨v, h1, h2⟩ := aopq_ex (h.1 hbw)
          refine ⟨v, h1, fun s' ho he => ?_⟩
          unfold aopqg
          rw [hg]
          simp only [hd]
          rw [hlook s' he, hb]
          exact ⟨fun _ => aopq_mono ho (ev_same fun t ht => he t (List.mem_append.2 (.inl ht))) (fun _ h => h) h2, fun hc => by subst hbw; cases b <;> cases hc⟩
        · have hbw' : b = !want := by cases b <;> cases want <;> simp_all
          refine ⟨.tup [], h.2 hbw', fun s' ho he => ?_⟩
          unfold aopqg
          rw [hg]
          simp only [hd]
          rw [hlook s' he, hb]
          exact ⟨fun hc => absurd hc hbw, fun _ => trivial⟩
      · rename_i hb
        refine ⟨.tup [], h, fun s' ho he => ?_⟩
        unfold aopqg
        rw [hg]
        simp only [hd]
        rw [hlook s' he, hb]
        exact trivial
      · exact h.elim
    · exact h.elim

theorem aopqE_det {s : St} {o : Oper} {K : V → Prop} (h : aopqE TT s o K) :
    ∃ v, K v ∧ ∀ s', (∀ t ∈ looks ds o, getE s'.env t = getE s.env t) → aopqX TT P ds s' o (· = v) := by
  obtain ⟨hg, hc, he, hp⟩ := h
  obtain ⟨v, h1, h2⟩ := pv_ex K hp
  refine ⟨v, h1, fun s' hl => .inr ?_⟩
  unfold aopqg
  rw [hg]
  unfold aopq
  rw [hc]
  exact ⟨he, pv_objs (objs := []) (fun _ => ⟨_, rfl⟩) (pv_frame (ev_same fun t ht => hl t (List.mem_append.2 (.inl ht))) h2)⟩

theorem aopqX_det {s : St} {o : Oper} {K : V → Prop} (h : aopqX TT P ds s o K) :
    ∃ v, K v ∧ ∀ s', (readsB o.op = true → ∃ os, s'.objs = s.objs ++ os) → (∀ t ∈ looks ds o, getE s'.env t = getE s.env t) → aopqX TT P ds s' o (· = v) := by
  rcases h with ⟨hg, t, len, parts, e, rows, h1, h2, h3, h4, h5, h6⟩ | h
  · refine ⟨_, h6, fun s' _ he => .inl ⟨hg, t, len, parts, e, rows, h1, h2, h3, h4, ?_, rfl⟩⟩
    have hm : ∀ x ∈ o.op.operands.toList, s'.ev x = s.ev x := ev_same fun t ht => he t (List.mem_append.2 (.inl ht))
    have e : (parts.toList.map fun p => s'.ev p.2) = parts.toList.map fun p => s.ev p.2 := List.map_congr_left fun p hp => hm p.2 (by
      rw [h1]; simp only [Op.operands, List.mem_map]; simp; exact ⟨p.1, by simpa using hp⟩)
    rw [e]; exact h5
  · obtain ⟨v, h1, h2⟩ := aopqg_det h
    exact ⟨v, h1, fun s' a b => .inr (h2 s' a b)⟩

theorem aopqg_aopg {s : St} {o : Oper} {v : V} (h : aopqg TT P ds s o (· = v)) : aopg TT P ds s o (fun s' => Sim s' (s.put o.dst v)) := by
  unfold aopqg at h
  unfold aopg
  split at h
  · rename_i hg
    rw [hg]; exact aopq_aop h (Sim.refl _)
  · rename_i j want hg
    split at h
    · rename_i d hd
      split at h
      · rename_i b hb
        have hsim : ∀ (c : Bool) (u : V), b = c → Sim ((s.put (some d) (.d (.bool c))).put o.dst u) (s.put o.dst u) := by
          intro c u hc
          subst hc
          have h0 : ∀ j, getE (s.put (some d) (.d (.bool b))).env j = getE s.env j := fun j => by
            simp only [St.put, getE]
            split
            · rename_i e; rw [← e, hb]
            · rfl
          cases ho : o.dst with
          | none => exact ⟨h0, rfl, rfl, rfl⟩
          | some q => exact ⟨fun j => by simp only [St.put, getE]; split; rfl; exact h0 j, rfl, rfl, rfl⟩
        rw [hg]
        simp only [hd, hb]
        refine ⟨fun hbw => ?_, fun hbw => ?_⟩
        · have := aopq_mono (s' := s.put (some d) (.d (.bool want))) (fun _ => ⟨[], by rw [List.append_nil]; rfl⟩) (ev_same fun t _ => by
            simp only [St.put, getE]
            split
            · rename_i e; rw [← e, hb, hbw]
            · rfl) (fun _ h => h) (h.1 hbw)
          exact aopq_aop this (hsim want v hbw)
        · have := h.2 hbw
          rw [← this]
          exact hsim _ _ hbw
      · rename_i hb
        rw [hg]
        simp only [hd, hb]
        rw [← h]
        exact Sim.refl _
      · exact h.elim
    · exact h.elim

/-- An operation in another state that is the same as far as the operation looks. -/
theorem aop_frame {s s' : St} {dst : Option Nat} {op : Op} {K K' : St → Prop} (ho : s'.objs = s.objs) (he : ∀ x ∈ op.operands.toList, s'.ev x = s.ev x)
    (hK : ∀ (objs : List O) (v : V), K (({ s with objs := objs } : St).put dst v) → K' (({ s' with objs := objs } : St).put dst v)) (h : aop TT P s dst op K) : aop TT P s' dst op K' := by
  cases hc : callOf op with
  | some fa =>
    obtain ⟨f, args⟩ := fa
    rw [aop_call hc] at h ⊢
    obtain ⟨e1, e2⟩ := ev_args hc he
    rw [e1, e2]
    split at h
    · obtain ⟨ids, bs, args', os0, os, h1, h2, h3, h4, h5, h6, h7⟩ := h
      exact ⟨ids, bs, args', os0, os, by rw [ho]; exact h1, h2, h3, by rw [ho]; exact h4, by rw [ho]; exact h5, h6, h7.mono fun r os' hr => ⟨hr.1, by rw [ho]; exact hK _ _ hr.2⟩⟩
    · exact h.elim
  | none =>
    cases hf : isEff op with
    | false =>
      rw [aop_pure hc hf] at h ⊢
      rw [ho]
      exact pv_mono (fun v hv => by have := hK s.objs v hv; rw [← ho] at this; exact this) (pv_frame he h)
    | true =>
      rw [aop_eff hc hf] at h ⊢
      unfold aef at h
      split at h
      · rename_i t
        unfold aef
        simp only []
        split at h
        · have := hK _ _ h; rw [← ho] at this; exact this
        · exact h.elim
      · rename_i t y
        unfold aef
        simp only [he y (by simp [Op.operands])]
        split at h
        · have := hK _ _ h; rw [← ho] at this; exact this
        · exact h.elim
      · rename_i t len parts
        have e : (parts.toList.map fun p => s'.ev p.2) = parts.toList.map fun p => s.ev p.2 := List.map_congr_left fun p hm => he p.2 (by
          simp only [Op.operands, List.mem_map]; exact ⟨p, hm, rfl⟩)
        unfold aef
        simp only [e]
        split at h
        · obtain ⟨h1, h2, h⟩ := h
          refine ⟨h1, h2, ?_⟩
          split at h
          · have := hK _ _ h; rw [← ho] at this; exact this
          · exact h.elim
        · exact h.elim
      · rename_i t y v
        unfold aef
        simp only [he y (by simp [Op.operands]), he v (by simp [Op.operands]), ho]
        split at h
        · obtain ⟨h1, h2, h⟩ := h
          refine ⟨h1, h2, ?_⟩
          subst h1
          split at h
          · split at h
            · refine ⟨h.1, ?_⟩
              have := hK _ .any h.2
              have e : ∀ id o, s'.setO id o = { s' with objs := s.objs.set id o } := fun id o => by rw [← ho]; rfl
              rw [e]; exact this
            · exact h.elim
          · split at h
            · obtain ⟨h3, h⟩ := h
              refine ⟨h3, ?_⟩
              split at h
              · refine ⟨h.1, ?_⟩
                have := hK _ .any h.2
                have e : ∀ id o, s'.setO id o = { s' with objs := s.objs.set id o } := fun id o => by rw [← ho]; rfl
                rw [e]; exact this
              · exact h.elim
            · exact h.elim
          · exact h.elim
        · exact h.elim
      · rename_i t l c
        unfold aef
        simp only [he l (by simp [Op.operands]), he c (by simp [Op.operands])]
        split at h
        · split at h
          · obtain ⟨h1, h2, h3, h4, h⟩ := h
            refine ⟨h1, h2, h3, h4, ?_⟩
            have := hK _ _ h; rw [← ho] at this; exact this
          · exact h.elim
        · exact h.elim
      · rename_i args ts
        have hm : ∀ x ∈ args.toList, s'.ev x = s.ev x := fun x hx => he x (by simp only [Op.operands, Call.operands, Array.toList_append, List.mem_append]; exact .inr hx)
        unfold aef
        split at h
        · rename_i x y t u h1 h2
          simp only [h1, h2]
          rw [hm x (by rw [h1]; simp), hm y (by rw [h1]; simp), ho]
          split at h
          · obtain ⟨h3, h⟩ := h
            refine ⟨h3, ?_⟩
            split at h
            · obtain ⟨h4, h5, h⟩ := h
              refine ⟨h4, h5, ?_⟩
              split at h
              · refine ⟨h.1, ?_⟩
                have := hK _ _ h.2
                rw [← ho] at this ⊢; exact this
              · split at h
                · obtain ⟨h6, h7, h8, h9, h10, h⟩ := h
                  refine ⟨h6, h7, h8, h9, h10, ?_⟩
                  have := hK _ _ h
                  have e : ∀ id o, s'.setO id o = { s' with objs := s.objs.set id o } := fun id o => by rw [← ho]; rfl
                  rw [e]; exact this
                · exact h.elim
              · exact h.elim
            · exact h.elim
          · exact h.elim
        · exact h.elim
      · exact h.elim

theorem aop_imp {s : St} {dst : Option Nat} {op : Op} {K K' : St → Prop} (hK : ∀ s, K s → K' s) (h : aop TT P s dst op K) : aop TT P s dst op K' :=
  aop_frame rfl (fun _ _ => rfl) (fun _ _ hk => hK _ hk) h

end
end Go.Fw

/- Regions whose order is drawn: a part of the operations in any order. -/
set_option linter.unusedSimpArgs false
set_option linter.unusedVariables false
namespace Go.Fw

section
variable {P : Program} {TT : Nat → Option TI} {ops : Array Oper} {x : Ctx} {n : Nat}

/-- One operation of a region. -/
theorem aopg_sound (hT : TOk P TT) {Q : Exit → Act → World → Prop} (hb : regB n ops.toList = true) {i : Nat} {o : Oper} (hi : ops[i]? = some o) {s : St} {a : Act} {w : World} {K : St → Prop}
    (hn : s.n = n) (h : aopg TT P (ops.toList.map (·.dst)) s o K) (hC : CC x s a w) :
    wpOp P ops Q i (fun a' w' => ∃ s' u, K s' ∧ CC x s' a' w' ∧ a' = a.put o.dst u) a w := by
  have hdst : ∀ d, o.dst = some d → d < n := by
    intro d hd
    have hm : o ∈ ops.toList := by rw [List.mem_iff_getElem?]; exact ⟨i, by simpa using hi⟩
    have := List.all_eq_true.1 hb o hm
    rw [hd] at this
    simpa using this
  obtain ⟨ok, ρ, hCk⟩ := CC_iff.1 hC
  have hn' : a.tmps.size = n := by rw [hCk.size]; exact hn
  unfold wpOp
  simp only [hi]
  unfold aopg at h
  split at h
  · rename_i hg
    have hw : Region.wanted o (yielded ops a.tmps) = true := by simp [Region.wanted, hg]
    rw [if_pos hw]
    exact .inl (aop_sound hT hCk (fun d hd => by rw [hn]; exact hdst d hd) h (fun s' v w' hK hC' => ⟨s', v, hK, hC', rfl⟩))
  · rename_i j want hg
    split at h
    · rename_i d hd
      split at h
      · rename_i b hbv
        obtain ⟨h1, h2⟩ := h
        have hv := hCk.env d
        rw [hbv] at hv
        have hbe := hv.bool_eq
        have hoj : (ops[j]?).bind (·.dst) = some d := by
          rw [List.getElem?_map] at hd
          cases hoj : ops[j]? with
          | none => simp [hoj] at hd
          | some oj => simp [hoj] at hd; simp [hd]
        have hdl : d < a.tmps.size := by
          cases hoj2 : ops[j]? with
          | none => rw [hoj2] at hoj; simp at hoj
          | some oj =>
            rw [hoj2] at hoj
            have hm : oj ∈ ops.toList := by rw [List.mem_iff_getElem?]; exact ⟨j, by simpa using hoj2⟩
            have := List.all_eq_true.1 hb oj hm
            simp only [Option.bind_some] at hoj
            rw [hoj] at this
            rw [hn']
            simpa using this
        have hyield : yielded ops a.tmps j = some b := by
          simp only [yielded, hoj, Option.bind_some]
          have : a.tmps[d]? = some (.bool b) := by
            rw [Array.getElem?_eq_getElem hdl]
            simp [Array.getD, hdl] at hbe
            rw [hbe]
          rw [this]
        have hfix : ∀ c, b = c → CCk x (s.put (some d) (.d (.bool c))) a w ok ρ := by
          intro c hc
          subst hc
          obtain ⟨hI, hF, hE, hn', hd', hx⟩ := hCk
          refine ⟨hI, hF, fun q => ?_, hn', hd', hx⟩
          simp only [St.put, getE]
          split
          · rename_i e; subst e; rw [hbe]; exact .d .bool
          · exact hE q
        by_cases hbw : b = want
        · have hw : Region.wanted o (yielded ops a.tmps) = true := by simp [Region.wanted, hg, hyield, hbw]
          rw [if_pos hw]
          exact .inl (aop_sound hT (hfix want hbw) (fun d' hd' => by rw [St.put_n, hn]; exact hdst d' hd') (h1 hbw) (fun s' v w' hK hC' => ⟨s', v, hK, hC', rfl⟩))
        · have hbw' : b = !want := by cases b <;> cases want <;> simp_all
          have hw : ¬ Region.wanted o (yielded ops a.tmps) = true := by simp [Region.wanted, hg, hyield, hbw]
          rw [if_neg hw]
          exact ⟨_, _, h2 hbw', ((hfix _ hbw').put skip_rep (fun d' hd' => by rw [St.put_n, hn]; exact hdst d' hd')).cc, rfl⟩
      · rename_i hbv
        have hv := hCk.env d
        rw [hbv] at hv
        have hbe := skip_eq hv
        have hoj : (ops[j]?).bind (·.dst) = some d := by
          rw [List.getElem?_map] at hd
          cases hoj : ops[j]? with
          | none => simp [hoj] at hd
          | some oj => simp [hoj] at hd; simp [hd]
        have hyield : yielded ops a.tmps j = none := by
          simp only [yielded, hoj, Option.bind_some]
          cases ht : a.tmps[d]? with
          | none => rfl
          | some u =>
            have : u = undef := by rw [← hbe]; simp [Array.getD_eq_getD_getElem?, ht]
            subst this; rfl
        have hw : ¬ Region.wanted o (yielded ops a.tmps) = true := by simp [Region.wanted, hg, hyield]
        rw [if_neg hw]
        exact ⟨_, _, h, (hCk.put skip_rep (fun d' hd' => by rw [hn]; exact hdst d' hd')).cc, rfl⟩
      · exact h.elim
    · exact h.elim

/-- An operation that was put off. -/
theorem aopqX_sound (hT : TOk P TT) {Q : Exit → Act → World → Prop} (hb : regB n ops.toList = true) {i : Nat} {o : Oper} (hi : ops[i]? = some o) {s : St} {a : Act} {w : World} {v : V}
    (hn : s.n = n) (h : aopqX TT P (ops.toList.map (·.dst)) s o (· = v)) (hC : CC x s a w) :
    wpOp P ops Q i (fun a' w' => CC x (s.put o.dst v) a' w' ∧ ∃ u, a' = a.put o.dst u) a w := by
  have hdst : ∀ d, o.dst = some d → d < n := by
    intro d hd
    have hm : o ∈ ops.toList := by rw [List.mem_iff_getElem?]; exact ⟨i, by simpa using hi⟩
    have := List.all_eq_true.1 hb o hm
    rw [hd] at this
    simpa using this
  rcases h with ⟨hg, t, len, parts, e, rows, h1, h2, h3, h4, h5, rfl⟩ | h
  · obtain ⟨ok, ρ, hI, hF, hE, hsz, hd, hx⟩ := CC_iff.1 hC
    obtain ⟨out, et, r1, r2, r3, r4, r5⟩ := buildSlice_run hT hE h2 h3 h4 h5
    let w' : World := { w with heap := w.heap.push (.cells out et (0, 0)) }
    let ok' : Nat → Prop := fun b => ok b ∨ b = w.heap.size
    have hold : ∀ b, b < w.heap.size → w'.heap[b]? = w.heap[b]? := fun b hb => push_old _ hb
    have hokw : ∀ b, ok b → w'.heap[b]? = w.heap[b]? := fun b hb => hold b (hI.okb b hb)
    have hshape : ∀ b s, w.shape? b = some s → w'.shape? b = some s := fun b s h => by rw [shape_of_block (hold b (shape_lt h))]; exact h
    have hlt : ∀ (id : Nat) (o : O) (b : Nat), s.objs[id]? = some o → o.live = true → ρ[id]? = some (some b) → b < w.heap.size := fun id o b h1 h2 h3 => hI.live_lt h1 h2 h3
    have hI' : Inv w' ok' ρ s.objs := by
      refine ⟨hI.len, fun b hb => ?_, fun id o ho => (hI.own id o ho).mono hokw (fun b h => .inl h) hshape (fun _ _ h => h) (fun hl b hb => hold b (hlt id o b ho hl hb)), hI.dis, fun i o b h1 h2 h3 h4 => ?_⟩
      · show b < (w.heap.push _).size
        rw [Array.size_push]
        rcases hb with hb | hb
        · have := hI.okb b hb; omega
        · omega
      · rcases h4 with h4 | h4
        · exact hI.nok i o b h1 h2 h3 h4
        · have := hlt i o b h1 h2 h3; omega
    have hF' : Frm x w' ok' ρ s.objs := by
      refine ⟨hF.os, hF.tape, hF.output, ?_, fun b hb hq hnw => ?_, fun b s h => hshape b s (hF.shape b s h), fun b h => .inl (hF.okup b h), fun b h => ?_, hF.rho, hF.own, fun b h => ?_, fun e e2 => (hF.pres e e2).trans (.same hokw) hF.okup⟩
      · show _ ≤ (w.heap.push _).size
        rw [Array.size_push]; have := hF.size; omega
      · rw [hold b (by have := hF.size; omega)]; exact hF.block b hb hq hnw
      · rcases h with h | h
        · exact hF.okdn b h
        · exact .inr (.inl (by have := hF.size; omega))
      · rcases h with h | rfl
        · exact (hF.unf b h).imp_right (fun hu => hu.of (hokw b h))
        · exact .inr ⟨_, _, push_new _⟩
    have hE' : ∀ j, VRep w' ok' ρ (getE s.env j) (a.tmps.getD j undef) := fun j => (hE j).mono hokw (fun b h => .inl h) hshape (fun _ _ h => h)
    have hV : VRep w' ok' ρ (.d (.lst rows)) (.slice (some ⟨w.heap.size, 0, none⟩) len len) := by
      rw [← r2]
      refine .d (.lst (sz := e.size) (vs := fun i j => out.getD (i * e.size + j) undef) (.inr rfl) r3 (Nat.le_refl _) (fun i j r y hi hj => ?_) (fun i j r y hi hj => (r4 i j r y hi hj).mono hokw (fun b h => .inl h)))
      have hil := (List.getElem?_eq_some_iff.1 hi).1
      have hjl : j < e.size := by have := (List.getElem?_eq_some_iff.1 hj).1; have := r3 r (List.mem_of_getElem? hi); omega
      have hlt := row_lt (sz := e.size) hil hjl
      have hlt2 : i * e.size + j < out.size := by rw [r1, ← r2]; exact hlt
      have hnew : w'.heap[w.heap.size]? = some (.cells out et (0, 0)) := push_new _
      simp [World.cell?, hnew, Array.getD, hlt2]
    have hCC : CCk x (s.put o.dst (.d (.lst rows))) (a.put o.dst (.slice (some ⟨w.heap.size, 0, none⟩) len len)) w' ok' ρ :=
      CCk.put ⟨hI', hF', hE', hsz, hd, hx⟩ hV (fun d hd => by rw [hn]; exact hdst d hd)
    unfold wpOp
    simp only [hi]
    have hw : Region.wanted o (yielded ops a.tmps) = true := by simp [Region.wanted, hg]
    rw [if_pos hw]
    refine .inl ?_
    have hexec : (execOp a.eval o).run P w = .ok (.value (.slice (some ⟨w.heap.size, 0, none⟩) len len)) w' := by
      unfold execOp
      rw [h1]
      exact r5
    show o.upon P a _ Q _
    rw [hexec]
    exact ⟨hCC.cc, _, rfl⟩
  · refine wpOp_mono ?_ (aopg_sound hT hb hi hn (aopqg_aopg h) hC)
    rintro a' w' ⟨s'', u, hsim, hC', rfl⟩
    exact ⟨hsim.cc hC', u, rfl⟩

def gl (l : Array Bool) (j : Nat) : Bool := l.getD j false

/-- What an operation waits for. -/
def pre (ops : Array Oper) (j : Nat) : List Nat :=
  match ops[j]? with
  | some o => (o.after.toList.filter (Region.binds .any)).map (·.on)
  | none => []

/-- Of the part: what an operation waits for, directly or not; and itself. -/
def anc (ops : Array Oper) (is : List Nat) (j : Nat) : List Nat :=
  is.reverse.foldl (fun A p => if A.any (fun a => (pre ops a).contains p) = true then p :: A else A) [j]

def odst (ops : Array Oper) (i : Nat) : Option Nat := (ops[i]?).bind (·.dst)
def olook (ops : Array Oper) (i : Nat) : List Nat :=
  match ops[i]? with
  | some o => looks (ops.toList.map (·.dst)) o
  | none => []

/-- No two of the operations write to one slot. -/
def dstOk (ops : Array Oper) : List Nat → Bool
  | [] => true
  | i :: is => (odst ops i).isSome && is.all (fun j => odst ops j != odst ops i) && is.all (fun j => j != i) && dstOk ops is

theorem dstOk_inj : ∀ {is : List Nat} {i j t : Nat}, dstOk ops is = true → i ∈ is → j ∈ is → odst ops i = some t → odst ops j = some t → i = j := by
  intro is
  induction is with
  | nil => intro i j t _ hi; cases hi
  | cons q is ih =>
    intro i j t hd hi hj h1 h2
    simp only [dstOk, Bool.and_eq_true, List.all_eq_true, bne_iff_ne, ne_eq] at hd
    obtain ⟨⟨⟨_, h4⟩, _⟩, h3⟩ := hd
    rcases List.mem_cons.1 hi with e | hi'
    · rcases List.mem_cons.1 hj with e' | hj'
      · rw [e, e']
      · subst e; exact absurd (h2.trans h1.symm) (h4 j hj')
    · rcases List.mem_cons.1 hj with e' | hj'
      · subst e'; exact absurd (h1.trans h2.symm) (h4 i hi')
      · exact ih h3 hi' hj' h1 h2

/-- Nothing is done ahead of what it waits for. -/
def Closed (ops : Array Oper) (is : List Nat) (l : Array Bool) : Prop := ∀ i ∈ is, gl l i = true → ∀ p ∈ pre ops i, gl l p = true

theorem anc_done {is : List Nat} {l : Array Bool} {j : Nat} (hc : Closed ops is l) (hj : ∀ p ∈ pre ops j, gl l p = true) : ∀ a ∈ anc ops is j, a = j ∨ gl l a = true := by
  have key : ∀ (ps : List Nat) (A : List Nat), (∀ p ∈ ps, p ∈ is) → (∀ a ∈ A, (a = j ∨ gl l a = true) ∧ ∀ p ∈ pre ops a, gl l p = true) →
      ∀ a ∈ ps.foldl (fun A p => if A.any (fun a => (pre ops a).contains p) = true then p :: A else A) A, a = j ∨ gl l a = true := by
    intro ps
    induction ps with
    | nil => intro A _ hA a ha; exact (hA a ha).1
    | cons p ps ih =>
      intro A hp hA
      simp only [List.foldl_cons]
      refine ih _ (fun q hq => hp q (List.mem_cons_of_mem _ hq)) ?_
      intro a ha
      split at ha
      · rename_i hany
        rcases List.mem_cons.1 ha with e | ha'
        · subst e
          obtain ⟨b, hb, hbp⟩ := List.any_eq_true.1 hany
          have hg : gl l a = true := (hA b hb).2 a (by simpa using hbp)
          exact ⟨.inr hg, hc a (hp a (List.mem_cons_self ..)) hg⟩
        · exact hA a ha'
      · exact hA a ha
  exact key _ _ (fun p hp => List.mem_reverse.1 hp) (fun a ha => by
    obtain rfl := List.mem_singleton.1 ha
    exact ⟨.inl rfl, hj⟩)

theorem gl_set {l : Array Bool} {i j : Nat} (hi : i < l.size) : gl (l.setIfInBounds i true) j = if j = i then true else gl l j := by
  unfold gl
  by_cases e : j = i
  · subst e; simp [hi]
  · rw [if_neg e, getD_set_ne false (Ne.symm e)]

def preOk (ops : Array Oper) (l : Array Bool) : List Nat → List Nat → Bool
  | _, [] => true
  | done, i :: is => (pre ops i).all (fun p => gl l p || done.contains p) && preOk ops l (done ++ [i]) is

theorem preOk_spec {l : Array Bool} : ∀ (is done : List Nat), preOk ops l done is = true → ∀ k i, is[k]? = some i → ∀ p ∈ pre ops i, gl l p = true ∨ p ∈ done ++ is.take k := by
  intro is
  induction is with
  | nil => intro done _ k i hk; simp at hk
  | cons j is ih =>
    intro done h k i hk p hp
    simp only [preOk, Bool.and_eq_true, List.all_eq_true, Bool.or_eq_true, List.contains_iff_mem] at h
    cases k with
    | zero =>
      simp only [List.getElem?_cons_zero, Option.some.injEq] at hk
      subst hk
      simpa using h.1 p hp
    | succ k =>
      simp only [List.getElem?_cons_succ] at hk
      have := ih _ h.2 k i hk p hp
      simpa [List.append_assoc] using this

end
end Go.Fw

/- Regions whose order is drawn: operations that only yield a value may be put off. -/
set_option linter.unusedSimpArgs false
set_option linter.unusedVariables false
namespace Go.Fw

theorem gl_ext {l l' : Array Bool} (hs : l.size = l'.size) (h : ∀ j, j < l.size → gl l j = gl l' j) : l = l' := by
  apply Array.ext hs
  intro j h1 h2
  have := h j h1
  simpa [gl, h1, h2] using this

def cnt (l : Array Bool) (is : List Nat) : Nat := (is.filter fun i => !gl l i).length

theorem cnt_set {l : Array Bool} {i : Nat} (hi : i < l.size) (hl : gl l i = false) : ∀ {is : List Nat}, is.Nodup → i ∈ is → cnt (l.setIfInBounds i true) is + 1 = cnt l is := by
  have hno : ∀ is : List Nat, i ∉ is → cnt (l.setIfInBounds i true) is = cnt l is := by
    intro is h
    unfold cnt
    congr 1
    apply List.filter_congr
    intro j hj
    rw [gl_set hi, if_neg (fun e : j = i => h (e ▸ hj))]
  intro is
  induction is with
  | nil => intro _ h; cases h
  | cons j is ih =>
    intro hn hm
    obtain ⟨h1, h2⟩ := List.nodup_cons.1 hn
    by_cases e : j = i
    · subst e
      have := hno is h1
      unfold cnt at this ⊢
      rw [List.filter_cons, List.filter_cons, gl_set hi, if_pos rfl, hl]
      simpa using this
    · have hm' : i ∈ is := (List.mem_cons.1 hm).resolve_left (fun h => e h.symm)
      have := ih h2 hm'
      unfold cnt at this ⊢
      rw [List.filter_cons, List.filter_cons, gl_set hi, if_neg e]
      split
      · simp only [List.length_cons]; omega
      · exact this

theorem cnt_zero {l : Array Bool} {is : List Nat} (h : cnt l is = 0) : ∀ i ∈ is, gl l i = true := by
  intro i hi
  have h0 : is.filter (fun i => !gl l i) = [] := List.eq_nil_of_length_eq_zero h
  have := List.filter_eq_nil_iff.1 h0 i hi
  simpa using this

/-- The state with some slots forgotten. -/
def hid (ts : List Nat) (s : St) : St := { s with env := ts.map (fun t => (t, V.any)) ++ s.env }

theorem getE_hid (ts : List Nat) (s : St) (t : Nat) : getE (hid ts s).env t = if t ∈ ts then .any else getE s.env t := by
  unfold hid
  simp only
  induction ts with
  | nil => simp
  | cons u ts ih =>
    simp only [List.map_cons, List.cons_append, getE, ih, List.mem_cons]
    by_cases e : u = t
    · subst e; simp
    · rw [if_neg e]
      by_cases h : t ∈ ts
      · simp [h]
      · simp [h, Ne.symm e]

section
variable {P : Program} {TT : Nat → Option TI} {ops : Array Oper} {x : Ctx} {n : Nat}

/-- The slots of what is still put off. -/
def tsOf (ops : Array Oper) (l : Array Bool) (pend : List Nat) : List Nat := (pend.filter fun i => !gl l i).filterMap (odst ops)

theorem mem_tsOf {l : Array Bool} {pend : List Nat} {t : Nat} : t ∈ tsOf ops l pend ↔ ∃ i ∈ pend, gl l i = false ∧ odst ops i = some t := by
  simp only [tsOf, List.mem_filterMap, List.mem_filter, Bool.not_eq_true']
  exact ⟨fun ⟨i, ⟨h1, h2⟩, h3⟩ => ⟨i, h1, h2, h3⟩, fun ⟨i, h1, h2, h3⟩ => ⟨i, ⟨h1, h2⟩, h3⟩⟩

/-- The operation may be put off: whenever it comes, it yields what its slot is said to hold. -/
def Vld (TT : Nat → Option TI) (P : Program) (ops : Array Oper) (ls : List Nat) (s : St) (i : Nat) : Prop :=
  ∃ o d, ops[i]? = some o ∧ o.dst = some d ∧ ∀ s', (readsB o.op = true → i ∉ ls → ∃ os, s'.objs = s.objs ++ os) → (∀ t ∈ olook ops i, getE s'.env t = getE s.env t) →
    aopqX TT P (ops.toList.map (·.dst)) s' o (· = getE s.env d)

/-- From the state on, with the operations pend put off, the rest of the region ends as asked, in any order. -/
def JA (TT : Nat → Option TI) (P : Program) (ops : Array Oper) (ls : List Nat) (x : Ctx) (n : Nat) (K : St → Prop) (f : Nat) (L0 : Array Bool) (pend : List Nat) (s : St) : Prop :=
  L0.size = ops.size → (∀ i ∈ pend, gl L0 i = false ∧ Vld TT P ops ls s i) → ∀ l : Array Bool, l.size = ops.size → (∀ j, j ∉ pend → gl l j = gl L0 j) → Closed ops pend l →
  ∀ (Q : Exit → Act → World → Prop), (∀ a w, (∃ s', K s' ∧ CC x s' a w) → Q .normal a w) → ∀ a w, a.tmps.size = n → CC x (hid (tsOf ops l pend) s) a w →
  wpAny P .any ops Q (f + cnt l pend) l a w

def hits (ops : Array Oper) (i k : Nat) : Bool := (olook ops i).any fun t => odst ops k == some t

theorem hits_of {i k t : Nat} (ht : t ∈ olook ops i) (hk : odst ops k = some t) : hits ops i k = true := List.any_eq_true.2 ⟨t, ht, by simp [hk]⟩

def lookOk (ops : Array Oper) (all : List Nat) : List Nat → List Nat → Bool
  | _, [] => true
  | done, i :: is => done.all (fun k => !hits ops i k || (pre ops i).contains k || (anc ops all i).contains k) && (i :: is).all (fun k => !hits ops i k) && lookOk ops all (done ++ [i]) is

def pendOk (ops : Array Oper) (L0 : Array Bool) (pend : List Nat) : Bool := pend.all (fun i => decide (i < ops.size)) && dstOk ops pend && lookOk ops pend [] pend && preOk ops L0 [] pend

theorem pre_anc {is : List Nat} {j p : Nat} (hp : p ∈ pre ops j) (hm : p ∈ is) : p ∈ anc ops is j := by
  have key : ∀ (ps A : List Nat), p ∈ ps → j ∈ A → p ∈ ps.foldl (fun A p => if A.any (fun a => (pre ops a).contains p) = true then p :: A else A) A := by
    have keep : ∀ (ps A : List Nat) (q : Nat), q ∈ A → q ∈ ps.foldl (fun A p => if A.any (fun a => (pre ops a).contains p) = true then p :: A else A) A := by
      intro ps
      induction ps with
      | nil => intro A q h; exact h
      | cons r ps ih =>
        intro A q h
        simp only [List.foldl_cons]
        refine ih _ q ?_
        split
        · exact List.mem_cons_of_mem _ h
        · exact h
    intro ps
    induction ps with
    | nil => intro A h; cases h
    | cons r ps ih =>
      intro A h hj
      simp only [List.foldl_cons]
      rcases List.mem_cons.1 h with e | h'
      · refine keep _ _ _ ?_
        subst e
        rw [if_pos (List.any_eq_true.2 ⟨j, hj, by simpa using hp⟩)]
        exact List.mem_cons_self ..
      · refine ih _ h' ?_
        split
        · exact List.mem_cons_of_mem _ hj
        · exact hj
  exact key _ _ (List.mem_reverse.2 hm) (List.mem_singleton.2 rfl)

theorem lookOk_spec {all : List Nat} : ∀ (is done : List Nat), (∀ q ∈ done ++ is, q ∈ all) → lookOk ops all done is = true → ∀ i ∈ is, ∀ k ∈ done ++ is, hits ops i k = true → k ∈ anc ops all i ∧ hits ops i i = false := by
  intro is
  induction is with
  | nil => intro done _ _ i hi; cases hi
  | cons j is ih =>
    intro done hall h i hi k hk hh
    simp only [lookOk, Bool.and_eq_true, List.all_eq_true, Bool.or_eq_true, Bool.not_eq_true', List.contains_iff_mem] at h
    obtain ⟨⟨h1, h2⟩, h3⟩ := h
    rcases List.mem_cons.1 hi with e | hi'
    · subst e
      have hself := h2 i (List.mem_cons_self ..)
      rcases List.mem_append.1 hk with hd | hd
      · rcases h1 k hd with (hf | hf) | hf
        · rw [hh] at hf; cases hf
        · exact ⟨pre_anc hf (hall k (List.mem_append.2 (.inl hd))), hself⟩
        · exact ⟨hf, hself⟩
      · have := h2 k hd
        rw [hh] at this; cases this
    · exact ih _ (fun q hq => hall q (by simpa [List.append_assoc] using hq)) h3 i hi' k (by simpa [List.append_assoc] using hk) hh

theorem dstOk_nodup : ∀ {is : List Nat}, dstOk ops is = true → is.Nodup := by
  intro is
  induction is with
  | nil => intro _; exact List.nodup_nil
  | cons i is ih =>
    intro hd
    simp only [dstOk, Bool.and_eq_true, List.all_eq_true, bne_iff_ne, ne_eq] at hd
    obtain ⟨⟨⟨_, _⟩, h2⟩, h3⟩ := hd
    exact List.nodup_cons.2 ⟨fun hm => h2 i hm rfl, ih h3⟩

/-- What is known of the operations put off. -/
structure PendOk (ops : Array Oper) (L0 : Array Bool) (pend : List Nat) : Prop where
  lt : ∀ i ∈ pend, i < ops.size
  dst : dstOk ops pend = true
  look : ∀ i ∈ pend, ∀ k ∈ pend, hits ops i k = true → k ∈ anc ops pend i ∧ hits ops i i = false
  pre : preOk ops L0 [] pend = true

theorem pendOk_spec {L0 : Array Bool} {pend : List Nat} (h : pendOk ops L0 pend = true) : PendOk ops L0 pend := by
  simp only [pendOk, Bool.and_eq_true, List.all_eq_true, decide_eq_true_eq] at h
  obtain ⟨⟨⟨h1, h2⟩, h3⟩, h4⟩ := h
  exact ⟨h1, h2, fun i hi k hk hh => lookOk_spec pend [] (fun q hq => by simpa using hq) h3 i hi k (by simpa using hk) hh, h4⟩

theorem ready_spec {l : Array Bool} (hs : l.size = ops.size) {i : Nat} (hi : i ∈ Region.ready .any ops l) : ∃ o, ops[i]? = some o ∧ i < l.size ∧ gl l i = false ∧ ∀ p ∈ pre ops i, gl l p = true := by
  obtain ⟨hu, o, ho, hall⟩ := mem_ready.1 hi
  have hlt : i < l.size := by rw [hs]; exact (Array.getElem?_eq_some_iff.1 ho).1
  refine ⟨o, ho, hlt, by simpa [gl, hlt] using hu, fun p hp => ?_⟩
  simp only [Go.Fw.pre, ho, List.mem_map, List.mem_filter] at hp
  obtain ⟨e, ⟨he, hbd⟩, rfl⟩ := hp
  exact hall e (by simpa using he) hbd

theorem ready_of {l : Array Bool} (hs : l.size = ops.size) {i : Nat} (hlt : i < ops.size) (hu : gl l i = false) (hp : ∀ p ∈ pre ops i, gl l p = true) : i ∈ Region.ready .any ops l := by
  rw [mem_ready]
  have hlt' : i < l.size := by rw [hs]; exact hlt
  refine ⟨by simpa [gl, hlt'] using hu, ops[i], Array.getElem?_eq_getElem hlt, fun e he hbd => ?_⟩
  show gl l e.on = true
  exact hp _ (by
    simp only [Go.Fw.pre, Array.getElem?_eq_getElem hlt, List.mem_map, List.mem_filter]
    exact ⟨e, ⟨by simpa using he, hbd⟩, rfl⟩)

/-- Of the operations put off one is ready. -/
theorem pend_ready {L0 l : Array Bool} {pend : List Nat} (hP : PendOk ops L0 pend) (hs : l.size = ops.size) (hl0 : ∀ p, gl L0 p = true → gl l p = true) (hc : cnt l pend ≠ 0) :
    ∃ i, i ∈ Region.ready .any ops l := by
  cases hf : pend.findIdx? (fun i => !gl l i) with
  | none =>
    rw [List.findIdx?_eq_none_iff] at hf
    refine absurd ?_ hc
    unfold cnt
    rw [List.filter_eq_nil_iff.2 (fun i hi => by have := hf i hi; simpa using this)]
    rfl
  | some k =>
    rw [List.findIdx?_eq_some_iff_getElem] at hf
    obtain ⟨hk, hun, hbef⟩ := hf
    have hmem := List.getElem_mem hk
    refine ⟨pend[k], ready_of hs (hP.lt _ hmem) (by simpa using hun) fun p hp => ?_⟩
    rcases preOk_spec pend [] hP.pre k _ (List.getElem?_eq_getElem hk) _ hp with hg | hg
    · exact hl0 _ hg
    · simp only [List.nil_append] at hg
      obtain ⟨q, hq, e2⟩ := List.mem_iff_getElem.1 hg
      simp only [List.length_take] at hq
      have := hbef q (by omega)
      rw [List.getElem_take] at e2
      rw [← e2]
      simpa using this

/-- One of the operations that were put off. -/
theorem pend_step {ls : List Nat} (hT : TOk P TT) (hb : regB n ops.toList = true) {L0 l : Array Bool} {pend : List Nat} {s : St} (hP : PendOk ops L0 pend) (hs : l.size = ops.size) (hcl : Closed ops pend l)
    (hV : ∀ i ∈ pend, Vld TT P ops ls s i) {i : Nat} (hi : i ∈ Region.ready .any ops l) (hm : i ∈ pend) {Q : Exit → Act → World → Prop} {a : Act} {w : World} (hn : a.tmps.size = n)
    (hC : CC x (hid (tsOf ops l pend) s) a w) {K : Act → World → Prop}
    (hK : ∀ a' w', a'.tmps.size = n → CC x (hid (tsOf ops (l.setIfInBounds i true) pend) s) a' w' → Closed ops pend (l.setIfInBounds i true) → cnt (l.setIfInBounds i true) pend + 1 = cnt l pend → K a' w') :
    wpOp P ops Q i K a w := by
  obtain ⟨o, ho, hlt, hun, hps⟩ := ready_spec hs hi
  obtain ⟨o', d, ho', hd, hY⟩ := hV i hm
  obtain rfl : o' = o := by rw [ho] at ho'; exact (Option.some.inj ho').symm
  have hod : odst ops i = some d := by simp [odst, ho, hd]
  have hY := hY (hid (tsOf ops l pend) s) (fun _ _ => ⟨[], by rw [List.append_nil]; rfl⟩) (fun t ht => by
    rw [getE_hid, if_neg]
    intro hmt
    obtain ⟨k, hk, hku, hkt⟩ := mem_tsOf.1 hmt
    obtain ⟨h1, h2⟩ := hP.look i hm k hk (hits_of ht hkt)
    rcases anc_done hcl hps k h1 with e | e
    · subst e
      rw [hits_of ht hkt] at h2; cases h2
    · rw [hku] at e; cases e)
  have hsn : (hid (tsOf ops l pend) s).n = n := by obtain ⟨ok, ρ, hc⟩ := CC_iff.1 hC; rw [← hc.size]; exact hn
  refine wpOp_mono ?_ (aopqX_sound hT hb ho hsn hY hC)
  rintro a' w' ⟨hC', u, rfl⟩
  have hin : ∀ j, gl (l.setIfInBounds i true) j = if j = i then true else gl l j := fun j => gl_set hlt
  have hsim2 : Sim ((hid (tsOf ops l pend) s).put o'.dst (getE s.env d)) (hid (tsOf ops (l.setIfInBounds i true) pend) s) := by
    refine ⟨fun t => ?_, by rw [St.put_objs]; rfl, by rw [St.put_n]; rfl, by rw [St.put_fx]; rfl⟩
    rw [getE_put, getE_hid, getE_hid, hd]
    by_cases e : (some d : Option Nat) = some t
    · rw [if_pos e, if_neg]
      · rw [Option.some.inj e]
      · intro hmt
        obtain ⟨k, hk, hku, hkt⟩ := mem_tsOf.1 hmt
        have : k = i := dstOk_inj hP.dst hk hm hkt (hod.trans e)
        rw [hin, if_pos this] at hku
        cases hku
    · rw [if_neg e]
      have : t ∈ tsOf ops l pend ↔ t ∈ tsOf ops (l.setIfInBounds i true) pend := by
        rw [mem_tsOf, mem_tsOf]
        constructor
        · rintro ⟨k, hk, hku, hkt⟩
          refine ⟨k, hk, ?_, hkt⟩
          rw [hin, if_neg (fun e2 : k = i => e (by rw [← hod, ← e2]; exact hkt))]
          exact hku
        · rintro ⟨k, hk, hku, hkt⟩
          refine ⟨k, hk, ?_, hkt⟩
          rw [hin] at hku
          split at hku
          · cases hku
          · exact hku
      by_cases h : t ∈ tsOf ops l pend
      · rw [if_pos h, if_pos (this.1 h)]
      · rw [if_neg h, if_neg (fun h' => h (this.2 h'))]
  refine hK _ w' (by rw [put_size]; exact hn) (hsim2.cc hC') ?_ (cnt_set hlt hun (dstOk_nodup hP.dst) hm)
  intro j hj hg p hp
  have hgp : gl l p = true := by
    by_cases e : j = i
    · subst e; exact hps p hp
    · rw [hin, if_neg e] at hg; exact hcl j hj hg p hp
  rw [hin]
  split
  · rfl
  · exact hgp

end
end Go.Fw

/- Regions whose order is drawn: the steps, the plan by which a region is gone through, and the rule for code. -/
set_option linter.unusedSimpArgs false
set_option linter.unusedVariables false
namespace Go.Fw

def setAll (l : Array Bool) (is : List Nat) : Array Bool := is.foldl (fun l i => l.setIfInBounds i true) l

theorem setAll_size : ∀ (is : List Nat) (l : Array Bool), (setAll l is).size = l.size
  | [], _ => rfl
  | i :: is, l => by show (setAll (l.setIfInBounds i true) is).size = _; rw [setAll_size is]; simp

theorem gl_setAll {j : Nat} : ∀ (is : List Nat) (l : Array Bool), (∀ i ∈ is, i < l.size) → gl (setAll l is) j = if j ∈ is then true else gl l j
  | [], _, _ => by simp [setAll]
  | i :: is, l, h => by
    show gl (setAll (l.setIfInBounds i true) is) j = _
    rw [gl_setAll is _ (fun q hq => by simpa using h q (List.mem_cons_of_mem _ hq)), gl_set (h i (List.mem_cons_self ..))]
    by_cases e : j = i
    · subst e; simp
    · simp [e]

/-- An operation that leaves all objects as they are, or makes a new one. -/
def isExt (op : Op) : Bool := (callOf op).isNone && (match op with
  | .store .. => false
  | .call { callee := .builtin .append, .. } => false
  | _ => true)

section
variable {P : Program} {TT : Nat → Option TI} {ops : Array Oper} {ls : List Nat} {x : Ctx} {n : Nat}

theorem aop_ext {s : St} {dst : Option Nat} {op : Op} {K : St → Prop} (h : aop TT P s dst op K) : aop TT P s dst op fun s' => K s' ∧ (isExt op = true → ∃ os, s'.objs = s.objs ++ os) := by
  cases he : isExt op with
  | false => 
    refine aop_frame (K := K) rfl (fun _ _ => rfl) (fun objs v hk => ?_) h
    exact ⟨hk, fun hc => by cases hc⟩
  | true =>
    simp only [isExt, Bool.and_eq_true, Option.isNone_iff_eq_none] at he
    obtain ⟨hc, he⟩ := he
    cases hf : isEff op with
    | false =>
      rw [aop_pure hc hf] at h ⊢
      exact pv_mono (fun v hv => ⟨hv, fun _ => ⟨[], by rw [St.put_objs, List.append_nil]⟩⟩) h
    | true =>
      rw [aop_eff hc hf] at h ⊢
      unfold aef at h ⊢
      split at h
      · split at h
        · exact ⟨h, fun _ => ⟨[_], by rw [St.put_objs]; rfl⟩⟩
        · exact h.elim
      · split at h
        · exact ⟨h, fun _ => ⟨[_], by rw [St.put_objs]; rfl⟩⟩
        · exact h.elim
      · split at h
        · obtain ⟨h1, h2, h⟩ := h
          refine ⟨h1, h2, ?_⟩
          split at h
          · exact ⟨h, fun _ => ⟨[_], by rw [St.put_objs]; rfl⟩⟩
          · exact h.elim
        · exact h.elim
      · cases he
      · split at h
        · split at h
          · obtain ⟨h1, h2, h3, h4, h⟩ := h
            exact ⟨h1, h2, h3, h4, h, fun _ => ⟨[_], by rw [St.put_objs]; rfl⟩⟩
          · exact h.elim
        · exact h.elim
      · cases he
      · exact h.elim

theorem CC.forget {s s' : St} {a : Act} {w : World} (hE : ∀ t, getE s'.env t = .any ∨ getE s'.env t = getE s.env t) (ho : s'.objs = s.objs) (hn : s'.n = s.n) (hf : s'.fx = s.fx) (hC : CC x s a w) : CC x s' a w := by
  obtain ⟨ok, ρ, c1, c2, c3, c4, c5, c6⟩ := hC
  refine ⟨ok, ρ, by rw [ho]; exact c1, by rw [ho]; exact c2, fun j => ?_, by rw [hn]; exact c4, c5, by rw [hf]; exact c6⟩
  rcases hE j with e | e
  · rw [e]; exact .any
  · rw [e]; exact c3 j

/-- What is asked of an operation that is put off. -/
def quietOk (ops : Array Oper) (L0 : Array Bool) (pend : List Nat) (i : Nat) : Bool :=
  !gl L0 i && !pend.contains i && !hits ops i i && pend.all fun k => !hits ops k i && odst ops k != odst ops i

theorem JA.quietV {K : St → Prop} {f : Nat} {L0 : Array Bool} {pend : List Nat} {s : St} {i : Nat} {o : Oper} {v : V} (ho : ops[i]? = some o) (hd : o.dst.isSome = true) (hst : quietOk ops L0 pend i = true)
    (h1 : JA TT P ops ls x n K f L0 (pend ++ [i]) (s.put o.dst v)) (h2 : ∀ s', (readsB o.op = true → i ∉ ls → ∃ os, s'.objs = s.objs ++ os) → (∀ t ∈ looks (ops.toList.map (·.dst)) o, getE s'.env t = getE s.env t) →
      aopqX TT P (ops.toList.map (·.dst)) s' o (· = v)) : JA TT P ops ls x n K (f + 1) L0 pend s := by
  simp only [quietOk, Bool.and_eq_true, Bool.not_eq_true', List.all_eq_true, bne_iff_ne, ne_eq, List.contains_eq_mem, decide_eq_false_iff_not] at hst
  obtain ⟨⟨⟨hun, hnp⟩, hself⟩, hpk⟩ := hst
  obtain ⟨d, hd⟩ := Option.isSome_iff_exists.1 hd
  have hod : odst ops i = some d := by simp [odst, ho, hd]
  have hol : olook ops i = looks (ops.toList.map (·.dst)) o := by simp [olook, ho]
  have hput : ∀ t, t ≠ d → getE (s.put o.dst v).env t = getE s.env t := fun t ht => by rw [getE_put, hd, if_neg (fun e => ht (Option.some.inj e).symm)]
  have hputd : getE (s.put o.dst v).env d = v := by rw [getE_put, hd, if_pos rfl]
  intro hsz hV l hl hag hcl Q hQ a w hn hC
  have hli : gl l i = false := by rw [hag i hnp]; exact hun
  have hcnt : cnt l (pend ++ [i]) = cnt l pend + 1 := by simp [cnt, List.filter_append, hli]
  have := h1 hsz (fun j hj => ?_) l hl (fun j hj => hag j (fun hm => hj (List.mem_append.2 (.inl hm)))) ?_ Q hQ a w hn ?_
  · rw [hcnt] at this
    rwa [show f + 1 + cnt l pend = f + (cnt l pend + 1) by omega]
  · rcases List.mem_append.1 hj with hj | hj
    · obtain ⟨h3, ok, dk, h4, h5, h6⟩ := hV j hj
      obtain ⟨h7, h8⟩ := hpk j hj
      refine ⟨h3, ok, dk, h4, h5, fun s' hs hl' => ?_⟩
      have hdk : dk ≠ d := fun e => h8 (by rw [hod, ← e]; simp [odst, h4, h5])
      rw [hput dk hdk]
      refine h6 s' (by rw [St.put_objs] at hs; exact hs) fun t ht => ?_
      rw [hl' t ht, hput t (fun e => by rw [hits_of ht (by rw [e]; exact hod)] at h7; cases h7)]
    · obtain rfl := List.mem_singleton.1 hj
      refine ⟨hun, o, d, ho, hd, fun s' hs hl' => ?_⟩
      rw [hputd]
      refine h2 s' (by rw [St.put_objs] at hs; exact hs) fun t ht => ?_
      rw [← hol] at ht
      rw [hl' t ht, hput t (fun e => by rw [hits_of ht (by rw [e]; exact hod)] at hself; cases hself)]
  · intro j hj hg p hp
    rcases List.mem_append.1 hj with hj | hj
    · exact hcl j hj hg p hp
    · obtain rfl := List.mem_singleton.1 hj
      rw [hli] at hg; cases hg
  · refine hC.forget (fun t => ?_) (by show (s.put o.dst v).objs = s.objs; rw [St.put_objs]) (by show (s.put o.dst v).n = s.n; rw [St.put_n]) (by show (s.put o.dst v).fx = s.fx; rw [St.put_fx])
    rw [getE_hid, getE_hid]
    by_cases e : t ∈ tsOf ops l (pend ++ [i])
    · rw [if_pos e]; exact .inl rfl
    · rw [if_neg e]
      have htd : t ≠ d := fun e' => e (mem_tsOf.2 ⟨i, by simp, hli, by rw [e']; exact hod⟩)
      rw [if_neg (fun hm => e (by
        obtain ⟨k, hk, h9, h10⟩ := mem_tsOf.1 hm
        exact mem_tsOf.2 ⟨k, List.mem_append.2 (.inl hk), h9, h10⟩)), hput t htd]
      exact .inr rfl

theorem JA.quiet {K : St → Prop} {f : Nat} {L0 : Array Bool} {pend : List Nat} {s : St} {i : Nat} {o : Oper} (ho : ops[i]? = some o) (hd : o.dst.isSome = true) (hst : quietOk ops L0 pend i = true) (hls : i ∉ ls)
    (h : aopqX TT P (ops.toList.map (·.dst)) s o fun v => JA TT P ops ls x n K f L0 (pend ++ [i]) (s.put o.dst v)) : JA TT P ops ls x n K (f + 1) L0 pend s := by
  obtain ⟨v, h1, h2⟩ := aopqX_det h
  exact JA.quietV ho hd hst h1 fun s' hr hl => h2 s' (fun e => hr e hls) hl
theorem JA.quietE {K : St → Prop} {f : Nat} {L0 : Array Bool} {pend : List Nat} {s : St} {i : Nat} {o : Oper} (ho : ops[i]? = some o) (hd : o.dst.isSome = true) (hst : quietOk ops L0 pend i = true)
    (h : aopqE TT s o fun v => JA TT P ops ls x n K f L0 (pend ++ [i]) (s.put o.dst v)) : JA TT P ops ls x n K (f + 1) L0 pend s := by
  obtain ⟨v, h1, h2⟩ := aopqE_det (P := P) (ds := ops.toList.map (·.dst)) h
  exact JA.quietV ho hd hst h1 fun s' _ hl => h2 s' hl

/-- What is asked of an operation that comes now, when the operations pend are put off. -/
def nowOk (ops : Array Oper) (ls : List Nat) (L0 : Array Bool) (pend : List Nat) (e : Nat) : Bool :=
  match ops[e]? with
  | some o => o.guard.isNone && !gl L0 e && !pend.contains e && pend.all (fun k =>
      (anc ops pend e).contains k || (!hits ops e k && !hits ops k e && odst ops k != odst ops e && (isExt o.op || ls.contains k || (match ops[k]? with | some ok => !readsB ok.op | none => false))))
  | none => false

def later (ops : Array Oper) (pend : List Nat) (e : Nat) : List Nat := pend.filter fun k => !(anc ops pend e).contains k
def done (ops : Array Oper) (pend : List Nat) (e : Nat) : List Nat := e :: pend.filter fun k => (anc ops pend e).contains k

def allOk (ops : Array Oper) (L0 : Array Bool) (pend es : List Nat) : Bool :=
  pendOk ops L0 pend && (List.range ops.size).all (fun j => gl L0 j || pend.contains j || es.contains j || (pre ops j).any fun p => !gl L0 p && !pend.contains p) &&
  (es.isEmpty || es.any fun e => decide (e < ops.size) && (pre ops e).all fun p => gl L0 p || pend.contains p)

theorem JA.fin {K : St → Prop} {f : Nat} {L0 : Array Bool} {pend : List Nat} {s : St} (hT : TOk P TT) (hb : regB n ops.toList = true) (hall : allOk ops L0 pend [] = true) (hK : K s) : JA TT P ops ls x n K f L0 pend s := by
  simp only [allOk, Bool.and_eq_true, List.all_eq_true, List.mem_range, Bool.or_eq_true, List.contains_iff_mem, List.not_mem_nil, or_false] at hall
  obtain ⟨⟨hp, hj⟩, _⟩ := hall
  have hP := pendOk_spec hp
  intro hsz hV l hl hag hcl Q hQ a w hn hC
  have hL0 : ∀ (l : Array Bool), (∀ j, j ∉ pend → gl l j = gl L0 j) → ∀ p, gl L0 p = true → gl l p = true := fun l hag p hp => by
    by_cases hm : p ∈ pend
    · rw [(hV p hm).1] at hp; cases hp
    · rw [hag p hm]; exact hp
  have main : ∀ (r : Nat) (l : Array Bool), l.size = ops.size → (∀ j, j ∉ pend → gl l j = gl L0 j) → Closed ops pend l → cnt l pend = r → ∀ a w, a.tmps.size = n → CC x (hid (tsOf ops l pend) s) a w →
      wpAny P .any ops Q (f + r) l a w := by
    intro r
    induction r with
    | zero =>
      intro l hl hag hcl hc a w hn hC
      have hdone := cnt_zero hc
      refine wpAny_done ?_ (hQ a w ⟨s, hK, ?_⟩) _
      · apply List.eq_nil_iff_forall_not_mem.2
        intro i hi
        obtain ⟨o, ho, hlt, hun, hps⟩ := ready_spec hl hi
        have hin : i ∈ pend ∨ gl l i = true := by
          by_cases hm : i ∈ pend
          · exact .inl hm
          · right
            have hlt' : i < ops.size := by rw [← hl]; exact hlt
            rcases hj i hlt' with (hc' | hc') | hc'
            · exact hL0 l hag i hc'
            · exact absurd hc' hm
            · obtain ⟨p, hp, hc'⟩ := List.any_eq_true.1 hc'
              simp only [Bool.and_eq_true, Bool.not_eq_true', List.contains_eq_mem, decide_eq_false_iff_not] at hc'
              have := hps p hp
              rw [hag p hc'.2, hc'.1] at this
              cases this
        rcases hin with hm | hm
        · rw [hdone i hm] at hun; cases hun
        · rw [hm] at hun; cases hun
      · have : Sim (hid (tsOf ops l pend) s) s := by
          refine ⟨fun t => ?_, rfl, rfl, rfl⟩
          rw [getE_hid, if_neg]
          intro hm
          obtain ⟨k, hk, h1, _⟩ := mem_tsOf.1 hm
          rw [hdone k hk] at h1; cases h1
        exact this.cc hC
    | succ r ih =>
      intro l hl hag hcl hc a w hn hC
      refine ⟨fun hnil => ?_, fun i hi => ?_⟩
      · obtain ⟨i, hi⟩ := pend_ready hP hl (hL0 l hag) (by omega)
        rw [hnil] at hi; cases hi
      · have hm : i ∈ pend := by
          obtain ⟨o, ho, hlt, hun, hps⟩ := ready_spec hl hi
          by_cases hm : i ∈ pend
          · exact hm
          · exfalso
            have hlt' : i < ops.size := by rw [← hl]; exact hlt
            rcases hj i hlt' with (hc' | hc') | hc'
            · rw [hL0 l hag i hc'] at hun; cases hun
            · exact hm hc'
            · obtain ⟨p, hp, hc'⟩ := List.any_eq_true.1 hc'
              simp only [Bool.and_eq_true, Bool.not_eq_true', List.contains_eq_mem, decide_eq_false_iff_not] at hc'
              have := hps p hp
              rw [hag p hc'.2, hc'.1] at this
              cases this
        obtain ⟨o, ho, hlt, hun, hps⟩ := ready_spec hl hi
        refine pend_step hT hb hP hl hcl (fun i hi => (hV i hi).2) hi hm hn hC fun a' w' h1 h2 h3 h4 => ?_
        refine ih _ (by simp [hl]) (fun j hj => ?_) h3 (by omega) a' w' h1 h2
        rw [gl_set hlt, if_neg (fun e : j = i => hj (e ▸ hm))]
        exact hag j hj
  exact main _ l hl hag hcl rfl a w hn hC

theorem JA.now {K : St → Prop} {f : Nat} {L0 : Array Bool} {pend es : List Nat} {s : St} (hT : TOk P TT) (hb : regB n ops.toList = true) (hall : allOk ops L0 pend es = true) (hne : es ≠ [])
    (h : ∀ e ∈ es, nowOk ops ls L0 pend e = true ∧ ∃ o, ops[e]? = some o ∧ aop TT P s o.dst o.op fun s' => JA TT P ops ls x n K f (setAll L0 (done ops pend e)) (later ops pend e) s') : JA TT P ops ls x n K (f + 1) L0 pend s := by
  simp only [allOk, Bool.and_eq_true, List.all_eq_true, List.mem_range, Bool.or_eq_true, List.contains_iff_mem] at hall
  obtain ⟨⟨hp, hj⟩, hfst⟩ := hall
  have hP := pendOk_spec hp
  intro hsz hV l hl hag hcl Q hQ a w hn hC
  have hL0 : ∀ (l : Array Bool), (∀ j, j ∉ pend → gl l j = gl L0 j) → ∀ p, gl L0 p = true → gl l p = true := fun l hag p hp => by
    by_cases hm : p ∈ pend
    · rw [(hV p hm).1] at hp; cases hp
    · rw [hag p hm]; exact hp
  have main : ∀ (r : Nat) (l : Array Bool), l.size = ops.size → (∀ j, j ∉ pend → gl l j = gl L0 j) → Closed ops pend l → cnt l pend = r → ∀ a w, a.tmps.size = n → CC x (hid (tsOf ops l pend) s) a w →
      wpAny P .any ops Q (f + r + 1) l a w := by
    intro r
    induction r using Nat.strongRecOn with
    | _ r ih =>
      intro l hl hag hcl hc a w hn hC
      refine ⟨fun hnil => ?_, fun i hi => ?_⟩
      · exfalso
        by_cases hz : cnt l pend = 0
        · have hdone := cnt_zero hz
          rcases hfst with hfst | hfst
          · exact hne (List.isEmpty_iff.1 hfst)
          · obtain ⟨e, he, hfst⟩ := List.any_eq_true.1 hfst
            simp only [Bool.and_eq_true, decide_eq_true_eq, List.all_eq_true, Bool.or_eq_true, List.contains_iff_mem] at hfst
            obtain ⟨hn1, o, ho, _⟩ := h e he
            simp only [nowOk, ho, Bool.and_eq_true, Bool.not_eq_true', List.contains_eq_mem, decide_eq_false_iff_not] at hn1
            have hun : gl l e = false := by rw [hag e hn1.1.2]; exact hn1.1.1.2
            have := ready_of hl hfst.1 hun (fun p hp => by
              rcases hfst.2 p hp with hg | hg
              · exact hL0 l hag p hg
              · exact hdone p hg)
            rw [hnil] at this; cases this
        · obtain ⟨i, hi⟩ := pend_ready hP hl (hL0 l hag) hz
          rw [hnil] at hi; cases hi
      · obtain ⟨o, ho, hlt, hun, hps⟩ := ready_spec hl hi
        by_cases hm : i ∈ pend
        · cases r with
          | zero => rw [cnt_zero hc i hm] at hun; cases hun
          | succ r =>
            refine pend_step hT hb hP hl hcl (fun i hi => (hV i hi).2) hi hm hn hC fun a' w' h1 h2 h3 h4 => ?_
            refine ih r (by omega) _ (by simp [hl]) (fun j hj => ?_) h3 (by omega) a' w' h1 h2
            rw [gl_set hlt, if_neg (fun e : j = i => hj (e ▸ hm))]
            exact hag j hj
        · have hes : i ∈ es := by
            have hlt' : i < ops.size := by rw [← hl]; exact hlt
            rcases hj i hlt' with ((hc' | hc') | hc') | hc'
            · rw [hL0 l hag i hc'] at hun; cases hun
            · exact absurd hc' hm
            · exact hc'
            · obtain ⟨p, hp, hc'⟩ := List.any_eq_true.1 hc'
              simp only [Bool.and_eq_true, Bool.not_eq_true', List.contains_eq_mem, decide_eq_false_iff_not] at hc'
              have := hps p hp
              rw [hag p hc'.2, hc'.1] at this
              cases this
          obtain ⟨hn1, o', ho', hrun⟩ := h i hes
          obtain rfl : o' = o := by rw [ho] at ho'; exact (Option.some.inj ho').symm
          simp only [nowOk, ho, Bool.and_eq_true, Bool.not_eq_true', List.contains_eq_mem, decide_eq_false_iff_not, List.all_eq_true, Bool.or_eq_true, decide_eq_true_eq, bne_iff_ne, ne_eq, Option.isNone_iff_eq_none] at hn1
          obtain ⟨⟨⟨hg, hun0⟩, _⟩, hpk⟩ := hn1
          have hod : odst ops i = o'.dst := by simp [odst, ho]
          have hancl : ∀ k ∈ anc ops pend i, k ∈ pend → gl l k = true := fun k hk hkp => (anc_done hcl hps k hk).resolve_left (fun e => hm (e ▸ hkp))
          have hpka : ∀ k ∈ pend, k ∉ anc ops pend i → hits ops i k = false ∧ hits ops k i = false ∧ odst ops k ≠ odst ops i ∧ (isExt o'.op = true ∨ k ∈ ls ∨ ∀ ok, ops[k]? = some ok → readsB ok.op = false) := by
            intro k hk hna
            rcases hpk k hk with h1 | h1
            · exact absurd h1 hna
            · refine ⟨h1.1.1.1, h1.1.1.2, h1.1.2, ?_⟩
              rcases h1.2 with (h2 | h2) | h2
              · exact .inl h2
              · exact .inr (.inl h2)
              · refine .inr (.inr fun ok hok => ?_)
                rw [hok] at h2
                simpa using h2
          have hpk' : ∀ k ∈ pend, gl l k = false → k ∉ anc ops pend i ∧ hits ops i k = false ∧ hits ops k i = false ∧ odst ops k ≠ odst ops i ∧ (isExt o'.op = true ∨ k ∈ ls ∨ ∀ ok, ops[k]? = some ok → readsB ok.op = false) := by
            intro k hk hku
            have hna : k ∉ anc ops pend i := fun ha => by rw [hancl k ha hk] at hku; cases hku
            exact ⟨hna, hpka k hk hna⟩
          have hsn : (hid (tsOf ops l pend) s).n = n := by obtain ⟨ok, ρ, hc⟩ := CC_iff.1 hC; rw [← hc.size]; exact hn
          have hlook : ∀ t ∈ olook ops i, getE (hid (tsOf ops l pend) s).env t = getE s.env t := by
            intro t ht
            rw [getE_hid, if_neg]
            intro hmt
            obtain ⟨k, hk, hku, hkt⟩ := mem_tsOf.1 hmt
            have := (hpk' k hk hku).2.1
            rw [hits_of ht hkt] at this; cases this
          let l' := l.setIfInBounds i true
          have hin : ∀ j, gl l' j = if j = i then true else gl l j := fun j => gl_set hlt
          have hmemL : ∀ k, k ∈ later ops pend i ↔ k ∈ pend ∧ k ∉ anc ops pend i := fun k => by simp [later]
          have hmemD : ∀ k, k ∈ done ops pend i ↔ k = i ∨ (k ∈ pend ∧ k ∈ anc ops pend i) := fun k => by simp [done]
          have hbd : ∀ k ∈ done ops pend i, k < L0.size := fun k hk => by
            rw [hsz]
            rcases (hmemD k).1 hk with e | e
            · rw [e, ← hl]; exact hlt
            · exact hP.lt k e.1
          have hts : ∀ t, t ∈ tsOf ops l' (later ops pend i) ↔ t ∈ tsOf ops l pend := by
            intro t
            rw [mem_tsOf, mem_tsOf]
            constructor
            · rintro ⟨k, hk, hku, hkt⟩
              rw [hin] at hku
              split at hku
              · cases hku
              · exact ⟨k, ((hmemL k).1 hk).1, hku, hkt⟩
            · rintro ⟨k, hk, hku, hkt⟩
              refine ⟨k, (hmemL k).2 ⟨hk, (hpk' k hk hku).1⟩, ?_, hkt⟩
              rw [hin, if_neg (fun e : k = i => hm (e ▸ hk))]
              exact hku
          have hcnt : cnt l' (later ops pend i) = r := by
            rw [← hc]
            unfold cnt later
            rw [List.filter_filter]
            congr 1
            apply List.filter_congr
            intro k hk
            rw [hin, if_neg (fun e : k = i => hm (e ▸ hk))]
            cases hku : gl l k with
            | true => simp
            | false => simpa using (hpk' k hk hku).1
          have hrun2 := aop_frame (s := s) (s' := hid (tsOf ops l pend) s) (K' := fun s'' => ∃ s', Sim s'' (hid (tsOf ops l' (later ops pend i)) s') ∧ JA TT P ops ls x n K f (setAll L0 (done ops pend i)) (later ops pend i) s' ∧
              (∀ k ∈ later ops pend i, Vld TT P ops ls s' k)) rfl (ev_same fun t ht => hlook t (by simp only [olook, ho]; exact List.mem_append.2 (.inl ht))) (fun objs v hk => ?_) (aop_ext hrun)
          · refine wpOp_mono ?_ (aopg_sound hT hb ho hsn (by unfold aopg; rw [hg]; exact hrun2) hC)
            rintro a' w' ⟨s'', u, ⟨s', hsim, hJ, hV'⟩, hC', rfl⟩
            rw [← hcnt]
            refine hJ (by rw [setAll_size]; exact hsz) (fun k hk => ⟨?_, hV' k hk⟩) l' (by simp [l', hl]) (fun k hk => ?_) ?_ Q hQ _ w' (by rw [put_size]; exact hn) (hsim.cc hC')
            · have hk2 := (hmemL k).1 hk
              rw [gl_setAll _ _ hbd, if_neg]
              · exact (hV k hk2.1).1
              · intro hd
                rcases (hmemD k).1 hd with e | e
                · exact hm (e ▸ hk2.1)
                · exact hk2.2 e.2
            · rw [hin, gl_setAll _ _ hbd]
              by_cases e : k = i
              · rw [if_pos e, if_pos ((hmemD k).2 (.inl e))]
              · rw [if_neg e]
                by_cases hkp : k ∈ pend
                · have ha : k ∈ anc ops pend i := by
                    by_cases ha : k ∈ anc ops pend i
                    · exact ha
                    · exact absurd ((hmemL k).2 ⟨hkp, ha⟩) hk
                  rw [if_pos ((hmemD k).2 (.inr ⟨hkp, ha⟩)), hancl k ha hkp]
                · rw [if_neg (fun hd => by
                    rcases (hmemD k).1 hd with e2 | e2
                    · exact e e2
                    · exact hkp e2.1)]
                  exact hag k hkp
            · intro k hk hgk p hp
              have hk2 := (hmemL k).1 hk
              rw [hin, if_neg (fun e : k = i => hm (e ▸ hk2.1))] at hgk
              rw [hin]
              split
              · rfl
              · exact hcl k hk2.1 hgk p hp
          · obtain ⟨hk1, hk2⟩ := hk
            refine ⟨({ s with objs := objs } : St).put o'.dst v, ⟨fun t => ?_, ?_, ?_, ?_⟩, hk1, fun k hk => ?_⟩
            · rw [getE_hid, getE_put, getE_put]
              show (if o'.dst = some t then v else getE (hid (tsOf ops l pend) s).env t) = _
              rw [getE_hid]
              by_cases e : o'.dst = some t
              · rw [if_pos e, if_pos e, if_neg]
                intro hmt
                obtain ⟨k, hk, hku, hkt⟩ := mem_tsOf.1 ((hts t).1 hmt)
                exact (hpk' k hk hku).2.2.2.1 (by rw [hod, e]; exact hkt)
              · rw [if_neg e, if_neg e]
                by_cases h : t ∈ tsOf ops l pend
                · rw [if_pos h, if_pos ((hts t).2 h)]
                · rw [if_neg h, if_neg (fun h' => h ((hts t).1 h'))]
            · show (({ hid (tsOf ops l pend) s with objs := objs } : St).put o'.dst v).objs = (({ s with objs := objs } : St).put o'.dst v).objs
              rw [St.put_objs, St.put_objs]
            · show (({ hid (tsOf ops l pend) s with objs := objs } : St).put o'.dst v).n = (({ s with objs := objs } : St).put o'.dst v).n
              rw [St.put_n, St.put_n]; rfl
            · show (({ hid (tsOf ops l pend) s with objs := objs } : St).put o'.dst v).fx = (({ s with objs := objs } : St).put o'.dst v).fx
              rw [St.put_fx, St.put_fx]; rfl
            · obtain ⟨hkp, hka⟩ := (hmemL k).1 hk
              obtain ⟨_, ok, dk, h4, h5, h6⟩ := hV k hkp
              obtain ⟨_, h7, h8, h9⟩ := hpka k hkp hka
              refine ⟨ok, dk, h4, h5, fun s' hs hl' => ?_⟩
              have hput : ∀ t, o'.dst ≠ some t → getE (({ s with objs := objs } : St).put o'.dst v).env t = getE s.env t := fun t ht => by rw [getE_put, if_neg ht]
              rw [hput dk (fun e => h8 (by rw [hod, e]; simp [odst, h4, h5]))]
              refine h6 s' (fun hr hnl => ?_) fun t ht => ?_
              · rcases h9 with h9 | h9 | h9
                · obtain ⟨os1, e1⟩ := hs hr hnl
                  obtain ⟨os2, e2⟩ := hk2 h9
                  rw [St.put_objs] at e1 e2
                  exact ⟨os2 ++ os1, by rw [e1, ← List.append_assoc, ← e2]⟩
                · exact absurd h9 hnl
                · rw [h9 ok h4] at hr; cases hr
              · rw [hl' t ht, hput t (fun e => by rw [hits_of ht (hod.trans e)] at h7; cases h7)]
  have := main _ l hl hag hcl rfl a w hn hC
  rwa [show f + 1 + cnt l pend = f + cnt l pend + 1 by omega]

end
end Go.Fw
