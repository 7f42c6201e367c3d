/- How the abstract machine's steps are reckoned: the equations that simp uses. -/
import Derived.Test.YtemihgpcodcjgaaFwP
set_option linter.unusedSimpArgs false
set_option linter.unusedVariables false
namespace Go.Fw

@[congr] theorem AW_congr {P : Program} {c : Code} {Q : Exit → St → Prop} {s s' : St} (h : s = s') : AW P c Q s = AW P c Q s' := by rw [h]
@[congr] theorem aops_congr {TT : Nat → Option TI} {P : Program} {ds : List (Option Nat)} {l : List Oper} {K : St → Prop} {s s' : St} (h : s = s') : aops TT P ds l s K = aops TT P ds l s' K := by rw [h]
@[congr] theorem ACall_congr {P : Program} {f : Nat} {K : V → St → Prop} {s s' : St} {args args' : List V} (h : s = s') (h' : args = args') : ACall P s f args K = ACall P s' f args' K := by rw [h, h']

section
variable {TT : Nat → Option TI} {P : Program} {ds : List (Option Nat)} {s : St} {dst : Option Nat} {ty : TypeId} {pos : String} {af : Array Edge} {os : List Oper} {K : St → Prop}

@[go_sem] theorem aops_nil : aops TT P ds [] s K = K s := rfl

/-- An operation with a guard. -/
@[go_sem] theorem aops_guard {op : Op} {j : Nat} {b : Bool} : aops TT P ds (⟨dst, op, ty, pos, af, some (j, b)⟩ :: os) s K = match ds[j]? with
    | some (some d) => (match getE s.env d with
      | .d (.bool c) => (c = b → aops TT P ds (⟨dst, op, ty, pos, af, none⟩ :: os) (s.put (some d) (.d (.bool b))) K) ∧ (c = (!b) → aops TT P ds os ((s.put (some d) (.d (.bool (!b)))).put dst .any) K)
      | _ => False)
    | _ => False := rfl

@[go_sem] theorem aops_move {x : Operand} : aops TT P ds (⟨dst, .move x, ty, pos, af, none⟩ :: os) s K = aops TT P ds os (s.put dst (s.ev x)) K := rfl
@[go_sem] theorem aops_assign {x : Operand} : aops TT P ds (⟨dst, .assign x, ty, pos, af, none⟩ :: os) s K = aops TT P ds os (s.put dst (s.ev x)) K := rfl

/-- An operation that turns no memory. -/
def cont (TT : Nat → Option TI) (P : Program) (ds : List (Option Nat)) (os : List Oper) (s : St) (dst : Option Nat) (K : St → Prop) : V → Prop := fun v => aops TT P ds os (s.put dst v) K

@[congr] theorem cont_congr {s s' : St} {v v' : V} (h : s = s') (h' : v = v') : cont TT P ds os s dst K v = cont TT P ds os s' dst K v' := by rw [h, h']
@[go_sem] theorem cont_eq {v : V} : cont TT P ds os s dst K v = aops TT P ds os (s.put dst v) K := rfl

@[go_sem] theorem aops_pick {c a b : Operand} : aops TT P ds (⟨dst, .pick c a b, ty, pos, af, none⟩ :: os) s K = match s.ev c with
    | .d (.bool t) => cont TT P ds os s dst K (if t = true then s.ev a else s.ev b)
    | _ => False := rfl
@[go_sem] theorem aops_nilCheck {x : Operand} : aops TT P ds (⟨dst, .nilCheck x, ty, pos, af, none⟩ :: os) s K = match s.ev x with
    | .oref id off => cont TT P ds os s dst K (.oref id off)
    | .aref id sz i off => cont TT P ds os s dst K (.aref id sz i off)
    | .d (.ptr cells) => cont TT P ds os s dst K (.d (.ptr cells))
    | _ => False := rfl
@[go_sem] theorem aops_load {t : TypeId} {x : Operand} : aops TT P ds (⟨dst, .load t x, ty, pos, af, none⟩ :: os) s K = match TT t with
    | some ti => ald ti s.objs (s.ev x) (cont TT P ds os s dst K)
    | none => False := rfl
@[go_sem] theorem aops_bin {op : BinOp} {t u : TypeId} {x y : Operand} : aops TT P ds (⟨dst, .binOp op t x y u, ty, pos, af, none⟩ :: os) s K = abin TT op t (s.ev x) (s.ev y) (cont TT P ds os s dst K) := rfl
@[go_sem] theorem aops_un {op : UnOp} {t : TypeId} {x : Operand} : aops TT P ds (⟨dst, .unOp op t x, ty, pos, af, none⟩ :: os) s K = aun op (s.ev x) (cont TT P ds os s dst K) := rfl
@[go_sem] theorem aops_slice {t : TypeId} {x : Operand} {lo hi : Option Operand} : aops TT P ds (⟨dst, .slice t x lo hi none, ty, pos, af, none⟩ :: os) s K = aslc TT t (s.ev x) (lo.map s.ev) (hi.map s.ev) (cont TT P ds os s dst K) := rfl
@[go_sem] theorem aops_fieldAddr {t : TypeId} {x : Operand} {f : Nat} : aops TT P ds (⟨dst, .fieldAddr t x f, ty, pos, af, none⟩ :: os) s K = match fieldOf (TT t) f with
    | some p => afld p.1 (s.ev x) (cont TT P ds os s dst K)
    | none => False := rfl
@[go_sem] theorem aops_field {t : TypeId} {x : Operand} {f : Nat} : aops TT P ds (⟨dst, .field t x f, ty, pos, af, none⟩ :: os) s K = match fieldOf (TT t) f, s.ev x with
    | some (off, sz, true), .agg cs => off + sz ≤ cs.length ∧ cont TT P ds os s dst K (.agg ((cs.drop off).take sz))
    | some (off, _, false), .agg cs => (match cs[off]? with
      | some c => cont TT P ds os s dst K c
      | none => False)
    | _, _ => False := rfl
@[go_sem] theorem aops_indexAddr {t : TypeId} {x i : Operand} : aops TT P ds (⟨dst, .indexAddr t x i, ty, pos, af, none⟩ :: os) s K = match elemOf TT t with
    | some e => aidx e.size (s.ev x) (s.ev i) (cont TT P ds os s dst K)
    | none => False := rfl
@[go_sem] theorem aops_extract {x : Operand} {i : Nat} : aops TT P ds (⟨dst, .extract x i, ty, pos, af, none⟩ :: os) s K = match s.ev x with
    | .tup vs => (match vs[i]? with
      | some v => cont TT P ds os s dst K v
      | none => False)
    | _ => False := rfl
@[go_sem] theorem aops_len {ts : Array TypeId} {args : Array Operand} : aops TT P ds (⟨dst, .call { callee := .builtin .len, args := args, argTypes := ts }, ty, pos, af, none⟩ :: os) s K = match args.toList, ts.toList with
    | [x], [t] => alen TT t (s.ev x) (cont TT P ds os s dst K)
    | _, _ => False := rfl
@[go_sem] theorem aops_max {ts : Array TypeId} {args : Array Operand} : aops TT P ds (⟨dst, .call { callee := .builtin .max, args := args, argTypes := ts }, ty, pos, af, none⟩ :: os) s K = match args.toList with
    | [x, y] => (match s.ev x, s.ev y with
      | .d (.int k a), .d (.int _ b) => cont TT P ds os s dst K (.d (.int k (max a b)))
      | _, _ => False)
    | _ => False := rfl
@[go_sem] theorem aops_min {ts : Array TypeId} {args : Array Operand} : aops TT P ds (⟨dst, .call { callee := .builtin .min, args := args, argTypes := ts }, ty, pos, af, none⟩ :: os) s K = match args.toList with
    | [x, y] => (match s.ev x, s.ev y with
      | .d (.int k a), .d (.int _ b) => cont TT P ds os s dst K (.d (.int k (min a b)))
      | _, _ => False)
    | _ => False := rfl
@[go_sem] theorem aops_build {t : TypeId} {parts : Array (Nat × Operand)} : aops TT P ds (⟨dst, .build t parts, ty, pos, af, none⟩ :: os) s K = match TT t with
    | some { kind := .struct flds _, zero := z, .. } => (match abuild flds z (parts.toList.map fun p => (p.1, s.ev p.2)) with
      | some cs => cont TT P ds os s dst K (.agg cs)
      | none => False)
    | _ => False := rfl
@[go_sem] theorem aops_convert {t u : TypeId} {x : Operand} : aops TT P ds (⟨dst, .convert t u x, ty, pos, af, none⟩ :: os) s K = ((TT t).isSome = true ∧ match TT u, s.ev x with
    | some { kind := .int k, .. }, .d (.int _ n) => inR k n ∧ cont TT P ds os s dst K (.d (.int k n))
    | _, _ => False) := rfl
@[go_sem] theorem aops_makeFunc {f : Nat} {first cap : Array Operand} : aops TT P ds (⟨dst, .makeFunc (.func f) first cap, ty, pos, af, none⟩ :: os) s K = (first = #[] ∧ match toDs (cap.toList.map s.ev) with
    | some xs => cont TT P ds os s dst K (.d (.fn f xs))
    | none => False) := rfl
@[go_sem] theorem aops_index {t : TypeId} {x i : Operand} : aops TT P ds (⟨dst, .index t x i, ty, pos, af, none⟩ :: os) s K = (isStr (TT t) = true ∧ match s.ev x, s.ev i with
    | .d (.str q), .d (.int _ n) => 0 ≤ n ∧ (match q[n.toNat]? with
      | some b => cont TT P ds os s dst K (.d (.int .u8 b.toNat))
      | none => False)
    | _, _ => False) := rfl

/-- A call. -/
def contC (TT : Nat → Option TI) (P : Program) (ds : List (Option Nat)) (os : List Oper) (dst : Option Nat) (K : St → Prop) : V → St → Prop := fun v s => aops TT P ds os (s.put dst v) K
@[congr] theorem contC_congr {s s' : St} {v v' : V} (h : s = s') (h' : v = v') : contC TT P ds os dst K v s = contC TT P ds os dst K v' s' := by rw [h, h']
@[go_sem] theorem contC_eq {v : V} : contC TT P ds os dst K v s = aops TT P ds os (s.put dst v) K := rfl
@[go_sem] theorem aops_call {f : Operand} {ts : Array TypeId} {args : Array Operand} : aops TT P ds (⟨dst, .call { callee := .value f, args := args, argTypes := ts }, ty, pos, af, none⟩ :: os) s K = match s.ev f with
    | .d (.fn g cap) => ACall P s g (args.toList.map s.ev ++ cap.map .d) (contC TT P ds os dst K)
    | _ => False := rfl

/-- A step that turns memory. -/
def contM (TT : Nat → Option TI) (P : Program) (ds : List (Option Nat)) (os : List Oper) (K : St → Prop) : St → Prop := fun s => aops TT P ds os s K
@[congr] theorem contM_congr {s s' : St} (h : s = s') : contM TT P ds os K s = contM TT P ds os K s' := by rw [h]
@[go_sem] theorem contM_eq : contM TT P ds os K s = aops TT P ds os s K := rfl
@[go_sem] theorem aops_alloc {t : TypeId} : aops TT P ds (⟨dst, .alloc t, ty, pos, af, none⟩ :: os) s K = match TT t with
    | some ti => contM TT P ds os K ((s.new (.box ti.zero)).put dst (.oref s.objs.length 0))
    | none => False := rfl
@[go_sem] theorem aops_box {t : TypeId} {x : Operand} : aops TT P ds (⟨dst, .box t x, ty, pos, af, none⟩ :: os) s K = match (s.ev x).cells with
    | some cs => contM TT P ds os K ((s.new (.box cs)).put dst (.oref s.objs.length 0))
    | none => False := rfl
@[go_sem] theorem aops_buildSlice {t : TypeId} {len : Nat} {parts : Array (Nat × Operand)} : aops TT P ds (⟨dst, .buildSlice t len parts, ty, pos, af, none⟩ :: os) s K = match elemOf TT t with
    | some e => parts.toList.map (·.1) = List.range len ∧ len * e.size ≤ 2 ^ 24 ∧ (match rowsOf e.size (parts.toList.map fun p => s.ev p.2) with
      | some rows => contM TT P ds os K ((s.new (.arr e.size rows)).put dst (.msl s.objs.length e.size 0 len))
      | none => False)
    | none => False := rfl
@[go_sem] theorem aops_store {t : TypeId} {x v : Operand} : aops TT P ds (⟨dst, .store t x v, ty, pos, af, none⟩ :: os) s K = match TT t, (s.ev v).cells with
    | some ti, some new => dst = none ∧ new.length = ti.size ∧ (match s.ev x with
      | .oref id off => (match s.objs[id]? with
        | some (.box cells) => off + new.length ≤ cells.length ∧ contM TT P ds os K (s.setO id (.box (putAt cells off new)))
        | _ => False)
      | .aref id sz i off => (match s.objs[id]? with
        | some (.arr sz' rows) => sz = sz' ∧ (match rows[i]?, toDs new with
          | some r, some xs => off + xs.length ≤ r.length ∧ contM TT P ds os K (s.setO id (.arr sz' (rows.set i (putD r off xs))))
          | _, _ => False)
        | _ => False)
      | _ => False)
    | _, _ => False := rfl
@[go_sem] theorem aops_makeSlice {t : TypeId} {l c : Operand} : aops TT P ds (⟨dst, .makeSlice t l c, ty, pos, af, none⟩ :: os) s K = match elemOf TT t with
    | some e => (match s.ev l, s.ev c, toDs e.zero with
      | .d (.int .i64 n), .d (.int .i64 m), some z => n = m ∧ 0 ≤ n ∧ n < 2 ^ 63 ∧ e.bytes * n ≤ 2 ^ 48 ∧ contM TT P ds os K ((s.new (.arr e.size (List.replicate n.toNat z))).put dst (.msl s.objs.length e.size 0 n.toNat))
      | _, _, _ => False)
    | none => False := rfl
@[go_sem] theorem aops_append {ts : Array TypeId} {args : Array Operand} : aops TT P ds (⟨dst, .call { callee := .builtin .append, args := args, argTypes := ts }, ty, pos, af, none⟩ :: os) s K = match args.toList, ts.toList with
    | [x, y], [t, u] => (match elemOf TT t with
      | some e => isSlice (TT u) = true ∧ (match srcRows s.objs (s.ev y) with
        | some new => (∀ r ∈ new, r.length = e.size) ∧ e.bytes ≠ 0 ∧ (match s.ev x with
          | .nils => 2 * new.length * e.bytes ≤ 2 ^ 48 ∧ contM TT P ds os K ((s.new (.arr e.size new)).put dst (.msl s.objs.length e.size 0 new.length))
          | .msl id sz off len => (match s.objs[id]? with
            | some (.arr sz' rows) => off = 0 ∧ len = rows.length ∧ sz = e.size ∧ sz' = e.size ∧ 2 * (rows.length + new.length) * e.bytes ≤ 2 ^ 48 ∧
              contM TT P ds os K (((s.setO id .dead).new (.arr e.size (rows ++ new))).put dst (.msl s.objs.length e.size 0 (rows.length + new.length)))
            | _ => False)
          | _ => False)
        | none => False)
      | none => False)
    | _, _ => False := rfl
end

theorem inR_i64 {n : Int} : inR .i64 n = (-9223372036854775808 ≤ n ∧ n < 9223372036854775808) := by
  have e : IntKind.i64.wrap n = if n % 18446744073709551616 ≥ 9223372036854775808 then n % 18446744073709551616 - 18446744073709551616 else n % 18446744073709551616 := by
    simp [IntKind.wrap, IntKind.bits, IntKind.signed]
  apply propext
  unfold inR
  rw [e]
  split <;> constructor <;> intro h <;> omega

attribute [go_sem] St.put St.ev St.new St.setO getE constV inR_i64
attribute [go_sem] ald ldCells afld fieldOf elemOf aidx aslc abd alen abin ibin sbin bbin aun cmpKs eqCs eqC isSlice isStr isBool
attribute [go_sem] V.cells scaB scaAll toDs V.toD rowsOf putAt putD abuild srcRows args0
attribute [go_sem] thenQ blockQ endQ ares oneOf
attribute [go_sem] argV argVs idx
attribute [go_sem] backV backVs backId backO flatV flatVs D.flat renV renVs renO renE renOs idsB

@[go_sem] theorem backs_nil {n : Nat} {objs os : List O} : backs [] n objs os = objs ++ os.map (backO [] n) := by simp [backs]
@[go_sem] theorem dsts_nil : ([] : List Oper).map (fun o => o.dst) = [] := rfl
@[go_sem] theorem dsts_cons {dst : Option Nat} {op : Op} {ty : TypeId} {pos : String} {af : Array Edge} {g : Option (Nat × Bool)} {os : List Oper} :
    ((⟨dst, op, ty, pos, af, g⟩ : Oper) :: os).map (fun o => o.dst) = dst :: os.map (fun o => o.dst) := rfl

theorem AW.condE {P : Program} {c : Operand} {d e : Code} {Q : Exit → St → Prop} {s : St}
    (h : match s.ev c with | .d (.bool t) => (t = true → AW P d Q s) ∧ (t = false → AW P e Q s) | _ => False) : AW P (.cond c d e) Q s := by
  split at h
  · rename_i t ht; exact AW.cond ht h.1 h.2
  · exact h.elim

/-- The result is R, and no object goes back. -/
def Is (R : V) : V → List O → Prop := fun r os => r = R ∧ os = []

/-- A call that hands over no object and lends none, of a function that gives R. -/
theorem ACall.is {P : Program} {s : St} {f : Nat} {args args' : List V} {K : V → St → Prop} {R : V} (h : argVs s.objs [] [] args = some args')
    (hc : ACon P f args' [] (Is R)) (hK : K (backV [] s.objs.length R) s) : ACall P s f args K := by
  refine ⟨[], [], args', [], [], h, List.nodup_nil, by simp, rfl, rfl, by simp, hc.mono fun r os hr => ⟨.inl rfl, ?_⟩⟩
  obtain ⟨rfl, rfl⟩ := hr
  rw [backs_nil, List.map_nil, List.append_nil]; exact hK

/-- A call that lends the objects bs, of a function that gives R. -/
theorem ACall.isLend {P : Program} {s : St} {f : Nat} {args args' : List V} {K : V → St → Prop} {R : V} (bs : List Nat) (h : argVs s.objs [] bs args = some args')
    (hc : ACon P f args' [] (Is R)) (hf : flatV R = true) (hK : K (backV [] s.objs.length R) s) : ACall P s f args K := by
  refine ⟨[], bs, args', [], [], h, List.nodup_nil, by simp, rfl, rfl, by simp, hc.mono fun r os hr => ?_⟩
  obtain ⟨rfl, rfl⟩ := hr
  rw [backs_nil, List.map_nil, List.append_nil]; exact ⟨.inr ⟨hf, by simp⟩, hK⟩

theorem fin_is {objs : List O} {z R : V} (h : renV [] R = some z) : ∃ (π : List Nat) (y : V) (os : List O), π.Nodup ∧ renOs π objs π os ∧ renV π y = some z ∧ Is R y os :=
  ⟨[], R, [], List.nodup_nil, by cases objs <;> trivial, h, rfl, rfl⟩

theorem fin_k {objs : List O} {z R : V} {K : V → List O → Prop} (h : renV [] R = some z) (hK : K R []) : ∃ (π : List Nat) (y : V) (os : List O), π.Nodup ∧ renOs π objs π os ∧ renV π y = some z ∧ K y os :=
  ⟨[], R, [], List.nodup_nil, by cases objs <;> trivial, h, hK⟩

/-- A call that hands over no object and lends none. -/
theorem ACall.pure {P : Program} {s : St} {f : Nat} {args args' : List V} {K : V → St → Prop} (h : argVs s.objs [] [] args = some args')
    (hc : ACon P f args' [] fun r os => K (backV [] s.objs.length r) { s with objs := s.objs ++ os.map (backO [] s.objs.length) }) : ACall P s f args K := by
  refine ⟨[], [], args', [], [], h, List.nodup_nil, by simp, rfl, rfl, by simp, hc.mono fun r os hK => ⟨.inl rfl, ?_⟩⟩
  rw [backs_nil]; exact hK

/-- A call that lends the objects bs. -/
theorem ACall.lend {P : Program} {s : St} {f : Nat} {args args' : List V} {K : V → St → Prop} (bs : List Nat) (h : argVs s.objs [] bs args = some args')
    (hc : ACon P f args' [] fun r os => (flatV r = true ∧ ∀ o ∈ os, flatO o) ∧ K (backV [] s.objs.length r) { s with objs := s.objs ++ os.map (backO [] s.objs.length) }) : ACall P s f args K := by
  refine ⟨[], bs, args', [], [], h, List.nodup_nil, by simp, rfl, rfl, by simp, hc.mono fun r os hK => ⟨.inr hK.1, ?_⟩⟩
  rw [backs_nil]; exact hK.2

end Go.Fw
