/- The abstract machine's steps that turn no memory, and why the model's own steps follow them. -/
import Derived.WalkKit
import Derived.Laws.StructEq
import Derived.Laws.Cells
import Derived.Test.YtemihgpcodcjgaaFwA
namespace Go.Fw

/-- What an abstract machine is told of a type. -/
inductive TK where
  | sca
  | int (k : IntKind)
  | str
  | bool
  | struct (flds : List (Nat × Nat × Bool)) (ks : List Nat)
  | slice (elem : Nat)

structure TI where
  kind : TK
  size : Nat
  bytes : Nat
  zero : List V

def zB : V → Value → Bool
  | .d (.int k n), .int k' n' => k == k' && n == n'
  | .d (.bool b), .bool b' => b == b'
  | .d (.str []), .string s => s.size == 0
  | .nils, .slice none 0 0 => true
  | .any, _ => true
  | _, _ => false

def aggB (P : Program) (t : TypeId) : Bool :=
  match P.underlying t with
  | some (.struct _) | some (.array ..) => true
  | _ => false

/-- The type's kind: 0 an integer, 1 a bool, 2 a string. -/
def plainB (P : Program) (t : TypeId) (k : Nat) : Bool :=
  match P.underlying t, k with
  | some (.int _), 0 | some .bool, 1 | some .string, 2 => true
  | _, _ => false

def fldB (P : Program) (f : Field) (p : Nat × Nat × Bool) : Bool :=
  f.offset == p.1 && (P.info? f.type).map (·.size) == some p.2.1 && aggB P f.type == p.2.2 && p.2.1 != 0 && (P.underlying f.type).isSome

def descB (P : Program) : TypeDesc → TK → Bool
  | .struct fs, .struct flds ks => fs.size == flds.length && (fs.toList.zip flds).all (fun x => fldB P x.1 x.2) && (ks.isEmpty || (ks.length == fs.size && (fs.toList.zip ks).zipIdx.all fun x => x.1.1.offset == x.2 && x.1.1.name != "_" && plainB P x.1.1.type x.1.2))
  | .slice e, .slice e' => e == e'
  | .int k, .int k' => k == k'
  | .string, .str => true
  | .bool, .bool => true
  | .struct _, _ => false
  | .array .., _ => false
  | _, .sca => true
  | _, _ => false

/-- The program's own table says so. -/
def tcheck (P : Program) (t : TypeId) (ti : TI) : Bool :=
  match P.info? t, P.underlying t with
  | some i, some d => i.size == ti.size && i.bytes == ti.bytes && descB P d ti.kind &&
    (match i.zero with | some z => z.cells.size == ti.zero.length && ti.zero.length == ti.size && (ti.zero.zip z.cells.toList).all (fun x => zB x.1 x.2) | none => false) &&
    (match ti.kind with | .struct _ (_ :: _) => !P.stoodInHeld t && !P.eqGuardType P.depth t | _ => true)
  | _, _ => false

def TOk (P : Program) (TT : Nat → Option TI) : Prop := ∀ t ti, TT t = some ti → tcheck P t ti = true

theorem zB_rep {c : V} {v : Value} (h : zB c v = true) (w : World) (ok : Nat → Prop) (ρ : List (Option Nat)) : VRep w ok ρ c v := by
  unfold zB at h
  split at h
  · simp only [Bool.and_eq_true, beq_iff_eq] at h; obtain ⟨rfl, rfl⟩ := h; exact .d .int
  · simp only [beq_iff_eq] at h; subst h; exact .d .bool
  · rename_i s
    simp only [beq_iff_eq] at h
    have : s = bytesOf [] := by
      obtain ⟨⟨l⟩⟩ := s
      have : l = [] := by simpa [ByteArray.size] using h
      subst this; rfl
    subst this; exact .d .str
  · exact .nils
  · exact .any
  · simp at h

/-- What is read off the check. -/
structure TFacts (P : Program) (t : TypeId) (ti : TI) : Prop where
  info : ∃ i, P.info? t = some i ∧ i.size = ti.size ∧ i.bytes = ti.bytes ∧ ∃ z, i.zero = some z ∧ z.cells.size = ti.zero.length ∧ ti.zero.length = ti.size ∧
    ∀ (j : Nat) (c : V), ti.zero[j]? = some c → ∀ w ok ρ, VRep w ok ρ c (z.cells.getD j undef)
  und : ∃ d, P.underlying t = some d ∧ descB P d ti.kind = true
  cmp : ∀ flds k ks, ti.kind = .struct flds (k :: ks) → P.stoodInHeld t = false ∧ P.eqGuardType P.depth t = false

theorem TOk.facts {P : Program} {TT : Nat → Option TI} (h : TOk P TT) {t : TypeId} {ti : TI} (ht : TT t = some ti) : TFacts P t ti := by
  have h := h t ti ht
  unfold tcheck at h
  split at h
  · rename_i i d hi hd
    simp only [Bool.and_eq_true, beq_iff_eq] at h
    obtain ⟨⟨⟨⟨h1, h2⟩, h3⟩, h4⟩, h5⟩ := h
    cases hz : i.zero with
    | none => rw [hz] at h4; simp at h4
    | some z =>
      rw [hz] at h4
      simp only [Bool.and_eq_true, beq_iff_eq] at h4
      obtain ⟨⟨h6, h7⟩, h8⟩ := h4
      refine ⟨⟨i, hi, h1, h2, z, hz, h6, h7, ?_⟩, ⟨d, hd, h3⟩, ?_⟩
      · intro j c hj w ok ρ
        have hjl : j < ti.zero.length := (List.getElem?_eq_some_iff.1 hj).1
        have hjz : j < z.cells.toList.length := by simpa [h6] using hjl
        have hm : (c, z.cells.toList[j]) ∈ ti.zero.zip z.cells.toList := by
          rw [List.mem_iff_getElem?]
          exact ⟨j, by rw [List.getElem?_zip_eq_some]; exact ⟨hj, List.getElem?_eq_getElem hjz⟩⟩
        have := List.all_eq_true.1 h8 _ hm
        have e : z.cells.getD j undef = z.cells.toList[j] := by simp [Array.getD, show j < z.cells.size by omega]
        rw [e]
        exact zB_rep this w ok ρ
      · intro flds k ks hk
        rw [hk] at h5
        simpa using h5
  · simp at h

theorem TFacts.run_underlying {P : Program} {t : TypeId} {ti : TI} (h : TFacts P t ti) (w : World) : ∃ d, (underlying t).run P w = .ok d w ∧ P.underlying t = some d ∧ descB P d ti.kind = true := by
  obtain ⟨d, h1, h2⟩ := h.und
  exact ⟨d, by simp [underlying, h1], h1, h2⟩

theorem TFacts.run_sizeOf {P : Program} {t : TypeId} {ti : TI} (h : TFacts P t ti) (w : World) : (sizeOf t).run P w = .ok ti.size w := by
  obtain ⟨i, h1, h2, _⟩ := h.info
  simp [sizeOf, typeInfo, h1, h2]

theorem TFacts.run_isAgg {P : Program} {t : TypeId} {ti : TI} (h : TFacts P t ti) (w : World) : (isAgg t).run P w = .ok (match ti.kind with | .struct .. => true | _ => false) w := by
  obtain ⟨d, h1, _, h2⟩ := h.run_underlying w
  simp only [isAgg, Sem.run_bind, h1, Result.andThen_ok]
  unfold descB at h2
  split at h2 <;> first | (simp_all; done) | skip
  all_goals (rename_i hk; simp [hk]) 

end Go.Fw
