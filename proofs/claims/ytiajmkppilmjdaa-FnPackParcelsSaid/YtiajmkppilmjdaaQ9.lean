import Derived.Test.YtiajmkppilmjdaaQ8
import Derived.Deep.Slices
import Derived.Deep.Fields
import Derived.ChangeSame
import Derived.Below
import Derived.ProofKit
set_option linter.unusedSimpArgs false
set_option linter.unusedVariables false
namespace Go.Proofs.Ytiajmkppilmjdaa
open Go.Fw Go.ChangeShapes Go.WideShapes Go.Deep Go.RowKit Go.ChangeAt

section
variable {H : Type} {enc : TypeId × Value → H} {P : Program} {w : World} {base : Nat} {spare : Nat → Bool} {held : Bool}

theorem list_of {α : Type} {R : Nat → α → Prop} : ∀ n : Nat, (∀ i, i < n → ∃ p, R i p) → ∃ xs : List α, xs.length = n ∧ ∀ (i : Nat) (p : α), xs[i]? = some p → R i p := by
  intro n
  induction n with
  | zero => intro _; exact ⟨[], rfl, fun i p h => by simp at h⟩
  | succ n ih =>
    intro h
    obtain ⟨xs, h1, h2⟩ := ih fun i hi => h i (by omega)
    obtain ⟨p, hp⟩ := h n (by omega)
    refine ⟨xs ++ [p], by simp [h1], fun i q hq => ?_⟩
    rcases Nat.lt_or_ge i xs.length with hl | hl
    · rw [List.getElem?_append_left hl] at hq; exact h2 i q hq
    · rw [List.getElem?_append_right hl] at hq
      have : i - xs.length = 0 := by
        rcases Nat.eq_zero_or_pos (i - xs.length) with e | e
        · exact e
        · rw [List.getElem?_eq_none (by simp; omega)] at hq; cases hq
      rw [this] at hq
      simp only [List.getElem?_cons_zero, Option.some.injEq] at hq
      subst hq
      rw [show i = n by omega]
      exact hp

/-- A slice of records that the input brings. -/
theorem open_recs {α : Type} {encR : α → List D} {nf : Nat} {t e : TypeId} {fuel : Nat} {v : Value} {x : DataW H × List MemPlace} (ht : P.underlying t = some (.slice e)) (hC : P.cellsOf e = nf) (hnf : 0 < nf)
    (hlen : ∀ p, (encR p).length = nf)
    (hdec : ∀ (n : Nat) (cs : List Value) (y : DataW H × List MemPlace), DataW.trod enc P w base spare held n e cs = some y → ∃ p : α, ∀ (j : Nat) (d : D), (encR p)[j]? = some d → ∃ u : Value, cs[j]? = some u ∧ ∀ ok, DRep w ok d u)
    (h : DataW.trod enc P w base spare held fuel t [v] = some x) : ∃ xs : List α, DRep w (· < w.heap.size) (.lst (xs.map encR)) v ∧ xs.length ≤ maxLen := by
  rcases open_slice ht h with ⟨h0, _⟩ | ⟨a, len, cap, m, n, D0, Pl, hcs, hb, hl, hm, hmm, hx, hi⟩
  · obtain rfl : v = .slice none 0 0 := by simpa using h0
    exact ⟨[], .nil, Nat.zero_le _⟩
  · obtain rfl : v = .slice (some a) len cap := by simpa using hcs
    have hlm : len ≤ m := by rw [hmm]; split <;> omega
    obtain ⟨xs, h1, h2⟩ := list_of (R := fun i (p : α) => ∀ (j : Nat) (d : D), (encR p)[j]? = some d → ∃ u : Value, w.cell? (a.add (i * nf + j)) = some u ∧ ∀ ok, DRep w ok d u) len fun i hil => by
      obtain ⟨cs', hc, htr⟩ := hi i (by omega)
      obtain ⟨p, hp⟩ := hdec _ _ _ htr
      rw [hC] at hc
      obtain ⟨_, hcl, hat⟩ := World.cells?_some hc
      refine ⟨p, fun j d hd => ?_⟩
      obtain ⟨u, hu, hr⟩ := hp j d hd
      have hj : j < nf := by rw [← hlen p]; exact (List.getElem?_eq_some_iff.1 hd).1
      refine ⟨u, ?_, hr⟩
      rw [← Go.Deep.add_add, hat j hj, hu]
    refine ⟨xs, ?_, by omega⟩
    subst h1
    cases xs with
    | nil => exact .nil
    | cons p0 xs =>
      have hfirst : ∃ u, w.cell? (a.add 0) = some u := by
        have hd : (encR p0)[0]? = some ((encR p0)[0]'(by rw [hlen]; exact hnf)) := List.getElem?_eq_getElem _
        obtain ⟨u, hu, _⟩ := h2 0 p0 rfl 0 _ hd
        exact ⟨u, by simpa using hu⟩
      obtain ⟨u, hu⟩ := hfirst
      obtain ⟨b, off, spot⟩ := a
      have hs : spot = none ∧ b < w.heap.size := by
        unfold World.cell? Addr.add at hu
        simp only at hu
        split at hu
        · rename_i c _ _ hb
          refine ⟨?_, (Array.getElem?_eq_some_iff.1 hb).1⟩
          cases spot with
          | none => rfl
          | some q => simp at hu
        · cases hu
      obtain ⟨rfl, hbl⟩ := hs
      have := DRep.lst (w := w) (ok := (· < w.heap.size)) (rows := (p0 :: xs).map encR) (sz := nf) (b := b) (off := off) (cap := cap)
        (vs := fun i j => (w.cell? ⟨b, off + (i * nf + j), none⟩).getD undef) hbl
        (fun r hr => by obtain ⟨p, _, rfl⟩ := List.mem_map.1 hr; exact hlen p) (by rw [List.length_map]; exact hl)
        (fun i j r d hi hj => by
          rw [List.getElem?_map, Option.map_eq_some_iff] at hi
          obtain ⟨p, hp, rfl⟩ := hi
          obtain ⟨u, hu, _⟩ := h2 i p hp j d hj
          have hu : w.cell? ⟨b, off + (i * nf + j), none⟩ = some u := by rw [addr_add] at hu; exact hu
          rw [hu]; rfl)
        (fun i j r d hi hj => by
          rw [List.getElem?_map, Option.map_eq_some_iff] at hi
          obtain ⟨p, hp, rfl⟩ := hi
          obtain ⟨u, hu, hr⟩ := h2 i p hp j d hj
          have hu : w.cell? ⟨b, off + (i * nf + j), none⟩ = some u := by rw [addr_add] at hu; exact hu
          rw [hu]; exact hr _)
      rwa [List.length_map] at this

end

/-- A law that is proved on the abstract machine, as the row asks for it. -/
theorem bridge {P : Program} {f : Nat} {args : List V} {vs : Array Value} {W : World} (hc : ACon P f args [] (Is (.d (.bool true)))) (hs : vs.size = args.length)
    (hv : ∀ (i : Nat) x, args[i]? = some x → VRep W (· < W.heap.size) [] x (vs.getD i undef)) : Calls P f vs W fun e W' => e = .returned (.bool true) ∧ Below W.heap.size W W' := by
  refine (hc.run W (· < W.heap.size) [] vs ⟨rfl, fun _ h => h, fun id o h => by simp at h, fun i j oi oj b h => by simp at h, fun i o b h => by simp at h⟩ hs hv).mono ?_
  rintro e W' ⟨v, r, os, ok', ρ', rfl, ⟨rfl, rfl⟩, hI, hV, hF⟩
  cases hV with
  | d h =>
    cases h
    exact ⟨rfl, hF.os, hF.tape, hF.output, hF.size, fun k hk => hF.block k hk (fun id o h => by simp at h)⟩

theorem args3 {W : World} {a b c : V} {x y z : Value} (h1 : VRep W (· < W.heap.size) [] a x) (h2 : VRep W (· < W.heap.size) [] b y) (h3 : VRep W (· < W.heap.size) [] c z) :
    ∀ (i : Nat) u, [a, b, c][i]? = some u → VRep W (· < W.heap.size) [] u (#[x, y, z].getD i undef) := by
  intro i u hu
  match i with
  | 0 => simp at hu; subst hu; exact h1
  | 1 => simp at hu; subst hu; exact h2
  | 2 => simp at hu; subst hu; exact h3
  | n + 3 => simp at hu

section
variable {H : Type} {enc : TypeId × Value → H} {w : World} {base : Nat} {spare : Nat → Bool} {held : Bool}

theorem decPack (n : Nat) (cs : List Value) (y : DataW H × List MemPlace) (h : DataW.trod enc Try.prog w base spare held n 68 cs = some y) :
    ∃ p : Pack, ∀ (j : Nat) (d : D), (encPack p)[j]? = some d → ∃ u : Value, cs[j]? = some u ∧ ∀ ok, DRep w ok d u := by
  obtain ⟨ys, n', _, _, hlen, _, hf⟩ := DataW.trod_struct Try.underlying68 h
  have hI : ∀ (j : Nat) (f : Field), f.type = 3 → f.offset = j → ∀ z, DataW.trod enc Try.prog w base spare held n' f.type ((cs.drop f.offset).take (Try.prog.cellsOf f.type)) = some z → ∃ k : Int, cs[j]? = some (.int .i64 k) := by
    intro j f h1 h2 z hz
    rw [h1, h2] at hz
    obtain ⟨k, hk, _, _⟩ := DataW.trod_int Try.underlying3 hz
    rw [show Try.prog.cellsOf 3 = 1 by kernel_rfl] at hk
    refine ⟨k, ?_⟩
    have : ((cs.drop j).take 1)[0]? = some (.int .i64 k) := by rw [hk]; rfl
    rw [List.getElem?_take_of_lt (by omega), List.getElem?_drop] at this
    simpa using this
  have hB : ∀ (j : Nat) (f : Field), f.type = 4 → f.offset = j → ∀ z, DataW.trod enc Try.prog w base spare held n' f.type ((cs.drop f.offset).take (Try.prog.cellsOf f.type)) = some z → ∃ k : Bool, cs[j]? = some (.bool k) := by
    intro j f h1 h2 z hz
    rw [h1, h2] at hz
    obtain ⟨k, hk, _⟩ := DataW.trod_bool Try.underlying4 hz
    rw [show Try.prog.cellsOf 4 = 1 by kernel_rfl] at hk
    refine ⟨k, ?_⟩
    have : ((cs.drop j).take 1)[0]? = some (.bool k) := by rw [hk]; rfl
    rw [List.getElem?_take_of_lt (by omega), List.getElem?_drop] at this
    simpa using this
  have hys : ∀ j, j < 9 → ∃ z, ys[j]? = some z := fun j hj => ⟨ys[j]'(by simp_all), List.getElem?_eq_getElem _⟩
  obtain ⟨z0, e0⟩ := hys 0 (by omega); obtain ⟨z1, e1⟩ := hys 1 (by omega); obtain ⟨z2, e2⟩ := hys 2 (by omega)
  obtain ⟨z3, e3⟩ := hys 3 (by omega); obtain ⟨z4, e4⟩ := hys 4 (by omega); obtain ⟨z5, e5⟩ := hys 5 (by omega)
  obtain ⟨z6, e6⟩ := hys 6 (by omega); obtain ⟨z7, e7⟩ := hys 7 (by omega); obtain ⟨z8, e8⟩ := hys 8 (by omega)
  obtain ⟨k0, g0⟩ := hI 0 _ rfl rfl _ ((hf 0 _ rfl).trans e0)
  obtain ⟨k1, g1⟩ := hI 1 _ rfl rfl _ ((hf 1 _ rfl).trans e1)
  obtain ⟨k2, g2⟩ := hI 2 _ rfl rfl _ ((hf 2 _ rfl).trans e2)
  obtain ⟨k3, g3⟩ := hB 3 _ rfl rfl _ ((hf 3 _ rfl).trans e3)
  obtain ⟨k4, g4⟩ := hB 4 _ rfl rfl _ ((hf 4 _ rfl).trans e4)
  obtain ⟨k5, g5⟩ := hB 5 _ rfl rfl _ ((hf 5 _ rfl).trans e5)
  obtain ⟨k6, g6⟩ := hI 6 _ rfl rfl _ ((hf 6 _ rfl).trans e6)
  obtain ⟨k7, g7⟩ := hI 7 _ rfl rfl _ ((hf 7 _ rfl).trans e7)
  obtain ⟨k8, g8⟩ := hI 8 _ rfl rfl _ ((hf 8 _ rfl).trans e8)
  refine ⟨⟨k0, k1, k2, k3, k4, k5, k6, k7, k8⟩, fun j d hd => ?_⟩
  simp only [encPack] at hd
  match j with
  | 0 => cases hd; exact ⟨_, g0, fun _ => .int⟩
  | 1 => cases hd; exact ⟨_, g1, fun _ => .int⟩
  | 2 => cases hd; exact ⟨_, g2, fun _ => .int⟩
  | 3 => cases hd; exact ⟨_, g3, fun _ => .bool⟩
  | 4 => cases hd; exact ⟨_, g4, fun _ => .bool⟩
  | 5 => cases hd; exact ⟨_, g5, fun _ => .bool⟩
  | 6 => cases hd; exact ⟨_, g6, fun _ => .int⟩
  | 7 => cases hd; exact ⟨_, g7, fun _ => .int⟩
  | 8 => cases hd; exact ⟨_, g8, fun _ => .int⟩
  | n + 9 => simp at hd

theorem decByte (n : Nat) (cs : List Value) (y : DataW H × List MemPlace) (h : DataW.trod enc Try.prog w base spare held n 5 cs = some y) :
    ∃ p : Byte, ∀ (j : Nat) (d : D), (encByte p)[j]? = some d → ∃ u : Value, cs[j]? = some u ∧ ∀ ok, DRep w ok d u := by
  obtain ⟨k, rfl, _, hw⟩ := DataW.trod_int Try.underlying5 h
  have hb : 0 ≤ k ∧ k < 256 := by
    simp only [Lit.wf, Bool.and_eq_true, decide_eq_true_eq] at hw
    have h1 : IntKind.u8.min = 0 := by decide
    have h2 : IntKind.u8.max = 255 := by decide
    omega
  refine ⟨⟨k, hb⟩, fun j d hd => ?_⟩
  match j with
  | 0 => cases hd; exact ⟨_, rfl, fun _ => .int⟩
  | n + 1 => simp [encByte] at hd

end
end Go.Proofs.Ytiajmkppilmjdaa
