/- FnRunDesk: for every input the law returns true, and its input reads as before; the card ties what it lists to the program's text. -/
import Derived.Test.YtmjofbjglhdkjaaGreatDoorCards
import Derived.Test.YtmjofbjglhdkjaaGreatDoorTie
import Derived.Test.YtmjofbjglhdkjaaGreatDoorFnRunDesk4
import Derived.WalkKit
import Derived.ProofKit
import Derived.OpenShut
import Derived.ShutString
import Derived.ChangeOld
import Derived.SizedLaws
import Derived.Deep.DeepHandedRow
import Derived.Lib.LaidTab
import Derived.Stop.LaidErr
import Derived.Shelf.Vars
import Derived.MakeChecks
namespace Go.Proofs.YtmjofbjglhdkjaaGreatDoor.fnRunDesk
open Go.ChangeShapes Go.WideShapes Go.ChangeAt Go.RowKit Go.Fw
set_option linter.unusedVariables false
theorem own : ownKnob Tryz.prog.godebug = none := by kernel_rfl
theorem laidOut : laidOutB Tryz.prog = true := by kernel_rfl
theorem gType : (Tryz.prog.globals[1]?).map (·.type) = some 134 := by kernel_rfl
theorem ofVar {W : World} {name : String} {g : Nat} {cs : Array Value} (hg : Tryz.prog.globalNamed name = some g) (h : W.var? Tryz.prog name = some cs) : g < W.heap.size ∧ ∃ t z, W.heap[g]? = some (.cells cs t z) := by
  unfold World.var? at h
  rw [hg] at h
  simp only [Option.bind_some] at h
  split at h
  · rename_i cs' t z hb
    cases h
    exact ⟨(Array.getElem?_eq_some_iff.1 hb).1, t, z, hb⟩
  · cases h
theorem star : "*" ++ "errors.errorString" = "*errors.errorString" := by decide
theorem rowP (u : TypeId) (h : Tryz.prog.typeName? 3 u = some "*errors.errorString") : u = 149 :=
  typeName_ptr_named (nm := "errors.errorString") (by rw [star]; kernel_rfl) (by kernel_rfl) (by decide) u (by rw [star]; exact h)
/-- What the row's list and the world's shape give of the library's variables. -/
theorem table {W : World} (hL : laidMetH Tryz.prog Rows.fnRunDeskRow.laid W) (hsh : W.ShapedOpen Tryz.prog) : GlobG W (· < W.heap.size) := by
  have hL : laidMet Tryz.prog Rows.fnRunDeskRow.laid W := (MakeChecks.laidMetH_plain _ _ _ (by kernel_rfl)) ▸ hL
  intro g hg
  have hc : g = 1 ∨ g = 2 ∨ g = 3 ∨ g = 0 := by simpa [globs] using hg
  rcases hc with rfl | rfl | rfl | rfl
  · have h : Lib.TabIs Tryz.prog W "internal/strconv.uint64pow10" .u64 Lib.pow10Tab := Lib.tabIs_of_head (rest := _) g_uint64pow10 gType Tryz.underlying134 Tryz.underlying116 (by kernel_rfl) (by kernel_rfl) (laidMet.tail (laidMet.tail hL))
    obtain ⟨h1, t, z, h2⟩ := ofVar g_uint64pow10 h
    exact ⟨h1, _, t, z, h2, ⟨fun _ => rfl, fun h => absurd h (by decide), fun h => absurd h (by decide), fun h => absurd h (by decide)⟩⟩
  · obtain ⟨a, s, h, -, -, -⟩ := laid_sentinel (laidMet.tail (laidMet.tail (laidMet.tail (laidMet.tail (laidMet.tail hL))))) g_ErrSyntax (show (Tryz.prog.globals[2]?).map (·.type) = some 87 by kernel_rfl) Tryz.underlying87 rowP Tryz.underlying149 Tryz.underlying151 rfl rfl Tryz.underlying9 (by kernel_rfl) (by kernel_rfl)
    obtain ⟨h1, t, z, h2⟩ := ofVar g_ErrSyntax h
    exact ⟨h1, _, t, z, h2, ⟨fun h => absurd h (by decide), fun _ => ⟨_, _, rfl⟩, fun h => absurd h (by decide), fun h => absurd h (by decide)⟩⟩
  · obtain ⟨a, s, h, -, -, -⟩ := laid_sentinel (laidMet.tail (laidMet.tail (laidMet.tail (laidMet.tail hL)))) g_ErrRange (show (Tryz.prog.globals[3]?).map (·.type) = some 87 by kernel_rfl) Tryz.underlying87 rowP Tryz.underlying149 Tryz.underlying151 rfl rfl Tryz.underlying9 (by kernel_rfl) (by kernel_rfl)
    obtain ⟨h1, t, z, h2⟩ := ofVar g_ErrRange h
    exact ⟨h1, _, t, z, h2, ⟨fun h => absurd h (by decide), fun h => absurd h (by decide), fun _ => ⟨_, _, rfl⟩, fun h => absurd h (by decide)⟩⟩
  · have h0 : ((begin Tryz.prog (fun _ _ => 0) default).world.heap[0]?).bind Obj.row? = some (#[.int .i64 0], 3) := by kernel_rfl
    obtain ⟨cs, hh, hs, _⟩ := hsh.1 0 _ _ (of_decide_eq_true (by kernel_rfl)) h0
    obtain ⟨m, hm⟩ := cell_of_shapedOpen_int hsh (of_decide_eq_true (by kernel_rfl)) h0 rfl (by kernel_rfl) (by kernel_rfl) Tryz.underlying3
    have hc : cs = #[.int .i64 m] := by
      simp only [World.cell?, hh] at hm
      obtain ⟨l⟩ := cs
      match l, hs with
      | [v], _ => simp at hm; rw [hm]
    exact ⟨(Array.getElem?_eq_some_iff.1 hh).1, cs, _, _, hh, ⟨fun h => absurd h (by decide), fun h => absurd h (by decide), fun h => absurd h (by decide), fun _ => ⟨m, hc⟩⟩⟩
/-- A world that holds what is listed. -/
def setCells (cs : List Value) : Obj → Obj
  | .cells _ t z => .cells cs.toArray t z
  | o => o
mutual
def flatD : DataW Unit → List Value
  | .lit (.int k n) => [.int k n]
  | .agg ds => flatDs ds
  | _ => []
def flatDs : List (DataW Unit) → List Value
  | [] => []
  | d :: ds => flatD d ++ flatDs ds
end
noncomputable def low : Nat := (World.holding Tryz.prog default ⟨#[], #[], []⟩).heap.size
noncomputable def laidWorld (os : Os) : World := { World.holding Tryz.prog os ⟨#[.cells #[.string ⟨#[118, 97, 108, 117, 101, 32, 111, 117, 116, 32, 111, 102, 32, 114, 97, 110, 103, 101]⟩] 151, .cells #[.string ⟨#[105, 110, 118, 97, 108, 105, 100, 32, 115, 121, 110, 116, 97, 120]⟩] 151], #[], []⟩ with heap := ((((((((World.holding Tryz.prog os ⟨#[.cells #[.string ⟨#[118, 97, 108, 117, 101, 32, 111, 117, 116, 32, 111, 102, 32, 114, 97, 110, 103, 101]⟩] 151, .cells #[.string ⟨#[105, 110, 118, 97, 108, 105, 100, 32, 115, 121, 110, 116, 97, 120]⟩] 151], #[], []⟩).heap.modify 6 (setCells (flatD Rows.laid_math_bits_deBruijn32tab))).modify 7 (setCells (flatD Rows.laid_math_bits_deBruijn64tab))).modify 1 (setCells (flatD Rows.laid_internal_strconv_uint64pow10))).modify 5 (setCells (flatD Rows.laid_unicode_utf8_acceptRanges))).modify 3 (setCells [.iface 149 (.pointer (some ⟨low + 0, 0, none⟩))])).modify 2 (setCells [.iface 149 (.pointer (some ⟨low + 1, 0, none⟩))])).modify 4 (setCells (flatD Rows.laid_unicode_utf8_first))) }
theorem strRep {w : World} {ok : Nat → Prop} (s : ByteArray) : DRep w ok (.str s.data.toList) (.string s) := by
  have e : bytesOf s.data.toList = s := by obtain ⟨⟨l⟩⟩ := s; rfl
  have h : DRep w ok (.str s.data.toList) (.string (bytesOf s.data.toList)) := .str
  rwa [e] at h
theorem laid_met (os : Os) : laidMet Tryz.prog Rows.fnRunDeskRow.laid ((laidWorld os).forCall (fun _ _ => 0) ⟨#[], #[.slice none 0 0], []⟩).memory :=
  laidMet_of_run' 8 (by kernel_rfl) (by kernel_rfl)
theorem reads (os : Os) {H : Type} (enc : TypeId × Value → H) : ∃ places, DataW.whole enc Tryz.prog ((laidWorld os).forCall (fun _ _ => 0) ⟨#[], #[.slice none 0 0], []⟩).memory Tryz.f4.params.toList Rows.fnRunDeskSpec.vars false (#[.slice none 0 0] : Array Value).toList 8 = some ([.nil], [], places) :=
  ⟨[], by kernel_rfl⟩
set_option maxRecDepth 100000 in
theorem lifted (os : Os) (started : os.Started) (H : Type) (enc : TypeId × Value → H) (F : Stop.Interp) :
    ReturnsInHanded {} Tryz.checked os 4 .any ((OpenSpec.ofChange Rows.fnRunDeskSpec).preRow enc Tryz.prog Tryz.f4 Rows.fnRunDeskRow.domain false Rows.fnRunDeskRow.laid) (((OpenSpec.ofChange Rows.fnRunDeskSpec).at F).post enc Tryz.prog Tryz.f4 false true false false) := by
  obtain ⟨places, hx⟩ := reads os enc
  refine returnsInHanded_of_row (C := Tryz.checked) (s := OpenSpec.ofChange Rows.fnRunDeskSpec) own started (by kernel_rfl) Tryz.func4
    (witness_row_at (enc := enc) (C := Tryz.checked) false (laidWorld os) #[.slice none 0 0] rfl (by kernel_rfl) (by kernel_rfl) (by kernel_rfl)
      (OpenSpec.preRow_of_cond 8 hx (by kernel_rfl) (fun k hk => by cases hk) (by kernel_rfl) (laid_met os))) ?_
  intro W base args ds gs before hval0 hW _ _ _ hL hsh _
  have hval : ∀ (j : Nat) t v, Tryz.f4.params[j]? = some t → args[j]? = some v → Value.okWide Tryz.prog W .any base t v := hval0
  have hW' := hW
  obtain ⟨p, q, hA0, hV, rfl, hfz, hnd⟩ := hW
  have hA : DataW.TrodAll enc Tryz.prog W 0 (fun _ => true) true Tryz.f4.params.toList args.toList ds p := hA0
  rw [Tryz.params4] at hA hval
  obtain ⟨v0, vs0, d0, ds0, p0, q0, hargs, rfl, rfl, h0, r0⟩ := trodAll_cons hA
  obtain ⟨rfl, rfl, rfl⟩ := trodAll_nil r0
  obtain rfl : args = #[v0] := by cases args; simp_all
  obtain ⟨rfl, rfl⟩ := trodVars_none hV
  have k0 := h0
  have lt0 : ∀ x ∈ p0, x.block < W.heap.size := by obtain ⟨m, hm⟩ := k0; exact DataW.trod_lt m _ _ _ hm
  obtain ⟨xs0, hx0, hlen0⟩ : ∃ xs : List Byte, DRep W (· < W.heap.size) (.lst (xs.map encByte)) v0 ∧ xs.length ≤ maxLen := by
    obtain ⟨fuel, hf⟩ := h0
    have hok := hval 0 28 v0 rfl rfl
    obtain ⟨a, len, cap, rfl⟩ := okWide_slice Tryz.underlying28 hok
    exact open_recs (nf := 1) Tryz.underlying28 (by kernel_rfl) (by omega) (fun _ => rfl) (fun n cs y hy => by obtain ⟨p, _, hp⟩ := decByte n cs y hy; exact ⟨p, hp⟩) hf
  clear hA0 hval0
  refine (bridge (vs := #[v0]) (c_FnRunDesk xs0 (Nat.lt_of_le_of_lt hlen0 (by decide))) (table hL hsh) rfl (by
    intro i u hu
    match i with
    | 0 => simp at hu; subst hu; exact .d hx0
    | n + 1 => simp at hu)).mono fun e W' ⟨he, bel⟩ => ?_
  subst he
  exact ⟨_, rfl, _, _, _, [], _, [], hW', trodAll_mk1 (shut_bool Tryz.underlying4 _), (trodAll_cons_mk (Below.trod laidOut (by kernel_rfl) (of_decide_eq_true (by kernel_rfl)) k0 bel lt0) trodAll_mk0), rfl, bel.frame _, fun h => by cases h⟩
theorem said : Rows.FnRunDeskSaid :=
  OpenClaim.holds_of_cond 4 Tryz.f4 rfl rfl rfl rfl rfl rfl rfl ⟨rfl, rfl, rfl, rfl, rfl⟩ rfl rfl rfl rfl rfl (by kernel_rfl) Tryz.func4 (by kernel_rfl)
    (of_decide_eq_true (by kernel_rfl)) (by unfold Func.isWrapper; first | (rw [if_pos (by decide +kernel)]; kernel_rfl) | (rw [if_neg (by decide +kernel)]; exact ⟨rfl, rfl⟩))
    (fun os started H enc _ F => by rw [OpenClaim.pre_eq_preRow]; exact lifted os started H enc F)
theorem plain (f : FuncId) (fn : Func) (hf : Tryz.pinned.checked.prog.funcNamed "loop.example/widgetroom/laws.FnRunDesk" = some f) (hfn : Tryz.pinned.checked.prog.funcs[f]? = some fn) :
    true = Tryz.pinned.checked.prog.looks [] ∧ ∀ (j : Nat) t, fn.params[j]? = some t → Tryz.pinned.checked.prog.wantsStandIn t = false := by
  obtain rfl : f = 4 := Option.some.inj ((show Tryz.prog.funcNamed "loop.example/widgetroom/laws.FnRunDesk" = some 4 by kernel_rfl).symm.trans hf) |>.symm
  obtain rfl : fn = Tryz.f4 := (Option.some.inj (Tryz.func4.symm.trans hfn)).symm
  refine ⟨by kernel_rfl, fun j t ht => ?_⟩
  rw [Tryz.params4] at ht
  have hm : t ∈ [28] := by simpa using Array.mem_of_getElem? ht
  have hall : ([28].all fun u => !Tryz.prog.wantsStandIn u) = true := by kernel_rfl
  exact (show Tryz.prog.wantsStandIn t = false by simpa using List.all_eq_true.1 hall t hm)
theorem proved : Rows.FnRunDeskCardSaid :=
  Claim7.holds_tied_plain_at .later [] _ _ _ _ said (fun _ h => by cases h) (by kernel_rfl) (fun _ h => by cases h) fnRunDesk_row_tie rfl ⟨rfl, rfl⟩ (by kernel_rfl) rfl plain (by kernel_rfl)
#print axioms proved
end Go.Proofs.YtmjofbjglhdkjaaGreatDoor.fnRunDesk
namespace Go.Proofs.YtmjofbjglhdkjaaGreatDoor
/-- The card, under a short name, for the claim. -/
theorem fnRunDesk_holds : Rows.FnRunDeskCardSaid := fnRunDesk.proved
end Go.Proofs.YtmjofbjglhdkjaaGreatDoor
