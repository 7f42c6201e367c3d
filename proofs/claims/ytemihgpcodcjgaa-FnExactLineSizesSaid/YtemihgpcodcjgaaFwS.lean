/- Operations that only yield a value: what they yield, and what it leans on. -/
import Derived.Test.YtemihgpcodcjgaaFwR
set_option linter.unusedSimpArgs false
set_option linter.unusedVariables false
namespace Go.Fw

/-- If it holds, then of one value. -/
def Ex (F : (V → Prop) → Prop) : Prop := ∀ K, F K → ∃ v, K v ∧ F (· = v)

theorem Ex.one (v : V) : Ex fun K => K v := fun _ h => ⟨v, h, rfl⟩
theorem Ex.no : Ex fun _ => False := fun _ h => h.elim
theorem Ex.and {p : Prop} {F : (V → Prop) → Prop} (h : Ex F) : Ex fun K => p ∧ F K := fun K hK => by
  obtain ⟨v, h1, h2⟩ := h K hK.2
  exact ⟨v, h1, hK.1, h2⟩

theorem ibin_ex {op : BinOp} {k : IntKind} {a b : Int} : Ex (ibin op k a b) := by
  unfold ibin
  cases op <;> first | exact .one _ | exact .no | exact .and (.one _) | exact .and (.and (.one _))
theorem sbin_ex {op : BinOp} {a b : List UInt8} : Ex (sbin op a b) := by
  unfold sbin
  cases op <;> first | exact .one _ | exact .no | exact .and (.one _)
theorem bbin_ex {op : BinOp} {a b : Bool} : Ex (bbin op a b) := by
  unfold bbin
  cases op <;> first | exact .one _ | exact .no | exact .and (.one _)
theorem abin_ex {TT : Nat → Option TI} {op : BinOp} {t : TypeId} {x y : V} : Ex (abin TT op t x y) := by
  unfold abin
  split
  · exact .and ibin_ex
  · exact sbin_ex
  · exact .and bbin_ex
  · split <;> first | exact .one _ | exact .no
  · exact .no
theorem aun_ex {op : UnOp} {x : V} : Ex (aun op x) := by
  unfold aun
  split <;> first | exact .one _ | exact .no | exact .and (.one _)
theorem ldCells_ex {ti : TI} {cs : List V} : Ex (ldCells ti cs) := by
  unfold ldCells
  split
  · exact .and (.one _)
  · split <;> first | exact .one _ | exact .no
theorem ald_ex {ti : TI} {objs : List O} {x : V} : Ex (ald ti objs x) := by
  unfold ald
  split
  · split <;> first | exact ldCells_ex | exact .no
  · split
    · refine .and ?_
      split <;> first | exact ldCells_ex | exact .no
    · exact .no
  · exact ldCells_ex
  · exact .no
theorem afld_ex {off : Nat} {x : V} : Ex (afld off x) := by
  unfold afld
  split <;> first | exact .one _ | exact .no
theorem aidx_ex {sz : Nat} {x i : V} : Ex (aidx sz x i) := by
  unfold aidx
  split
  · refine .and ?_
    split <;> first | exact .and (.one _) | exact .no
  · exact .and (.and (.and (.one _)))
  · exact .no
theorem aslc_ex {TT : Nat → Option TI} {t : TypeId} {x : V} {lo hi : Option V} : Ex (aslc TT t x lo hi) := by
  unfold aslc
  split <;> first | exact .no | (refine .and ?_; split <;> first | exact .and (.and (.one _)) | exact .no)
theorem alen_ex {TT : Nat → Option TI} {t : TypeId} {x : V} : Ex (alen TT t x) := by
  unfold alen
  split <;> first | exact .and (.one _) | exact .no

theorem pv_ex {TT : Nat → Option TI} {ev : Operand → V} {objs : List O} {op : Op} : Ex (pv TT ev objs op) := by
  unfold pv
  split
  · exact .one _
  · exact .one _
  · split <;> first | exact .one _ | exact .no
  · split <;> first | exact .one _ | exact .no
  · split <;> first | exact ald_ex | exact .no
  · exact abin_ex
  · exact aun_ex
  · refine .and ?_
    split <;> first | exact .and (.one _) | exact .no
  · exact aslc_ex
  · split <;> first | exact afld_ex | exact .no
  · split
    · exact .and (.one _)
    · split <;> first | exact .one _ | exact .no
    · exact .no
  · split <;> first | exact aidx_ex | exact .no
  · refine .and ?_
    split
    · refine .and ?_
      split <;> first | exact .one _ | exact .no
    · exact .no
  · split
    · split <;> first | exact .one _ | exact .no
    · exact .no
  · split
    · split <;> first | exact .one _ | exact .no
    · exact .no
  · refine .and ?_
    split <;> first | exact .one _ | exact .no
  · split <;> first | exact alen_ex | exact .no
  · split
    · split <;> first | exact .one _ | exact .no
    · exact .no
  · split
    · split <;> first | exact .one _ | exact .no
    · exact .no
  · exact .no

/-- What holds of more values. -/
def Mo (F : (V → Prop) → Prop) : Prop := ∀ K K' : V → Prop, (∀ v, K v → K' v) → F K → F K'
theorem Mo.one (v : V) : Mo fun K => K v := fun _ _ h h' => h _ h'
theorem Mo.no : Mo fun _ => False := fun _ _ _ h => h
theorem Mo.and {p : Prop} {F : (V → Prop) → Prop} (h : Mo F) : Mo fun K => p ∧ F K := fun K K' hk hK => ⟨hK.1, h K K' hk hK.2⟩
theorem ibin_mo {op : BinOp} {k : IntKind} {a b : Int} : Mo (ibin op k a b) := by
  unfold ibin
  cases op <;> first | exact .one _ | exact .no | exact .and (.one _) | exact .and (.and (.one _))
theorem sbin_mo {op : BinOp} {a b : List UInt8} : Mo (sbin op a b) := by
  unfold sbin
  cases op <;> first | exact .one _ | exact .no | exact .and (.one _)
theorem bbin_mo {op : BinOp} {a b : Bool} : Mo (bbin op a b) := by
  unfold bbin
  cases op <;> first | exact .one _ | exact .no | exact .and (.one _)
theorem abin_mo {TT : Nat → Option TI} {op : BinOp} {t : TypeId} {x y : V} : Mo (abin TT op t x y) := by
  unfold abin
  split
  · exact .and ibin_mo
  · exact sbin_mo
  · exact .and bbin_mo
  · split <;> first | exact .one _ | exact .no
  · exact .no
theorem aun_mo {op : UnOp} {x : V} : Mo (aun op x) := by
  unfold aun
  split <;> first | exact .one _ | exact .no | exact .and (.one _)
theorem ldCells_mo {ti : TI} {cs : List V} : Mo (ldCells ti cs) := by
  unfold ldCells
  split
  · exact .and (.one _)
  · split <;> first | exact .one _ | exact .no
theorem ald_mo {ti : TI} {objs : List O} {x : V} : Mo (ald ti objs x) := by
  unfold ald
  split
  · split <;> first | exact ldCells_mo | exact .no
  · split
    · refine .and ?_
      split <;> first | exact ldCells_mo | exact .no
    · exact .no
  · exact ldCells_mo
  · exact .no
theorem afld_mo {off : Nat} {x : V} : Mo (afld off x) := by
  unfold afld
  split <;> first | exact .one _ | exact .no
theorem aidx_mo {sz : Nat} {x i : V} : Mo (aidx sz x i) := by
  unfold aidx
  split
  · refine .and ?_
    split <;> first | exact .and (.one _) | exact .no
  · exact .and (.and (.and (.one _)))
  · exact .no
theorem aslc_mo {TT : Nat → Option TI} {t : TypeId} {x : V} {lo hi : Option V} : Mo (aslc TT t x lo hi) := by
  unfold aslc
  split <;> first | exact .no | (refine .and ?_; split <;> first | exact .and (.and (.one _)) | exact .no)
theorem alen_mo {TT : Nat → Option TI} {t : TypeId} {x : V} : Mo (alen TT t x) := by
  unfold alen
  split <;> first | exact .and (.one _) | exact .no

theorem pv_mo {TT : Nat → Option TI} {ev : Operand → V} {objs : List O} {op : Op} : Mo (pv TT ev objs op) := by
  unfold pv
  split
  · exact .one _
  · exact .one _
  · split <;> first | exact .one _ | exact .no
  · split <;> first | exact .one _ | exact .no
  · split <;> first | exact ald_mo | exact .no
  · exact abin_mo
  · exact aun_mo
  · refine .and ?_
    split <;> first | exact .and (.one _) | exact .no
  · exact aslc_mo
  · split <;> first | exact afld_mo | exact .no
  · split
    · exact .and (.one _)
    · split <;> first | exact .one _ | exact .no
    · exact .no
  · split <;> first | exact aidx_mo | exact .no
  · refine .and ?_
    split
    · refine .and ?_
      split <;> first | exact .one _ | exact .no
    · exact .no
  · split
    · split <;> first | exact .one _ | exact .no
    · exact .no
  · split
    · split <;> first | exact .one _ | exact .no
    · exact .no
  · refine .and ?_
    split <;> first | exact .one _ | exact .no
  · split <;> first | exact alen_mo | exact .no
  · split
    · split <;> first | exact .one _ | exact .no
    · exact .no
  · split
    · split <;> first | exact .one _ | exact .no
    · exact .no
  · exact .no

theorem pv_mono {TT : Nat → Option TI} {ev : Operand → V} {objs : List O} {op : Op} {K K' : V → Prop} (h : ∀ v, K v → K' v) (hp : pv TT ev objs op K) : pv TT ev objs op K' :=
  pv_mo K K' h hp

theorem Option.map_same {α β : Type} {f g : α → β} {o : Option α} (h : ∀ x, o = some x → f x = g x) : o.map f = o.map g := by
  cases o with
  | none => rfl
  | some x => simp [h x rfl]

/-- What the value leans on: the operands alone. -/
theorem pv_frame {TT : Nat → Option TI} {ev ev' : Operand → V} {objs : List O} {op : Op} {K : V → Prop} (h : ∀ x ∈ op.operands.toList, ev' x = ev x)
    (hp : pv TT ev objs op K) : pv TT ev' objs op K := by
  unfold pv at hp
  split at hp
  · rw [← h _ (by simp [Op.operands])] at hp; exact hp
  · rw [← h _ (by simp [Op.operands])] at hp; exact hp
  · rename_i c a b
    rw [← h c (by simp [Op.operands]), ← h a (by simp [Op.operands]), ← h b (by simp [Op.operands])] at hp; exact hp
  · rw [← h _ (by simp [Op.operands])] at hp; exact hp
  · rename_i t x
    rw [← h x (by simp [Op.operands])] at hp; exact hp
  · rename_i op t x y u
    rw [← h x (by simp [Op.operands]), ← h y (by simp [Op.operands])] at hp; exact hp
  · rename_i op t x
    rw [← h x (by simp [Op.operands])] at hp; exact hp
  · rename_i a t x
    rw [← h x (by simp [Op.operands])] at hp; exact hp
  · rename_i t x lo hi
    rw [← h x (by simp [Op.operands]), Option.map_same (f := ev) (g := ev') (o := lo) (fun y hy => (h y (by simp [Op.operands, hy])).symm),
      Option.map_same (f := ev) (g := ev') (o := hi) (fun y hy => (h y (by simp [Op.operands, hy])).symm)] at hp; exact hp
  · rename_i t x f
    rw [← h x (by simp [Op.operands])] at hp; exact hp
  · rename_i t x f
    rw [← h x (by simp [Op.operands])] at hp; exact hp
  · rename_i t x i
    rw [← h x (by simp [Op.operands]), ← h i (by simp [Op.operands])] at hp; exact hp
  · rename_i t x i
    rw [← h x (by simp [Op.operands]), ← h i (by simp [Op.operands])] at hp; exact hp
  · rename_i x i
    rw [← h x (by simp [Op.operands])] at hp; exact hp
  · rename_i t ps
    rw [show (ps.toList.map fun p => (p.1, ev p.2)) = ps.toList.map fun p => (p.1, ev' p.2) from List.map_congr_left fun p hm => by
      rw [h p.2 (by simp only [Op.operands, List.mem_map]; exact ⟨p, hm, rfl⟩)]] at hp
    exact hp
  · rename_i f first cap
    rw [show cap.toList.map ev = cap.toList.map ev' from List.map_congr_left fun p hm => (h p (by simp only [Op.operands, Array.toList_append, List.mem_append]; exact .inr hm)).symm] at hp
    exact hp
  · rename_i args ts
    have e : ∀ x ∈ args.toList, ev' x = ev x := fun x hx => h x (by simp only [Op.operands, Call.operands, Array.toList_append, List.mem_append]; exact .inr hx)
    show (match args.toList, ts.toList with | [x], [t] => alen TT t (ev' x) K | _, _ => False)
    split at hp
    · rename_i x t h1 h2
      rw [h1, h2]
      rw [← e x (by rw [h1]; simp)] at hp
      exact hp
    · exact hp.elim
  · rename_i args ts
    have e : ∀ x ∈ args.toList, ev' x = ev x := fun x hx => h x (by simp only [Op.operands, Call.operands, Array.toList_append, List.mem_append]; exact .inr hx)
    show (match args.toList with | [x, y] => (match ev' x, ev' y with | .d (.int k a), .d (.int _ b) => K (.d (.int k (max a b))) | _, _ => False) | _ => False)
    split at hp
    · rename_i x y h1
      rw [h1]
      rw [← e x (by rw [h1]; simp), ← e y (by rw [h1]; simp)] at hp
      exact hp
    · exact hp.elim
  · rename_i args ts
    have e : ∀ x ∈ args.toList, ev' x = ev x := fun x hx => h x (by simp only [Op.operands, Call.operands, Array.toList_append, List.mem_append]; exact .inr hx)
    show (match args.toList with | [x, y] => (match ev' x, ev' y with | .d (.int k a), .d (.int _ b) => K (.d (.int k (min a b))) | _, _ => False) | _ => False)
    split at hp
    · rename_i x y h1
      rw [h1]
      rw [← e x (by rw [h1]; simp), ← e y (by rw [h1]; simp)] at hp
      exact hp
    · exact hp.elim
  · exact hp.elim

/-- Whether the objects are looked at. -/
def readsB : Op → Bool
  | .load .. => true
  | _ => false

theorem ald_ext {ti : TI} {objs os : List O} {x : V} {K : V → Prop} (h : ald ti objs x K) : ald ti (objs ++ os) x K := by
  unfold ald at h ⊢
  split at h
  · rename_i id off
    split at h
    · rename_i cells hc
      rw [List.getElem?_append_left (List.getElem?_eq_some_iff.1 hc).1, hc]
      exact h
    · exact h.elim
  · rename_i id sz i off
    split at h
    · rename_i sz' rows hc
      rw [List.getElem?_append_left (List.getElem?_eq_some_iff.1 hc).1, hc]
      exact h
    · exact h.elim
  · exact h
  · exact h.elim

theorem pv_objs {TT : Nat → Option TI} {ev : Operand → V} {objs objs' : List O} {op : Op} {K : V → Prop} (h : readsB op = true → ∃ os, objs' = objs ++ os) (hp : pv TT ev objs op K) : pv TT ev objs' op K := by
  unfold pv at hp
  split at hp
  case h_5 t x =>
    obtain ⟨os, rfl⟩ := h rfl
    show (match TT t with | some ti => ald ti (objs ++ os) (ev x) K | none => False)
    cases ht : TT t with
    | some ti => rw [ht] at hp; exact ald_ext hp
    | none => rw [ht] at hp; exact hp.elim
  all_goals first | exact hp | exact hp.elim

end Go.Fw
