import Derived.Test.YtemihgpcodcjgaaR8
set_option linter.unusedSimpArgs false
set_option linter.unusedVariables false
namespace Go.Fw

/-- A nil slice in a cell of an own box is taken for one of an own array without rows. -/
theorem Weak.ownBoxCell {s : St} (b sz : Nat) {cells : List V} (i : Nat) (hb : s.objs[b]? = some (.box cells)) (hi : cells[i]? = some .nils) : Weak s ⟨s.env, (s.objs ++ [O.arr sz []]).set b (.box (cells.set i (.msl s.objs.length sz 0 0))), s.n, s.fx⟩ := by
  refine ⟨fun x a w hC => ?_⟩
  obtain ⟨ok, ρ, hI, hF, hE, hn, hd, hx⟩ := hC
  obtain ⟨h1, h2, h3⟩ := step_new (w' := w) hI hF (Nat.le_refl _) (fun _ _ => rfl) rfl rfl rfl none (fun b hb => by cases hb)
    (o := O.arr sz []) ⟨fun r hr => (by cases hr), .inl ⟨rfl, (by rw [← hI.len]; simp)⟩⟩
  have hlt : b < s.objs.length := (List.getElem?_eq_some_iff.1 hb).1
  have hb' : (s.objs ++ [O.arr sz []])[b]? = some (.box cells) := by rw [List.getElem?_append_left hlt]; exact hb
  obtain ⟨blk, cs, t, r1, r2, r3, r4⟩ := h1.own _ _ hb'
  have hor : ORep w ok (ρ ++ [none]) b (.box (cells.set i (.msl s.objs.length sz 0 0))) := by
    refine ⟨blk, cs, t, r1, r2, by rw [List.length_set]; exact r3, fun j c hj => ?_⟩
    rw [List.getElem?_set] at hj
    split at hj
    · rename_i e
      subst e
      split at hj
      · obtain rfl : V.msl s.objs.length sz 0 0 = c := by simpa using hj
        have := r4 _ _ hi
        generalize Array.getD _ _ _ = u at this ⊢
        cases this
        exact .msl0 (by rw [List.length_append, hI.len]; simp)
      · simp at hj
    · exact r4 _ _ hj
  obtain ⟨g1, g2, g3⟩ := step_write (w' := w) h1 h2 hb' rfl r1 rfl (fun _ _ => rfl) rfl rfl rfl rfl hor rfl
  exact ⟨ok, ρ ++ [none], g1, g2, fun j => g3 _ _ (h3 _ _ (hE j)), hn, hd, hx⟩
end Go.Fw
