import Derived.Test.YtemihgpcodcjgaaR8
set_option linter.unusedSimpArgs false
set_option linter.unusedVariables false
namespace Go.Proofs.Ytemihgpcodcjgaa
open Go.Fw

/-- Rows of which the first ones are done. -/
def mix {α : Type} (ys zs : List α) (k : Nat) : List α := ys.take k ++ zs.drop k
theorem mix_len {α : Type} {ys zs : List α} {k : Nat} (h : ys.length = zs.length) (hk : k ≤ ys.length) : (mix ys zs k).length = zs.length := by
  simp [mix]; omega
theorem mix_at {α : Type} {ys zs : List α} {k : Nat} (h : ys.length = zs.length) (hk : k < zs.length) : (mix ys zs k)[k]? = some zs[k] := by
  unfold mix
  rw [List.getElem?_append_right (by simp; omega)]
  simp only [List.length_take]
  rw [show k - min k ys.length = 0 by omega, List.getElem?_drop, Nat.add_zero, List.getElem?_eq_getElem hk]
theorem mix_set {α : Type} {ys zs : List α} {k : Nat} (h : ys.length = zs.length) (hk : k < ys.length) : (mix ys zs k).set k ys[k] = mix ys zs (k + 1) := by
  unfold mix
  rw [List.set_append_right _ _ (by simp; omega)]
  simp only [List.length_take]
  rw [show k - min k ys.length = 0 by omega, List.drop_eq_getElem_cons (show k < zs.length by omega), List.set_cons_zero, List.take_succ_eq_append_getElem hk, List.append_assoc]
  rfl
theorem mixmap_at {α β : Type} {f : α → β} {ys zs : List α} {k : Nat} (h : ys.length = zs.length) (hk : k < zs.length) : ((mix ys zs k).map f)[k]? = some (f zs[k]) := by
  rw [List.getElem?_map, mix_at h hk, Option.map_some]
theorem mixmap_set {α β : Type} {f : α → β} {ys zs : List α} {k : Nat} (h : ys.length = zs.length) (hk : k < ys.length) : ((mix ys zs k).map f).set k (f ys[k]) = (mix ys zs (k + 1)).map f := by
  rw [← List.map_set, mix_set h hk]
theorem mix_all {α : Type} {ys zs : List α} (h : ys.length = zs.length) : mix ys zs ys.length = ys := by unfold mix; rw [List.take_length, h, List.drop_length, List.append_nil]
theorem mix_zero {α : Type} {ys zs : List α} : mix ys zs 0 = zs := by simp [mix]

end Go.Proofs.Ytemihgpcodcjgaa
