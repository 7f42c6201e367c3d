import Derived.Test.YtemihgpcodcjgaaG6
set_option linter.unusedSimpArgs false
set_option linter.unusedVariables false
namespace Go.Proofs.Ytemihgpcodcjgaa
open Go.Fw

def floors (n : Int) (ws : List Int) : List Int := ws.map fun w => (n * w).tdiv (sumI ws)
/-- The first ones whose weight is not 0 have one more: after k weights. -/
def bumpTo (ws bs : List Int) (m : Int) : Nat → List Int × Int
  | 0 => (bs, m)
  | k + 1 =>
    let s := bumpTo ws bs m k
    if (ws[k]?).getD 0 ≠ 0 ∧ 0 < s.2 then (s.1.set k ((s.1[k]?).getD 0 + 1), s.2 - 1) else s
def spread (n : Int) (ws : List Int) : List Int :=
  if sumI ws = 0 then (ws.map fun _ => (0 : Int)).set (ws.length - 1) n
  else (bumpTo ws (floors n ws) (n - sumI (floors n ws)) ws.length).1

theorem bumpTo_len {ws bs : List Int} {m : Int} : ∀ k, (bumpTo ws bs m k).1.length = bs.length := by
  intro k
  induction k with
  | zero => rfl
  | succ k ih => simp only [bumpTo]; split <;> simp [ih]
theorem bumpTo_done {ws bs : List Int} {m : Int} {k : Nat} (h : (bumpTo ws bs m k).2 ≤ 0) : ∀ j, k ≤ j → bumpTo ws bs m j = bumpTo ws bs m k := by
  intro j hj
  induction j with
  | zero => obtain rfl : k = 0 := by omega
            rfl
  | succ j ih =>
    by_cases e : k = j + 1
    · rw [e]
    · have := ih (by omega)
      simp only [bumpTo]
      rw [this, if_neg (by omega)]
end Go.Proofs.Ytemihgpcodcjgaa
