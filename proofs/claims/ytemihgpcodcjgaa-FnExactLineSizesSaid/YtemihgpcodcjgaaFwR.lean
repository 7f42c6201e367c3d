/- Small laws that proofs of functions use. -/
import Derived.Test.YtemihgpcodcjgaaFwQ
namespace Go.Fw


@[go_sem] theorem argVs_mapd {objs : List O} {ids bs : List Nat} : ∀ {l : List D}, argVs objs ids bs (l.map .d) = some (l.map .d)
  | [] => rfl
  | _ :: l => by simp only [List.map_cons, argVs, argV, argVs_mapd (l := l)]
@[go_sem] theorem renVs_mapd {π : List Nat} : ∀ {l : List D}, renVs π (l.map .d) = some (l.map .d)
  | [] => rfl
  | _ :: l => by simp only [List.map_cons, renVs, renV, renVs_mapd (l := l)]
@[go_sem] theorem backVs_mapd {ids : List Nat} {n : Nat} : ∀ {l : List D}, backVs ids n (l.map .d) = l.map .d
  | [] => rfl
  | _ :: l => by simp only [List.map_cons, backVs, backV, backVs_mapd (l := l)]

theorem take_one {α : Type} {a : α} : List.take 1 [a] = [a] := rfl
@[go_sem] theorem take_map_len {α β : Type} {f : α → β} {xs : List α} : (xs.map f).take xs.length = xs.map f := List.take_of_length_le (by simp)
theorem ltT {k n : Nat} (h : k < n) : ((k : Int) < n) = True := eq_true (by omega)
theorem ltF {k n : Nat} (h : ¬ k < n) : ((k : Int) < n) = False := eq_false (by omega)
theorem at_map {α β : Type} {f : α → β} {xs : List α} {k : Nat} (h : k < xs.length) : (xs.map f)[k]? = some (f xs[k]) := by
  rw [List.getElem?_map, List.getElem?_eq_getElem h, Option.map_some]

@[go_sem] theorem roundQ_ret {α : Type} {S : α → St} {Pre : α → Prop} {μ : α → Nat} {i : α} {Q : Exit → St → Prop} {s : St} : roundQ S Pre μ i Q .ret s = Q .ret s := rfl
@[go_sem] theorem roundQ_exit {α : Type} {S : α → St} {Pre : α → Prop} {μ : α → Nat} {i : α} {Q : Exit → St → Prop} {j : Nat} {s : St} : roundQ S Pre μ i Q (.exit j) s = Q (.exit j) s := rfl

/-- A loop's round ends: it goes on at j. -/
theorem round_end {α : Type} {Pre : α → Prop} {μ : α → Nat} {S : α → St} {Q : Exit → St → Prop} {s : St} {i : α} (j : α) (hp : Pre j) (hμ : μ j < μ i) (hw : Weak s (S j)) :
    roundQ S Pre μ i Q .normal s := ⟨j, hp, hμ, hw⟩
end Go.Fw
