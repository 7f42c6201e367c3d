/- The types of the loaded program, as the abstract machine is told of them, and that the program says the same. -/
import Derived.Test.YticgjepndfjafaaFwZ
import Derived.Test.YticgjepndfjafaaProg
namespace Go.Proofs.Yticgjepndfjafaa
open Go.Fw
set_option linter.unusedVariables false

def TT : Nat → Option TI
  | 3 => some ⟨.int .i64, 1, 8, [.d (.int .i64 0)]⟩
  | 4 => some ⟨.bool, 1, 1, [.d (.bool false)]⟩
  | 5 => some ⟨.int .u8, 1, 1, [.d (.int .u8 0)]⟩
  | 9 => some ⟨.str, 1, 16, [.d (.str [])]⟩
  | 22 => some ⟨.slice 5, 1, 24, [.nils]⟩
  | 23 => some ⟨.slice 42, 1, 24, [.nils]⟩
  | 25 => some ⟨.struct [(0, 1, false)] [], 1, 24, [.nils]⟩
  | 31 => some ⟨.slice 3, 1, 24, [.nils]⟩
  | 34 => some ⟨.slice 104, 1, 24, [.nils]⟩
  | 36 => some ⟨.struct [(0, 1, false), (1, 1, false), (2, 1, false), (3, 1, false), (4, 1, false), (5, 1, false), (6, 1, false), (7, 1, false), (8, 1, false)] [0, 0, 0, 1, 1, 1, 0, 0, 0], 9, 56, [.d (.int .i64 0), .d (.int .i64 0), .d (.int .i64 0), .d (.bool false), .d (.bool false), .d (.bool false), .d (.int .i64 0), .d (.int .i64 0), .d (.int .i64 0)]⟩
  | 38 => some ⟨.struct [(0, 1, false), (1, 1, false), (2, 1, false), (3, 1, false), (4, 1, false), (5, 1, false), (6, 1, false), (7, 1, false), (8, 1, false)] [0, 0, 0, 0, 0, 0, 0, 0, 0], 9, 72, [.d (.int .i64 0), .d (.int .i64 0), .d (.int .i64 0), .d (.int .i64 0), .d (.int .i64 0), .d (.int .i64 0), .d (.int .i64 0), .d (.int .i64 0), .d (.int .i64 0)]⟩
  | 40 => some ⟨.struct [(0, 1, false), (1, 1, false), (2, 1, false), (3, 1, false), (4, 1, false), (5, 1, false), (6, 1, false), (7, 1, false), (8, 1, false)] [0, 0, 0, 0, 0, 0, 0, 0, 0], 9, 72, [.d (.int .i64 0), .d (.int .i64 0), .d (.int .i64 0), .d (.int .i64 0), .d (.int .i64 0), .d (.int .i64 0), .d (.int .i64 0), .d (.int .i64 0), .d (.int .i64 0)]⟩
  | 42 => some ⟨.struct [(0, 1, false), (1, 1, false), (2, 1, false), (3, 1, false), (4, 1, false), (5, 1, false), (6, 1, false), (7, 9, true), (16, 9, true), (25, 9, true)] [], 34, 288, [.d (.int .i64 0), .d (.int .i64 0), .d (.int .i64 0), .d (.bool false), .d (.int .i64 0), .nils, .nils, .d (.int .i64 0), .d (.int .i64 0), .d (.int .i64 0), .d (.bool false), .d (.bool false), .d (.bool false), .d (.int .i64 0), .d (.int .i64 0), .d (.int .i64 0), .d (.int .i64 0), .d (.int .i64 0), .d (.int .i64 0), .d (.int .i64 0), .d (.int .i64 0), .d (.int .i64 0), .d (.int .i64 0), .d (.int .i64 0), .d (.int .i64 0), .d (.int .i64 0), .d (.int .i64 0), .d (.int .i64 0), .d (.int .i64 0), .d (.int .i64 0), .d (.int .i64 0), .d (.int .i64 0), .d (.int .i64 0), .d (.int .i64 0)]⟩
  | 55 => some ⟨.slice 59, 1, 24, [.nils]⟩
  | 59 => some ⟨.struct [(0, 1, false), (1, 1, false), (2, 1, false), (3, 1, false)] [0, 0, 0, 0], 4, 32, [.d (.int .i64 0), .d (.int .i64 0), .d (.int .i64 0), .d (.int .i64 0)]⟩
  | 70 => some ⟨.sca, 1, 8, [.any]⟩
  | 75 => some ⟨.slice 38, 1, 24, [.nils]⟩
  | 77 => some ⟨.struct [(0, 1, false), (1, 1, false), (2, 1, false)] [], 3, 72, [.nils, .nils, .nils]⟩
  | 98 => some ⟨.struct [(0, 1, false), (1, 1, false)] [], 2, 32, [.nils, .d (.int .i64 0)]⟩
  | 104 => some ⟨.struct [(0, 1, false), (1, 1, false)] [0, 0], 2, 16, [.d (.int .i64 0), .d (.int .i64 0)]⟩
  | 107 => some ⟨.slice 36, 1, 24, [.nils]⟩
  | 124 => some ⟨.slice 142, 1, 24, [.nils]⟩
  | 142 => some ⟨.struct [(0, 1, false), (1, 1, false), (2, 1, false)] [0, 0, 0], 3, 24, [.d (.int .i64 0), .d (.int .i64 0), .d (.int .i64 0)]⟩
  | 167 => some ⟨.sca, 1, 8, [.any]⟩
  | _ => none

@[go_sem] theorem TT_3 : TT 3 = some ⟨.int .i64, 1, 8, [.d (.int .i64 0)]⟩ := rfl
@[go_sem] theorem TT_4 : TT 4 = some ⟨.bool, 1, 1, [.d (.bool false)]⟩ := rfl
@[go_sem] theorem TT_5 : TT 5 = some ⟨.int .u8, 1, 1, [.d (.int .u8 0)]⟩ := rfl
@[go_sem] theorem TT_9 : TT 9 = some ⟨.str, 1, 16, [.d (.str [])]⟩ := rfl
@[go_sem] theorem TT_22 : TT 22 = some ⟨.slice 5, 1, 24, [.nils]⟩ := rfl
@[go_sem] theorem TT_23 : TT 23 = some ⟨.slice 42, 1, 24, [.nils]⟩ := rfl
@[go_sem] theorem TT_25 : TT 25 = some ⟨.struct [(0, 1, false)] [], 1, 24, [.nils]⟩ := rfl
@[go_sem] theorem TT_31 : TT 31 = some ⟨.slice 3, 1, 24, [.nils]⟩ := rfl
@[go_sem] theorem TT_34 : TT 34 = some ⟨.slice 104, 1, 24, [.nils]⟩ := rfl
@[go_sem] theorem TT_36 : TT 36 = some ⟨.struct [(0, 1, false), (1, 1, false), (2, 1, false), (3, 1, false), (4, 1, false), (5, 1, false), (6, 1, false), (7, 1, false), (8, 1, false)] [0, 0, 0, 1, 1, 1, 0, 0, 0], 9, 56, [.d (.int .i64 0), .d (.int .i64 0), .d (.int .i64 0), .d (.bool false), .d (.bool false), .d (.bool false), .d (.int .i64 0), .d (.int .i64 0), .d (.int .i64 0)]⟩ := rfl
@[go_sem] theorem TT_38 : TT 38 = some ⟨.struct [(0, 1, false), (1, 1, false), (2, 1, false), (3, 1, false), (4, 1, false), (5, 1, false), (6, 1, false), (7, 1, false), (8, 1, false)] [0, 0, 0, 0, 0, 0, 0, 0, 0], 9, 72, [.d (.int .i64 0), .d (.int .i64 0), .d (.int .i64 0), .d (.int .i64 0), .d (.int .i64 0), .d (.int .i64 0), .d (.int .i64 0), .d (.int .i64 0), .d (.int .i64 0)]⟩ := rfl
@[go_sem] theorem TT_40 : TT 40 = some ⟨.struct [(0, 1, false), (1, 1, false), (2, 1, false), (3, 1, false), (4, 1, false), (5, 1, false), (6, 1, false), (7, 1, false), (8, 1, false)] [0, 0, 0, 0, 0, 0, 0, 0, 0], 9, 72, [.d (.int .i64 0), .d (.int .i64 0), .d (.int .i64 0), .d (.int .i64 0), .d (.int .i64 0), .d (.int .i64 0), .d (.int .i64 0), .d (.int .i64 0), .d (.int .i64 0)]⟩ := rfl
@[go_sem] theorem TT_42 : TT 42 = some ⟨.struct [(0, 1, false), (1, 1, false), (2, 1, false), (3, 1, false), (4, 1, false), (5, 1, false), (6, 1, false), (7, 9, true), (16, 9, true), (25, 9, true)] [], 34, 288, [.d (.int .i64 0), .d (.int .i64 0), .d (.int .i64 0), .d (.bool false), .d (.int .i64 0), .nils, .nils, .d (.int .i64 0), .d (.int .i64 0), .d (.int .i64 0), .d (.bool false), .d (.bool false), .d (.bool false), .d (.int .i64 0), .d (.int .i64 0), .d (.int .i64 0), .d (.int .i64 0), .d (.int .i64 0), .d (.int .i64 0), .d (.int .i64 0), .d (.int .i64 0), .d (.int .i64 0), .d (.int .i64 0), .d (.int .i64 0), .d (.int .i64 0), .d (.int .i64 0), .d (.int .i64 0), .d (.int .i64 0), .d (.int .i64 0), .d (.int .i64 0), .d (.int .i64 0), .d (.int .i64 0), .d (.int .i64 0), .d (.int .i64 0)]⟩ := rfl
@[go_sem] theorem TT_55 : TT 55 = some ⟨.slice 59, 1, 24, [.nils]⟩ := rfl
@[go_sem] theorem TT_59 : TT 59 = some ⟨.struct [(0, 1, false), (1, 1, false), (2, 1, false), (3, 1, false)] [0, 0, 0, 0], 4, 32, [.d (.int .i64 0), .d (.int .i64 0), .d (.int .i64 0), .d (.int .i64 0)]⟩ := rfl
@[go_sem] theorem TT_70 : TT 70 = some ⟨.sca, 1, 8, [.any]⟩ := rfl
@[go_sem] theorem TT_75 : TT 75 = some ⟨.slice 38, 1, 24, [.nils]⟩ := rfl
@[go_sem] theorem TT_77 : TT 77 = some ⟨.struct [(0, 1, false), (1, 1, false), (2, 1, false)] [], 3, 72, [.nils, .nils, .nils]⟩ := rfl
@[go_sem] theorem TT_98 : TT 98 = some ⟨.struct [(0, 1, false), (1, 1, false)] [], 2, 32, [.nils, .d (.int .i64 0)]⟩ := rfl
@[go_sem] theorem TT_104 : TT 104 = some ⟨.struct [(0, 1, false), (1, 1, false)] [0, 0], 2, 16, [.d (.int .i64 0), .d (.int .i64 0)]⟩ := rfl
@[go_sem] theorem TT_107 : TT 107 = some ⟨.slice 36, 1, 24, [.nils]⟩ := rfl
@[go_sem] theorem TT_124 : TT 124 = some ⟨.slice 142, 1, 24, [.nils]⟩ := rfl
@[go_sem] theorem TT_142 : TT 142 = some ⟨.struct [(0, 1, false), (1, 1, false), (2, 1, false)] [0, 0, 0], 3, 24, [.d (.int .i64 0), .d (.int .i64 0), .d (.int .i64 0)]⟩ := rfl
@[go_sem] theorem TT_167 : TT 167 = some ⟨.sca, 1, 8, [.any]⟩ := rfl
theorem tc_3 : tcheck Try.prog 3 ⟨.int .i64, 1, 8, [.d (.int .i64 0)]⟩ = true := by kernel_rfl
theorem tc_4 : tcheck Try.prog 4 ⟨.bool, 1, 1, [.d (.bool false)]⟩ = true := by kernel_rfl
theorem tc_5 : tcheck Try.prog 5 ⟨.int .u8, 1, 1, [.d (.int .u8 0)]⟩ = true := by kernel_rfl
theorem tc_9 : tcheck Try.prog 9 ⟨.str, 1, 16, [.d (.str [])]⟩ = true := by kernel_rfl
theorem tc_22 : tcheck Try.prog 22 ⟨.slice 5, 1, 24, [.nils]⟩ = true := by kernel_rfl
theorem tc_23 : tcheck Try.prog 23 ⟨.slice 42, 1, 24, [.nils]⟩ = true := by kernel_rfl
theorem tc_25 : tcheck Try.prog 25 ⟨.struct [(0, 1, false)] [], 1, 24, [.nils]⟩ = true := by kernel_rfl
theorem tc_31 : tcheck Try.prog 31 ⟨.slice 3, 1, 24, [.nils]⟩ = true := by kernel_rfl
theorem tc_34 : tcheck Try.prog 34 ⟨.slice 104, 1, 24, [.nils]⟩ = true := by kernel_rfl
theorem tc_36 : tcheck Try.prog 36 ⟨.struct [(0, 1, false), (1, 1, false), (2, 1, false), (3, 1, false), (4, 1, false), (5, 1, false), (6, 1, false), (7, 1, false), (8, 1, false)] [0, 0, 0, 1, 1, 1, 0, 0, 0], 9, 56, [.d (.int .i64 0), .d (.int .i64 0), .d (.int .i64 0), .d (.bool false), .d (.bool false), .d (.bool false), .d (.int .i64 0), .d (.int .i64 0), .d (.int .i64 0)]⟩ = true := by kernel_rfl
theorem tc_38 : tcheck Try.prog 38 ⟨.struct [(0, 1, false), (1, 1, false), (2, 1, false), (3, 1, false), (4, 1, false), (5, 1, false), (6, 1, false), (7, 1, false), (8, 1, false)] [0, 0, 0, 0, 0, 0, 0, 0, 0], 9, 72, [.d (.int .i64 0), .d (.int .i64 0), .d (.int .i64 0), .d (.int .i64 0), .d (.int .i64 0), .d (.int .i64 0), .d (.int .i64 0), .d (.int .i64 0), .d (.int .i64 0)]⟩ = true := by kernel_rfl
theorem tc_40 : tcheck Try.prog 40 ⟨.struct [(0, 1, false), (1, 1, false), (2, 1, false), (3, 1, false), (4, 1, false), (5, 1, false), (6, 1, false), (7, 1, false), (8, 1, false)] [0, 0, 0, 0, 0, 0, 0, 0, 0], 9, 72, [.d (.int .i64 0), .d (.int .i64 0), .d (.int .i64 0), .d (.int .i64 0), .d (.int .i64 0), .d (.int .i64 0), .d (.int .i64 0), .d (.int .i64 0), .d (.int .i64 0)]⟩ = true := by kernel_rfl
theorem tc_42 : tcheck Try.prog 42 ⟨.struct [(0, 1, false), (1, 1, false), (2, 1, false), (3, 1, false), (4, 1, false), (5, 1, false), (6, 1, false), (7, 9, true), (16, 9, true), (25, 9, true)] [], 34, 288, [.d (.int .i64 0), .d (.int .i64 0), .d (.int .i64 0), .d (.bool false), .d (.int .i64 0), .nils, .nils, .d (.int .i64 0), .d (.int .i64 0), .d (.int .i64 0), .d (.bool false), .d (.bool false), .d (.bool false), .d (.int .i64 0), .d (.int .i64 0), .d (.int .i64 0), .d (.int .i64 0), .d (.int .i64 0), .d (.int .i64 0), .d (.int .i64 0), .d (.int .i64 0), .d (.int .i64 0), .d (.int .i64 0), .d (.int .i64 0), .d (.int .i64 0), .d (.int .i64 0), .d (.int .i64 0), .d (.int .i64 0), .d (.int .i64 0), .d (.int .i64 0), .d (.int .i64 0), .d (.int .i64 0), .d (.int .i64 0), .d (.int .i64 0)]⟩ = true := by kernel_rfl
theorem tc_55 : tcheck Try.prog 55 ⟨.slice 59, 1, 24, [.nils]⟩ = true := by kernel_rfl
theorem tc_59 : tcheck Try.prog 59 ⟨.struct [(0, 1, false), (1, 1, false), (2, 1, false), (3, 1, false)] [0, 0, 0, 0], 4, 32, [.d (.int .i64 0), .d (.int .i64 0), .d (.int .i64 0), .d (.int .i64 0)]⟩ = true := by kernel_rfl
theorem tc_70 : tcheck Try.prog 70 ⟨.sca, 1, 8, [.any]⟩ = true := by kernel_rfl
theorem tc_75 : tcheck Try.prog 75 ⟨.slice 38, 1, 24, [.nils]⟩ = true := by kernel_rfl
theorem tc_77 : tcheck Try.prog 77 ⟨.struct [(0, 1, false), (1, 1, false), (2, 1, false)] [], 3, 72, [.nils, .nils, .nils]⟩ = true := by kernel_rfl
theorem tc_98 : tcheck Try.prog 98 ⟨.struct [(0, 1, false), (1, 1, false)] [], 2, 32, [.nils, .d (.int .i64 0)]⟩ = true := by kernel_rfl
theorem tc_104 : tcheck Try.prog 104 ⟨.struct [(0, 1, false), (1, 1, false)] [0, 0], 2, 16, [.d (.int .i64 0), .d (.int .i64 0)]⟩ = true := by kernel_rfl
theorem tc_107 : tcheck Try.prog 107 ⟨.slice 36, 1, 24, [.nils]⟩ = true := by kernel_rfl
theorem tc_124 : tcheck Try.prog 124 ⟨.slice 142, 1, 24, [.nils]⟩ = true := by kernel_rfl
theorem tc_142 : tcheck Try.prog 142 ⟨.struct [(0, 1, false), (1, 1, false), (2, 1, false)] [0, 0, 0], 3, 24, [.d (.int .i64 0), .d (.int .i64 0), .d (.int .i64 0)]⟩ = true := by kernel_rfl
theorem tc_167 : tcheck Try.prog 167 ⟨.sca, 1, 8, [.any]⟩ = true := by kernel_rfl

theorem tok : TOk Try.prog TT := by
  intro t ti h
  unfold TT at h
  split at h
  · cases h; exact tc_3
  · cases h; exact tc_4
  · cases h; exact tc_5
  · cases h; exact tc_9
  · cases h; exact tc_22
  · cases h; exact tc_23
  · cases h; exact tc_25
  · cases h; exact tc_31
  · cases h; exact tc_34
  · cases h; exact tc_36
  · cases h; exact tc_38
  · cases h; exact tc_40
  · cases h; exact tc_42
  · cases h; exact tc_55
  · cases h; exact tc_59
  · cases h; exact tc_70
  · cases h; exact tc_75
  · cases h; exact tc_77
  · cases h; exact tc_98
  · cases h; exact tc_104
  · cases h; exact tc_107
  · cases h; exact tc_124
  · cases h; exact tc_142
  · cases h; exact tc_167
  · cases h

end Go.Proofs.Yticgjepndfjafaa
