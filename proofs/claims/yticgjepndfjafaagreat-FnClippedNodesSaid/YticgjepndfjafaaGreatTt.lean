/- The types of the loaded program, as the abstract machine is told of them, and that the program says the same. -/
import Derived.Test.YticgjepndfjafaaGreatFwZ
import Derived.Test.YticgjepndfjafaaGreatProg
namespace Go.Proofs.YticgjepndfjafaaGreat
open Go.Fw
set_option linter.unusedVariables false

def TT : Nat → Option TI
  | 3 => some ⟨.int .i64, 1, 8, [.d (.int .i64 0)]⟩
  | 4 => some ⟨.bool, 1, 1, [.d (.bool false)]⟩
  | 5 => some ⟨.int .u8, 1, 1, [.d (.int .u8 0)]⟩
  | 9 => some ⟨.str, 1, 16, [.d (.str [])]⟩
  | 22 => some ⟨.slice 5, 1, 24, [.nils]⟩
  | 23 => some ⟨.slice 53, 1, 24, [.nils]⟩
  | 25 => some ⟨.struct [(0, 1, false)] [], 1, 24, [.nils]⟩
  | 29 => some ⟨.struct [(0, 1, false), (1, 1, false), (2, 1, false), (3, 1, false)] [0, 0, 0, 0], 4, 32, [.d (.int .i64 0), .d (.int .i64 0), .d (.int .i64 0), .d (.int .i64 0)]⟩
  | 33 => some ⟨.slice 29, 1, 24, [.nils]⟩
  | 35 => some ⟨.slice 3, 1, 24, [.nils]⟩
  | 45 => some ⟨.slice 122, 1, 24, [.nils]⟩
  | 47 => some ⟨.struct [(0, 1, false), (1, 1, false), (2, 1, false), (3, 1, false), (4, 1, false), (5, 1, false), (6, 1, false), (7, 1, false), (8, 1, false)] [0, 0, 0, 1, 1, 1, 0, 0, 0], 9, 56, [.d (.int .i64 0), .d (.int .i64 0), .d (.int .i64 0), .d (.bool false), .d (.bool false), .d (.bool false), .d (.int .i64 0), .d (.int .i64 0), .d (.int .i64 0)]⟩
  | 49 => some ⟨.struct [(0, 1, false), (1, 1, false), (2, 1, false), (3, 1, false), (4, 1, false), (5, 1, false), (6, 1, false), (7, 1, false), (8, 1, false)] [0, 0, 0, 0, 0, 0, 0, 0, 0], 9, 72, [.d (.int .i64 0), .d (.int .i64 0), .d (.int .i64 0), .d (.int .i64 0), .d (.int .i64 0), .d (.int .i64 0), .d (.int .i64 0), .d (.int .i64 0), .d (.int .i64 0)]⟩
  | 51 => some ⟨.struct [(0, 1, false), (1, 1, false), (2, 1, false), (3, 1, false), (4, 1, false), (5, 1, false), (6, 1, false), (7, 1, false), (8, 1, false)] [0, 0, 0, 0, 0, 0, 0, 0, 0], 9, 72, [.d (.int .i64 0), .d (.int .i64 0), .d (.int .i64 0), .d (.int .i64 0), .d (.int .i64 0), .d (.int .i64 0), .d (.int .i64 0), .d (.int .i64 0), .d (.int .i64 0)]⟩
  | 53 => some ⟨.struct [(0, 1, false), (1, 1, false), (2, 1, false), (3, 1, false), (4, 1, false), (5, 1, false), (6, 1, false), (7, 9, true), (16, 9, true), (25, 9, true)] [], 34, 288, [.d (.int .i64 0), .d (.int .i64 0), .d (.int .i64 0), .d (.bool false), .d (.int .i64 0), .nils, .nils, .d (.int .i64 0), .d (.int .i64 0), .d (.int .i64 0), .d (.bool false), .d (.bool false), .d (.bool false), .d (.int .i64 0), .d (.int .i64 0), .d (.int .i64 0), .d (.int .i64 0), .d (.int .i64 0), .d (.int .i64 0), .d (.int .i64 0), .d (.int .i64 0), .d (.int .i64 0), .d (.int .i64 0), .d (.int .i64 0), .d (.int .i64 0), .d (.int .i64 0), .d (.int .i64 0), .d (.int .i64 0), .d (.int .i64 0), .d (.int .i64 0), .d (.int .i64 0), .d (.int .i64 0), .d (.int .i64 0), .d (.int .i64 0)]⟩
  | 60 => some ⟨.sca, 1, 8, [.any]⟩
  | 82 => some ⟨.struct [(0, 1, false), (1, 1, false)] [], 2, 32, [.nils, .d (.int .i64 0)]⟩
  | 88 => some ⟨.slice 49, 1, 24, [.nils]⟩
  | 90 => some ⟨.struct [(0, 1, false), (1, 1, false), (2, 1, false)] [], 3, 72, [.nils, .nils, .nils]⟩
  | 93 => some ⟨.slice 47, 1, 24, [.nils]⟩
  | 112 => some ⟨.slice 137, 1, 24, [.nils]⟩
  | 122 => some ⟨.struct [(0, 1, false), (1, 1, false)] [0, 0], 2, 16, [.d (.int .i64 0), .d (.int .i64 0)]⟩
  | 137 => some ⟨.struct [(0, 1, false), (1, 1, false), (2, 1, false)] [0, 0, 0], 3, 24, [.d (.int .i64 0), .d (.int .i64 0), .d (.int .i64 0)]⟩
  | 160 => some ⟨.sca, 1, 8, [.any]⟩
  | _ => none

@[go_sem] theorem TT_3 : TT 3 = some ⟨.int .i64, 1, 8, [.d (.int .i64 0)]⟩ := rfl
@[go_sem] theorem TT_4 : TT 4 = some ⟨.bool, 1, 1, [.d (.bool false)]⟩ := rfl
@[go_sem] theorem TT_5 : TT 5 = some ⟨.int .u8, 1, 1, [.d (.int .u8 0)]⟩ := rfl
@[go_sem] theorem TT_9 : TT 9 = some ⟨.str, 1, 16, [.d (.str [])]⟩ := rfl
@[go_sem] theorem TT_22 : TT 22 = some ⟨.slice 5, 1, 24, [.nils]⟩ := rfl
@[go_sem] theorem TT_23 : TT 23 = some ⟨.slice 53, 1, 24, [.nils]⟩ := rfl
@[go_sem] theorem TT_25 : TT 25 = some ⟨.struct [(0, 1, false)] [], 1, 24, [.nils]⟩ := rfl
@[go_sem] theorem TT_29 : TT 29 = some ⟨.struct [(0, 1, false), (1, 1, false), (2, 1, false), (3, 1, false)] [0, 0, 0, 0], 4, 32, [.d (.int .i64 0), .d (.int .i64 0), .d (.int .i64 0), .d (.int .i64 0)]⟩ := rfl
@[go_sem] theorem TT_33 : TT 33 = some ⟨.slice 29, 1, 24, [.nils]⟩ := rfl
@[go_sem] theorem TT_35 : TT 35 = some ⟨.slice 3, 1, 24, [.nils]⟩ := rfl
@[go_sem] theorem TT_45 : TT 45 = some ⟨.slice 122, 1, 24, [.nils]⟩ := rfl
@[go_sem] theorem TT_47 : TT 47 = some ⟨.struct [(0, 1, false), (1, 1, false), (2, 1, false), (3, 1, false), (4, 1, false), (5, 1, false), (6, 1, false), (7, 1, false), (8, 1, false)] [0, 0, 0, 1, 1, 1, 0, 0, 0], 9, 56, [.d (.int .i64 0), .d (.int .i64 0), .d (.int .i64 0), .d (.bool false), .d (.bool false), .d (.bool false), .d (.int .i64 0), .d (.int .i64 0), .d (.int .i64 0)]⟩ := rfl
@[go_sem] theorem TT_49 : TT 49 = some ⟨.struct [(0, 1, false), (1, 1, false), (2, 1, false), (3, 1, false), (4, 1, false), (5, 1, false), (6, 1, false), (7, 1, false), (8, 1, false)] [0, 0, 0, 0, 0, 0, 0, 0, 0], 9, 72, [.d (.int .i64 0), .d (.int .i64 0), .d (.int .i64 0), .d (.int .i64 0), .d (.int .i64 0), .d (.int .i64 0), .d (.int .i64 0), .d (.int .i64 0), .d (.int .i64 0)]⟩ := rfl
@[go_sem] theorem TT_51 : TT 51 = some ⟨.struct [(0, 1, false), (1, 1, false), (2, 1, false), (3, 1, false), (4, 1, false), (5, 1, false), (6, 1, false), (7, 1, false), (8, 1, false)] [0, 0, 0, 0, 0, 0, 0, 0, 0], 9, 72, [.d (.int .i64 0), .d (.int .i64 0), .d (.int .i64 0), .d (.int .i64 0), .d (.int .i64 0), .d (.int .i64 0), .d (.int .i64 0), .d (.int .i64 0), .d (.int .i64 0)]⟩ := rfl
@[go_sem] theorem TT_53 : TT 53 = some ⟨.struct [(0, 1, false), (1, 1, false), (2, 1, false), (3, 1, false), (4, 1, false), (5, 1, false), (6, 1, false), (7, 9, true), (16, 9, true), (25, 9, true)] [], 34, 288, [.d (.int .i64 0), .d (.int .i64 0), .d (.int .i64 0), .d (.bool false), .d (.int .i64 0), .nils, .nils, .d (.int .i64 0), .d (.int .i64 0), .d (.int .i64 0), .d (.bool false), .d (.bool false), .d (.bool false), .d (.int .i64 0), .d (.int .i64 0), .d (.int .i64 0), .d (.int .i64 0), .d (.int .i64 0), .d (.int .i64 0), .d (.int .i64 0), .d (.int .i64 0), .d (.int .i64 0), .d (.int .i64 0), .d (.int .i64 0), .d (.int .i64 0), .d (.int .i64 0), .d (.int .i64 0), .d (.int .i64 0), .d (.int .i64 0), .d (.int .i64 0), .d (.int .i64 0), .d (.int .i64 0), .d (.int .i64 0), .d (.int .i64 0)]⟩ := rfl
@[go_sem] theorem TT_60 : TT 60 = some ⟨.sca, 1, 8, [.any]⟩ := rfl
@[go_sem] theorem TT_82 : TT 82 = some ⟨.struct [(0, 1, false), (1, 1, false)] [], 2, 32, [.nils, .d (.int .i64 0)]⟩ := rfl
@[go_sem] theorem TT_88 : TT 88 = some ⟨.slice 49, 1, 24, [.nils]⟩ := rfl
@[go_sem] theorem TT_90 : TT 90 = some ⟨.struct [(0, 1, false), (1, 1, false), (2, 1, false)] [], 3, 72, [.nils, .nils, .nils]⟩ := rfl
@[go_sem] theorem TT_93 : TT 93 = some ⟨.slice 47, 1, 24, [.nils]⟩ := rfl
@[go_sem] theorem TT_112 : TT 112 = some ⟨.slice 137, 1, 24, [.nils]⟩ := rfl
@[go_sem] theorem TT_122 : TT 122 = some ⟨.struct [(0, 1, false), (1, 1, false)] [0, 0], 2, 16, [.d (.int .i64 0), .d (.int .i64 0)]⟩ := rfl
@[go_sem] theorem TT_137 : TT 137 = some ⟨.struct [(0, 1, false), (1, 1, false), (2, 1, false)] [0, 0, 0], 3, 24, [.d (.int .i64 0), .d (.int .i64 0), .d (.int .i64 0)]⟩ := rfl
@[go_sem] theorem TT_160 : TT 160 = some ⟨.sca, 1, 8, [.any]⟩ := rfl
theorem tc_3 : tcheck Tryz.prog 3 ⟨.int .i64, 1, 8, [.d (.int .i64 0)]⟩ = true := by kernel_rfl
theorem tc_4 : tcheck Tryz.prog 4 ⟨.bool, 1, 1, [.d (.bool false)]⟩ = true := by kernel_rfl
theorem tc_5 : tcheck Tryz.prog 5 ⟨.int .u8, 1, 1, [.d (.int .u8 0)]⟩ = true := by kernel_rfl
theorem tc_9 : tcheck Tryz.prog 9 ⟨.str, 1, 16, [.d (.str [])]⟩ = true := by kernel_rfl
theorem tc_22 : tcheck Tryz.prog 22 ⟨.slice 5, 1, 24, [.nils]⟩ = true := by kernel_rfl
theorem tc_23 : tcheck Tryz.prog 23 ⟨.slice 53, 1, 24, [.nils]⟩ = true := by kernel_rfl
theorem tc_25 : tcheck Tryz.prog 25 ⟨.struct [(0, 1, false)] [], 1, 24, [.nils]⟩ = true := by kernel_rfl
theorem tc_29 : tcheck Tryz.prog 29 ⟨.struct [(0, 1, false), (1, 1, false), (2, 1, false), (3, 1, false)] [0, 0, 0, 0], 4, 32, [.d (.int .i64 0), .d (.int .i64 0), .d (.int .i64 0), .d (.int .i64 0)]⟩ = true := by kernel_rfl
theorem tc_33 : tcheck Tryz.prog 33 ⟨.slice 29, 1, 24, [.nils]⟩ = true := by kernel_rfl
theorem tc_35 : tcheck Tryz.prog 35 ⟨.slice 3, 1, 24, [.nils]⟩ = true := by kernel_rfl
theorem tc_45 : tcheck Tryz.prog 45 ⟨.slice 122, 1, 24, [.nils]⟩ = true := by kernel_rfl
theorem tc_47 : tcheck Tryz.prog 47 ⟨.struct [(0, 1, false), (1, 1, false), (2, 1, false), (3, 1, false), (4, 1, false), (5, 1, false), (6, 1, false), (7, 1, false), (8, 1, false)] [0, 0, 0, 1, 1, 1, 0, 0, 0], 9, 56, [.d (.int .i64 0), .d (.int .i64 0), .d (.int .i64 0), .d (.bool false), .d (.bool false), .d (.bool false), .d (.int .i64 0), .d (.int .i64 0), .d (.int .i64 0)]⟩ = true := by kernel_rfl
theorem tc_49 : tcheck Tryz.prog 49 ⟨.struct [(0, 1, false), (1, 1, false), (2, 1, false), (3, 1, false), (4, 1, false), (5, 1, false), (6, 1, false), (7, 1, false), (8, 1, false)] [0, 0, 0, 0, 0, 0, 0, 0, 0], 9, 72, [.d (.int .i64 0), .d (.int .i64 0), .d (.int .i64 0), .d (.int .i64 0), .d (.int .i64 0), .d (.int .i64 0), .d (.int .i64 0), .d (.int .i64 0), .d (.int .i64 0)]⟩ = true := by kernel_rfl
theorem tc_51 : tcheck Tryz.prog 51 ⟨.struct [(0, 1, false), (1, 1, false), (2, 1, false), (3, 1, false), (4, 1, false), (5, 1, false), (6, 1, false), (7, 1, false), (8, 1, false)] [0, 0, 0, 0, 0, 0, 0, 0, 0], 9, 72, [.d (.int .i64 0), .d (.int .i64 0), .d (.int .i64 0), .d (.int .i64 0), .d (.int .i64 0), .d (.int .i64 0), .d (.int .i64 0), .d (.int .i64 0), .d (.int .i64 0)]⟩ = true := by kernel_rfl
theorem tc_53 : tcheck Tryz.prog 53 ⟨.struct [(0, 1, false), (1, 1, false), (2, 1, false), (3, 1, false), (4, 1, false), (5, 1, false), (6, 1, false), (7, 9, true), (16, 9, true), (25, 9, true)] [], 34, 288, [.d (.int .i64 0), .d (.int .i64 0), .d (.int .i64 0), .d (.bool false), .d (.int .i64 0), .nils, .nils, .d (.int .i64 0), .d (.int .i64 0), .d (.int .i64 0), .d (.bool false), .d (.bool false), .d (.bool false), .d (.int .i64 0), .d (.int .i64 0), .d (.int .i64 0), .d (.int .i64 0), .d (.int .i64 0), .d (.int .i64 0), .d (.int .i64 0), .d (.int .i64 0), .d (.int .i64 0), .d (.int .i64 0), .d (.int .i64 0), .d (.int .i64 0), .d (.int .i64 0), .d (.int .i64 0), .d (.int .i64 0), .d (.int .i64 0), .d (.int .i64 0), .d (.int .i64 0), .d (.int .i64 0), .d (.int .i64 0), .d (.int .i64 0)]⟩ = true := by kernel_rfl
theorem tc_60 : tcheck Tryz.prog 60 ⟨.sca, 1, 8, [.any]⟩ = true := by kernel_rfl
theorem tc_82 : tcheck Tryz.prog 82 ⟨.struct [(0, 1, false), (1, 1, false)] [], 2, 32, [.nils, .d (.int .i64 0)]⟩ = true := by kernel_rfl
theorem tc_88 : tcheck Tryz.prog 88 ⟨.slice 49, 1, 24, [.nils]⟩ = true := by kernel_rfl
theorem tc_90 : tcheck Tryz.prog 90 ⟨.struct [(0, 1, false), (1, 1, false), (2, 1, false)] [], 3, 72, [.nils, .nils, .nils]⟩ = true := by kernel_rfl
theorem tc_93 : tcheck Tryz.prog 93 ⟨.slice 47, 1, 24, [.nils]⟩ = true := by kernel_rfl
theorem tc_112 : tcheck Tryz.prog 112 ⟨.slice 137, 1, 24, [.nils]⟩ = true := by kernel_rfl
theorem tc_122 : tcheck Tryz.prog 122 ⟨.struct [(0, 1, false), (1, 1, false)] [0, 0], 2, 16, [.d (.int .i64 0), .d (.int .i64 0)]⟩ = true := by kernel_rfl
theorem tc_137 : tcheck Tryz.prog 137 ⟨.struct [(0, 1, false), (1, 1, false), (2, 1, false)] [0, 0, 0], 3, 24, [.d (.int .i64 0), .d (.int .i64 0), .d (.int .i64 0)]⟩ = true := by kernel_rfl
theorem tc_160 : tcheck Tryz.prog 160 ⟨.sca, 1, 8, [.any]⟩ = true := by kernel_rfl

theorem tok : TOk Tryz.prog TT := by
  intro t ti h
  unfold TT at h
  split at h
  · cases h; exact tc_3
  · cases h; exact tc_4
  · cases h; exact tc_5
  · cases h; exact tc_9
  · cases h; exact tc_22
  · cases h; exact tc_23
  · cases h; exact tc_25
  · cases h; exact tc_29
  · cases h; exact tc_33
  · cases h; exact tc_35
  · cases h; exact tc_45
  · cases h; exact tc_47
  · cases h; exact tc_49
  · cases h; exact tc_51
  · cases h; exact tc_53
  · cases h; exact tc_60
  · cases h; exact tc_82
  · cases h; exact tc_88
  · cases h; exact tc_90
  · cases h; exact tc_93
  · cases h; exact tc_112
  · cases h; exact tc_122
  · cases h; exact tc_137
  · cases h; exact tc_160
  · cases h

end Go.Proofs.YticgjepndfjafaaGreat
