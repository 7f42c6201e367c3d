/- The types of the loaded program, as the abstract machine is told of them, and that the program says the same. -/
import Derived.Test.YtemihgpcodcjgaaFwZ
import Derived.Test.YtemihgpcodcjgaaProg
namespace Go.Proofs.Ytemihgpcodcjgaa
open Go.Fw
set_option linter.unusedVariables false

def TT : Nat → Option TI
  | 3 => some ⟨.int .i64, 1, 8, [.d (.int .i64 0)]⟩
  | 4 => some ⟨.bool, 1, 1, [.d (.bool false)]⟩
  | 5 => some ⟨.int .u8, 1, 1, [.d (.int .u8 0)]⟩
  | 9 => some ⟨.str, 1, 16, [.d (.str [])]⟩
  | 22 => some ⟨.slice 102, 1, 24, [.nils]⟩
  | 23 => some ⟨.slice 122, 1, 24, [.nils]⟩
  | 25 => some ⟨.struct [(0, 1, false), (1, 1, false), (2, 1, false)] [], 3, 72, [.nils, .nils, .nils]⟩
  | 28 => some ⟨.slice 46, 1, 24, [.nils]⟩
  | 29 => some ⟨.slice 52, 1, 24, [.nils]⟩
  | 31 => some ⟨.struct [(0, 1, false), (1, 1, false), (2, 1, false)] [], 3, 72, [.nils, .nils, .nils]⟩
  | 35 => some ⟨.slice 5, 1, 24, [.nils]⟩
  | 36 => some ⟨.slice 44, 1, 24, [.nils]⟩
  | 39 => some ⟨.slice 3, 1, 24, [.nils]⟩
  | 44 => some ⟨.struct [(0, 1, false), (1, 1, false), (2, 1, false)] [0, 0, 0], 3, 24, [.d (.int .i64 0), .d (.int .i64 0), .d (.int .i64 0)]⟩
  | 46 => some ⟨.struct [(0, 1, false), (1, 1, false)] [0, 0], 2, 16, [.d (.int .i64 0), .d (.int .i64 0)]⟩
  | 52 => some ⟨.struct [(0, 1, false), (1, 1, false), (2, 1, false), (3, 1, false), (4, 1, false), (5, 1, false), (6, 1, false), (7, 1, false), (8, 1, false)] [0, 0, 0, 0, 0, 0, 0, 0, 0], 9, 72, [.d (.int .i64 0), .d (.int .i64 0), .d (.int .i64 0), .d (.int .i64 0), .d (.int .i64 0), .d (.int .i64 0), .d (.int .i64 0), .d (.int .i64 0), .d (.int .i64 0)]⟩
  | 53 => some ⟨.slice 104, 1, 24, [.nils]⟩
  | 71 => some ⟨.slice 75, 1, 24, [.nils]⟩
  | 75 => some ⟨.struct [(0, 1, false), (1, 1, false), (2, 1, false), (3, 1, false)] [0, 0, 0, 0], 4, 32, [.d (.int .i64 0), .d (.int .i64 0), .d (.int .i64 0), .d (.int .i64 0)]⟩
  | 93 => some ⟨.sca, 1, 8, [.any]⟩
  | 102 => some ⟨.struct [(0, 1, false), (1, 1, false)] [0, 0], 2, 16, [.d (.int .i64 0), .d (.int .i64 0)]⟩
  | 104 => some ⟨.struct [(0, 1, false), (1, 1, false), (2, 1, false)] [0, 0, 0], 3, 24, [.d (.int .i64 0), .d (.int .i64 0), .d (.int .i64 0)]⟩
  | 122 => some ⟨.struct [(0, 1, false), (1, 1, false), (2, 1, false), (3, 1, false), (4, 1, false), (5, 1, false), (6, 1, false), (7, 1, false), (8, 1, false)] [0, 0, 0, 0, 0, 0, 0, 0, 0], 9, 72, [.d (.int .i64 0), .d (.int .i64 0), .d (.int .i64 0), .d (.int .i64 0), .d (.int .i64 0), .d (.int .i64 0), .d (.int .i64 0), .d (.int .i64 0), .d (.int .i64 0)]⟩
  | 128 => some ⟨.struct [(0, 1, false), (1, 1, false)] [], 2, 32, [.nils, .d (.int .i64 0)]⟩
  | 151 => some ⟨.sca, 1, 8, [.any]⟩
  | _ => none

@[go_sem] theorem TT_3 : TT 3 = some ⟨.int .i64, 1, 8, [.d (.int .i64 0)]⟩ := rfl
@[go_sem] theorem TT_4 : TT 4 = some ⟨.bool, 1, 1, [.d (.bool false)]⟩ := rfl
@[go_sem] theorem TT_5 : TT 5 = some ⟨.int .u8, 1, 1, [.d (.int .u8 0)]⟩ := rfl
@[go_sem] theorem TT_9 : TT 9 = some ⟨.str, 1, 16, [.d (.str [])]⟩ := rfl
@[go_sem] theorem TT_22 : TT 22 = some ⟨.slice 102, 1, 24, [.nils]⟩ := rfl
@[go_sem] theorem TT_23 : TT 23 = some ⟨.slice 122, 1, 24, [.nils]⟩ := rfl
@[go_sem] theorem TT_25 : TT 25 = some ⟨.struct [(0, 1, false), (1, 1, false), (2, 1, false)] [], 3, 72, [.nils, .nils, .nils]⟩ := rfl
@[go_sem] theorem TT_28 : TT 28 = some ⟨.slice 46, 1, 24, [.nils]⟩ := rfl
@[go_sem] theorem TT_29 : TT 29 = some ⟨.slice 52, 1, 24, [.nils]⟩ := rfl
@[go_sem] theorem TT_31 : TT 31 = some ⟨.struct [(0, 1, false), (1, 1, false), (2, 1, false)] [], 3, 72, [.nils, .nils, .nils]⟩ := rfl
@[go_sem] theorem TT_35 : TT 35 = some ⟨.slice 5, 1, 24, [.nils]⟩ := rfl
@[go_sem] theorem TT_36 : TT 36 = some ⟨.slice 44, 1, 24, [.nils]⟩ := rfl
@[go_sem] theorem TT_39 : TT 39 = some ⟨.slice 3, 1, 24, [.nils]⟩ := rfl
@[go_sem] theorem TT_44 : TT 44 = some ⟨.struct [(0, 1, false), (1, 1, false), (2, 1, false)] [0, 0, 0], 3, 24, [.d (.int .i64 0), .d (.int .i64 0), .d (.int .i64 0)]⟩ := rfl
@[go_sem] theorem TT_46 : TT 46 = some ⟨.struct [(0, 1, false), (1, 1, false)] [0, 0], 2, 16, [.d (.int .i64 0), .d (.int .i64 0)]⟩ := rfl
@[go_sem] theorem TT_52 : TT 52 = some ⟨.struct [(0, 1, false), (1, 1, false), (2, 1, false), (3, 1, false), (4, 1, false), (5, 1, false), (6, 1, false), (7, 1, false), (8, 1, false)] [0, 0, 0, 0, 0, 0, 0, 0, 0], 9, 72, [.d (.int .i64 0), .d (.int .i64 0), .d (.int .i64 0), .d (.int .i64 0), .d (.int .i64 0), .d (.int .i64 0), .d (.int .i64 0), .d (.int .i64 0), .d (.int .i64 0)]⟩ := rfl
@[go_sem] theorem TT_53 : TT 53 = some ⟨.slice 104, 1, 24, [.nils]⟩ := rfl
@[go_sem] theorem TT_71 : TT 71 = some ⟨.slice 75, 1, 24, [.nils]⟩ := rfl
@[go_sem] theorem TT_75 : TT 75 = some ⟨.struct [(0, 1, false), (1, 1, false), (2, 1, false), (3, 1, false)] [0, 0, 0, 0], 4, 32, [.d (.int .i64 0), .d (.int .i64 0), .d (.int .i64 0), .d (.int .i64 0)]⟩ := rfl
@[go_sem] theorem TT_93 : TT 93 = some ⟨.sca, 1, 8, [.any]⟩ := rfl
@[go_sem] theorem TT_102 : TT 102 = some ⟨.struct [(0, 1, false), (1, 1, false)] [0, 0], 2, 16, [.d (.int .i64 0), .d (.int .i64 0)]⟩ := rfl
@[go_sem] theorem TT_104 : TT 104 = some ⟨.struct [(0, 1, false), (1, 1, false), (2, 1, false)] [0, 0, 0], 3, 24, [.d (.int .i64 0), .d (.int .i64 0), .d (.int .i64 0)]⟩ := rfl
@[go_sem] theorem TT_122 : TT 122 = some ⟨.struct [(0, 1, false), (1, 1, false), (2, 1, false), (3, 1, false), (4, 1, false), (5, 1, false), (6, 1, false), (7, 1, false), (8, 1, false)] [0, 0, 0, 0, 0, 0, 0, 0, 0], 9, 72, [.d (.int .i64 0), .d (.int .i64 0), .d (.int .i64 0), .d (.int .i64 0), .d (.int .i64 0), .d (.int .i64 0), .d (.int .i64 0), .d (.int .i64 0), .d (.int .i64 0)]⟩ := rfl
@[go_sem] theorem TT_128 : TT 128 = some ⟨.struct [(0, 1, false), (1, 1, false)] [], 2, 32, [.nils, .d (.int .i64 0)]⟩ := rfl
@[go_sem] theorem TT_151 : TT 151 = some ⟨.sca, 1, 8, [.any]⟩ := rfl
theorem tc_3 : tcheck Try.prog 3 ⟨.int .i64, 1, 8, [.d (.int .i64 0)]⟩ = true := by kernel_rfl
theorem tc_4 : tcheck Try.prog 4 ⟨.bool, 1, 1, [.d (.bool false)]⟩ = true := by kernel_rfl
theorem tc_5 : tcheck Try.prog 5 ⟨.int .u8, 1, 1, [.d (.int .u8 0)]⟩ = true := by kernel_rfl
theorem tc_9 : tcheck Try.prog 9 ⟨.str, 1, 16, [.d (.str [])]⟩ = true := by kernel_rfl
theorem tc_22 : tcheck Try.prog 22 ⟨.slice 102, 1, 24, [.nils]⟩ = true := by kernel_rfl
theorem tc_23 : tcheck Try.prog 23 ⟨.slice 122, 1, 24, [.nils]⟩ = true := by kernel_rfl
theorem tc_25 : tcheck Try.prog 25 ⟨.struct [(0, 1, false), (1, 1, false), (2, 1, false)] [], 3, 72, [.nils, .nils, .nils]⟩ = true := by kernel_rfl
theorem tc_28 : tcheck Try.prog 28 ⟨.slice 46, 1, 24, [.nils]⟩ = true := by kernel_rfl
theorem tc_29 : tcheck Try.prog 29 ⟨.slice 52, 1, 24, [.nils]⟩ = true := by kernel_rfl
theorem tc_31 : tcheck Try.prog 31 ⟨.struct [(0, 1, false), (1, 1, false), (2, 1, false)] [], 3, 72, [.nils, .nils, .nils]⟩ = true := by kernel_rfl
theorem tc_35 : tcheck Try.prog 35 ⟨.slice 5, 1, 24, [.nils]⟩ = true := by kernel_rfl
theorem tc_36 : tcheck Try.prog 36 ⟨.slice 44, 1, 24, [.nils]⟩ = true := by kernel_rfl
theorem tc_39 : tcheck Try.prog 39 ⟨.slice 3, 1, 24, [.nils]⟩ = true := by kernel_rfl
theorem tc_44 : tcheck Try.prog 44 ⟨.struct [(0, 1, false), (1, 1, false), (2, 1, false)] [0, 0, 0], 3, 24, [.d (.int .i64 0), .d (.int .i64 0), .d (.int .i64 0)]⟩ = true := by kernel_rfl
theorem tc_46 : tcheck Try.prog 46 ⟨.struct [(0, 1, false), (1, 1, false)] [0, 0], 2, 16, [.d (.int .i64 0), .d (.int .i64 0)]⟩ = true := by kernel_rfl
theorem tc_52 : tcheck Try.prog 52 ⟨.struct [(0, 1, false), (1, 1, false), (2, 1, false), (3, 1, false), (4, 1, false), (5, 1, false), (6, 1, false), (7, 1, false), (8, 1, false)] [0, 0, 0, 0, 0, 0, 0, 0, 0], 9, 72, [.d (.int .i64 0), .d (.int .i64 0), .d (.int .i64 0), .d (.int .i64 0), .d (.int .i64 0), .d (.int .i64 0), .d (.int .i64 0), .d (.int .i64 0), .d (.int .i64 0)]⟩ = true := by kernel_rfl
theorem tc_53 : tcheck Try.prog 53 ⟨.slice 104, 1, 24, [.nils]⟩ = true := by kernel_rfl
theorem tc_71 : tcheck Try.prog 71 ⟨.slice 75, 1, 24, [.nils]⟩ = true := by kernel_rfl
theorem tc_75 : tcheck Try.prog 75 ⟨.struct [(0, 1, false), (1, 1, false), (2, 1, false), (3, 1, false)] [0, 0, 0, 0], 4, 32, [.d (.int .i64 0), .d (.int .i64 0), .d (.int .i64 0), .d (.int .i64 0)]⟩ = true := by kernel_rfl
theorem tc_93 : tcheck Try.prog 93 ⟨.sca, 1, 8, [.any]⟩ = true := by kernel_rfl
theorem tc_102 : tcheck Try.prog 102 ⟨.struct [(0, 1, false), (1, 1, false)] [0, 0], 2, 16, [.d (.int .i64 0), .d (.int .i64 0)]⟩ = true := by kernel_rfl
theorem tc_104 : tcheck Try.prog 104 ⟨.struct [(0, 1, false), (1, 1, false), (2, 1, false)] [0, 0, 0], 3, 24, [.d (.int .i64 0), .d (.int .i64 0), .d (.int .i64 0)]⟩ = true := by kernel_rfl
theorem tc_122 : tcheck Try.prog 122 ⟨.struct [(0, 1, false), (1, 1, false), (2, 1, false), (3, 1, false), (4, 1, false), (5, 1, false), (6, 1, false), (7, 1, false), (8, 1, false)] [0, 0, 0, 0, 0, 0, 0, 0, 0], 9, 72, [.d (.int .i64 0), .d (.int .i64 0), .d (.int .i64 0), .d (.int .i64 0), .d (.int .i64 0), .d (.int .i64 0), .d (.int .i64 0), .d (.int .i64 0), .d (.int .i64 0)]⟩ = true := by kernel_rfl
theorem tc_128 : tcheck Try.prog 128 ⟨.struct [(0, 1, false), (1, 1, false)] [], 2, 32, [.nils, .d (.int .i64 0)]⟩ = true := by kernel_rfl
theorem tc_151 : tcheck Try.prog 151 ⟨.sca, 1, 8, [.any]⟩ = true := by kernel_rfl

theorem tok : TOk Try.prog TT := by
  intro t ti h
  unfold TT at h
  split at h
  · cases h; exact tc_3
  · cases h; exact tc_4
  · cases h; exact tc_5
  · cases h; exact tc_9
  · cases h; exact tc_22
  · cases h; exact tc_23
  · cases h; exact tc_25
  · cases h; exact tc_28
  · cases h; exact tc_29
  · cases h; exact tc_31
  · cases h; exact tc_35
  · cases h; exact tc_36
  · cases h; exact tc_39
  · cases h; exact tc_44
  · cases h; exact tc_46
  · cases h; exact tc_52
  · cases h; exact tc_53
  · cases h; exact tc_71
  · cases h; exact tc_75
  · cases h; exact tc_93
  · cases h; exact tc_102
  · cases h; exact tc_104
  · cases h; exact tc_122
  · cases h; exact tc_128
  · cases h; exact tc_151
  · cases h

end Go.Proofs.Ytemihgpcodcjgaa
