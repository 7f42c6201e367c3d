/- The types of the loaded program, as the abstract machine is told of them, and that the program says the same. -/
import Derived.Test.YtpfhnhhkfobjnaaFwZ
import Derived.Test.YtpfhnhhkfobjnaaProg
namespace Go.Proofs.Ytpfhnhhkfobjnaa
open Go.Fw
set_option linter.unusedVariables false

def TT : Nat → Option TI
  | 3 => some ⟨.int .i64, 1, 8, [.d (.int .i64 0)]⟩
  | 4 => some ⟨.bool, 1, 1, [.d (.bool false)]⟩
  | 5 => some ⟨.int .u8, 1, 1, [.d (.int .u8 0)]⟩
  | 9 => some ⟨.str, 1, 16, [.d (.str [])]⟩
  | 22 => some ⟨.slice 76, 1, 24, [.nils]⟩
  | 24 => some ⟨.struct [(0, 1, false)] [], 1, 24, [.nils]⟩
  | 27 => some ⟨.slice 56, 1, 24, [.nils]⟩
  | 29 => some ⟨.struct [(0, 1, false)] [], 1, 24, [.nils]⟩
  | 33 => some ⟨.slice 3, 1, 24, [.nils]⟩
  | 48 => some ⟨.slice 94, 1, 24, [.nils]⟩
  | 50 => some ⟨.struct [(0, 1, false), (1, 1, false), (2, 1, false), (3, 1, false), (4, 1, false), (5, 1, false), (6, 1, false), (7, 1, false), (8, 1, false)] [0, 0, 0, 1, 1, 1, 0, 0, 0], 9, 56, [.d (.int .i64 0), .d (.int .i64 0), .d (.int .i64 0), .d (.bool false), .d (.bool false), .d (.bool false), .d (.int .i64 0), .d (.int .i64 0), .d (.int .i64 0)]⟩
  | 52 => some ⟨.struct [(0, 1, false), (1, 1, false), (2, 1, false), (3, 1, false), (4, 1, false), (5, 1, false), (6, 1, false), (7, 1, false), (8, 1, false)] [0, 0, 0, 0, 0, 0, 0, 0, 0], 9, 72, [.d (.int .i64 0), .d (.int .i64 0), .d (.int .i64 0), .d (.int .i64 0), .d (.int .i64 0), .d (.int .i64 0), .d (.int .i64 0), .d (.int .i64 0), .d (.int .i64 0)]⟩
  | 54 => some ⟨.struct [(0, 1, false), (1, 1, false), (2, 1, false), (3, 1, false), (4, 1, false), (5, 1, false), (6, 1, false), (7, 1, false), (8, 1, false)] [0, 0, 0, 0, 0, 0, 0, 0, 0], 9, 72, [.d (.int .i64 0), .d (.int .i64 0), .d (.int .i64 0), .d (.int .i64 0), .d (.int .i64 0), .d (.int .i64 0), .d (.int .i64 0), .d (.int .i64 0), .d (.int .i64 0)]⟩
  | 56 => some ⟨.struct [(0, 1, false), (1, 1, false), (2, 1, false), (3, 1, false), (4, 1, false), (5, 1, false), (6, 1, false), (7, 9, true), (16, 9, true), (25, 9, true)] [], 34, 288, [.d (.int .i64 0), .d (.int .i64 0), .d (.int .i64 0), .d (.bool false), .d (.int .i64 0), .nils, .nils, .d (.int .i64 0), .d (.int .i64 0), .d (.int .i64 0), .d (.bool false), .d (.bool false), .d (.bool false), .d (.int .i64 0), .d (.int .i64 0), .d (.int .i64 0), .d (.int .i64 0), .d (.int .i64 0), .d (.int .i64 0), .d (.int .i64 0), .d (.int .i64 0), .d (.int .i64 0), .d (.int .i64 0), .d (.int .i64 0), .d (.int .i64 0), .d (.int .i64 0), .d (.int .i64 0), .d (.int .i64 0), .d (.int .i64 0), .d (.int .i64 0), .d (.int .i64 0), .d (.int .i64 0), .d (.int .i64 0), .d (.int .i64 0)]⟩
  | 59 => some ⟨.slice 52, 1, 24, [.nils]⟩
  | 61 => some ⟨.struct [(0, 1, false), (1, 1, false), (2, 1, false)] [], 3, 72, [.nils, .nils, .nils]⟩
  | 71 => some ⟨.slice 116, 1, 24, [.nils]⟩
  | 72 => some ⟨.struct [(0, 1, false), (1, 1, false), (2, 1, false), (3, 1, false), (4, 1, false), (5, 1, false), (6, 1, false), (7, 1, false), (8, 1, false)] [0, 0, 0, 1, 1, 1, 0, 0, 0], 9, 56, [.d (.int .i64 0), .d (.int .i64 0), .d (.int .i64 0), .d (.bool false), .d (.bool false), .d (.bool false), .d (.int .i64 0), .d (.int .i64 0), .d (.int .i64 0)]⟩
  | 73 => some ⟨.struct [(0, 1, false), (1, 1, false), (2, 1, false), (3, 1, false), (4, 1, false), (5, 1, false), (6, 1, false), (7, 1, false), (8, 1, false)] [0, 0, 0, 0, 0, 0, 0, 0, 0], 9, 72, [.d (.int .i64 0), .d (.int .i64 0), .d (.int .i64 0), .d (.int .i64 0), .d (.int .i64 0), .d (.int .i64 0), .d (.int .i64 0), .d (.int .i64 0), .d (.int .i64 0)]⟩
  | 74 => some ⟨.struct [(0, 1, false), (1, 1, false), (2, 1, false), (3, 1, false), (4, 1, false), (5, 1, false), (6, 1, false), (7, 1, false), (8, 1, false)] [0, 0, 0, 0, 0, 0, 0, 0, 0], 9, 72, [.d (.int .i64 0), .d (.int .i64 0), .d (.int .i64 0), .d (.int .i64 0), .d (.int .i64 0), .d (.int .i64 0), .d (.int .i64 0), .d (.int .i64 0), .d (.int .i64 0)]⟩
  | 76 => some ⟨.struct [(0, 1, false), (1, 1, false), (2, 1, false), (3, 1, false), (4, 1, false), (5, 1, false), (6, 1, false), (7, 9, true), (16, 9, true), (25, 9, true)] [], 34, 288, [.d (.int .i64 0), .d (.int .i64 0), .d (.int .i64 0), .d (.bool false), .d (.int .i64 0), .nils, .nils, .d (.int .i64 0), .d (.int .i64 0), .d (.int .i64 0), .d (.bool false), .d (.bool false), .d (.bool false), .d (.int .i64 0), .d (.int .i64 0), .d (.int .i64 0), .d (.int .i64 0), .d (.int .i64 0), .d (.int .i64 0), .d (.int .i64 0), .d (.int .i64 0), .d (.int .i64 0), .d (.int .i64 0), .d (.int .i64 0), .d (.int .i64 0), .d (.int .i64 0), .d (.int .i64 0), .d (.int .i64 0), .d (.int .i64 0), .d (.int .i64 0), .d (.int .i64 0), .d (.int .i64 0), .d (.int .i64 0), .d (.int .i64 0)]⟩
  | 84 => some ⟨.slice 50, 1, 24, [.nils]⟩
  | 94 => some ⟨.struct [(0, 1, false), (1, 1, false)] [0, 0], 2, 16, [.d (.int .i64 0), .d (.int .i64 0)]⟩
  | 111 => some ⟨.slice 120, 1, 24, [.nils]⟩
  | 116 => some ⟨.struct [(0, 1, false), (1, 1, false)] [0, 0], 2, 16, [.d (.int .i64 0), .d (.int .i64 0)]⟩
  | 120 => some ⟨.struct [(0, 1, false), (1, 1, false), (2, 1, false)] [0, 0, 0], 3, 24, [.d (.int .i64 0), .d (.int .i64 0), .d (.int .i64 0)]⟩
  | 134 => some ⟨.sca, 1, 8, [.any]⟩
  | 142 => some ⟨.struct [(0, 1, false), (1, 1, false), (2, 1, false), (3, 1, false)] [0, 0, 0, 0], 4, 32, [.d (.int .i64 0), .d (.int .i64 0), .d (.int .i64 0), .d (.int .i64 0)]⟩
  | _ => none

@[go_sem] theorem TT_3 : TT 3 = some ⟨.int .i64, 1, 8, [.d (.int .i64 0)]⟩ := rfl
@[go_sem] theorem TT_4 : TT 4 = some ⟨.bool, 1, 1, [.d (.bool false)]⟩ := rfl
@[go_sem] theorem TT_5 : TT 5 = some ⟨.int .u8, 1, 1, [.d (.int .u8 0)]⟩ := rfl
@[go_sem] theorem TT_9 : TT 9 = some ⟨.str, 1, 16, [.d (.str [])]⟩ := rfl
@[go_sem] theorem TT_22 : TT 22 = some ⟨.slice 76, 1, 24, [.nils]⟩ := rfl
@[go_sem] theorem TT_24 : TT 24 = some ⟨.struct [(0, 1, false)] [], 1, 24, [.nils]⟩ := rfl
@[go_sem] theorem TT_27 : TT 27 = some ⟨.slice 56, 1, 24, [.nils]⟩ := rfl
@[go_sem] theorem TT_29 : TT 29 = some ⟨.struct [(0, 1, false)] [], 1, 24, [.nils]⟩ := rfl
@[go_sem] theorem TT_33 : TT 33 = some ⟨.slice 3, 1, 24, [.nils]⟩ := rfl
@[go_sem] theorem TT_48 : TT 48 = some ⟨.slice 94, 1, 24, [.nils]⟩ := rfl
@[go_sem] theorem TT_50 : TT 50 = some ⟨.struct [(0, 1, false), (1, 1, false), (2, 1, false), (3, 1, false), (4, 1, false), (5, 1, false), (6, 1, false), (7, 1, false), (8, 1, false)] [0, 0, 0, 1, 1, 1, 0, 0, 0], 9, 56, [.d (.int .i64 0), .d (.int .i64 0), .d (.int .i64 0), .d (.bool false), .d (.bool false), .d (.bool false), .d (.int .i64 0), .d (.int .i64 0), .d (.int .i64 0)]⟩ := rfl
@[go_sem] theorem TT_52 : TT 52 = some ⟨.struct [(0, 1, false), (1, 1, false), (2, 1, false), (3, 1, false), (4, 1, false), (5, 1, false), (6, 1, false), (7, 1, false), (8, 1, false)] [0, 0, 0, 0, 0, 0, 0, 0, 0], 9, 72, [.d (.int .i64 0), .d (.int .i64 0), .d (.int .i64 0), .d (.int .i64 0), .d (.int .i64 0), .d (.int .i64 0), .d (.int .i64 0), .d (.int .i64 0), .d (.int .i64 0)]⟩ := rfl
@[go_sem] theorem TT_54 : TT 54 = some ⟨.struct [(0, 1, false), (1, 1, false), (2, 1, false), (3, 1, false), (4, 1, false), (5, 1, false), (6, 1, false), (7, 1, false), (8, 1, false)] [0, 0, 0, 0, 0, 0, 0, 0, 0], 9, 72, [.d (.int .i64 0), .d (.int .i64 0), .d (.int .i64 0), .d (.int .i64 0), .d (.int .i64 0), .d (.int .i64 0), .d (.int .i64 0), .d (.int .i64 0), .d (.int .i64 0)]⟩ := rfl
@[go_sem] theorem TT_56 : TT 56 = some ⟨.struct [(0, 1, false), (1, 1, false), (2, 1, false), (3, 1, false), (4, 1, false), (5, 1, false), (6, 1, false), (7, 9, true), (16, 9, true), (25, 9, true)] [], 34, 288, [.d (.int .i64 0), .d (.int .i64 0), .d (.int .i64 0), .d (.bool false), .d (.int .i64 0), .nils, .nils, .d (.int .i64 0), .d (.int .i64 0), .d (.int .i64 0), .d (.bool false), .d (.bool false), .d (.bool false), .d (.int .i64 0), .d (.int .i64 0), .d (.int .i64 0), .d (.int .i64 0), .d (.int .i64 0), .d (.int .i64 0), .d (.int .i64 0), .d (.int .i64 0), .d (.int .i64 0), .d (.int .i64 0), .d (.int .i64 0), .d (.int .i64 0), .d (.int .i64 0), .d (.int .i64 0), .d (.int .i64 0), .d (.int .i64 0), .d (.int .i64 0), .d (.int .i64 0), .d (.int .i64 0), .d (.int .i64 0), .d (.int .i64 0)]⟩ := rfl
@[go_sem] theorem TT_59 : TT 59 = some ⟨.slice 52, 1, 24, [.nils]⟩ := rfl
@[go_sem] theorem TT_61 : TT 61 = some ⟨.struct [(0, 1, false), (1, 1, false), (2, 1, false)] [], 3, 72, [.nils, .nils, .nils]⟩ := rfl
@[go_sem] theorem TT_71 : TT 71 = some ⟨.slice 116, 1, 24, [.nils]⟩ := rfl
@[go_sem] theorem TT_72 : TT 72 = some ⟨.struct [(0, 1, false), (1, 1, false), (2, 1, false), (3, 1, false), (4, 1, false), (5, 1, false), (6, 1, false), (7, 1, false), (8, 1, false)] [0, 0, 0, 1, 1, 1, 0, 0, 0], 9, 56, [.d (.int .i64 0), .d (.int .i64 0), .d (.int .i64 0), .d (.bool false), .d (.bool false), .d (.bool false), .d (.int .i64 0), .d (.int .i64 0), .d (.int .i64 0)]⟩ := rfl
@[go_sem] theorem TT_73 : TT 73 = some ⟨.struct [(0, 1, false), (1, 1, false), (2, 1, false), (3, 1, false), (4, 1, false), (5, 1, false), (6, 1, false), (7, 1, false), (8, 1, false)] [0, 0, 0, 0, 0, 0, 0, 0, 0], 9, 72, [.d (.int .i64 0), .d (.int .i64 0), .d (.int .i64 0), .d (.int .i64 0), .d (.int .i64 0), .d (.int .i64 0), .d (.int .i64 0), .d (.int .i64 0), .d (.int .i64 0)]⟩ := rfl
@[go_sem] theorem TT_74 : TT 74 = some ⟨.struct [(0, 1, false), (1, 1, false), (2, 1, false), (3, 1, false), (4, 1, false), (5, 1, false), (6, 1, false), (7, 1, false), (8, 1, false)] [0, 0, 0, 0, 0, 0, 0, 0, 0], 9, 72, [.d (.int .i64 0), .d (.int .i64 0), .d (.int .i64 0), .d (.int .i64 0), .d (.int .i64 0), .d (.int .i64 0), .d (.int .i64 0), .d (.int .i64 0), .d (.int .i64 0)]⟩ := rfl
@[go_sem] theorem TT_76 : TT 76 = some ⟨.struct [(0, 1, false), (1, 1, false), (2, 1, false), (3, 1, false), (4, 1, false), (5, 1, false), (6, 1, false), (7, 9, true), (16, 9, true), (25, 9, true)] [], 34, 288, [.d (.int .i64 0), .d (.int .i64 0), .d (.int .i64 0), .d (.bool false), .d (.int .i64 0), .nils, .nils, .d (.int .i64 0), .d (.int .i64 0), .d (.int .i64 0), .d (.bool false), .d (.bool false), .d (.bool false), .d (.int .i64 0), .d (.int .i64 0), .d (.int .i64 0), .d (.int .i64 0), .d (.int .i64 0), .d (.int .i64 0), .d (.int .i64 0), .d (.int .i64 0), .d (.int .i64 0), .d (.int .i64 0), .d (.int .i64 0), .d (.int .i64 0), .d (.int .i64 0), .d (.int .i64 0), .d (.int .i64 0), .d (.int .i64 0), .d (.int .i64 0), .d (.int .i64 0), .d (.int .i64 0), .d (.int .i64 0), .d (.int .i64 0)]⟩ := rfl
@[go_sem] theorem TT_84 : TT 84 = some ⟨.slice 50, 1, 24, [.nils]⟩ := rfl
@[go_sem] theorem TT_94 : TT 94 = some ⟨.struct [(0, 1, false), (1, 1, false)] [0, 0], 2, 16, [.d (.int .i64 0), .d (.int .i64 0)]⟩ := rfl
@[go_sem] theorem TT_111 : TT 111 = some ⟨.slice 120, 1, 24, [.nils]⟩ := rfl
@[go_sem] theorem TT_116 : TT 116 = some ⟨.struct [(0, 1, false), (1, 1, false)] [0, 0], 2, 16, [.d (.int .i64 0), .d (.int .i64 0)]⟩ := rfl
@[go_sem] theorem TT_120 : TT 120 = some ⟨.struct [(0, 1, false), (1, 1, false), (2, 1, false)] [0, 0, 0], 3, 24, [.d (.int .i64 0), .d (.int .i64 0), .d (.int .i64 0)]⟩ := rfl
@[go_sem] theorem TT_134 : TT 134 = some ⟨.sca, 1, 8, [.any]⟩ := rfl
@[go_sem] theorem TT_142 : TT 142 = some ⟨.struct [(0, 1, false), (1, 1, false), (2, 1, false), (3, 1, false)] [0, 0, 0, 0], 4, 32, [.d (.int .i64 0), .d (.int .i64 0), .d (.int .i64 0), .d (.int .i64 0)]⟩ := rfl
theorem tc_3 : tcheck Try.prog 3 ⟨.int .i64, 1, 8, [.d (.int .i64 0)]⟩ = true := by kernel_rfl
theorem tc_4 : tcheck Try.prog 4 ⟨.bool, 1, 1, [.d (.bool false)]⟩ = true := by kernel_rfl
theorem tc_5 : tcheck Try.prog 5 ⟨.int .u8, 1, 1, [.d (.int .u8 0)]⟩ = true := by kernel_rfl
theorem tc_9 : tcheck Try.prog 9 ⟨.str, 1, 16, [.d (.str [])]⟩ = true := by kernel_rfl
theorem tc_22 : tcheck Try.prog 22 ⟨.slice 76, 1, 24, [.nils]⟩ = true := by kernel_rfl
theorem tc_24 : tcheck Try.prog 24 ⟨.struct [(0, 1, false)] [], 1, 24, [.nils]⟩ = true := by kernel_rfl
theorem tc_27 : tcheck Try.prog 27 ⟨.slice 56, 1, 24, [.nils]⟩ = true := by kernel_rfl
theorem tc_29 : tcheck Try.prog 29 ⟨.struct [(0, 1, false)] [], 1, 24, [.nils]⟩ = true := by kernel_rfl
theorem tc_33 : tcheck Try.prog 33 ⟨.slice 3, 1, 24, [.nils]⟩ = true := by kernel_rfl
theorem tc_48 : tcheck Try.prog 48 ⟨.slice 94, 1, 24, [.nils]⟩ = true := by kernel_rfl
theorem tc_50 : tcheck Try.prog 50 ⟨.struct [(0, 1, false), (1, 1, false), (2, 1, false), (3, 1, false), (4, 1, false), (5, 1, false), (6, 1, false), (7, 1, false), (8, 1, false)] [0, 0, 0, 1, 1, 1, 0, 0, 0], 9, 56, [.d (.int .i64 0), .d (.int .i64 0), .d (.int .i64 0), .d (.bool false), .d (.bool false), .d (.bool false), .d (.int .i64 0), .d (.int .i64 0), .d (.int .i64 0)]⟩ = true := by kernel_rfl
theorem tc_52 : tcheck Try.prog 52 ⟨.struct [(0, 1, false), (1, 1, false), (2, 1, false), (3, 1, false), (4, 1, false), (5, 1, false), (6, 1, false), (7, 1, false), (8, 1, false)] [0, 0, 0, 0, 0, 0, 0, 0, 0], 9, 72, [.d (.int .i64 0), .d (.int .i64 0), .d (.int .i64 0), .d (.int .i64 0), .d (.int .i64 0), .d (.int .i64 0), .d (.int .i64 0), .d (.int .i64 0), .d (.int .i64 0)]⟩ = true := by kernel_rfl
theorem tc_54 : tcheck Try.prog 54 ⟨.struct [(0, 1, false), (1, 1, false), (2, 1, false), (3, 1, false), (4, 1, false), (5, 1, false), (6, 1, false), (7, 1, false), (8, 1, false)] [0, 0, 0, 0, 0, 0, 0, 0, 0], 9, 72, [.d (.int .i64 0), .d (.int .i64 0), .d (.int .i64 0), .d (.int .i64 0), .d (.int .i64 0), .d (.int .i64 0), .d (.int .i64 0), .d (.int .i64 0), .d (.int .i64 0)]⟩ = true := by kernel_rfl
theorem tc_56 : tcheck Try.prog 56 ⟨.struct [(0, 1, false), (1, 1, false), (2, 1, false), (3, 1, false), (4, 1, false), (5, 1, false), (6, 1, false), (7, 9, true), (16, 9, true), (25, 9, true)] [], 34, 288, [.d (.int .i64 0), .d (.int .i64 0), .d (.int .i64 0), .d (.bool false), .d (.int .i64 0), .nils, .nils, .d (.int .i64 0), .d (.int .i64 0), .d (.int .i64 0), .d (.bool false), .d (.bool false), .d (.bool false), .d (.int .i64 0), .d (.int .i64 0), .d (.int .i64 0), .d (.int .i64 0), .d (.int .i64 0), .d (.int .i64 0), .d (.int .i64 0), .d (.int .i64 0), .d (.int .i64 0), .d (.int .i64 0), .d (.int .i64 0), .d (.int .i64 0), .d (.int .i64 0), .d (.int .i64 0), .d (.int .i64 0), .d (.int .i64 0), .d (.int .i64 0), .d (.int .i64 0), .d (.int .i64 0), .d (.int .i64 0), .d (.int .i64 0)]⟩ = true := by kernel_rfl
theorem tc_59 : tcheck Try.prog 59 ⟨.slice 52, 1, 24, [.nils]⟩ = true := by kernel_rfl
theorem tc_61 : tcheck Try.prog 61 ⟨.struct [(0, 1, false), (1, 1, false), (2, 1, false)] [], 3, 72, [.nils, .nils, .nils]⟩ = true := by kernel_rfl
theorem tc_71 : tcheck Try.prog 71 ⟨.slice 116, 1, 24, [.nils]⟩ = true := by kernel_rfl
theorem tc_72 : tcheck Try.prog 72 ⟨.struct [(0, 1, false), (1, 1, false), (2, 1, false), (3, 1, false), (4, 1, false), (5, 1, false), (6, 1, false), (7, 1, false), (8, 1, false)] [0, 0, 0, 1, 1, 1, 0, 0, 0], 9, 56, [.d (.int .i64 0), .d (.int .i64 0), .d (.int .i64 0), .d (.bool false), .d (.bool false), .d (.bool false), .d (.int .i64 0), .d (.int .i64 0), .d (.int .i64 0)]⟩ = true := by kernel_rfl
theorem tc_73 : tcheck Try.prog 73 ⟨.struct [(0, 1, false), (1, 1, false), (2, 1, false), (3, 1, false), (4, 1, false), (5, 1, false), (6, 1, false), (7, 1, false), (8, 1, false)] [0, 0, 0, 0, 0, 0, 0, 0, 0], 9, 72, [.d (.int .i64 0), .d (.int .i64 0), .d (.int .i64 0), .d (.int .i64 0), .d (.int .i64 0), .d (.int .i64 0), .d (.int .i64 0), .d (.int .i64 0), .d (.int .i64 0)]⟩ = true := by kernel_rfl
theorem tc_74 : tcheck Try.prog 74 ⟨.struct [(0, 1, false), (1, 1, false), (2, 1, false), (3, 1, false), (4, 1, false), (5, 1, false), (6, 1, false), (7, 1, false), (8, 1, false)] [0, 0, 0, 0, 0, 0, 0, 0, 0], 9, 72, [.d (.int .i64 0), .d (.int .i64 0), .d (.int .i64 0), .d (.int .i64 0), .d (.int .i64 0), .d (.int .i64 0), .d (.int .i64 0), .d (.int .i64 0), .d (.int .i64 0)]⟩ = true := by kernel_rfl
theorem tc_76 : tcheck Try.prog 76 ⟨.struct [(0, 1, false), (1, 1, false), (2, 1, false), (3, 1, false), (4, 1, false), (5, 1, false), (6, 1, false), (7, 9, true), (16, 9, true), (25, 9, true)] [], 34, 288, [.d (.int .i64 0), .d (.int .i64 0), .d (.int .i64 0), .d (.bool false), .d (.int .i64 0), .nils, .nils, .d (.int .i64 0), .d (.int .i64 0), .d (.int .i64 0), .d (.bool false), .d (.bool false), .d (.bool false), .d (.int .i64 0), .d (.int .i64 0), .d (.int .i64 0), .d (.int .i64 0), .d (.int .i64 0), .d (.int .i64 0), .d (.int .i64 0), .d (.int .i64 0), .d (.int .i64 0), .d (.int .i64 0), .d (.int .i64 0), .d (.int .i64 0), .d (.int .i64 0), .d (.int .i64 0), .d (.int .i64 0), .d (.int .i64 0), .d (.int .i64 0), .d (.int .i64 0), .d (.int .i64 0), .d (.int .i64 0), .d (.int .i64 0)]⟩ = true := by kernel_rfl
theorem tc_84 : tcheck Try.prog 84 ⟨.slice 50, 1, 24, [.nils]⟩ = true := by kernel_rfl
theorem tc_94 : tcheck Try.prog 94 ⟨.struct [(0, 1, false), (1, 1, false)] [0, 0], 2, 16, [.d (.int .i64 0), .d (.int .i64 0)]⟩ = true := by kernel_rfl
theorem tc_111 : tcheck Try.prog 111 ⟨.slice 120, 1, 24, [.nils]⟩ = true := by kernel_rfl
theorem tc_116 : tcheck Try.prog 116 ⟨.struct [(0, 1, false), (1, 1, false)] [0, 0], 2, 16, [.d (.int .i64 0), .d (.int .i64 0)]⟩ = true := by kernel_rfl
theorem tc_120 : tcheck Try.prog 120 ⟨.struct [(0, 1, false), (1, 1, false), (2, 1, false)] [0, 0, 0], 3, 24, [.d (.int .i64 0), .d (.int .i64 0), .d (.int .i64 0)]⟩ = true := by kernel_rfl
theorem tc_134 : tcheck Try.prog 134 ⟨.sca, 1, 8, [.any]⟩ = true := by kernel_rfl
theorem tc_142 : tcheck Try.prog 142 ⟨.struct [(0, 1, false), (1, 1, false), (2, 1, false), (3, 1, false)] [0, 0, 0, 0], 4, 32, [.d (.int .i64 0), .d (.int .i64 0), .d (.int .i64 0), .d (.int .i64 0)]⟩ = true := by kernel_rfl

theorem tok : TOk Try.prog TT := by
  intro t ti h
  unfold TT at h
  split at h
  · cases h; exact tc_3
  · cases h; exact tc_4
  · cases h; exact tc_5
  · cases h; exact tc_9
  · cases h; exact tc_22
  · cases h; exact tc_24
  · cases h; exact tc_27
  · cases h; exact tc_29
  · cases h; exact tc_33
  · cases h; exact tc_48
  · cases h; exact tc_50
  · cases h; exact tc_52
  · cases h; exact tc_54
  · cases h; exact tc_56
  · cases h; exact tc_59
  · cases h; exact tc_61
  · cases h; exact tc_71
  · cases h; exact tc_72
  · cases h; exact tc_73
  · cases h; exact tc_74
  · cases h; exact tc_76
  · cases h; exact tc_84
  · cases h; exact tc_94
  · cases h; exact tc_111
  · cases h; exact tc_116
  · cases h; exact tc_120
  · cases h; exact tc_134
  · cases h; exact tc_142
  · cases h

end Go.Proofs.Ytpfhnhhkfobjnaa
