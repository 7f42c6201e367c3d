/- The types of the loaded program, as the abstract machine is told of them, and that the program says the same. -/
import Derived.Lib.LaidTab
import Derived.Lib.ItoaNum
import Derived.Test.YtmjofbjglhdkjaaGreatDoorFwZ
import Derived.Test.YtmjofbjglhdkjaaGreatDoorProg
namespace Go.Proofs.YtmjofbjglhdkjaaGreatDoor
open Go.Fw
set_option linter.unusedVariables false

def TT : Nat → Option TI
  | 3 => some ⟨.int .i64, 1, 8, [.d (.int .i64 0)]⟩
  | 4 => some ⟨.bool, 1, 1, [.d (.bool false)]⟩
  | 5 => some ⟨.int .u8, 1, 1, [.d (.int .u8 0)]⟩
  | 9 => some ⟨.str, 1, 16, [.d (.str [])]⟩
  | 22 => some ⟨.slice 9, 1, 24, [.nils]⟩
  | 28 => some ⟨.slice 5, 1, 24, [.nils]⟩
  | 33 => some ⟨.slice 47, 1, 24, [.nils]⟩
  | 37 => some ⟨.sca, 1, 8, [.any]⟩
  | 43 => some ⟨.slice 3, 1, 24, [.nils]⟩
  | 47 => some ⟨.struct [(0, 1, false), (1, 1, false), (2, 1, false), (3, 1, false), (4, 1, false), (5, 1, false), (6, 1, false), (7, 1, false), (8, 1, false)] [0, 0, 0, 1, 1, 1, 0, 0, 0], 9, 56, [.d (.int .i64 0), .d (.int .i64 0), .d (.int .i64 0), .d (.bool false), .d (.bool false), .d (.bool false), .d (.int .i64 0), .d (.int .i64 0), .d (.int .i64 0)]⟩
  | 56 => some ⟨.slice 60, 1, 24, [.nils]⟩
  | 60 => some ⟨.struct [(0, 1, false), (1, 1, false), (2, 1, false), (3, 1, false)] [0, 0, 0, 0], 4, 32, [.d (.int .i64 0), .d (.int .i64 0), .d (.int .i64 0), .d (.int .i64 0)]⟩
  | 72 => some ⟨.struct [(0, 1, false), (1, 1, false)] [], 2, 32, [.nils, .d (.int .i64 0)]⟩
  | 127 => some ⟨.sca, 1, 8, [.any]⟩
  | _ => none

@[go_sem] theorem TT_3 : TT 3 = some ⟨.int .i64, 1, 8, [.d (.int .i64 0)]⟩ := rfl
@[go_sem] theorem TT_4 : TT 4 = some ⟨.bool, 1, 1, [.d (.bool false)]⟩ := rfl
@[go_sem] theorem TT_5 : TT 5 = some ⟨.int .u8, 1, 1, [.d (.int .u8 0)]⟩ := rfl
@[go_sem] theorem TT_9 : TT 9 = some ⟨.str, 1, 16, [.d (.str [])]⟩ := rfl
@[go_sem] theorem TT_22 : TT 22 = some ⟨.slice 9, 1, 24, [.nils]⟩ := rfl
@[go_sem] theorem TT_28 : TT 28 = some ⟨.slice 5, 1, 24, [.nils]⟩ := rfl
@[go_sem] theorem TT_33 : TT 33 = some ⟨.slice 47, 1, 24, [.nils]⟩ := rfl
@[go_sem] theorem TT_37 : TT 37 = some ⟨.sca, 1, 8, [.any]⟩ := rfl
@[go_sem] theorem TT_43 : TT 43 = some ⟨.slice 3, 1, 24, [.nils]⟩ := rfl
@[go_sem] theorem TT_47 : TT 47 = some ⟨.struct [(0, 1, false), (1, 1, false), (2, 1, false), (3, 1, false), (4, 1, false), (5, 1, false), (6, 1, false), (7, 1, false), (8, 1, false)] [0, 0, 0, 1, 1, 1, 0, 0, 0], 9, 56, [.d (.int .i64 0), .d (.int .i64 0), .d (.int .i64 0), .d (.bool false), .d (.bool false), .d (.bool false), .d (.int .i64 0), .d (.int .i64 0), .d (.int .i64 0)]⟩ := rfl
@[go_sem] theorem TT_56 : TT 56 = some ⟨.slice 60, 1, 24, [.nils]⟩ := rfl
@[go_sem] theorem TT_60 : TT 60 = some ⟨.struct [(0, 1, false), (1, 1, false), (2, 1, false), (3, 1, false)] [0, 0, 0, 0], 4, 32, [.d (.int .i64 0), .d (.int .i64 0), .d (.int .i64 0), .d (.int .i64 0)]⟩ := rfl
@[go_sem] theorem TT_72 : TT 72 = some ⟨.struct [(0, 1, false), (1, 1, false)] [], 2, 32, [.nils, .d (.int .i64 0)]⟩ := rfl
@[go_sem] theorem TT_127 : TT 127 = some ⟨.sca, 1, 8, [.any]⟩ := rfl
theorem tc_3 : tcheck Tryz.prog 3 ⟨.int .i64, 1, 8, [.d (.int .i64 0)]⟩ = true := by kernel_rfl
theorem tc_4 : tcheck Tryz.prog 4 ⟨.bool, 1, 1, [.d (.bool false)]⟩ = true := by kernel_rfl
theorem tc_5 : tcheck Tryz.prog 5 ⟨.int .u8, 1, 1, [.d (.int .u8 0)]⟩ = true := by kernel_rfl
theorem tc_9 : tcheck Tryz.prog 9 ⟨.str, 1, 16, [.d (.str [])]⟩ = true := by kernel_rfl
theorem tc_22 : tcheck Tryz.prog 22 ⟨.slice 9, 1, 24, [.nils]⟩ = true := by kernel_rfl
theorem tc_28 : tcheck Tryz.prog 28 ⟨.slice 5, 1, 24, [.nils]⟩ = true := by kernel_rfl
theorem tc_33 : tcheck Tryz.prog 33 ⟨.slice 47, 1, 24, [.nils]⟩ = true := by kernel_rfl
theorem tc_37 : tcheck Tryz.prog 37 ⟨.sca, 1, 8, [.any]⟩ = true := by kernel_rfl
theorem tc_43 : tcheck Tryz.prog 43 ⟨.slice 3, 1, 24, [.nils]⟩ = true := by kernel_rfl
theorem tc_47 : tcheck Tryz.prog 47 ⟨.struct [(0, 1, false), (1, 1, false), (2, 1, false), (3, 1, false), (4, 1, false), (5, 1, false), (6, 1, false), (7, 1, false), (8, 1, false)] [0, 0, 0, 1, 1, 1, 0, 0, 0], 9, 56, [.d (.int .i64 0), .d (.int .i64 0), .d (.int .i64 0), .d (.bool false), .d (.bool false), .d (.bool false), .d (.int .i64 0), .d (.int .i64 0), .d (.int .i64 0)]⟩ = true := by kernel_rfl
theorem tc_56 : tcheck Tryz.prog 56 ⟨.slice 60, 1, 24, [.nils]⟩ = true := by kernel_rfl
theorem tc_60 : tcheck Tryz.prog 60 ⟨.struct [(0, 1, false), (1, 1, false), (2, 1, false), (3, 1, false)] [0, 0, 0, 0], 4, 32, [.d (.int .i64 0), .d (.int .i64 0), .d (.int .i64 0), .d (.int .i64 0)]⟩ = true := by kernel_rfl
theorem tc_72 : tcheck Tryz.prog 72 ⟨.struct [(0, 1, false), (1, 1, false)] [], 2, 32, [.nils, .d (.int .i64 0)]⟩ = true := by kernel_rfl
theorem tc_127 : tcheck Tryz.prog 127 ⟨.sca, 1, 8, [.any]⟩ = true := by kernel_rfl

theorem tok : TOk Tryz.prog TT := by
  intro t ti h
  unfold TT at h
  split at h
  · cases h; exact tc_3
  · cases h; exact tc_4
  · cases h; exact tc_5
  · cases h; exact tc_9
  · cases h; exact tc_22
  · cases h; exact tc_28
  · cases h; exact tc_33
  · cases h; exact tc_37
  · cases h; exact tc_43
  · cases h; exact tc_47
  · cases h; exact tc_56
  · cases h; exact tc_60
  · cases h; exact tc_72
  · cases h; exact tc_127
  · cases h

theorem g_uint64pow10 : Tryz.prog.globalNamed "internal/strconv.uint64pow10" = some 1 := by kernel_rfl
theorem g_ErrSyntax : Tryz.prog.globalNamed "strconv.ErrSyntax" = some 2 := by kernel_rfl
theorem g_ErrRange : Tryz.prog.globalNamed "strconv.ErrRange" = some 3 := by kernel_rfl
theorem g_MaxLen : Tryz.prog.globalNamed "internal/bytealg.MaxLen" = some 0 := by kernel_rfl
theorem tabPow {w : World} {ok : Nat → Prop} (h : GlobG w ok) : Lib.TabIs Tryz.prog w "internal/strconv.uint64pow10" .u64 Lib.pow10Tab := by
  obtain ⟨cs, h1, h2⟩ := h.var g_uint64pow10 (by decide)
  unfold Lib.TabIs
  rw [h1, show cs = _ from h2.1 rfl]
  rfl

end Go.Proofs.YtmjofbjglhdkjaaGreatDoor
