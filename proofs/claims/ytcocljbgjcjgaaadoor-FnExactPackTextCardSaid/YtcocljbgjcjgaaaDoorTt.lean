/- The types of the loaded program, as the abstract machine is told of them, and that the program says the same. -/
import Derived.Lib.LaidTab
import Derived.Lib.ItoaNum
import Derived.Test.YtcocljbgjcjgaaaDoorFwZ
import Derived.Test.YtcocljbgjcjgaaaDoorProg
namespace Go.Proofs.YtcocljbgjcjgaaaDoor
open Go.Fw
set_option linter.unusedVariables false

def TT : Nat → Option TI
  | 3 => some ⟨.int .i64, 1, 8, [.d (.int .i64 0)]⟩
  | 4 => some ⟨.bool, 1, 1, [.d (.bool false)]⟩
  | 5 => some ⟨.int .u8, 1, 1, [.d (.int .u8 0)]⟩
  | 9 => some ⟨.str, 1, 16, [.d (.str [])]⟩
  | 23 => some ⟨.struct [(0, 1, false), (1, 1, false), (2, 1, false), (3, 1, false)] [0, 0, 0, 0], 4, 32, [.d (.int .i64 0), .d (.int .i64 0), .d (.int .i64 0), .d (.int .i64 0)]⟩
  | 25 => some ⟨.struct [(0, 1, false), (1, 1, false), (2, 1, false), (3, 1, false)] [0, 0, 0, 0], 4, 32, [.d (.int .i64 0), .d (.int .i64 0), .d (.int .i64 0), .d (.int .i64 0)]⟩
  | 28 => some ⟨.slice 5, 1, 24, [.nils]⟩
  | 34 => some ⟨.struct [(0, 1, false), (1, 1, false), (2, 1, false), (3, 1, false), (4, 1, false), (5, 1, false), (6, 1, false), (7, 1, false), (8, 1, false)] [0, 0, 0, 1, 1, 1, 0, 0, 0], 9, 56, [.d (.int .i64 0), .d (.int .i64 0), .d (.int .i64 0), .d (.bool false), .d (.bool false), .d (.bool false), .d (.int .i64 0), .d (.int .i64 0), .d (.int .i64 0)]⟩
  | 36 => some ⟨.struct [(0, 1, false), (1, 1, false), (2, 1, false), (3, 1, false), (4, 1, false), (5, 1, false), (6, 1, false), (7, 1, false), (8, 1, false)] [0, 0, 0, 1, 1, 1, 0, 0, 0], 9, 56, [.d (.int .i64 0), .d (.int .i64 0), .d (.int .i64 0), .d (.bool false), .d (.bool false), .d (.bool false), .d (.int .i64 0), .d (.int .i64 0), .d (.int .i64 0)]⟩
  | 42 => some ⟨.sca, 1, 8, [.any]⟩
  | 49 => some ⟨.slice 3, 1, 24, [.nils]⟩
  | 51 => some ⟨.struct [(0, 1, false), (1, 1, false)] [], 2, 32, [.nils, .d (.int .i64 0)]⟩
  | 53 => some ⟨.slice 9, 1, 24, [.nils]⟩
  | 80 => some ⟨.sca, 1, 8, [.any]⟩
  | _ => none

@[go_sem] theorem TT_3 : TT 3 = some ⟨.int .i64, 1, 8, [.d (.int .i64 0)]⟩ := rfl
@[go_sem] theorem TT_4 : TT 4 = some ⟨.bool, 1, 1, [.d (.bool false)]⟩ := rfl
@[go_sem] theorem TT_5 : TT 5 = some ⟨.int .u8, 1, 1, [.d (.int .u8 0)]⟩ := rfl
@[go_sem] theorem TT_9 : TT 9 = some ⟨.str, 1, 16, [.d (.str [])]⟩ := rfl
@[go_sem] theorem TT_23 : TT 23 = some ⟨.struct [(0, 1, false), (1, 1, false), (2, 1, false), (3, 1, false)] [0, 0, 0, 0], 4, 32, [.d (.int .i64 0), .d (.int .i64 0), .d (.int .i64 0), .d (.int .i64 0)]⟩ := rfl
@[go_sem] theorem TT_25 : TT 25 = some ⟨.struct [(0, 1, false), (1, 1, false), (2, 1, false), (3, 1, false)] [0, 0, 0, 0], 4, 32, [.d (.int .i64 0), .d (.int .i64 0), .d (.int .i64 0), .d (.int .i64 0)]⟩ := rfl
@[go_sem] theorem TT_28 : TT 28 = some ⟨.slice 5, 1, 24, [.nils]⟩ := rfl
@[go_sem] theorem TT_34 : TT 34 = some ⟨.struct [(0, 1, false), (1, 1, false), (2, 1, false), (3, 1, false), (4, 1, false), (5, 1, false), (6, 1, false), (7, 1, false), (8, 1, false)] [0, 0, 0, 1, 1, 1, 0, 0, 0], 9, 56, [.d (.int .i64 0), .d (.int .i64 0), .d (.int .i64 0), .d (.bool false), .d (.bool false), .d (.bool false), .d (.int .i64 0), .d (.int .i64 0), .d (.int .i64 0)]⟩ := rfl
@[go_sem] theorem TT_36 : TT 36 = some ⟨.struct [(0, 1, false), (1, 1, false), (2, 1, false), (3, 1, false), (4, 1, false), (5, 1, false), (6, 1, false), (7, 1, false), (8, 1, false)] [0, 0, 0, 1, 1, 1, 0, 0, 0], 9, 56, [.d (.int .i64 0), .d (.int .i64 0), .d (.int .i64 0), .d (.bool false), .d (.bool false), .d (.bool false), .d (.int .i64 0), .d (.int .i64 0), .d (.int .i64 0)]⟩ := rfl
@[go_sem] theorem TT_42 : TT 42 = some ⟨.sca, 1, 8, [.any]⟩ := rfl
@[go_sem] theorem TT_49 : TT 49 = some ⟨.slice 3, 1, 24, [.nils]⟩ := rfl
@[go_sem] theorem TT_51 : TT 51 = some ⟨.struct [(0, 1, false), (1, 1, false)] [], 2, 32, [.nils, .d (.int .i64 0)]⟩ := rfl
@[go_sem] theorem TT_53 : TT 53 = some ⟨.slice 9, 1, 24, [.nils]⟩ := rfl
@[go_sem] theorem TT_80 : TT 80 = some ⟨.sca, 1, 8, [.any]⟩ := rfl
theorem tc_3 : tcheck Tryd.prog 3 ⟨.int .i64, 1, 8, [.d (.int .i64 0)]⟩ = true := by kernel_rfl
theorem tc_4 : tcheck Tryd.prog 4 ⟨.bool, 1, 1, [.d (.bool false)]⟩ = true := by kernel_rfl
theorem tc_5 : tcheck Tryd.prog 5 ⟨.int .u8, 1, 1, [.d (.int .u8 0)]⟩ = true := by kernel_rfl
theorem tc_9 : tcheck Tryd.prog 9 ⟨.str, 1, 16, [.d (.str [])]⟩ = true := by kernel_rfl
theorem tc_23 : tcheck Tryd.prog 23 ⟨.struct [(0, 1, false), (1, 1, false), (2, 1, false), (3, 1, false)] [0, 0, 0, 0], 4, 32, [.d (.int .i64 0), .d (.int .i64 0), .d (.int .i64 0), .d (.int .i64 0)]⟩ = true := by kernel_rfl
theorem tc_25 : tcheck Tryd.prog 25 ⟨.struct [(0, 1, false), (1, 1, false), (2, 1, false), (3, 1, false)] [0, 0, 0, 0], 4, 32, [.d (.int .i64 0), .d (.int .i64 0), .d (.int .i64 0), .d (.int .i64 0)]⟩ = true := by kernel_rfl
theorem tc_28 : tcheck Tryd.prog 28 ⟨.slice 5, 1, 24, [.nils]⟩ = true := by kernel_rfl
theorem tc_34 : tcheck Tryd.prog 34 ⟨.struct [(0, 1, false), (1, 1, false), (2, 1, false), (3, 1, false), (4, 1, false), (5, 1, false), (6, 1, false), (7, 1, false), (8, 1, false)] [0, 0, 0, 1, 1, 1, 0, 0, 0], 9, 56, [.d (.int .i64 0), .d (.int .i64 0), .d (.int .i64 0), .d (.bool false), .d (.bool false), .d (.bool false), .d (.int .i64 0), .d (.int .i64 0), .d (.int .i64 0)]⟩ = true := by kernel_rfl
theorem tc_36 : tcheck Tryd.prog 36 ⟨.struct [(0, 1, false), (1, 1, false), (2, 1, false), (3, 1, false), (4, 1, false), (5, 1, false), (6, 1, false), (7, 1, false), (8, 1, false)] [0, 0, 0, 1, 1, 1, 0, 0, 0], 9, 56, [.d (.int .i64 0), .d (.int .i64 0), .d (.int .i64 0), .d (.bool false), .d (.bool false), .d (.bool false), .d (.int .i64 0), .d (.int .i64 0), .d (.int .i64 0)]⟩ = true := by kernel_rfl
theorem tc_42 : tcheck Tryd.prog 42 ⟨.sca, 1, 8, [.any]⟩ = true := by kernel_rfl
theorem tc_49 : tcheck Tryd.prog 49 ⟨.slice 3, 1, 24, [.nils]⟩ = true := by kernel_rfl
theorem tc_51 : tcheck Tryd.prog 51 ⟨.struct [(0, 1, false), (1, 1, false)] [], 2, 32, [.nils, .d (.int .i64 0)]⟩ = true := by kernel_rfl
theorem tc_53 : tcheck Tryd.prog 53 ⟨.slice 9, 1, 24, [.nils]⟩ = true := by kernel_rfl
theorem tc_80 : tcheck Tryd.prog 80 ⟨.sca, 1, 8, [.any]⟩ = true := by kernel_rfl

theorem tok : TOk Tryd.prog TT := by
  intro t ti h
  unfold TT at h
  split at h
  · cases h; exact tc_3
  · cases h; exact tc_4
  · cases h; exact tc_5
  · cases h; exact tc_9
  · cases h; exact tc_23
  · cases h; exact tc_25
  · cases h; exact tc_28
  · cases h; exact tc_34
  · cases h; exact tc_36
  · cases h; exact tc_42
  · cases h; exact tc_49
  · cases h; exact tc_51
  · cases h; exact tc_53
  · cases h; exact tc_80
  · cases h

theorem g_uint64pow10 : Tryd.prog.globalNamed "internal/strconv.uint64pow10" = some 0 := by kernel_rfl
theorem tabPow {w : World} {ok : Nat → Prop} (h : GlobG w ok) : Lib.TabIs Tryd.prog w "internal/strconv.uint64pow10" .u64 Lib.pow10Tab := by
  obtain ⟨cs, h1, h2⟩ := h.var g_uint64pow10 (by decide)
  unfold Lib.TabIs
  rw [h1, show cs = _ from h2 rfl]
  rfl

end Go.Proofs.YtcocljbgjcjgaaaDoor
