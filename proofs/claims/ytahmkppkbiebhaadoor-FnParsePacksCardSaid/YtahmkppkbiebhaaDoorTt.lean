/- The types of the loaded program, as the abstract machine is told of them, and that the program says the same. -/
import Derived.Lib.LaidTab
import Derived.Lib.ItoaNum
import Derived.Test.YtahmkppkbiebhaaDoorFwZ
import Derived.Test.YtahmkppkbiebhaaDoorProg
namespace Go.Proofs.YtahmkppkbiebhaaDoor
open Go.Fw
set_option linter.unusedVariables false

def TT : Nat → Option TI
  | 3 => some ⟨.int .i64, 1, 8, [.d (.int .i64 0)]⟩
  | 4 => some ⟨.bool, 1, 1, [.d (.bool false)]⟩
  | 5 => some ⟨.int .u8, 1, 1, [.d (.int .u8 0)]⟩
  | 9 => some ⟨.str, 1, 16, [.d (.str [])]⟩
  | 22 => some ⟨.slice 5, 1, 24, [.nils]⟩
  | 24 => some ⟨.struct [(0, 1, false), (1, 1, false), (2, 1, false), (3, 1, false), (4, 1, false), (5, 1, false), (6, 1, false), (7, 1, false), (8, 1, false)] [0, 0, 0, 1, 1, 1, 0, 0, 0], 9, 56, [.d (.int .i64 0), .d (.int .i64 0), .d (.int .i64 0), .d (.bool false), .d (.bool false), .d (.bool false), .d (.int .i64 0), .d (.int .i64 0), .d (.int .i64 0)]⟩
  | 34 => some ⟨.slice 24, 1, 24, [.nils]⟩
  | 40 => some ⟨.sca, 1, 8, [.any]⟩
  | 50 => some ⟨.slice 3, 1, 24, [.nils]⟩
  | 52 => some ⟨.struct [(0, 1, false), (1, 1, false)] [], 2, 32, [.nils, .d (.int .i64 0)]⟩
  | 53 => some ⟨.slice 9, 1, 24, [.nils]⟩
  | 108 => some ⟨.sca, 1, 8, [.any]⟩
  | _ => none

@[go_sem] theorem TT_3 : TT 3 = some ⟨.int .i64, 1, 8, [.d (.int .i64 0)]⟩ := rfl
@[go_sem] theorem TT_4 : TT 4 = some ⟨.bool, 1, 1, [.d (.bool false)]⟩ := rfl
@[go_sem] theorem TT_5 : TT 5 = some ⟨.int .u8, 1, 1, [.d (.int .u8 0)]⟩ := rfl
@[go_sem] theorem TT_9 : TT 9 = some ⟨.str, 1, 16, [.d (.str [])]⟩ := rfl
@[go_sem] theorem TT_22 : TT 22 = some ⟨.slice 5, 1, 24, [.nils]⟩ := rfl
@[go_sem] theorem TT_24 : TT 24 = some ⟨.struct [(0, 1, false), (1, 1, false), (2, 1, false), (3, 1, false), (4, 1, false), (5, 1, false), (6, 1, false), (7, 1, false), (8, 1, false)] [0, 0, 0, 1, 1, 1, 0, 0, 0], 9, 56, [.d (.int .i64 0), .d (.int .i64 0), .d (.int .i64 0), .d (.bool false), .d (.bool false), .d (.bool false), .d (.int .i64 0), .d (.int .i64 0), .d (.int .i64 0)]⟩ := rfl
@[go_sem] theorem TT_34 : TT 34 = some ⟨.slice 24, 1, 24, [.nils]⟩ := rfl
@[go_sem] theorem TT_40 : TT 40 = some ⟨.sca, 1, 8, [.any]⟩ := rfl
@[go_sem] theorem TT_50 : TT 50 = some ⟨.slice 3, 1, 24, [.nils]⟩ := rfl
@[go_sem] theorem TT_52 : TT 52 = some ⟨.struct [(0, 1, false), (1, 1, false)] [], 2, 32, [.nils, .d (.int .i64 0)]⟩ := rfl
@[go_sem] theorem TT_53 : TT 53 = some ⟨.slice 9, 1, 24, [.nils]⟩ := rfl
@[go_sem] theorem TT_108 : TT 108 = some ⟨.sca, 1, 8, [.any]⟩ := rfl
theorem tc_3 : tcheck Tryd.prog 3 ⟨.int .i64, 1, 8, [.d (.int .i64 0)]⟩ = true := by kernel_rfl
theorem tc_4 : tcheck Tryd.prog 4 ⟨.bool, 1, 1, [.d (.bool false)]⟩ = true := by kernel_rfl
theorem tc_5 : tcheck Tryd.prog 5 ⟨.int .u8, 1, 1, [.d (.int .u8 0)]⟩ = true := by kernel_rfl
theorem tc_9 : tcheck Tryd.prog 9 ⟨.str, 1, 16, [.d (.str [])]⟩ = true := by kernel_rfl
theorem tc_22 : tcheck Tryd.prog 22 ⟨.slice 5, 1, 24, [.nils]⟩ = true := by kernel_rfl
theorem tc_24 : tcheck Tryd.prog 24 ⟨.struct [(0, 1, false), (1, 1, false), (2, 1, false), (3, 1, false), (4, 1, false), (5, 1, false), (6, 1, false), (7, 1, false), (8, 1, false)] [0, 0, 0, 1, 1, 1, 0, 0, 0], 9, 56, [.d (.int .i64 0), .d (.int .i64 0), .d (.int .i64 0), .d (.bool false), .d (.bool false), .d (.bool false), .d (.int .i64 0), .d (.int .i64 0), .d (.int .i64 0)]⟩ = true := by kernel_rfl
theorem tc_34 : tcheck Tryd.prog 34 ⟨.slice 24, 1, 24, [.nils]⟩ = true := by kernel_rfl
theorem tc_40 : tcheck Tryd.prog 40 ⟨.sca, 1, 8, [.any]⟩ = true := by kernel_rfl
theorem tc_50 : tcheck Tryd.prog 50 ⟨.slice 3, 1, 24, [.nils]⟩ = true := by kernel_rfl
theorem tc_52 : tcheck Tryd.prog 52 ⟨.struct [(0, 1, false), (1, 1, false)] [], 2, 32, [.nils, .d (.int .i64 0)]⟩ = true := by kernel_rfl
theorem tc_53 : tcheck Tryd.prog 53 ⟨.slice 9, 1, 24, [.nils]⟩ = true := by kernel_rfl
theorem tc_108 : tcheck Tryd.prog 108 ⟨.sca, 1, 8, [.any]⟩ = true := by kernel_rfl

theorem tok : TOk Tryd.prog TT := by
  intro t ti h
  unfold TT at h
  split at h
  · cases h; exact tc_3
  · cases h; exact tc_4
  · cases h; exact tc_5
  · cases h; exact tc_9
  · cases h; exact tc_22
  · cases h; exact tc_24
  · cases h; exact tc_34
  · cases h; exact tc_40
  · cases h; exact tc_50
  · cases h; exact tc_52
  · cases h; exact tc_53
  · cases h; exact tc_108
  · cases h

theorem g_uint64pow10 : Tryd.prog.globalNamed "internal/strconv.uint64pow10" = some 1 := by kernel_rfl
theorem g_ErrSyntax : Tryd.prog.globalNamed "strconv.ErrSyntax" = some 2 := by kernel_rfl
theorem g_ErrRange : Tryd.prog.globalNamed "strconv.ErrRange" = some 3 := by kernel_rfl
theorem g_MaxLen : Tryd.prog.globalNamed "internal/bytealg.MaxLen" = some 0 := by kernel_rfl
theorem tabPow {w : World} {ok : Nat → Prop} (h : GlobG w ok) : Lib.TabIs Tryd.prog w "internal/strconv.uint64pow10" .u64 Lib.pow10Tab := by
  obtain ⟨cs, h1, h2⟩ := h.var g_uint64pow10 (by decide)
  unfold Lib.TabIs
  rw [h1, show cs = _ from h2.1 rfl]
  rfl

end Go.Proofs.YtahmkppkbiebhaaDoor
