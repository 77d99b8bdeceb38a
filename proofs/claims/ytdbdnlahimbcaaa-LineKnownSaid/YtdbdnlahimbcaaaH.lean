/-
  The names of this seat's functions and types, and what is so of its program.
-/
import Derived.Test.YtdbdnlahimbcaaaW
import Derived.Test.YtdbdnlahimbcaaaProg
namespace Go.Cx
open Go Go.Cf
noncomputable abbrev Pr : Program := Go.Proofs.Try.prog
theorem nogor : NoGor Pr := nogor_of (by kernel_rfl)
theorem mixed : Pr.follows .mixedOrders = true := by kernel_rfl
abbrev T___ : Nat := 0
abbrev T_int : Nat := 3
abbrev T_bool : Nat := 4
abbrev T_uint8 : Nat := 5
abbrev T_L_L_uint8 : Nat := 22
abbrev T_L_uint8 : Nat := 26
abbrev T_L_outstationlaw20_Op : Nat := 34
abbrev T_L_bool : Nat := 44
abbrev T_outstationref20_Line : Nat := 46
abbrev T_outstationlaw20_Op : Nat := 49
abbrev T_L_line_row : Nat := 54
abbrev T_line_Line : Nat := 58
abbrev T_line_row : Nat := 61
abbrev F_gosem_cut_init : Nat := 2
abbrev F_law20_LineOrder : Nat := 3
abbrev F_law20_LineTurns : Nat := 4
abbrev F_law20_LineRuns : Nat := 5
abbrev F_law20_LineKeeps : Nat := 6
abbrev F_law20_LineKnown : Nat := 7
abbrev F_law20_works : Nat := 8
abbrev F_line_New : Nat := 9
abbrev F_line_Line_Put : Nat := 10
abbrev F_line_Line_Take : Nat := 11
abbrev F_kit_SameBytes : Nat := 12
abbrev F_line_Line_Len : Nat := 13
abbrev F_law20_long : Nat := 14
abbrev F_law20_run : Nat := 15
abbrev F_line_Line_All : Nat := 16
abbrev F_line_Line_Turn : Nat := 17
abbrev F_kit_SameRows : Nat := 18
abbrev F_law20_apart : Nat := 19
abbrev F_kit_Pick : Nat := 20
abbrev F_law20_both : Nat := 21
abbrev F_kit_SpoilBytes : Nat := 22
abbrev F_law20_was : Nat := 23
abbrev F_line_Line_Double : Nat := 24
abbrev F_line_Line_lay : Nat := 25
abbrev F_line_queue_line_row__has : Nat := 26
abbrev F_line_queue_line_row__take : Nat := 27
abbrev F_line_Line_Lose : Nat := 28
abbrev F_bytes_Clone : Nat := 29
abbrev F_kit_LentBytes : Nat := 30
abbrev F_ref20_Line_Put : Nat := 31
abbrev F_kit_KeptBytes : Nat := 32
abbrev F_ref20_Line_Take : Nat := 33
abbrev F_ref20_Line_Double : Nat := 34
abbrev F_ref20_Line_Turn : Nat := 35
abbrev F_line_queue_line_row__put : Nat := 36
abbrev F_slices_Delete_L_line_row_line_row_ : Nat := 37
abbrev F_ref20_Line_lay : Nat := 38
abbrev F_ref20_Line_there : Nat := 39
abbrev F_kit_CopyBytes : Nat := 40
instance : AppT Pr T_L_L_uint8 26 1 24 [.slice none 0 0] := ⟨by kernel_rfl, by kernel_rfl⟩
instance : AppT Pr T_L_bool 4 1 1 [.bool false] := ⟨by kernel_rfl, by kernel_rfl⟩
instance : AppT Pr T_L_line_row 61 2 32 [.slice none 0 0, .bool false] := ⟨by kernel_rfl, by kernel_rfl⟩
instance : AppT Pr T_L_outstationlaw20_Op 49 4 48 [.int .i64 0, .int .i64 0, .int .i64 0, .slice none 0 0] := ⟨by kernel_rfl, by kernel_rfl⟩
instance : AppT Pr T_L_uint8 5 1 1 [.int .u8 0] := ⟨by kernel_rfl, by kernel_rfl⟩
end Go.Cx
