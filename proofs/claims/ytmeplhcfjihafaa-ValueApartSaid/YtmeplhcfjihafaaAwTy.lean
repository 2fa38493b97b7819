/- The tables of types of this translation, as facts for the walks. -/
import Derived.Test.YtmeplhcfjihafaaAwM2
import Derived.Test.YtmeplhcfjihafaaProg
import Derived.Attr
namespace Go.Aw
open Go.Proofs
@[go_sem] theorem tsize_2 : tsize Try.prog 2 = some 1 := by kernel_rfl
@[go_sem] theorem tbytes_2 : tbytes Try.prog 2 = some 8 := by kernel_rfl
@[go_sem] theorem tagg_2 : tagg Try.prog 2 = some false := by kernel_rfl
@[go_sem] theorem tzero_2 : tzero Try.prog 2 = some [.int .i64 0] := by kernel_rfl
@[go_sem] theorem conc_2 : conc Try.prog 2 = true := by kernel_rfl
@[go_sem] theorem tz1_2 : tz1 Try.prog 2 = some (.int .i64 0) := by kernel_rfl
@[go_sem] theorem tsize_3 : tsize Try.prog 3 = some 1 := by kernel_rfl
@[go_sem] theorem tbytes_3 : tbytes Try.prog 3 = some 8 := by kernel_rfl
@[go_sem] theorem tagg_3 : tagg Try.prog 3 = some false := by kernel_rfl
@[go_sem] theorem tzero_3 : tzero Try.prog 3 = some [.int .i64 0] := by kernel_rfl
@[go_sem] theorem conc_3 : conc Try.prog 3 = true := by kernel_rfl
@[go_sem] theorem tz1_3 : tz1 Try.prog 3 = some (.int .i64 0) := by kernel_rfl
@[go_sem] theorem tsize_4 : tsize Try.prog 4 = some 1 := by kernel_rfl
@[go_sem] theorem tbytes_4 : tbytes Try.prog 4 = some 1 := by kernel_rfl
@[go_sem] theorem tagg_4 : tagg Try.prog 4 = some false := by kernel_rfl
@[go_sem] theorem tzero_4 : tzero Try.prog 4 = some [.bool false] := by kernel_rfl
@[go_sem] theorem conc_4 : conc Try.prog 4 = true := by kernel_rfl
@[go_sem] theorem tz1_4 : tz1 Try.prog 4 = some (.bool false) := by kernel_rfl
@[go_sem] theorem tsize_5 : tsize Try.prog 5 = some 1 := by kernel_rfl
@[go_sem] theorem tbytes_5 : tbytes Try.prog 5 = some 1 := by kernel_rfl
@[go_sem] theorem tagg_5 : tagg Try.prog 5 = some false := by kernel_rfl
@[go_sem] theorem tzero_5 : tzero Try.prog 5 = some [.int .u8 0] := by kernel_rfl
@[go_sem] theorem conc_5 : conc Try.prog 5 = true := by kernel_rfl
@[go_sem] theorem tz1_5 : tz1 Try.prog 5 = some (.int .u8 0) := by kernel_rfl
@[go_sem] theorem tsize_7 : tsize Try.prog 7 = some 4 := by kernel_rfl
@[go_sem] theorem tbytes_7 : tbytes Try.prog 7 = some 24 := by kernel_rfl
@[go_sem] theorem tagg_7 : tagg Try.prog 7 = some true := by kernel_rfl
@[go_sem] theorem tzero_7 : tzero Try.prog 7 = some [.int .i64 0, .int .i64 0, .bool false, .int .u8 0] := by kernel_rfl
@[go_sem] theorem conc_7 : conc Try.prog 7 = true := by kernel_rfl
@[go_sem] theorem tfield_7_0 : tfield Try.prog 7 0 = some 0 := by kernel_rfl
@[go_sem] theorem tfield_7_1 : tfield Try.prog 7 1 = some 1 := by kernel_rfl
@[go_sem] theorem tfield_7_2 : tfield Try.prog 7 2 = some 2 := by kernel_rfl
@[go_sem] theorem tfield_7_3 : tfield Try.prog 7 3 = some 3 := by kernel_rfl
@[go_sem] theorem tplaces_7 : tplaces Try.prog 7 = some fun i => ([(0, 1), (1, 1), (2, 1), (3, 1)] : List (Nat × Nat))[i]? := by kernel_rfl
@[go_sem] theorem tsize_9 : tsize Try.prog 9 = some 1 := by kernel_rfl
@[go_sem] theorem tbytes_9 : tbytes Try.prog 9 = some 16 := by kernel_rfl
@[go_sem] theorem tagg_9 : tagg Try.prog 9 = some false := by kernel_rfl
@[go_sem] theorem tzero_9 : tzero Try.prog 9 = some [.string ⟨#[]⟩] := by kernel_rfl
@[go_sem] theorem conc_9 : conc Try.prog 9 = true := by kernel_rfl
@[go_sem] theorem tz1_9 : tz1 Try.prog 9 = some (.string ⟨#[]⟩) := by kernel_rfl
@[go_sem] theorem tsize_12 : tsize Try.prog 12 = some 1 := by kernel_rfl
@[go_sem] theorem tbytes_12 : tbytes Try.prog 12 = some 8 := by kernel_rfl
@[go_sem] theorem tagg_12 : tagg Try.prog 12 = some false := by kernel_rfl
@[go_sem] theorem tzero_12 : tzero Try.prog 12 = some [.int .u64 0] := by kernel_rfl
@[go_sem] theorem conc_12 : conc Try.prog 12 = true := by kernel_rfl
@[go_sem] theorem tz1_12 : tz1 Try.prog 12 = some (.int .u64 0) := by kernel_rfl
@[go_sem] theorem tsize_13 : tsize Try.prog 13 = some 2 := by kernel_rfl
@[go_sem] theorem tbytes_13 : tbytes Try.prog 13 = some 24 := by kernel_rfl
@[go_sem] theorem tagg_13 : tagg Try.prog 13 = some true := by kernel_rfl
@[go_sem] theorem tzero_13 : tzero Try.prog 13 = some [.string ⟨#[]⟩, .int .u64 0] := by kernel_rfl
@[go_sem] theorem conc_13 : conc Try.prog 13 = true := by kernel_rfl
@[go_sem] theorem tfield_13_0 : tfield Try.prog 13 0 = some 0 := by kernel_rfl
@[go_sem] theorem tfield_13_1 : tfield Try.prog 13 1 = some 1 := by kernel_rfl
@[go_sem] theorem tplaces_13 : tplaces Try.prog 13 = some fun i => ([(0, 1), (1, 1)] : List (Nat × Nat))[i]? := by kernel_rfl
@[go_sem] theorem tsize_15 : tsize Try.prog 15 = some 1 := by kernel_rfl
@[go_sem] theorem tbytes_15 : tbytes Try.prog 15 = some 8 := by kernel_rfl
@[go_sem] theorem tagg_15 : tagg Try.prog 15 = some false := by kernel_rfl
@[go_sem] theorem tzero_15 : tzero Try.prog 15 = some [.pointer none] := by kernel_rfl
@[go_sem] theorem conc_15 : conc Try.prog 15 = true := by kernel_rfl
@[go_sem] theorem tz1_15 : tz1 Try.prog 15 = some (.pointer none) := by kernel_rfl
@[go_sem] theorem tsize_16 : tsize Try.prog 16 = some 1 := by kernel_rfl
@[go_sem] theorem tbytes_16 : tbytes Try.prog 16 = some 8 := by kernel_rfl
@[go_sem] theorem tagg_16 : tagg Try.prog 16 = some false := by kernel_rfl
@[go_sem] theorem tzero_16 : tzero Try.prog 16 = some [.pointer none] := by kernel_rfl
@[go_sem] theorem conc_16 : conc Try.prog 16 = true := by kernel_rfl
@[go_sem] theorem tz1_16 : tz1 Try.prog 16 = some (.pointer none) := by kernel_rfl
@[go_sem] theorem tsize_17 : tsize Try.prog 17 = some 1 := by kernel_rfl
@[go_sem] theorem tbytes_17 : tbytes Try.prog 17 = some 8 := by kernel_rfl
@[go_sem] theorem tagg_17 : tagg Try.prog 17 = some false := by kernel_rfl
@[go_sem] theorem tzero_17 : tzero Try.prog 17 = some [.pointer none] := by kernel_rfl
@[go_sem] theorem conc_17 : conc Try.prog 17 = true := by kernel_rfl
@[go_sem] theorem tz1_17 : tz1 Try.prog 17 = some (.pointer none) := by kernel_rfl
@[go_sem] theorem tsize_18 : tsize Try.prog 18 = some 1 := by kernel_rfl
@[go_sem] theorem tbytes_18 : tbytes Try.prog 18 = some 8 := by kernel_rfl
@[go_sem] theorem tagg_18 : tagg Try.prog 18 = some true := by kernel_rfl
@[go_sem] theorem tzero_18 : tzero Try.prog 18 = some [.pointer none] := by kernel_rfl
@[go_sem] theorem conc_18 : conc Try.prog 18 = true := by kernel_rfl
@[go_sem] theorem tfield_18_0 : tfield Try.prog 18 0 = some 0 := by kernel_rfl
@[go_sem] theorem tplaces_18 : tplaces Try.prog 18 = some fun i => ([(0, 1)] : List (Nat × Nat))[i]? := by kernel_rfl
@[go_sem] theorem tsize_20 : tsize Try.prog 20 = some 1 := by kernel_rfl
@[go_sem] theorem tbytes_20 : tbytes Try.prog 20 = some 16 := by kernel_rfl
@[go_sem] theorem tagg_20 : tagg Try.prog 20 = some false := by kernel_rfl
@[go_sem] theorem tzero_20 : tzero Try.prog 20 = some [.nilIface] := by kernel_rfl
@[go_sem] theorem tz1_20 : tz1 Try.prog 20 = some .nilIface := by kernel_rfl
@[go_sem] theorem tsize_21 : tsize Try.prog 21 = some 1 := by kernel_rfl
@[go_sem] theorem tbytes_21 : tbytes Try.prog 21 = some 4 := by kernel_rfl
@[go_sem] theorem tagg_21 : tagg Try.prog 21 = some false := by kernel_rfl
@[go_sem] theorem tzero_21 : tzero Try.prog 21 = some [.int .i32 0] := by kernel_rfl
@[go_sem] theorem conc_21 : conc Try.prog 21 = true := by kernel_rfl
@[go_sem] theorem tz1_21 : tz1 Try.prog 21 = some (.int .i32 0) := by kernel_rfl
@[go_sem] theorem tsize_22 : tsize Try.prog 22 = some 1 := by kernel_rfl
@[go_sem] theorem tbytes_22 : tbytes Try.prog 22 = some 24 := by kernel_rfl
@[go_sem] theorem tagg_22 : tagg Try.prog 22 = some false := by kernel_rfl
@[go_sem] theorem tzero_22 : tzero Try.prog 22 = some [.slice none 0 0] := by kernel_rfl
@[go_sem] theorem conc_22 : conc Try.prog 22 = true := by kernel_rfl
@[go_sem] theorem tz1_22 : tz1 Try.prog 22 = some (.slice none 0 0) := by kernel_rfl
@[go_sem] theorem telem_22 : telem Try.prog 22 = some 28 := by kernel_rfl
@[go_sem] theorem tsize_27 : tsize Try.prog 27 = some 4 := by kernel_rfl
@[go_sem] theorem tbytes_27 : tbytes Try.prog 27 = some 40 := by kernel_rfl
@[go_sem] theorem tagg_27 : tagg Try.prog 27 = some true := by kernel_rfl
@[go_sem] theorem tzero_27 : tzero Try.prog 27 = some [.int .i64 0, .int .i64 0, .int .i64 0, .string ⟨#[]⟩] := by kernel_rfl
@[go_sem] theorem conc_27 : conc Try.prog 27 = true := by kernel_rfl
@[go_sem] theorem tfield_27_0 : tfield Try.prog 27 0 = some 0 := by kernel_rfl
@[go_sem] theorem tfield_27_1 : tfield Try.prog 27 1 = some 1 := by kernel_rfl
@[go_sem] theorem tfield_27_2 : tfield Try.prog 27 2 = some 2 := by kernel_rfl
@[go_sem] theorem tfield_27_3 : tfield Try.prog 27 3 = some 3 := by kernel_rfl
@[go_sem] theorem tplaces_27 : tplaces Try.prog 27 = some fun i => ([(0, 1), (1, 1), (2, 1), (3, 1)] : List (Nat × Nat))[i]? := by kernel_rfl
@[go_sem] theorem tsize_28 : tsize Try.prog 28 = some 4 := by kernel_rfl
@[go_sem] theorem tbytes_28 : tbytes Try.prog 28 = some 40 := by kernel_rfl
@[go_sem] theorem tagg_28 : tagg Try.prog 28 = some true := by kernel_rfl
@[go_sem] theorem tzero_28 : tzero Try.prog 28 = some [.int .i64 0, .int .i64 0, .int .i64 0, .string ⟨#[]⟩] := by kernel_rfl
@[go_sem] theorem conc_28 : conc Try.prog 28 = true := by kernel_rfl
@[go_sem] theorem tfield_28_0 : tfield Try.prog 28 0 = some 0 := by kernel_rfl
@[go_sem] theorem tfield_28_1 : tfield Try.prog 28 1 = some 1 := by kernel_rfl
@[go_sem] theorem tfield_28_2 : tfield Try.prog 28 2 = some 2 := by kernel_rfl
@[go_sem] theorem tfield_28_3 : tfield Try.prog 28 3 = some 3 := by kernel_rfl
@[go_sem] theorem tplaces_28 : tplaces Try.prog 28 = some fun i => ([(0, 1), (1, 1), (2, 1), (3, 1)] : List (Nat × Nat))[i]? := by kernel_rfl
@[go_sem] theorem tsize_31 : tsize Try.prog 31 = some 1 := by kernel_rfl
@[go_sem] theorem tbytes_31 : tbytes Try.prog 31 = some 24 := by kernel_rfl
@[go_sem] theorem tagg_31 : tagg Try.prog 31 = some false := by kernel_rfl
@[go_sem] theorem tzero_31 : tzero Try.prog 31 = some [.slice none 0 0] := by kernel_rfl
@[go_sem] theorem conc_31 : conc Try.prog 31 = true := by kernel_rfl
@[go_sem] theorem tz1_31 : tz1 Try.prog 31 = some (.slice none 0 0) := by kernel_rfl
@[go_sem] theorem telem_31 : telem Try.prog 31 = some 5 := by kernel_rfl
@[go_sem] theorem tsize_36 : tsize Try.prog 36 = some 1 := by kernel_rfl
@[go_sem] theorem tbytes_36 : tbytes Try.prog 36 = some 8 := by kernel_rfl
@[go_sem] theorem tagg_36 : tagg Try.prog 36 = some false := by kernel_rfl
@[go_sem] theorem tzero_36 : tzero Try.prog 36 = some [.int .i64 0] := by kernel_rfl
@[go_sem] theorem conc_36 : conc Try.prog 36 = true := by kernel_rfl
@[go_sem] theorem tz1_36 : tz1 Try.prog 36 = some (.int .i64 0) := by kernel_rfl
@[go_sem] theorem tsize_44 : tsize Try.prog 44 = some 1 := by kernel_rfl
@[go_sem] theorem tbytes_44 : tbytes Try.prog 44 = some 24 := by kernel_rfl
@[go_sem] theorem tagg_44 : tagg Try.prog 44 = some false := by kernel_rfl
@[go_sem] theorem tzero_44 : tzero Try.prog 44 = some [.slice none 0 0] := by kernel_rfl
@[go_sem] theorem conc_44 : conc Try.prog 44 = true := by kernel_rfl
@[go_sem] theorem tz1_44 : tz1 Try.prog 44 = some (.slice none 0 0) := by kernel_rfl
@[go_sem] theorem telem_44 : telem Try.prog 44 = some 53 := by kernel_rfl
@[go_sem] theorem tsize_45 : tsize Try.prog 45 = some 5 := by kernel_rfl
@[go_sem] theorem tbytes_45 : tbytes Try.prog 45 = some 80 := by kernel_rfl
@[go_sem] theorem tagg_45 : tagg Try.prog 45 = some true := by kernel_rfl
@[go_sem] theorem tzero_45 : tzero Try.prog 45 = some [.int .i64 0, .int .i64 0, .string ⟨#[]⟩, .slice none 0 0, .slice none 0 0] := by kernel_rfl
@[go_sem] theorem conc_45 : conc Try.prog 45 = true := by kernel_rfl
@[go_sem] theorem tfield_45_0 : tfield Try.prog 45 0 = some 0 := by kernel_rfl
@[go_sem] theorem tfield_45_1 : tfield Try.prog 45 1 = some 1 := by kernel_rfl
@[go_sem] theorem tfield_45_2 : tfield Try.prog 45 2 = some 2 := by kernel_rfl
@[go_sem] theorem tfield_45_3 : tfield Try.prog 45 3 = some 3 := by kernel_rfl
@[go_sem] theorem tfield_45_4 : tfield Try.prog 45 4 = some 4 := by kernel_rfl
@[go_sem] theorem tplaces_45 : tplaces Try.prog 45 = some fun i => ([(0, 1), (1, 1), (2, 1), (3, 1), (4, 1)] : List (Nat × Nat))[i]? := by kernel_rfl
@[go_sem] theorem tsize_46 : tsize Try.prog 46 = some 5 := by kernel_rfl
@[go_sem] theorem tbytes_46 : tbytes Try.prog 46 = some 80 := by kernel_rfl
@[go_sem] theorem tagg_46 : tagg Try.prog 46 = some true := by kernel_rfl
@[go_sem] theorem tzero_46 : tzero Try.prog 46 = some [.int .i64 0, .int .i64 0, .string ⟨#[]⟩, .slice none 0 0, .slice none 0 0] := by kernel_rfl
@[go_sem] theorem conc_46 : conc Try.prog 46 = true := by kernel_rfl
@[go_sem] theorem tfield_46_0 : tfield Try.prog 46 0 = some 0 := by kernel_rfl
@[go_sem] theorem tfield_46_1 : tfield Try.prog 46 1 = some 1 := by kernel_rfl
@[go_sem] theorem tfield_46_2 : tfield Try.prog 46 2 = some 2 := by kernel_rfl
@[go_sem] theorem tfield_46_3 : tfield Try.prog 46 3 = some 3 := by kernel_rfl
@[go_sem] theorem tfield_46_4 : tfield Try.prog 46 4 = some 4 := by kernel_rfl
@[go_sem] theorem tplaces_46 : tplaces Try.prog 46 = some fun i => ([(0, 1), (1, 1), (2, 1), (3, 1), (4, 1)] : List (Nat × Nat))[i]? := by kernel_rfl
@[go_sem] theorem tsize_50 : tsize Try.prog 50 = some 1 := by kernel_rfl
@[go_sem] theorem tbytes_50 : tbytes Try.prog 50 = some 8 := by kernel_rfl
@[go_sem] theorem tagg_50 : tagg Try.prog 50 = some false := by kernel_rfl
@[go_sem] theorem tzero_50 : tzero Try.prog 50 = some [.pointer none] := by kernel_rfl
@[go_sem] theorem conc_50 : conc Try.prog 50 = true := by kernel_rfl
@[go_sem] theorem tz1_50 : tz1 Try.prog 50 = some (.pointer none) := by kernel_rfl
@[go_sem] theorem tsize_51 : tsize Try.prog 51 = some 1 := by kernel_rfl
@[go_sem] theorem tbytes_51 : tbytes Try.prog 51 = some 24 := by kernel_rfl
@[go_sem] theorem tagg_51 : tagg Try.prog 51 = some false := by kernel_rfl
@[go_sem] theorem tzero_51 : tzero Try.prog 51 = some [.slice none 0 0] := by kernel_rfl
@[go_sem] theorem conc_51 : conc Try.prog 51 = true := by kernel_rfl
@[go_sem] theorem tz1_51 : tz1 Try.prog 51 = some (.slice none 0 0) := by kernel_rfl
@[go_sem] theorem telem_51 : telem Try.prog 51 = some 46 := by kernel_rfl
@[go_sem] theorem tsize_52 : tsize Try.prog 52 = some 2 := by kernel_rfl
@[go_sem] theorem tbytes_52 : tbytes Try.prog 52 = some 32 := by kernel_rfl
@[go_sem] theorem tagg_52 : tagg Try.prog 52 = some true := by kernel_rfl
@[go_sem] theorem tzero_52 : tzero Try.prog 52 = some [.int .i64 0, .slice none 0 0] := by kernel_rfl
@[go_sem] theorem conc_52 : conc Try.prog 52 = true := by kernel_rfl
@[go_sem] theorem tfield_52_0 : tfield Try.prog 52 0 = some 0 := by kernel_rfl
@[go_sem] theorem tfield_52_1 : tfield Try.prog 52 1 = some 1 := by kernel_rfl
@[go_sem] theorem tplaces_52 : tplaces Try.prog 52 = some fun i => ([(0, 1), (1, 1)] : List (Nat × Nat))[i]? := by kernel_rfl
@[go_sem] theorem tsize_53 : tsize Try.prog 53 = some 2 := by kernel_rfl
@[go_sem] theorem tbytes_53 : tbytes Try.prog 53 = some 32 := by kernel_rfl
@[go_sem] theorem tagg_53 : tagg Try.prog 53 = some true := by kernel_rfl
@[go_sem] theorem tzero_53 : tzero Try.prog 53 = some [.int .i64 0, .slice none 0 0] := by kernel_rfl
@[go_sem] theorem conc_53 : conc Try.prog 53 = true := by kernel_rfl
@[go_sem] theorem tfield_53_0 : tfield Try.prog 53 0 = some 0 := by kernel_rfl
@[go_sem] theorem tfield_53_1 : tfield Try.prog 53 1 = some 1 := by kernel_rfl
@[go_sem] theorem tplaces_53 : tplaces Try.prog 53 = some fun i => ([(0, 1), (1, 1)] : List (Nat × Nat))[i]? := by kernel_rfl
@[go_sem] theorem tsize_56 : tsize Try.prog 56 = some 1 := by kernel_rfl
@[go_sem] theorem tbytes_56 : tbytes Try.prog 56 = some 16 := by kernel_rfl
@[go_sem] theorem tagg_56 : tagg Try.prog 56 = some false := by kernel_rfl
@[go_sem] theorem tzero_56 : tzero Try.prog 56 = some [.nilIface] := by kernel_rfl
@[go_sem] theorem tz1_56 : tz1 Try.prog 56 = some .nilIface := by kernel_rfl
@[go_sem] theorem tsize_57 : tsize Try.prog 57 = some 1 := by kernel_rfl
@[go_sem] theorem tbytes_57 : tbytes Try.prog 57 = some 16 := by kernel_rfl
@[go_sem] theorem tagg_57 : tagg Try.prog 57 = some false := by kernel_rfl
@[go_sem] theorem tzero_57 : tzero Try.prog 57 = some [.nilIface] := by kernel_rfl
@[go_sem] theorem tz1_57 : tz1 Try.prog 57 = some .nilIface := by kernel_rfl
@[go_sem] theorem tsize_58 : tsize Try.prog 58 = some 1 := by kernel_rfl
@[go_sem] theorem tbytes_58 : tbytes Try.prog 58 = some 16 := by kernel_rfl
@[go_sem] theorem tagg_58 : tagg Try.prog 58 = some true := by kernel_rfl
@[go_sem] theorem tzero_58 : tzero Try.prog 58 = some [.nilIface] := by kernel_rfl
@[go_sem] theorem conc_58 : conc Try.prog 58 = true := by kernel_rfl
@[go_sem] theorem tfield_58_0 : tfield Try.prog 58 0 = some 0 := by kernel_rfl
@[go_sem] theorem tplaces_58 : tplaces Try.prog 58 = some fun i => ([(0, 1)] : List (Nat × Nat))[i]? := by kernel_rfl
@[go_sem] theorem tsize_59 : tsize Try.prog 59 = some 1 := by kernel_rfl
@[go_sem] theorem tbytes_59 : tbytes Try.prog 59 = some 16 := by kernel_rfl
@[go_sem] theorem tagg_59 : tagg Try.prog 59 = some true := by kernel_rfl
@[go_sem] theorem tzero_59 : tzero Try.prog 59 = some [.nilIface] := by kernel_rfl
@[go_sem] theorem conc_59 : conc Try.prog 59 = true := by kernel_rfl
@[go_sem] theorem tfield_59_0 : tfield Try.prog 59 0 = some 0 := by kernel_rfl
@[go_sem] theorem tplaces_59 : tplaces Try.prog 59 = some fun i => ([(0, 1)] : List (Nat × Nat))[i]? := by kernel_rfl
@[go_sem] theorem tsize_66 : tsize Try.prog 66 = some 1 := by kernel_rfl
@[go_sem] theorem tbytes_66 : tbytes Try.prog 66 = some 8 := by kernel_rfl
@[go_sem] theorem tagg_66 : tagg Try.prog 66 = some false := by kernel_rfl
@[go_sem] theorem tzero_66 : tzero Try.prog 66 = some [.pointer none] := by kernel_rfl
@[go_sem] theorem conc_66 : conc Try.prog 66 = true := by kernel_rfl
@[go_sem] theorem tz1_66 : tz1 Try.prog 66 = some (.pointer none) := by kernel_rfl
@[go_sem] theorem tsize_78 : tsize Try.prog 78 = some 1 := by kernel_rfl
@[go_sem] theorem tbytes_78 : tbytes Try.prog 78 = some 24 := by kernel_rfl
@[go_sem] theorem tagg_78 : tagg Try.prog 78 = some false := by kernel_rfl
@[go_sem] theorem tzero_78 : tzero Try.prog 78 = some [.slice none 0 0] := by kernel_rfl
@[go_sem] theorem conc_78 : conc Try.prog 78 = true := by kernel_rfl
@[go_sem] theorem tz1_78 : tz1 Try.prog 78 = some (.slice none 0 0) := by kernel_rfl
@[go_sem] theorem telem_78 : telem Try.prog 78 = some 3 := by kernel_rfl
@[go_sem] theorem tsize_80 : tsize Try.prog 80 = some 1 := by kernel_rfl
@[go_sem] theorem tbytes_80 : tbytes Try.prog 80 = some 24 := by kernel_rfl
@[go_sem] theorem tagg_80 : tagg Try.prog 80 = some false := by kernel_rfl
@[go_sem] theorem tzero_80 : tzero Try.prog 80 = some [.slice none 0 0] := by kernel_rfl
@[go_sem] theorem conc_80 : conc Try.prog 80 = true := by kernel_rfl
@[go_sem] theorem tz1_80 : tz1 Try.prog 80 = some (.slice none 0 0) := by kernel_rfl
@[go_sem] theorem telem_80 : telem Try.prog 80 = some 59 := by kernel_rfl
@[go_sem] theorem tsize_87 : tsize Try.prog 87 = some 1 := by kernel_rfl
@[go_sem] theorem tbytes_87 : tbytes Try.prog 87 = some 8 := by kernel_rfl
@[go_sem] theorem tagg_87 : tagg Try.prog 87 = some false := by kernel_rfl
@[go_sem] theorem tzero_87 : tzero Try.prog 87 = some [.int .u64 0] := by kernel_rfl
@[go_sem] theorem conc_87 : conc Try.prog 87 = true := by kernel_rfl
@[go_sem] theorem tz1_87 : tz1 Try.prog 87 = some (.int .u64 0) := by kernel_rfl
@[go_sem] theorem tsize_93 : tsize Try.prog 93 = some 1 := by kernel_rfl
@[go_sem] theorem tbytes_93 : tbytes Try.prog 93 = some 8 := by kernel_rfl
@[go_sem] theorem tagg_93 : tagg Try.prog 93 = some false := by kernel_rfl
@[go_sem] theorem tzero_93 : tzero Try.prog 93 = some [.pointer none] := by kernel_rfl
@[go_sem] theorem conc_93 : conc Try.prog 93 = true := by kernel_rfl
@[go_sem] theorem tz1_93 : tz1 Try.prog 93 = some (.pointer none) := by kernel_rfl
@[go_sem] theorem tsize_99 : tsize Try.prog 99 = some 1 := by kernel_rfl
@[go_sem] theorem tbytes_99 : tbytes Try.prog 99 = some 8 := by kernel_rfl
@[go_sem] theorem tagg_99 : tagg Try.prog 99 = some false := by kernel_rfl
@[go_sem] theorem tzero_99 : tzero Try.prog 99 = some [.int .i64 0] := by kernel_rfl
@[go_sem] theorem conc_99 : conc Try.prog 99 = true := by kernel_rfl
@[go_sem] theorem tz1_99 : tz1 Try.prog 99 = some (.int .i64 0) := by kernel_rfl
@[go_sem] theorem tsize_101 : tsize Try.prog 101 = some 1 := by kernel_rfl
@[go_sem] theorem tbytes_101 : tbytes Try.prog 101 = some 16 := by kernel_rfl
@[go_sem] theorem tagg_101 : tagg Try.prog 101 = some false := by kernel_rfl
@[go_sem] theorem tzero_101 : tzero Try.prog 101 = some [.string ⟨#[]⟩] := by kernel_rfl
@[go_sem] theorem conc_101 : conc Try.prog 101 = true := by kernel_rfl
@[go_sem] theorem tz1_101 : tz1 Try.prog 101 = some (.string ⟨#[]⟩) := by kernel_rfl
@[go_sem] theorem tsize_104 : tsize Try.prog 104 = some 1 := by kernel_rfl
@[go_sem] theorem tbytes_104 : tbytes Try.prog 104 = some 24 := by kernel_rfl
@[go_sem] theorem tagg_104 : tagg Try.prog 104 = some false := by kernel_rfl
@[go_sem] theorem tzero_104 : tzero Try.prog 104 = some [.slice none 0 0] := by kernel_rfl
@[go_sem] theorem conc_104 : conc Try.prog 104 = true := by kernel_rfl
@[go_sem] theorem tz1_104 : tz1 Try.prog 104 = some (.slice none 0 0) := by kernel_rfl
@[go_sem] theorem telem_104 : telem Try.prog 104 = some 108 := by kernel_rfl
@[go_sem] theorem tsize_105 : tsize Try.prog 105 = some 2 := by kernel_rfl
@[go_sem] theorem tbytes_105 : tbytes Try.prog 105 = some 48 := by kernel_rfl
@[go_sem] theorem tagg_105 : tagg Try.prog 105 = some true := by kernel_rfl
@[go_sem] theorem tzero_105 : tzero Try.prog 105 = some [.slice none 0 0, .slice none 0 0] := by kernel_rfl
@[go_sem] theorem conc_105 : conc Try.prog 105 = true := by kernel_rfl
@[go_sem] theorem tfield_105_0 : tfield Try.prog 105 0 = some 0 := by kernel_rfl
@[go_sem] theorem tfield_105_1 : tfield Try.prog 105 1 = some 1 := by kernel_rfl
@[go_sem] theorem tplaces_105 : tplaces Try.prog 105 = some fun i => ([(0, 1), (1, 1)] : List (Nat × Nat))[i]? := by kernel_rfl
@[go_sem] theorem tsize_106 : tsize Try.prog 106 = some 2 := by kernel_rfl
@[go_sem] theorem tbytes_106 : tbytes Try.prog 106 = some 48 := by kernel_rfl
@[go_sem] theorem tagg_106 : tagg Try.prog 106 = some true := by kernel_rfl
@[go_sem] theorem tzero_106 : tzero Try.prog 106 = some [.slice none 0 0, .slice none 0 0] := by kernel_rfl
@[go_sem] theorem conc_106 : conc Try.prog 106 = true := by kernel_rfl
@[go_sem] theorem tfield_106_0 : tfield Try.prog 106 0 = some 0 := by kernel_rfl
@[go_sem] theorem tfield_106_1 : tfield Try.prog 106 1 = some 1 := by kernel_rfl
@[go_sem] theorem tplaces_106 : tplaces Try.prog 106 = some fun i => ([(0, 1), (1, 1)] : List (Nat × Nat))[i]? := by kernel_rfl
@[go_sem] theorem tsize_107 : tsize Try.prog 107 = some 2 := by kernel_rfl
@[go_sem] theorem tbytes_107 : tbytes Try.prog 107 = some 32 := by kernel_rfl
@[go_sem] theorem tagg_107 : tagg Try.prog 107 = some true := by kernel_rfl
@[go_sem] theorem tzero_107 : tzero Try.prog 107 = some [.int .i64 0, .slice none 0 0] := by kernel_rfl
@[go_sem] theorem conc_107 : conc Try.prog 107 = true := by kernel_rfl
@[go_sem] theorem tfield_107_0 : tfield Try.prog 107 0 = some 0 := by kernel_rfl
@[go_sem] theorem tfield_107_1 : tfield Try.prog 107 1 = some 1 := by kernel_rfl
@[go_sem] theorem tplaces_107 : tplaces Try.prog 107 = some fun i => ([(0, 1), (1, 1)] : List (Nat × Nat))[i]? := by kernel_rfl
@[go_sem] theorem tsize_108 : tsize Try.prog 108 = some 2 := by kernel_rfl
@[go_sem] theorem tbytes_108 : tbytes Try.prog 108 = some 32 := by kernel_rfl
@[go_sem] theorem tagg_108 : tagg Try.prog 108 = some true := by kernel_rfl
@[go_sem] theorem tzero_108 : tzero Try.prog 108 = some [.int .i64 0, .slice none 0 0] := by kernel_rfl
@[go_sem] theorem conc_108 : conc Try.prog 108 = true := by kernel_rfl
@[go_sem] theorem tfield_108_0 : tfield Try.prog 108 0 = some 0 := by kernel_rfl
@[go_sem] theorem tfield_108_1 : tfield Try.prog 108 1 = some 1 := by kernel_rfl
@[go_sem] theorem tplaces_108 : tplaces Try.prog 108 = some fun i => ([(0, 1), (1, 1)] : List (Nat × Nat))[i]? := by kernel_rfl
@[go_sem] theorem tsize_111 : tsize Try.prog 111 = some 1 := by kernel_rfl
@[go_sem] theorem tbytes_111 : tbytes Try.prog 111 = some 8 := by kernel_rfl
@[go_sem] theorem tagg_111 : tagg Try.prog 111 = some false := by kernel_rfl
@[go_sem] theorem tzero_111 : tzero Try.prog 111 = some [.int .u64 0] := by kernel_rfl
@[go_sem] theorem conc_111 : conc Try.prog 111 = true := by kernel_rfl
@[go_sem] theorem tz1_111 : tz1 Try.prog 111 = some (.int .u64 0) := by kernel_rfl
@[go_sem] theorem tsize_120 : tsize Try.prog 120 = some 4 := by kernel_rfl
@[go_sem] theorem tbytes_120 : tbytes Try.prog 120 = some 40 := by kernel_rfl
@[go_sem] theorem tagg_120 : tagg Try.prog 120 = some true := by kernel_rfl
@[go_sem] theorem tzero_120 : tzero Try.prog 120 = some [.pointer none, .pointer none, .pointer none, .string ⟨#[]⟩] := by kernel_rfl
@[go_sem] theorem conc_120 : conc Try.prog 120 = true := by kernel_rfl
@[go_sem] theorem tfield_120_0 : tfield Try.prog 120 0 = some 0 := by kernel_rfl
@[go_sem] theorem tfield_120_1 : tfield Try.prog 120 1 = some 1 := by kernel_rfl
@[go_sem] theorem tfield_120_2 : tfield Try.prog 120 2 = some 2 := by kernel_rfl
@[go_sem] theorem tfield_120_3 : tfield Try.prog 120 3 = some 3 := by kernel_rfl
@[go_sem] theorem tplaces_120 : tplaces Try.prog 120 = some fun i => ([(0, 1), (1, 1), (2, 1), (3, 1)] : List (Nat × Nat))[i]? := by kernel_rfl
@[go_sem] theorem tsize_122 : tsize Try.prog 122 = some 0 := by kernel_rfl
@[go_sem] theorem tbytes_122 : tbytes Try.prog 122 = some 0 := by kernel_rfl
@[go_sem] theorem tagg_122 : tagg Try.prog 122 = some true := by kernel_rfl
@[go_sem] theorem tzero_122 : tzero Try.prog 122 = some [] := by kernel_rfl
@[go_sem] theorem conc_122 : conc Try.prog 122 = true := by kernel_rfl
@[go_sem] theorem tplaces_122 : tplaces Try.prog 122 = some fun i => some (i * 1, 1) := by kernel_rfl
@[go_sem] theorem tsize_123 : tsize Try.prog 123 = some 0 := by kernel_rfl
@[go_sem] theorem tbytes_123 : tbytes Try.prog 123 = some 0 := by kernel_rfl
@[go_sem] theorem tagg_123 : tagg Try.prog 123 = some true := by kernel_rfl
@[go_sem] theorem tzero_123 : tzero Try.prog 123 = some [] := by kernel_rfl
@[go_sem] theorem conc_123 : conc Try.prog 123 = true := by kernel_rfl
@[go_sem] theorem tplaces_123 : tplaces Try.prog 123 = some fun i => ([(0, 0)] : List (Nat × Nat))[i]? := by kernel_rfl
@[go_sem] theorem tsize_125 : tsize Try.prog 125 = some 1 := by kernel_rfl
@[go_sem] theorem tbytes_125 : tbytes Try.prog 125 = some 4 := by kernel_rfl
@[go_sem] theorem tagg_125 : tagg Try.prog 125 = some false := by kernel_rfl
@[go_sem] theorem tzero_125 : tzero Try.prog 125 = some [.int .u32 0] := by kernel_rfl
@[go_sem] theorem conc_125 : conc Try.prog 125 = true := by kernel_rfl
@[go_sem] theorem tz1_125 : tz1 Try.prog 125 = some (.int .u32 0) := by kernel_rfl
@[go_sem] theorem tsize_129 : tsize Try.prog 129 = some 1 := by kernel_rfl
@[go_sem] theorem tbytes_129 : tbytes Try.prog 129 = some 8 := by kernel_rfl
@[go_sem] theorem tagg_129 : tagg Try.prog 129 = some false := by kernel_rfl
@[go_sem] theorem tzero_129 : tzero Try.prog 129 = some [.pointer none] := by kernel_rfl
@[go_sem] theorem conc_129 : conc Try.prog 129 = true := by kernel_rfl
@[go_sem] theorem tz1_129 : tz1 Try.prog 129 = some (.pointer none) := by kernel_rfl
@[go_sem] theorem tsize_132 : tsize Try.prog 132 = some 11 := by kernel_rfl
@[go_sem] theorem tbytes_132 : tbytes Try.prog 132 = some 48 := by kernel_rfl
@[go_sem] theorem tagg_132 : tagg Try.prog 132 = some true := by kernel_rfl
@[go_sem] theorem tzero_132 : tzero Try.prog 132 = some [.int .u64 0, .int .u64 0, .int .u32 0, .int .u8 0, .int .u8 0, .int .u8 0, .int .u8 0, .nilFunc, .pointer none, .int .i32 0, .int .i32 0] := by kernel_rfl
@[go_sem] theorem conc_132 : conc Try.prog 132 = true := by kernel_rfl
@[go_sem] theorem tfield_132_0 : tfield Try.prog 132 0 = some 0 := by kernel_rfl
@[go_sem] theorem tfield_132_1 : tfield Try.prog 132 1 = some 1 := by kernel_rfl
@[go_sem] theorem tfield_132_2 : tfield Try.prog 132 2 = some 2 := by kernel_rfl
@[go_sem] theorem tfield_132_3 : tfield Try.prog 132 3 = some 3 := by kernel_rfl
@[go_sem] theorem tfield_132_4 : tfield Try.prog 132 4 = some 4 := by kernel_rfl
@[go_sem] theorem tfield_132_5 : tfield Try.prog 132 5 = some 5 := by kernel_rfl
@[go_sem] theorem tfield_132_6 : tfield Try.prog 132 6 = some 6 := by kernel_rfl
@[go_sem] theorem tfield_132_7 : tfield Try.prog 132 7 = some 7 := by kernel_rfl
@[go_sem] theorem tfield_132_8 : tfield Try.prog 132 8 = some 8 := by kernel_rfl
@[go_sem] theorem tfield_132_9 : tfield Try.prog 132 9 = some 9 := by kernel_rfl
@[go_sem] theorem tfield_132_10 : tfield Try.prog 132 10 = some 10 := by kernel_rfl
@[go_sem] theorem tplaces_132 : tplaces Try.prog 132 = some fun i => ([(0, 1), (1, 1), (2, 1), (3, 1), (4, 1), (5, 1), (6, 1), (7, 1), (8, 1), (9, 1), (10, 1)] : List (Nat × Nat))[i]? := by kernel_rfl
@[go_sem] theorem tsize_134 : tsize Try.prog 134 = some 1 := by kernel_rfl
@[go_sem] theorem tbytes_134 : tbytes Try.prog 134 = some 8 := by kernel_rfl
@[go_sem] theorem tagg_134 : tagg Try.prog 134 = some false := by kernel_rfl
@[go_sem] theorem tzero_134 : tzero Try.prog 134 = some [.pointer none] := by kernel_rfl
@[go_sem] theorem conc_134 : conc Try.prog 134 = true := by kernel_rfl
@[go_sem] theorem tz1_134 : tz1 Try.prog 134 = some (.pointer none) := by kernel_rfl
attribute [go_sem] Try.underlying2 Try.underlying3 Try.underlying4 Try.underlying5 Try.underlying6 Try.underlying7 Try.underlying8 Try.underlying9 Try.underlying10 Try.underlying11 Try.underlying12 Try.underlying13 Try.underlying14 Try.underlying15 Try.underlying16 Try.underlying17 Try.underlying18 Try.underlying19 Try.underlying20 Try.underlying21 Try.underlying22 Try.underlying27 Try.underlying28 Try.underlying31 Try.underlying36 Try.underlying44 Try.underlying45 Try.underlying46 Try.underlying50 Try.underlying51 Try.underlying52 Try.underlying53 Try.underlying56 Try.underlying57 Try.underlying58 Try.underlying59 Try.underlying66 Try.underlying78 Try.underlying80 Try.underlying87 Try.underlying93 Try.underlying99 Try.underlying101 Try.underlying104 Try.underlying105 Try.underlying106 Try.underlying107 Try.underlying108 Try.underlying111 Try.underlying120 Try.underlying121 Try.underlying122 Try.underlying123 Try.underlying124 Try.underlying125 Try.underlying126 Try.underlying127 Try.underlying129 Try.underlying130 Try.underlying131 Try.underlying132 Try.underlying133 Try.underlying134
theorem mixed : Try.prog.follows .mixedOrders = true := by kernel_rfl
end Go.Aw
