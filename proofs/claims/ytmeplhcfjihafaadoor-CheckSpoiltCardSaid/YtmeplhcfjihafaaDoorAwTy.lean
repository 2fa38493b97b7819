/- The tables of types of this translation, as facts for the walks. -/
import Derived.Test.YtmeplhcfjihafaaDoorAwM2
import Derived.Test.YtmeplhcfjihafaaDoorProg
import Derived.Attr
namespace Go.Aw
open Go.Proofs
@[go_sem] theorem tsize_2 : tsize Tryd.prog 2 = some 1 := by kernel_rfl
@[go_sem] theorem tbytes_2 : tbytes Tryd.prog 2 = some 8 := by kernel_rfl
@[go_sem] theorem tagg_2 : tagg Tryd.prog 2 = some false := by kernel_rfl
@[go_sem] theorem tzero_2 : tzero Tryd.prog 2 = some [.int .i64 0] := by kernel_rfl
@[go_sem] theorem conc_2 : conc Tryd.prog 2 = true := by kernel_rfl
@[go_sem] theorem tz1_2 : tz1 Tryd.prog 2 = some (.int .i64 0) := by kernel_rfl
@[go_sem] theorem tsize_3 : tsize Tryd.prog 3 = some 1 := by kernel_rfl
@[go_sem] theorem tbytes_3 : tbytes Tryd.prog 3 = some 8 := by kernel_rfl
@[go_sem] theorem tagg_3 : tagg Tryd.prog 3 = some false := by kernel_rfl
@[go_sem] theorem tzero_3 : tzero Tryd.prog 3 = some [.int .i64 0] := by kernel_rfl
@[go_sem] theorem conc_3 : conc Tryd.prog 3 = true := by kernel_rfl
@[go_sem] theorem tz1_3 : tz1 Tryd.prog 3 = some (.int .i64 0) := by kernel_rfl
@[go_sem] theorem tsize_4 : tsize Tryd.prog 4 = some 1 := by kernel_rfl
@[go_sem] theorem tbytes_4 : tbytes Tryd.prog 4 = some 1 := by kernel_rfl
@[go_sem] theorem tagg_4 : tagg Tryd.prog 4 = some false := by kernel_rfl
@[go_sem] theorem tzero_4 : tzero Tryd.prog 4 = some [.bool false] := by kernel_rfl
@[go_sem] theorem conc_4 : conc Tryd.prog 4 = true := by kernel_rfl
@[go_sem] theorem tz1_4 : tz1 Tryd.prog 4 = some (.bool false) := by kernel_rfl
@[go_sem] theorem tsize_5 : tsize Tryd.prog 5 = some 1 := by kernel_rfl
@[go_sem] theorem tbytes_5 : tbytes Tryd.prog 5 = some 1 := by kernel_rfl
@[go_sem] theorem tagg_5 : tagg Tryd.prog 5 = some false := by kernel_rfl
@[go_sem] theorem tzero_5 : tzero Tryd.prog 5 = some [.int .u8 0] := by kernel_rfl
@[go_sem] theorem conc_5 : conc Tryd.prog 5 = true := by kernel_rfl
@[go_sem] theorem tz1_5 : tz1 Tryd.prog 5 = some (.int .u8 0) := by kernel_rfl
@[go_sem] theorem tsize_7 : tsize Tryd.prog 7 = some 4 := by kernel_rfl
@[go_sem] theorem tbytes_7 : tbytes Tryd.prog 7 = some 24 := by kernel_rfl
@[go_sem] theorem tagg_7 : tagg Tryd.prog 7 = some true := by kernel_rfl
@[go_sem] theorem tzero_7 : tzero Tryd.prog 7 = some [.int .i64 0, .int .i64 0, .bool false, .int .u8 0] := by kernel_rfl
@[go_sem] theorem conc_7 : conc Tryd.prog 7 = true := by kernel_rfl
@[go_sem] theorem tfield_7_0 : tfield Tryd.prog 7 0 = some 0 := by kernel_rfl
@[go_sem] theorem tfield_7_1 : tfield Tryd.prog 7 1 = some 1 := by kernel_rfl
@[go_sem] theorem tfield_7_2 : tfield Tryd.prog 7 2 = some 2 := by kernel_rfl
@[go_sem] theorem tfield_7_3 : tfield Tryd.prog 7 3 = some 3 := by kernel_rfl
@[go_sem] theorem tplaces_7 : tplaces Tryd.prog 7 = some fun i => ([(0, 1), (1, 1), (2, 1), (3, 1)] : List (Nat × Nat))[i]? := by kernel_rfl
@[go_sem] theorem tsize_9 : tsize Tryd.prog 9 = some 1 := by kernel_rfl
@[go_sem] theorem tbytes_9 : tbytes Tryd.prog 9 = some 16 := by kernel_rfl
@[go_sem] theorem tagg_9 : tagg Tryd.prog 9 = some false := by kernel_rfl
@[go_sem] theorem tzero_9 : tzero Tryd.prog 9 = some [.string ⟨#[]⟩] := by kernel_rfl
@[go_sem] theorem conc_9 : conc Tryd.prog 9 = true := by kernel_rfl
@[go_sem] theorem tz1_9 : tz1 Tryd.prog 9 = some (.string ⟨#[]⟩) := by kernel_rfl
@[go_sem] theorem tsize_12 : tsize Tryd.prog 12 = some 1 := by kernel_rfl
@[go_sem] theorem tbytes_12 : tbytes Tryd.prog 12 = some 8 := by kernel_rfl
@[go_sem] theorem tagg_12 : tagg Tryd.prog 12 = some false := by kernel_rfl
@[go_sem] theorem tzero_12 : tzero Tryd.prog 12 = some [.int .u64 0] := by kernel_rfl
@[go_sem] theorem conc_12 : conc Tryd.prog 12 = true := by kernel_rfl
@[go_sem] theorem tz1_12 : tz1 Tryd.prog 12 = some (.int .u64 0) := by kernel_rfl
@[go_sem] theorem tsize_13 : tsize Tryd.prog 13 = some 2 := by kernel_rfl
@[go_sem] theorem tbytes_13 : tbytes Tryd.prog 13 = some 24 := by kernel_rfl
@[go_sem] theorem tagg_13 : tagg Tryd.prog 13 = some true := by kernel_rfl
@[go_sem] theorem tzero_13 : tzero Tryd.prog 13 = some [.string ⟨#[]⟩, .int .u64 0] := by kernel_rfl
@[go_sem] theorem conc_13 : conc Tryd.prog 13 = true := by kernel_rfl
@[go_sem] theorem tfield_13_0 : tfield Tryd.prog 13 0 = some 0 := by kernel_rfl
@[go_sem] theorem tfield_13_1 : tfield Tryd.prog 13 1 = some 1 := by kernel_rfl
@[go_sem] theorem tplaces_13 : tplaces Tryd.prog 13 = some fun i => ([(0, 1), (1, 1)] : List (Nat × Nat))[i]? := by kernel_rfl
@[go_sem] theorem tsize_15 : tsize Tryd.prog 15 = some 1 := by kernel_rfl
@[go_sem] theorem tbytes_15 : tbytes Tryd.prog 15 = some 8 := by kernel_rfl
@[go_sem] theorem tagg_15 : tagg Tryd.prog 15 = some false := by kernel_rfl
@[go_sem] theorem tzero_15 : tzero Tryd.prog 15 = some [.pointer none] := by kernel_rfl
@[go_sem] theorem conc_15 : conc Tryd.prog 15 = true := by kernel_rfl
@[go_sem] theorem tz1_15 : tz1 Tryd.prog 15 = some (.pointer none) := by kernel_rfl
@[go_sem] theorem tsize_16 : tsize Tryd.prog 16 = some 1 := by kernel_rfl
@[go_sem] theorem tbytes_16 : tbytes Tryd.prog 16 = some 8 := by kernel_rfl
@[go_sem] theorem tagg_16 : tagg Tryd.prog 16 = some false := by kernel_rfl
@[go_sem] theorem tzero_16 : tzero Tryd.prog 16 = some [.pointer none] := by kernel_rfl
@[go_sem] theorem conc_16 : conc Tryd.prog 16 = true := by kernel_rfl
@[go_sem] theorem tz1_16 : tz1 Tryd.prog 16 = some (.pointer none) := by kernel_rfl
@[go_sem] theorem tsize_17 : tsize Tryd.prog 17 = some 1 := by kernel_rfl
@[go_sem] theorem tbytes_17 : tbytes Tryd.prog 17 = some 8 := by kernel_rfl
@[go_sem] theorem tagg_17 : tagg Tryd.prog 17 = some false := by kernel_rfl
@[go_sem] theorem tzero_17 : tzero Tryd.prog 17 = some [.pointer none] := by kernel_rfl
@[go_sem] theorem conc_17 : conc Tryd.prog 17 = true := by kernel_rfl
@[go_sem] theorem tz1_17 : tz1 Tryd.prog 17 = some (.pointer none) := by kernel_rfl
@[go_sem] theorem tsize_18 : tsize Tryd.prog 18 = some 1 := by kernel_rfl
@[go_sem] theorem tbytes_18 : tbytes Tryd.prog 18 = some 8 := by kernel_rfl
@[go_sem] theorem tagg_18 : tagg Tryd.prog 18 = some true := by kernel_rfl
@[go_sem] theorem tzero_18 : tzero Tryd.prog 18 = some [.pointer none] := by kernel_rfl
@[go_sem] theorem conc_18 : conc Tryd.prog 18 = true := by kernel_rfl
@[go_sem] theorem tfield_18_0 : tfield Tryd.prog 18 0 = some 0 := by kernel_rfl
@[go_sem] theorem tplaces_18 : tplaces Tryd.prog 18 = some fun i => ([(0, 1)] : List (Nat × Nat))[i]? := by kernel_rfl
@[go_sem] theorem tsize_20 : tsize Tryd.prog 20 = some 1 := by kernel_rfl
@[go_sem] theorem tbytes_20 : tbytes Tryd.prog 20 = some 16 := by kernel_rfl
@[go_sem] theorem tagg_20 : tagg Tryd.prog 20 = some false := by kernel_rfl
@[go_sem] theorem tzero_20 : tzero Tryd.prog 20 = some [.nilIface] := by kernel_rfl
@[go_sem] theorem tz1_20 : tz1 Tryd.prog 20 = some .nilIface := by kernel_rfl
@[go_sem] theorem tsize_21 : tsize Tryd.prog 21 = some 1 := by kernel_rfl
@[go_sem] theorem tbytes_21 : tbytes Tryd.prog 21 = some 4 := by kernel_rfl
@[go_sem] theorem tagg_21 : tagg Tryd.prog 21 = some false := by kernel_rfl
@[go_sem] theorem tzero_21 : tzero Tryd.prog 21 = some [.int .i32 0] := by kernel_rfl
@[go_sem] theorem conc_21 : conc Tryd.prog 21 = true := by kernel_rfl
@[go_sem] theorem tz1_21 : tz1 Tryd.prog 21 = some (.int .i32 0) := by kernel_rfl
@[go_sem] theorem tsize_22 : tsize Tryd.prog 22 = some 1 := by kernel_rfl
@[go_sem] theorem tbytes_22 : tbytes Tryd.prog 22 = some 24 := by kernel_rfl
@[go_sem] theorem tagg_22 : tagg Tryd.prog 22 = some false := by kernel_rfl
@[go_sem] theorem tzero_22 : tzero Tryd.prog 22 = some [.slice none 0 0] := by kernel_rfl
@[go_sem] theorem conc_22 : conc Tryd.prog 22 = true := by kernel_rfl
@[go_sem] theorem tz1_22 : tz1 Tryd.prog 22 = some (.slice none 0 0) := by kernel_rfl
@[go_sem] theorem telem_22 : telem Tryd.prog 22 = some 35 := by kernel_rfl
@[go_sem] theorem tsize_23 : tsize Tryd.prog 23 = some 1 := by kernel_rfl
@[go_sem] theorem tbytes_23 : tbytes Tryd.prog 23 = some 24 := by kernel_rfl
@[go_sem] theorem tagg_23 : tagg Tryd.prog 23 = some false := by kernel_rfl
@[go_sem] theorem tzero_23 : tzero Tryd.prog 23 = some [.slice none 0 0] := by kernel_rfl
@[go_sem] theorem conc_23 : conc Tryd.prog 23 = true := by kernel_rfl
@[go_sem] theorem tz1_23 : tz1 Tryd.prog 23 = some (.slice none 0 0) := by kernel_rfl
@[go_sem] theorem telem_23 : telem Tryd.prog 23 = some 39 := by kernel_rfl
@[go_sem] theorem tsize_24 : tsize Tryd.prog 24 = some 1 := by kernel_rfl
@[go_sem] theorem tbytes_24 : tbytes Tryd.prog 24 = some 24 := by kernel_rfl
@[go_sem] theorem tagg_24 : tagg Tryd.prog 24 = some false := by kernel_rfl
@[go_sem] theorem tzero_24 : tzero Tryd.prog 24 = some [.slice none 0 0] := by kernel_rfl
@[go_sem] theorem conc_24 : conc Tryd.prog 24 = true := by kernel_rfl
@[go_sem] theorem tz1_24 : tz1 Tryd.prog 24 = some (.slice none 0 0) := by kernel_rfl
@[go_sem] theorem telem_24 : telem Tryd.prog 24 = some 41 := by kernel_rfl
@[go_sem] theorem tsize_25 : tsize Tryd.prog 25 = some 4 := by kernel_rfl
@[go_sem] theorem tbytes_25 : tbytes Tryd.prog 25 = some 88 := by kernel_rfl
@[go_sem] theorem tagg_25 : tagg Tryd.prog 25 = some true := by kernel_rfl
@[go_sem] theorem tzero_25 : tzero Tryd.prog 25 = some [.string ⟨#[]⟩, .slice none 0 0, .slice none 0 0, .slice none 0 0] := by kernel_rfl
@[go_sem] theorem conc_25 : conc Tryd.prog 25 = true := by kernel_rfl
@[go_sem] theorem tfield_25_0 : tfield Tryd.prog 25 0 = some 0 := by kernel_rfl
@[go_sem] theorem tfield_25_1 : tfield Tryd.prog 25 1 = some 1 := by kernel_rfl
@[go_sem] theorem tfield_25_2 : tfield Tryd.prog 25 2 = some 2 := by kernel_rfl
@[go_sem] theorem tfield_25_3 : tfield Tryd.prog 25 3 = some 3 := by kernel_rfl
@[go_sem] theorem tplaces_25 : tplaces Tryd.prog 25 = some fun i => ([(0, 1), (1, 1), (2, 1), (3, 1)] : List (Nat × Nat))[i]? := by kernel_rfl
@[go_sem] theorem tsize_26 : tsize Tryd.prog 26 = some 4 := by kernel_rfl
@[go_sem] theorem tbytes_26 : tbytes Tryd.prog 26 = some 88 := by kernel_rfl
@[go_sem] theorem tagg_26 : tagg Tryd.prog 26 = some true := by kernel_rfl
@[go_sem] theorem tzero_26 : tzero Tryd.prog 26 = some [.string ⟨#[]⟩, .slice none 0 0, .slice none 0 0, .slice none 0 0] := by kernel_rfl
@[go_sem] theorem conc_26 : conc Tryd.prog 26 = true := by kernel_rfl
@[go_sem] theorem tfield_26_0 : tfield Tryd.prog 26 0 = some 0 := by kernel_rfl
@[go_sem] theorem tfield_26_1 : tfield Tryd.prog 26 1 = some 1 := by kernel_rfl
@[go_sem] theorem tfield_26_2 : tfield Tryd.prog 26 2 = some 2 := by kernel_rfl
@[go_sem] theorem tfield_26_3 : tfield Tryd.prog 26 3 = some 3 := by kernel_rfl
@[go_sem] theorem tplaces_26 : tplaces Tryd.prog 26 = some fun i => ([(0, 1), (1, 1), (2, 1), (3, 1)] : List (Nat × Nat))[i]? := by kernel_rfl
@[go_sem] theorem tsize_28 : tsize Tryd.prog 28 = some 1 := by kernel_rfl
@[go_sem] theorem tbytes_28 : tbytes Tryd.prog 28 = some 8 := by kernel_rfl
@[go_sem] theorem tagg_28 : tagg Tryd.prog 28 = some false := by kernel_rfl
@[go_sem] theorem tzero_28 : tzero Tryd.prog 28 = some [.int .i64 0] := by kernel_rfl
@[go_sem] theorem conc_28 : conc Tryd.prog 28 = true := by kernel_rfl
@[go_sem] theorem tz1_28 : tz1 Tryd.prog 28 = some (.int .i64 0) := by kernel_rfl
@[go_sem] theorem tsize_32 : tsize Tryd.prog 32 = some 1 := by kernel_rfl
@[go_sem] theorem tbytes_32 : tbytes Tryd.prog 32 = some 24 := by kernel_rfl
@[go_sem] theorem tagg_32 : tagg Tryd.prog 32 = some false := by kernel_rfl
@[go_sem] theorem tzero_32 : tzero Tryd.prog 32 = some [.slice none 0 0] := by kernel_rfl
@[go_sem] theorem conc_32 : conc Tryd.prog 32 = true := by kernel_rfl
@[go_sem] theorem tz1_32 : tz1 Tryd.prog 32 = some (.slice none 0 0) := by kernel_rfl
@[go_sem] theorem telem_32 : telem Tryd.prog 32 = some 48 := by kernel_rfl
@[go_sem] theorem tsize_33 : tsize Tryd.prog 33 = some 1 := by kernel_rfl
@[go_sem] theorem tbytes_33 : tbytes Tryd.prog 33 = some 24 := by kernel_rfl
@[go_sem] theorem tagg_33 : tagg Tryd.prog 33 = some false := by kernel_rfl
@[go_sem] theorem tzero_33 : tzero Tryd.prog 33 = some [.slice none 0 0] := by kernel_rfl
@[go_sem] theorem conc_33 : conc Tryd.prog 33 = true := by kernel_rfl
@[go_sem] theorem tz1_33 : tz1 Tryd.prog 33 = some (.slice none 0 0) := by kernel_rfl
@[go_sem] theorem telem_33 : telem Tryd.prog 33 = some 3 := by kernel_rfl
@[go_sem] theorem tsize_34 : tsize Tryd.prog 34 = some 3 := by kernel_rfl
@[go_sem] theorem tbytes_34 : tbytes Tryd.prog 34 = some 64 := by kernel_rfl
@[go_sem] theorem tagg_34 : tagg Tryd.prog 34 = some true := by kernel_rfl
@[go_sem] theorem tzero_34 : tzero Tryd.prog 34 = some [.string ⟨#[]⟩, .slice none 0 0, .slice none 0 0] := by kernel_rfl
@[go_sem] theorem conc_34 : conc Tryd.prog 34 = true := by kernel_rfl
@[go_sem] theorem tfield_34_0 : tfield Tryd.prog 34 0 = some 0 := by kernel_rfl
@[go_sem] theorem tfield_34_1 : tfield Tryd.prog 34 1 = some 1 := by kernel_rfl
@[go_sem] theorem tfield_34_2 : tfield Tryd.prog 34 2 = some 2 := by kernel_rfl
@[go_sem] theorem tplaces_34 : tplaces Tryd.prog 34 = some fun i => ([(0, 1), (1, 1), (2, 1)] : List (Nat × Nat))[i]? := by kernel_rfl
@[go_sem] theorem tsize_35 : tsize Tryd.prog 35 = some 3 := by kernel_rfl
@[go_sem] theorem tbytes_35 : tbytes Tryd.prog 35 = some 64 := by kernel_rfl
@[go_sem] theorem tagg_35 : tagg Tryd.prog 35 = some true := by kernel_rfl
@[go_sem] theorem tzero_35 : tzero Tryd.prog 35 = some [.string ⟨#[]⟩, .slice none 0 0, .slice none 0 0] := by kernel_rfl
@[go_sem] theorem conc_35 : conc Tryd.prog 35 = true := by kernel_rfl
@[go_sem] theorem tfield_35_0 : tfield Tryd.prog 35 0 = some 0 := by kernel_rfl
@[go_sem] theorem tfield_35_1 : tfield Tryd.prog 35 1 = some 1 := by kernel_rfl
@[go_sem] theorem tfield_35_2 : tfield Tryd.prog 35 2 = some 2 := by kernel_rfl
@[go_sem] theorem tplaces_35 : tplaces Tryd.prog 35 = some fun i => ([(0, 1), (1, 1), (2, 1)] : List (Nat × Nat))[i]? := by kernel_rfl
@[go_sem] theorem tsize_37 : tsize Tryd.prog 37 = some 1 := by kernel_rfl
@[go_sem] theorem tbytes_37 : tbytes Tryd.prog 37 = some 24 := by kernel_rfl
@[go_sem] theorem tagg_37 : tagg Tryd.prog 37 = some false := by kernel_rfl
@[go_sem] theorem tzero_37 : tzero Tryd.prog 37 = some [.slice none 0 0] := by kernel_rfl
@[go_sem] theorem conc_37 : conc Tryd.prog 37 = true := by kernel_rfl
@[go_sem] theorem tz1_37 : tz1 Tryd.prog 37 = some (.slice none 0 0) := by kernel_rfl
@[go_sem] theorem telem_37 : telem Tryd.prog 37 = some 55 := by kernel_rfl
@[go_sem] theorem tsize_38 : tsize Tryd.prog 38 = some 2 := by kernel_rfl
@[go_sem] theorem tbytes_38 : tbytes Tryd.prog 38 = some 40 := by kernel_rfl
@[go_sem] theorem tagg_38 : tagg Tryd.prog 38 = some true := by kernel_rfl
@[go_sem] theorem tzero_38 : tzero Tryd.prog 38 = some [.string ⟨#[]⟩, .slice none 0 0] := by kernel_rfl
@[go_sem] theorem conc_38 : conc Tryd.prog 38 = true := by kernel_rfl
@[go_sem] theorem tfield_38_0 : tfield Tryd.prog 38 0 = some 0 := by kernel_rfl
@[go_sem] theorem tfield_38_1 : tfield Tryd.prog 38 1 = some 1 := by kernel_rfl
@[go_sem] theorem tplaces_38 : tplaces Tryd.prog 38 = some fun i => ([(0, 1), (1, 1)] : List (Nat × Nat))[i]? := by kernel_rfl
@[go_sem] theorem tsize_39 : tsize Tryd.prog 39 = some 2 := by kernel_rfl
@[go_sem] theorem tbytes_39 : tbytes Tryd.prog 39 = some 40 := by kernel_rfl
@[go_sem] theorem tagg_39 : tagg Tryd.prog 39 = some true := by kernel_rfl
@[go_sem] theorem tzero_39 : tzero Tryd.prog 39 = some [.string ⟨#[]⟩, .slice none 0 0] := by kernel_rfl
@[go_sem] theorem conc_39 : conc Tryd.prog 39 = true := by kernel_rfl
@[go_sem] theorem tfield_39_0 : tfield Tryd.prog 39 0 = some 0 := by kernel_rfl
@[go_sem] theorem tfield_39_1 : tfield Tryd.prog 39 1 = some 1 := by kernel_rfl
@[go_sem] theorem tplaces_39 : tplaces Tryd.prog 39 = some fun i => ([(0, 1), (1, 1)] : List (Nat × Nat))[i]? := by kernel_rfl
@[go_sem] theorem tsize_40 : tsize Tryd.prog 40 = some 3 := by kernel_rfl
@[go_sem] theorem tbytes_40 : tbytes Tryd.prog 40 = some 48 := by kernel_rfl
@[go_sem] theorem tagg_40 : tagg Tryd.prog 40 = some true := by kernel_rfl
@[go_sem] theorem tzero_40 : tzero Tryd.prog 40 = some [.string ⟨#[]⟩, .string ⟨#[]⟩, .string ⟨#[]⟩] := by kernel_rfl
@[go_sem] theorem conc_40 : conc Tryd.prog 40 = true := by kernel_rfl
@[go_sem] theorem tfield_40_0 : tfield Tryd.prog 40 0 = some 0 := by kernel_rfl
@[go_sem] theorem tfield_40_1 : tfield Tryd.prog 40 1 = some 1 := by kernel_rfl
@[go_sem] theorem tfield_40_2 : tfield Tryd.prog 40 2 = some 2 := by kernel_rfl
@[go_sem] theorem tplaces_40 : tplaces Tryd.prog 40 = some fun i => ([(0, 1), (1, 1), (2, 1)] : List (Nat × Nat))[i]? := by kernel_rfl
@[go_sem] theorem tsize_41 : tsize Tryd.prog 41 = some 3 := by kernel_rfl
@[go_sem] theorem tbytes_41 : tbytes Tryd.prog 41 = some 48 := by kernel_rfl
@[go_sem] theorem tagg_41 : tagg Tryd.prog 41 = some true := by kernel_rfl
@[go_sem] theorem tzero_41 : tzero Tryd.prog 41 = some [.string ⟨#[]⟩, .string ⟨#[]⟩, .string ⟨#[]⟩] := by kernel_rfl
@[go_sem] theorem conc_41 : conc Tryd.prog 41 = true := by kernel_rfl
@[go_sem] theorem tfield_41_0 : tfield Tryd.prog 41 0 = some 0 := by kernel_rfl
@[go_sem] theorem tfield_41_1 : tfield Tryd.prog 41 1 = some 1 := by kernel_rfl
@[go_sem] theorem tfield_41_2 : tfield Tryd.prog 41 2 = some 2 := by kernel_rfl
@[go_sem] theorem tplaces_41 : tplaces Tryd.prog 41 = some fun i => ([(0, 1), (1, 1), (2, 1)] : List (Nat × Nat))[i]? := by kernel_rfl
@[go_sem] theorem tsize_43 : tsize Tryd.prog 43 = some 1 := by kernel_rfl
@[go_sem] theorem tbytes_43 : tbytes Tryd.prog 43 = some 8 := by kernel_rfl
@[go_sem] theorem tagg_43 : tagg Tryd.prog 43 = some false := by kernel_rfl
@[go_sem] theorem tzero_43 : tzero Tryd.prog 43 = some [.pointer none] := by kernel_rfl
@[go_sem] theorem conc_43 : conc Tryd.prog 43 = true := by kernel_rfl
@[go_sem] theorem tz1_43 : tz1 Tryd.prog 43 = some (.pointer none) := by kernel_rfl
@[go_sem] theorem tsize_44 : tsize Tryd.prog 44 = some 1 := by kernel_rfl
@[go_sem] theorem tbytes_44 : tbytes Tryd.prog 44 = some 8 := by kernel_rfl
@[go_sem] theorem tagg_44 : tagg Tryd.prog 44 = some false := by kernel_rfl
@[go_sem] theorem tzero_44 : tzero Tryd.prog 44 = some [.pointer none] := by kernel_rfl
@[go_sem] theorem conc_44 : conc Tryd.prog 44 = true := by kernel_rfl
@[go_sem] theorem tz1_44 : tz1 Tryd.prog 44 = some (.pointer none) := by kernel_rfl
@[go_sem] theorem tsize_45 : tsize Tryd.prog 45 = some 2 := by kernel_rfl
@[go_sem] theorem tbytes_45 : tbytes Tryd.prog 45 = some 24 := by kernel_rfl
@[go_sem] theorem tagg_45 : tagg Tryd.prog 45 = some true := by kernel_rfl
@[go_sem] theorem tzero_45 : tzero Tryd.prog 45 = some [.int .i64 0, .string ⟨#[]⟩] := by kernel_rfl
@[go_sem] theorem conc_45 : conc Tryd.prog 45 = true := by kernel_rfl
@[go_sem] theorem tfield_45_0 : tfield Tryd.prog 45 0 = some 0 := by kernel_rfl
@[go_sem] theorem tfield_45_1 : tfield Tryd.prog 45 1 = some 1 := by kernel_rfl
@[go_sem] theorem tplaces_45 : tplaces Tryd.prog 45 = some fun i => ([(0, 1), (1, 1)] : List (Nat × Nat))[i]? := by kernel_rfl
@[go_sem] theorem tsize_46 : tsize Tryd.prog 46 = some 2 := by kernel_rfl
@[go_sem] theorem tbytes_46 : tbytes Tryd.prog 46 = some 24 := by kernel_rfl
@[go_sem] theorem tagg_46 : tagg Tryd.prog 46 = some true := by kernel_rfl
@[go_sem] theorem tzero_46 : tzero Tryd.prog 46 = some [.int .i64 0, .string ⟨#[]⟩] := by kernel_rfl
@[go_sem] theorem conc_46 : conc Tryd.prog 46 = true := by kernel_rfl
@[go_sem] theorem tfield_46_0 : tfield Tryd.prog 46 0 = some 0 := by kernel_rfl
@[go_sem] theorem tfield_46_1 : tfield Tryd.prog 46 1 = some 1 := by kernel_rfl
@[go_sem] theorem tplaces_46 : tplaces Tryd.prog 46 = some fun i => ([(0, 1), (1, 1)] : List (Nat × Nat))[i]? := by kernel_rfl
@[go_sem] theorem tsize_47 : tsize Tryd.prog 47 = some 5 := by kernel_rfl
@[go_sem] theorem tbytes_47 : tbytes Tryd.prog 47 = some 56 := by kernel_rfl
@[go_sem] theorem tagg_47 : tagg Tryd.prog 47 = some true := by kernel_rfl
@[go_sem] theorem tzero_47 : tzero Tryd.prog 47 = some [.string ⟨#[]⟩, .int .i64 0, .int .i64 0, .int .i64 0, .string ⟨#[]⟩] := by kernel_rfl
@[go_sem] theorem conc_47 : conc Tryd.prog 47 = true := by kernel_rfl
@[go_sem] theorem tfield_47_0 : tfield Tryd.prog 47 0 = some 0 := by kernel_rfl
@[go_sem] theorem tfield_47_1 : tfield Tryd.prog 47 1 = some 1 := by kernel_rfl
@[go_sem] theorem tfield_47_2 : tfield Tryd.prog 47 2 = some 2 := by kernel_rfl
@[go_sem] theorem tfield_47_3 : tfield Tryd.prog 47 3 = some 3 := by kernel_rfl
@[go_sem] theorem tplaces_47 : tplaces Tryd.prog 47 = some fun i => ([(0, 1), (1, 1), (2, 1), (3, 2)] : List (Nat × Nat))[i]? := by kernel_rfl
@[go_sem] theorem tsize_48 : tsize Tryd.prog 48 = some 5 := by kernel_rfl
@[go_sem] theorem tbytes_48 : tbytes Tryd.prog 48 = some 56 := by kernel_rfl
@[go_sem] theorem tagg_48 : tagg Tryd.prog 48 = some true := by kernel_rfl
@[go_sem] theorem tzero_48 : tzero Tryd.prog 48 = some [.string ⟨#[]⟩, .int .i64 0, .int .i64 0, .int .i64 0, .string ⟨#[]⟩] := by kernel_rfl
@[go_sem] theorem conc_48 : conc Tryd.prog 48 = true := by kernel_rfl
@[go_sem] theorem tfield_48_0 : tfield Tryd.prog 48 0 = some 0 := by kernel_rfl
@[go_sem] theorem tfield_48_1 : tfield Tryd.prog 48 1 = some 1 := by kernel_rfl
@[go_sem] theorem tfield_48_2 : tfield Tryd.prog 48 2 = some 2 := by kernel_rfl
@[go_sem] theorem tfield_48_3 : tfield Tryd.prog 48 3 = some 3 := by kernel_rfl
@[go_sem] theorem tplaces_48 : tplaces Tryd.prog 48 = some fun i => ([(0, 1), (1, 1), (2, 1), (3, 2)] : List (Nat × Nat))[i]? := by kernel_rfl
@[go_sem] theorem tsize_52 : tsize Tryd.prog 52 = some 1 := by kernel_rfl
@[go_sem] theorem tbytes_52 : tbytes Tryd.prog 52 = some 24 := by kernel_rfl
@[go_sem] theorem tagg_52 : tagg Tryd.prog 52 = some false := by kernel_rfl
@[go_sem] theorem tzero_52 : tzero Tryd.prog 52 = some [.slice none 0 0] := by kernel_rfl
@[go_sem] theorem conc_52 : conc Tryd.prog 52 = true := by kernel_rfl
@[go_sem] theorem tz1_52 : tz1 Tryd.prog 52 = some (.slice none 0 0) := by kernel_rfl
@[go_sem] theorem telem_52 : telem Tryd.prog 52 = some 5 := by kernel_rfl
@[go_sem] theorem tsize_54 : tsize Tryd.prog 54 = some 2 := by kernel_rfl
@[go_sem] theorem tbytes_54 : tbytes Tryd.prog 54 = some 24 := by kernel_rfl
@[go_sem] theorem tagg_54 : tagg Tryd.prog 54 = some true := by kernel_rfl
@[go_sem] theorem tzero_54 : tzero Tryd.prog 54 = some [.string ⟨#[]⟩, .int .i64 0] := by kernel_rfl
@[go_sem] theorem conc_54 : conc Tryd.prog 54 = true := by kernel_rfl
@[go_sem] theorem tfield_54_0 : tfield Tryd.prog 54 0 = some 0 := by kernel_rfl
@[go_sem] theorem tfield_54_1 : tfield Tryd.prog 54 1 = some 1 := by kernel_rfl
@[go_sem] theorem tplaces_54 : tplaces Tryd.prog 54 = some fun i => ([(0, 1), (1, 1)] : List (Nat × Nat))[i]? := by kernel_rfl
@[go_sem] theorem tsize_55 : tsize Tryd.prog 55 = some 2 := by kernel_rfl
@[go_sem] theorem tbytes_55 : tbytes Tryd.prog 55 = some 24 := by kernel_rfl
@[go_sem] theorem tagg_55 : tagg Tryd.prog 55 = some true := by kernel_rfl
@[go_sem] theorem tzero_55 : tzero Tryd.prog 55 = some [.string ⟨#[]⟩, .int .i64 0] := by kernel_rfl
@[go_sem] theorem conc_55 : conc Tryd.prog 55 = true := by kernel_rfl
@[go_sem] theorem tfield_55_0 : tfield Tryd.prog 55 0 = some 0 := by kernel_rfl
@[go_sem] theorem tfield_55_1 : tfield Tryd.prog 55 1 = some 1 := by kernel_rfl
@[go_sem] theorem tplaces_55 : tplaces Tryd.prog 55 = some fun i => ([(0, 1), (1, 1)] : List (Nat × Nat))[i]? := by kernel_rfl
@[go_sem] theorem tsize_57 : tsize Tryd.prog 57 = some 28 := by kernel_rfl
@[go_sem] theorem tbytes_57 : tbytes Tryd.prog 57 = some 616 := by kernel_rfl
@[go_sem] theorem tagg_57 : tagg Tryd.prog 57 = some true := by kernel_rfl
@[go_sem] theorem tzero_57 : tzero Tryd.prog 57 = some [.string ⟨#[]⟩, .slice none 0 0, .slice none 0 0, .slice none 0 0, .string ⟨#[]⟩, .slice none 0 0, .slice none 0 0, .slice none 0 0, .string ⟨#[]⟩, .slice none 0 0, .slice none 0 0, .slice none 0 0, .string ⟨#[]⟩, .slice none 0 0, .slice none 0 0, .slice none 0 0, .string ⟨#[]⟩, .slice none 0 0, .slice none 0 0, .slice none 0 0, .string ⟨#[]⟩, .slice none 0 0, .slice none 0 0, .slice none 0 0, .string ⟨#[]⟩, .slice none 0 0, .slice none 0 0, .slice none 0 0] := by kernel_rfl
@[go_sem] theorem conc_57 : conc Tryd.prog 57 = true := by kernel_rfl
@[go_sem] theorem tplaces_57 : tplaces Tryd.prog 57 = some fun i => some (i * 4, 4) := by kernel_rfl
@[go_sem] theorem tsize_72 : tsize Tryd.prog 72 = some 1 := by kernel_rfl
@[go_sem] theorem tbytes_72 : tbytes Tryd.prog 72 = some 8 := by kernel_rfl
@[go_sem] theorem tagg_72 : tagg Tryd.prog 72 = some false := by kernel_rfl
@[go_sem] theorem tzero_72 : tzero Tryd.prog 72 = some [.pointer none] := by kernel_rfl
@[go_sem] theorem conc_72 : conc Tryd.prog 72 = true := by kernel_rfl
@[go_sem] theorem tz1_72 : tz1 Tryd.prog 72 = some (.pointer none) := by kernel_rfl
@[go_sem] theorem tsize_77 : tsize Tryd.prog 77 = some 1 := by kernel_rfl
@[go_sem] theorem tbytes_77 : tbytes Tryd.prog 77 = some 24 := by kernel_rfl
@[go_sem] theorem tagg_77 : tagg Tryd.prog 77 = some false := by kernel_rfl
@[go_sem] theorem tzero_77 : tzero Tryd.prog 77 = some [.slice none 0 0] := by kernel_rfl
@[go_sem] theorem conc_77 : conc Tryd.prog 77 = true := by kernel_rfl
@[go_sem] theorem tz1_77 : tz1 Tryd.prog 77 = some (.slice none 0 0) := by kernel_rfl
@[go_sem] theorem telem_77 : telem Tryd.prog 77 = some 83 := by kernel_rfl
@[go_sem] theorem tsize_78 : tsize Tryd.prog 78 = some 1 := by kernel_rfl
@[go_sem] theorem tbytes_78 : tbytes Tryd.prog 78 = some 24 := by kernel_rfl
@[go_sem] theorem tagg_78 : tagg Tryd.prog 78 = some true := by kernel_rfl
@[go_sem] theorem tzero_78 : tzero Tryd.prog 78 = some [.slice none 0 0] := by kernel_rfl
@[go_sem] theorem conc_78 : conc Tryd.prog 78 = true := by kernel_rfl
@[go_sem] theorem tfield_78_0 : tfield Tryd.prog 78 0 = some 0 := by kernel_rfl
@[go_sem] theorem tplaces_78 : tplaces Tryd.prog 78 = some fun i => ([(0, 1)] : List (Nat × Nat))[i]? := by kernel_rfl
@[go_sem] theorem tsize_79 : tsize Tryd.prog 79 = some 1 := by kernel_rfl
@[go_sem] theorem tbytes_79 : tbytes Tryd.prog 79 = some 24 := by kernel_rfl
@[go_sem] theorem tagg_79 : tagg Tryd.prog 79 = some true := by kernel_rfl
@[go_sem] theorem tzero_79 : tzero Tryd.prog 79 = some [.slice none 0 0] := by kernel_rfl
@[go_sem] theorem conc_79 : conc Tryd.prog 79 = true := by kernel_rfl
@[go_sem] theorem tfield_79_0 : tfield Tryd.prog 79 0 = some 0 := by kernel_rfl
@[go_sem] theorem tplaces_79 : tplaces Tryd.prog 79 = some fun i => ([(0, 1)] : List (Nat × Nat))[i]? := by kernel_rfl
@[go_sem] theorem tsize_83 : tsize Tryd.prog 83 = some 1 := by kernel_rfl
@[go_sem] theorem tbytes_83 : tbytes Tryd.prog 83 = some 24 := by kernel_rfl
@[go_sem] theorem tagg_83 : tagg Tryd.prog 83 = some false := by kernel_rfl
@[go_sem] theorem tzero_83 : tzero Tryd.prog 83 = some [.slice none 0 0] := by kernel_rfl
@[go_sem] theorem conc_83 : conc Tryd.prog 83 = true := by kernel_rfl
@[go_sem] theorem tz1_83 : tz1 Tryd.prog 83 = some (.slice none 0 0) := by kernel_rfl
@[go_sem] theorem telem_83 : telem Tryd.prog 83 = some 85 := by kernel_rfl
@[go_sem] theorem tsize_84 : tsize Tryd.prog 84 = some 3 := by kernel_rfl
@[go_sem] theorem tbytes_84 : tbytes Tryd.prog 84 = some 24 := by kernel_rfl
@[go_sem] theorem tagg_84 : tagg Tryd.prog 84 = some true := by kernel_rfl
@[go_sem] theorem tzero_84 : tzero Tryd.prog 84 = some [.int .i64 0, .int .i64 0, .int .i64 0] := by kernel_rfl
@[go_sem] theorem conc_84 : conc Tryd.prog 84 = true := by kernel_rfl
@[go_sem] theorem tfield_84_0 : tfield Tryd.prog 84 0 = some 0 := by kernel_rfl
@[go_sem] theorem tfield_84_1 : tfield Tryd.prog 84 1 = some 1 := by kernel_rfl
@[go_sem] theorem tfield_84_2 : tfield Tryd.prog 84 2 = some 2 := by kernel_rfl
@[go_sem] theorem tplaces_84 : tplaces Tryd.prog 84 = some fun i => ([(0, 1), (1, 1), (2, 1)] : List (Nat × Nat))[i]? := by kernel_rfl
@[go_sem] theorem tsize_85 : tsize Tryd.prog 85 = some 3 := by kernel_rfl
@[go_sem] theorem tbytes_85 : tbytes Tryd.prog 85 = some 24 := by kernel_rfl
@[go_sem] theorem tagg_85 : tagg Tryd.prog 85 = some true := by kernel_rfl
@[go_sem] theorem tzero_85 : tzero Tryd.prog 85 = some [.int .i64 0, .int .i64 0, .int .i64 0] := by kernel_rfl
@[go_sem] theorem conc_85 : conc Tryd.prog 85 = true := by kernel_rfl
@[go_sem] theorem tfield_85_0 : tfield Tryd.prog 85 0 = some 0 := by kernel_rfl
@[go_sem] theorem tfield_85_1 : tfield Tryd.prog 85 1 = some 1 := by kernel_rfl
@[go_sem] theorem tfield_85_2 : tfield Tryd.prog 85 2 = some 2 := by kernel_rfl
@[go_sem] theorem tplaces_85 : tplaces Tryd.prog 85 = some fun i => ([(0, 1), (1, 1), (2, 1)] : List (Nat × Nat))[i]? := by kernel_rfl
@[go_sem] theorem tsize_98 : tsize Tryd.prog 98 = some 1 := by kernel_rfl
@[go_sem] theorem tbytes_98 : tbytes Tryd.prog 98 = some 8 := by kernel_rfl
@[go_sem] theorem tagg_98 : tagg Tryd.prog 98 = some false := by kernel_rfl
@[go_sem] theorem tzero_98 : tzero Tryd.prog 98 = some [.map none] := by kernel_rfl
@[go_sem] theorem conc_98 : conc Tryd.prog 98 = true := by kernel_rfl
@[go_sem] theorem tz1_98 : tz1 Tryd.prog 98 = some (.map none) := by kernel_rfl
@[go_sem] theorem tsize_99 : tsize Tryd.prog 99 = some 1 := by kernel_rfl
@[go_sem] theorem tbytes_99 : tbytes Tryd.prog 99 = some 8 := by kernel_rfl
@[go_sem] theorem tagg_99 : tagg Tryd.prog 99 = some false := by kernel_rfl
@[go_sem] theorem tzero_99 : tzero Tryd.prog 99 = some [.map none] := by kernel_rfl
@[go_sem] theorem conc_99 : conc Tryd.prog 99 = true := by kernel_rfl
@[go_sem] theorem tz1_99 : tz1 Tryd.prog 99 = some (.map none) := by kernel_rfl
@[go_sem] theorem tsize_103 : tsize Tryd.prog 103 = some 1 := by kernel_rfl
@[go_sem] theorem tbytes_103 : tbytes Tryd.prog 103 = some 24 := by kernel_rfl
@[go_sem] theorem tagg_103 : tagg Tryd.prog 103 = some false := by kernel_rfl
@[go_sem] theorem tzero_103 : tzero Tryd.prog 103 = some [.slice none 0 0] := by kernel_rfl
@[go_sem] theorem conc_103 : conc Tryd.prog 103 = true := by kernel_rfl
@[go_sem] theorem tz1_103 : tz1 Tryd.prog 103 = some (.slice none 0 0) := by kernel_rfl
@[go_sem] theorem telem_103 : telem Tryd.prog 103 = some 9 := by kernel_rfl
@[go_sem] theorem tsize_106 : tsize Tryd.prog 106 = some 1 := by kernel_rfl
@[go_sem] theorem tbytes_106 : tbytes Tryd.prog 106 = some 8 := by kernel_rfl
@[go_sem] theorem tagg_106 : tagg Tryd.prog 106 = some false := by kernel_rfl
@[go_sem] theorem tzero_106 : tzero Tryd.prog 106 = some [.pointer none] := by kernel_rfl
@[go_sem] theorem conc_106 : conc Tryd.prog 106 = true := by kernel_rfl
@[go_sem] theorem tz1_106 : tz1 Tryd.prog 106 = some (.pointer none) := by kernel_rfl
@[go_sem] theorem tsize_107 : tsize Tryd.prog 107 = some 1 := by kernel_rfl
@[go_sem] theorem tbytes_107 : tbytes Tryd.prog 107 = some 8 := by kernel_rfl
@[go_sem] theorem tagg_107 : tagg Tryd.prog 107 = some false := by kernel_rfl
@[go_sem] theorem tzero_107 : tzero Tryd.prog 107 = some [.map none] := by kernel_rfl
@[go_sem] theorem conc_107 : conc Tryd.prog 107 = true := by kernel_rfl
@[go_sem] theorem tz1_107 : tz1 Tryd.prog 107 = some (.map none) := by kernel_rfl
@[go_sem] theorem tsize_108 : tsize Tryd.prog 108 = some 1 := by kernel_rfl
@[go_sem] theorem tbytes_108 : tbytes Tryd.prog 108 = some 24 := by kernel_rfl
@[go_sem] theorem tagg_108 : tagg Tryd.prog 108 = some false := by kernel_rfl
@[go_sem] theorem tzero_108 : tzero Tryd.prog 108 = some [.slice none 0 0] := by kernel_rfl
@[go_sem] theorem conc_108 : conc Tryd.prog 108 = true := by kernel_rfl
@[go_sem] theorem tz1_108 : tz1 Tryd.prog 108 = some (.slice none 0 0) := by kernel_rfl
@[go_sem] theorem telem_108 : telem Tryd.prog 108 = some 113 := by kernel_rfl
@[go_sem] theorem tsize_109 : tsize Tryd.prog 109 = some 2 := by kernel_rfl
@[go_sem] theorem tbytes_109 : tbytes Tryd.prog 109 = some 32 := by kernel_rfl
@[go_sem] theorem tagg_109 : tagg Tryd.prog 109 = some true := by kernel_rfl
@[go_sem] theorem tzero_109 : tzero Tryd.prog 109 = some [.slice none 0 0, .map none] := by kernel_rfl
@[go_sem] theorem conc_109 : conc Tryd.prog 109 = true := by kernel_rfl
@[go_sem] theorem tfield_109_0 : tfield Tryd.prog 109 0 = some 0 := by kernel_rfl
@[go_sem] theorem tfield_109_1 : tfield Tryd.prog 109 1 = some 1 := by kernel_rfl
@[go_sem] theorem tplaces_109 : tplaces Tryd.prog 109 = some fun i => ([(0, 1), (1, 1)] : List (Nat × Nat))[i]? := by kernel_rfl
@[go_sem] theorem tsize_110 : tsize Tryd.prog 110 = some 2 := by kernel_rfl
@[go_sem] theorem tbytes_110 : tbytes Tryd.prog 110 = some 32 := by kernel_rfl
@[go_sem] theorem tagg_110 : tagg Tryd.prog 110 = some true := by kernel_rfl
@[go_sem] theorem tzero_110 : tzero Tryd.prog 110 = some [.slice none 0 0, .map none] := by kernel_rfl
@[go_sem] theorem conc_110 : conc Tryd.prog 110 = true := by kernel_rfl
@[go_sem] theorem tfield_110_0 : tfield Tryd.prog 110 0 = some 0 := by kernel_rfl
@[go_sem] theorem tfield_110_1 : tfield Tryd.prog 110 1 = some 1 := by kernel_rfl
@[go_sem] theorem tplaces_110 : tplaces Tryd.prog 110 = some fun i => ([(0, 1), (1, 1)] : List (Nat × Nat))[i]? := by kernel_rfl
@[go_sem] theorem tsize_112 : tsize Tryd.prog 112 = some 2 := by kernel_rfl
@[go_sem] theorem tbytes_112 : tbytes Tryd.prog 112 = some 32 := by kernel_rfl
@[go_sem] theorem tagg_112 : tagg Tryd.prog 112 = some true := by kernel_rfl
@[go_sem] theorem tzero_112 : tzero Tryd.prog 112 = some [.string ⟨#[]⟩, .string ⟨#[]⟩] := by kernel_rfl
@[go_sem] theorem conc_112 : conc Tryd.prog 112 = true := by kernel_rfl
@[go_sem] theorem tfield_112_0 : tfield Tryd.prog 112 0 = some 0 := by kernel_rfl
@[go_sem] theorem tfield_112_1 : tfield Tryd.prog 112 1 = some 1 := by kernel_rfl
@[go_sem] theorem tplaces_112 : tplaces Tryd.prog 112 = some fun i => ([(0, 1), (1, 1)] : List (Nat × Nat))[i]? := by kernel_rfl
@[go_sem] theorem tsize_113 : tsize Tryd.prog 113 = some 2 := by kernel_rfl
@[go_sem] theorem tbytes_113 : tbytes Tryd.prog 113 = some 32 := by kernel_rfl
@[go_sem] theorem tagg_113 : tagg Tryd.prog 113 = some true := by kernel_rfl
@[go_sem] theorem tzero_113 : tzero Tryd.prog 113 = some [.string ⟨#[]⟩, .string ⟨#[]⟩] := by kernel_rfl
@[go_sem] theorem conc_113 : conc Tryd.prog 113 = true := by kernel_rfl
@[go_sem] theorem tfield_113_0 : tfield Tryd.prog 113 0 = some 0 := by kernel_rfl
@[go_sem] theorem tfield_113_1 : tfield Tryd.prog 113 1 = some 1 := by kernel_rfl
@[go_sem] theorem tplaces_113 : tplaces Tryd.prog 113 = some fun i => ([(0, 1), (1, 1)] : List (Nat × Nat))[i]? := by kernel_rfl
@[go_sem] theorem tsize_115 : tsize Tryd.prog 115 = some 1 := by kernel_rfl
@[go_sem] theorem tbytes_115 : tbytes Tryd.prog 115 = some 24 := by kernel_rfl
@[go_sem] theorem tagg_115 : tagg Tryd.prog 115 = some false := by kernel_rfl
@[go_sem] theorem tzero_115 : tzero Tryd.prog 115 = some [.slice none 0 0] := by kernel_rfl
@[go_sem] theorem conc_115 : conc Tryd.prog 115 = true := by kernel_rfl
@[go_sem] theorem tz1_115 : tz1 Tryd.prog 115 = some (.slice none 0 0) := by kernel_rfl
@[go_sem] theorem telem_115 : telem Tryd.prog 115 = some 118 := by kernel_rfl
@[go_sem] theorem tsize_117 : tsize Tryd.prog 117 = some 2 := by kernel_rfl
@[go_sem] theorem tbytes_117 : tbytes Tryd.prog 117 = some 32 := by kernel_rfl
@[go_sem] theorem tagg_117 : tagg Tryd.prog 117 = some true := by kernel_rfl
@[go_sem] theorem tzero_117 : tzero Tryd.prog 117 = some [.string ⟨#[]⟩, .string ⟨#[]⟩] := by kernel_rfl
@[go_sem] theorem conc_117 : conc Tryd.prog 117 = true := by kernel_rfl
@[go_sem] theorem tfield_117_0 : tfield Tryd.prog 117 0 = some 0 := by kernel_rfl
@[go_sem] theorem tfield_117_1 : tfield Tryd.prog 117 1 = some 1 := by kernel_rfl
@[go_sem] theorem tplaces_117 : tplaces Tryd.prog 117 = some fun i => ([(0, 1), (1, 1)] : List (Nat × Nat))[i]? := by kernel_rfl
@[go_sem] theorem tsize_118 : tsize Tryd.prog 118 = some 2 := by kernel_rfl
@[go_sem] theorem tbytes_118 : tbytes Tryd.prog 118 = some 32 := by kernel_rfl
@[go_sem] theorem tagg_118 : tagg Tryd.prog 118 = some true := by kernel_rfl
@[go_sem] theorem tzero_118 : tzero Tryd.prog 118 = some [.string ⟨#[]⟩, .string ⟨#[]⟩] := by kernel_rfl
@[go_sem] theorem conc_118 : conc Tryd.prog 118 = true := by kernel_rfl
@[go_sem] theorem tfield_118_0 : tfield Tryd.prog 118 0 = some 0 := by kernel_rfl
@[go_sem] theorem tfield_118_1 : tfield Tryd.prog 118 1 = some 1 := by kernel_rfl
@[go_sem] theorem tplaces_118 : tplaces Tryd.prog 118 = some fun i => ([(0, 1), (1, 1)] : List (Nat × Nat))[i]? := by kernel_rfl
@[go_sem] theorem tsize_121 : tsize Tryd.prog 121 = some 1 := by kernel_rfl
@[go_sem] theorem tbytes_121 : tbytes Tryd.prog 121 = some 8 := by kernel_rfl
@[go_sem] theorem tagg_121 : tagg Tryd.prog 121 = some false := by kernel_rfl
@[go_sem] theorem tzero_121 : tzero Tryd.prog 121 = some [.map none] := by kernel_rfl
@[go_sem] theorem conc_121 : conc Tryd.prog 121 = true := by kernel_rfl
@[go_sem] theorem tz1_121 : tz1 Tryd.prog 121 = some (.map none) := by kernel_rfl
@[go_sem] theorem tsize_122 : tsize Tryd.prog 122 = some 1 := by kernel_rfl
@[go_sem] theorem tbytes_122 : tbytes Tryd.prog 122 = some 8 := by kernel_rfl
@[go_sem] theorem tagg_122 : tagg Tryd.prog 122 = some false := by kernel_rfl
@[go_sem] theorem tzero_122 : tzero Tryd.prog 122 = some [.pointer none] := by kernel_rfl
@[go_sem] theorem conc_122 : conc Tryd.prog 122 = true := by kernel_rfl
@[go_sem] theorem tz1_122 : tz1 Tryd.prog 122 = some (.pointer none) := by kernel_rfl
@[go_sem] theorem tsize_123 : tsize Tryd.prog 123 = some 1 := by kernel_rfl
@[go_sem] theorem tbytes_123 : tbytes Tryd.prog 123 = some 8 := by kernel_rfl
@[go_sem] theorem tagg_123 : tagg Tryd.prog 123 = some false := by kernel_rfl
@[go_sem] theorem tzero_123 : tzero Tryd.prog 123 = some [.map none] := by kernel_rfl
@[go_sem] theorem conc_123 : conc Tryd.prog 123 = true := by kernel_rfl
@[go_sem] theorem tz1_123 : tz1 Tryd.prog 123 = some (.map none) := by kernel_rfl
@[go_sem] theorem tsize_124 : tsize Tryd.prog 124 = some 1 := by kernel_rfl
@[go_sem] theorem tbytes_124 : tbytes Tryd.prog 124 = some 24 := by kernel_rfl
@[go_sem] theorem tagg_124 : tagg Tryd.prog 124 = some false := by kernel_rfl
@[go_sem] theorem tzero_124 : tzero Tryd.prog 124 = some [.slice none 0 0] := by kernel_rfl
@[go_sem] theorem conc_124 : conc Tryd.prog 124 = true := by kernel_rfl
@[go_sem] theorem tz1_124 : tz1 Tryd.prog 124 = some (.slice none 0 0) := by kernel_rfl
@[go_sem] theorem telem_124 : telem Tryd.prog 124 = some 129 := by kernel_rfl
@[go_sem] theorem tsize_125 : tsize Tryd.prog 125 = some 10 := by kernel_rfl
@[go_sem] theorem tbytes_125 : tbytes Tryd.prog 125 = some 208 := by kernel_rfl
@[go_sem] theorem tagg_125 : tagg Tryd.prog 125 = some true := by kernel_rfl
@[go_sem] theorem tzero_125 : tzero Tryd.prog 125 = some [.string ⟨#[]⟩, .slice none 0 0, .slice none 0 0, .slice none 0 0, .string ⟨#[]⟩, .slice none 0 0, .slice none 0 0, .slice none 0 0, .slice none 0 0, .map none] := by kernel_rfl
@[go_sem] theorem conc_125 : conc Tryd.prog 125 = true := by kernel_rfl
@[go_sem] theorem tfield_125_0 : tfield Tryd.prog 125 0 = some 0 := by kernel_rfl
@[go_sem] theorem tfield_125_1 : tfield Tryd.prog 125 1 = some 4 := by kernel_rfl
@[go_sem] theorem tfield_125_2 : tfield Tryd.prog 125 2 = some 8 := by kernel_rfl
@[go_sem] theorem tfield_125_3 : tfield Tryd.prog 125 3 = some 9 := by kernel_rfl
@[go_sem] theorem tplaces_125 : tplaces Tryd.prog 125 = some fun i => ([(0, 4), (4, 4), (8, 1), (9, 1)] : List (Nat × Nat))[i]? := by kernel_rfl
@[go_sem] theorem tsize_126 : tsize Tryd.prog 126 = some 10 := by kernel_rfl
@[go_sem] theorem tbytes_126 : tbytes Tryd.prog 126 = some 208 := by kernel_rfl
@[go_sem] theorem tagg_126 : tagg Tryd.prog 126 = some true := by kernel_rfl
@[go_sem] theorem tzero_126 : tzero Tryd.prog 126 = some [.string ⟨#[]⟩, .slice none 0 0, .slice none 0 0, .slice none 0 0, .string ⟨#[]⟩, .slice none 0 0, .slice none 0 0, .slice none 0 0, .slice none 0 0, .map none] := by kernel_rfl
@[go_sem] theorem conc_126 : conc Tryd.prog 126 = true := by kernel_rfl
@[go_sem] theorem tfield_126_0 : tfield Tryd.prog 126 0 = some 0 := by kernel_rfl
@[go_sem] theorem tfield_126_1 : tfield Tryd.prog 126 1 = some 4 := by kernel_rfl
@[go_sem] theorem tfield_126_2 : tfield Tryd.prog 126 2 = some 8 := by kernel_rfl
@[go_sem] theorem tfield_126_3 : tfield Tryd.prog 126 3 = some 9 := by kernel_rfl
@[go_sem] theorem tplaces_126 : tplaces Tryd.prog 126 = some fun i => ([(0, 4), (4, 4), (8, 1), (9, 1)] : List (Nat × Nat))[i]? := by kernel_rfl
@[go_sem] theorem tsize_128 : tsize Tryd.prog 128 = some 2 := by kernel_rfl
@[go_sem] theorem tbytes_128 : tbytes Tryd.prog 128 = some 32 := by kernel_rfl
@[go_sem] theorem tagg_128 : tagg Tryd.prog 128 = some true := by kernel_rfl
@[go_sem] theorem tzero_128 : tzero Tryd.prog 128 = some [.string ⟨#[]⟩, .string ⟨#[]⟩] := by kernel_rfl
@[go_sem] theorem conc_128 : conc Tryd.prog 128 = true := by kernel_rfl
@[go_sem] theorem tfield_128_0 : tfield Tryd.prog 128 0 = some 0 := by kernel_rfl
@[go_sem] theorem tfield_128_1 : tfield Tryd.prog 128 1 = some 1 := by kernel_rfl
@[go_sem] theorem tplaces_128 : tplaces Tryd.prog 128 = some fun i => ([(0, 1), (1, 1)] : List (Nat × Nat))[i]? := by kernel_rfl
@[go_sem] theorem tsize_129 : tsize Tryd.prog 129 = some 2 := by kernel_rfl
@[go_sem] theorem tbytes_129 : tbytes Tryd.prog 129 = some 32 := by kernel_rfl
@[go_sem] theorem tagg_129 : tagg Tryd.prog 129 = some true := by kernel_rfl
@[go_sem] theorem tzero_129 : tzero Tryd.prog 129 = some [.string ⟨#[]⟩, .string ⟨#[]⟩] := by kernel_rfl
@[go_sem] theorem conc_129 : conc Tryd.prog 129 = true := by kernel_rfl
@[go_sem] theorem tfield_129_0 : tfield Tryd.prog 129 0 = some 0 := by kernel_rfl
@[go_sem] theorem tfield_129_1 : tfield Tryd.prog 129 1 = some 1 := by kernel_rfl
@[go_sem] theorem tplaces_129 : tplaces Tryd.prog 129 = some fun i => ([(0, 1), (1, 1)] : List (Nat × Nat))[i]? := by kernel_rfl
@[go_sem] theorem tsize_139 : tsize Tryd.prog 139 = some 1 := by kernel_rfl
@[go_sem] theorem tbytes_139 : tbytes Tryd.prog 139 = some 8 := by kernel_rfl
@[go_sem] theorem tagg_139 : tagg Tryd.prog 139 = some false := by kernel_rfl
@[go_sem] theorem tzero_139 : tzero Tryd.prog 139 = some [.map none] := by kernel_rfl
@[go_sem] theorem conc_139 : conc Tryd.prog 139 = true := by kernel_rfl
@[go_sem] theorem tz1_139 : tz1 Tryd.prog 139 = some (.map none) := by kernel_rfl
@[go_sem] theorem tsize_142 : tsize Tryd.prog 142 = some 1 := by kernel_rfl
@[go_sem] theorem tbytes_142 : tbytes Tryd.prog 142 = some 24 := by kernel_rfl
@[go_sem] theorem tagg_142 : tagg Tryd.prog 142 = some false := by kernel_rfl
@[go_sem] theorem tzero_142 : tzero Tryd.prog 142 = some [.slice none 0 0] := by kernel_rfl
@[go_sem] theorem conc_142 : conc Tryd.prog 142 = true := by kernel_rfl
@[go_sem] theorem tz1_142 : tz1 Tryd.prog 142 = some (.slice none 0 0) := by kernel_rfl
@[go_sem] theorem telem_142 : telem Tryd.prog 142 = some 21 := by kernel_rfl
@[go_sem] theorem tsize_155 : tsize Tryd.prog 155 = some 256 := by kernel_rfl
@[go_sem] theorem tbytes_155 : tbytes Tryd.prog 155 = some 256 := by kernel_rfl
@[go_sem] theorem tagg_155 : tagg Tryd.prog 155 = some true := by kernel_rfl
@[go_sem] theorem conc_155 : conc Tryd.prog 155 = true := by kernel_rfl
@[go_sem] theorem tplaces_155 : tplaces Tryd.prog 155 = some fun i => some (i * 1, 1) := by kernel_rfl
@[go_sem] theorem tsize_156 : tsize Tryd.prog 156 = some 1 := by kernel_rfl
@[go_sem] theorem tbytes_156 : tbytes Tryd.prog 156 = some 8 := by kernel_rfl
@[go_sem] theorem tagg_156 : tagg Tryd.prog 156 = some false := by kernel_rfl
@[go_sem] theorem tzero_156 : tzero Tryd.prog 156 = some [.int .u64 0] := by kernel_rfl
@[go_sem] theorem conc_156 : conc Tryd.prog 156 = true := by kernel_rfl
@[go_sem] theorem tz1_156 : tz1 Tryd.prog 156 = some (.int .u64 0) := by kernel_rfl
@[go_sem] theorem tsize_157 : tsize Tryd.prog 157 = some 2 := by kernel_rfl
@[go_sem] theorem tbytes_157 : tbytes Tryd.prog 157 = some 2 := by kernel_rfl
@[go_sem] theorem tagg_157 : tagg Tryd.prog 157 = some true := by kernel_rfl
@[go_sem] theorem tzero_157 : tzero Tryd.prog 157 = some [.int .u8 0, .int .u8 0] := by kernel_rfl
@[go_sem] theorem conc_157 : conc Tryd.prog 157 = true := by kernel_rfl
@[go_sem] theorem tfield_157_0 : tfield Tryd.prog 157 0 = some 0 := by kernel_rfl
@[go_sem] theorem tfield_157_1 : tfield Tryd.prog 157 1 = some 1 := by kernel_rfl
@[go_sem] theorem tplaces_157 : tplaces Tryd.prog 157 = some fun i => ([(0, 1), (1, 1)] : List (Nat × Nat))[i]? := by kernel_rfl
@[go_sem] theorem tsize_158 : tsize Tryd.prog 158 = some 2 := by kernel_rfl
@[go_sem] theorem tbytes_158 : tbytes Tryd.prog 158 = some 2 := by kernel_rfl
@[go_sem] theorem tagg_158 : tagg Tryd.prog 158 = some true := by kernel_rfl
@[go_sem] theorem tzero_158 : tzero Tryd.prog 158 = some [.int .u8 0, .int .u8 0] := by kernel_rfl
@[go_sem] theorem conc_158 : conc Tryd.prog 158 = true := by kernel_rfl
@[go_sem] theorem tfield_158_0 : tfield Tryd.prog 158 0 = some 0 := by kernel_rfl
@[go_sem] theorem tfield_158_1 : tfield Tryd.prog 158 1 = some 1 := by kernel_rfl
@[go_sem] theorem tplaces_158 : tplaces Tryd.prog 158 = some fun i => ([(0, 1), (1, 1)] : List (Nat × Nat))[i]? := by kernel_rfl
@[go_sem] theorem tsize_159 : tsize Tryd.prog 159 = some 32 := by kernel_rfl
@[go_sem] theorem tbytes_159 : tbytes Tryd.prog 159 = some 32 := by kernel_rfl
@[go_sem] theorem tagg_159 : tagg Tryd.prog 159 = some true := by kernel_rfl
@[go_sem] theorem tzero_159 : tzero Tryd.prog 159 = some [.int .u8 0, .int .u8 0, .int .u8 0, .int .u8 0, .int .u8 0, .int .u8 0, .int .u8 0, .int .u8 0, .int .u8 0, .int .u8 0, .int .u8 0, .int .u8 0, .int .u8 0, .int .u8 0, .int .u8 0, .int .u8 0, .int .u8 0, .int .u8 0, .int .u8 0, .int .u8 0, .int .u8 0, .int .u8 0, .int .u8 0, .int .u8 0, .int .u8 0, .int .u8 0, .int .u8 0, .int .u8 0, .int .u8 0, .int .u8 0, .int .u8 0, .int .u8 0] := by kernel_rfl
@[go_sem] theorem conc_159 : conc Tryd.prog 159 = true := by kernel_rfl
@[go_sem] theorem tplaces_159 : tplaces Tryd.prog 159 = some fun i => some (i * 2, 2) := by kernel_rfl
@[go_sem] theorem tsize_161 : tsize Tryd.prog 161 = some 4 := by kernel_rfl
@[go_sem] theorem tbytes_161 : tbytes Tryd.prog 161 = some 40 := by kernel_rfl
@[go_sem] theorem tagg_161 : tagg Tryd.prog 161 = some true := by kernel_rfl
@[go_sem] theorem tzero_161 : tzero Tryd.prog 161 = some [.pointer none, .pointer none, .pointer none, .string ⟨#[]⟩] := by kernel_rfl
@[go_sem] theorem conc_161 : conc Tryd.prog 161 = true := by kernel_rfl
@[go_sem] theorem tfield_161_0 : tfield Tryd.prog 161 0 = some 0 := by kernel_rfl
@[go_sem] theorem tfield_161_1 : tfield Tryd.prog 161 1 = some 1 := by kernel_rfl
@[go_sem] theorem tfield_161_2 : tfield Tryd.prog 161 2 = some 2 := by kernel_rfl
@[go_sem] theorem tfield_161_3 : tfield Tryd.prog 161 3 = some 3 := by kernel_rfl
@[go_sem] theorem tplaces_161 : tplaces Tryd.prog 161 = some fun i => ([(0, 1), (1, 1), (2, 1), (3, 1)] : List (Nat × Nat))[i]? := by kernel_rfl
@[go_sem] theorem tsize_163 : tsize Tryd.prog 163 = some 0 := by kernel_rfl
@[go_sem] theorem tbytes_163 : tbytes Tryd.prog 163 = some 0 := by kernel_rfl
@[go_sem] theorem tagg_163 : tagg Tryd.prog 163 = some true := by kernel_rfl
@[go_sem] theorem tzero_163 : tzero Tryd.prog 163 = some [] := by kernel_rfl
@[go_sem] theorem conc_163 : conc Tryd.prog 163 = true := by kernel_rfl
@[go_sem] theorem tplaces_163 : tplaces Tryd.prog 163 = some fun i => some (i * 1, 1) := by kernel_rfl
@[go_sem] theorem tsize_164 : tsize Tryd.prog 164 = some 0 := by kernel_rfl
@[go_sem] theorem tbytes_164 : tbytes Tryd.prog 164 = some 0 := by kernel_rfl
@[go_sem] theorem tagg_164 : tagg Tryd.prog 164 = some true := by kernel_rfl
@[go_sem] theorem tzero_164 : tzero Tryd.prog 164 = some [] := by kernel_rfl
@[go_sem] theorem conc_164 : conc Tryd.prog 164 = true := by kernel_rfl
@[go_sem] theorem tplaces_164 : tplaces Tryd.prog 164 = some fun i => ([(0, 0)] : List (Nat × Nat))[i]? := by kernel_rfl
@[go_sem] theorem tsize_167 : tsize Tryd.prog 167 = some 1 := by kernel_rfl
@[go_sem] theorem tbytes_167 : tbytes Tryd.prog 167 = some 4 := by kernel_rfl
@[go_sem] theorem tagg_167 : tagg Tryd.prog 167 = some false := by kernel_rfl
@[go_sem] theorem tzero_167 : tzero Tryd.prog 167 = some [.int .u32 0] := by kernel_rfl
@[go_sem] theorem conc_167 : conc Tryd.prog 167 = true := by kernel_rfl
@[go_sem] theorem tz1_167 : tz1 Tryd.prog 167 = some (.int .u32 0) := by kernel_rfl
@[go_sem] theorem tsize_171 : tsize Tryd.prog 171 = some 1 := by kernel_rfl
@[go_sem] theorem tbytes_171 : tbytes Tryd.prog 171 = some 8 := by kernel_rfl
@[go_sem] theorem tagg_171 : tagg Tryd.prog 171 = some false := by kernel_rfl
@[go_sem] theorem tzero_171 : tzero Tryd.prog 171 = some [.pointer none] := by kernel_rfl
@[go_sem] theorem conc_171 : conc Tryd.prog 171 = true := by kernel_rfl
@[go_sem] theorem tz1_171 : tz1 Tryd.prog 171 = some (.pointer none) := by kernel_rfl
@[go_sem] theorem tsize_174 : tsize Tryd.prog 174 = some 11 := by kernel_rfl
@[go_sem] theorem tbytes_174 : tbytes Tryd.prog 174 = some 48 := by kernel_rfl
@[go_sem] theorem tagg_174 : tagg Tryd.prog 174 = some true := by kernel_rfl
@[go_sem] theorem tzero_174 : tzero Tryd.prog 174 = some [.int .u64 0, .int .u64 0, .int .u32 0, .int .u8 0, .int .u8 0, .int .u8 0, .int .u8 0, .nilFunc, .pointer none, .int .i32 0, .int .i32 0] := by kernel_rfl
@[go_sem] theorem conc_174 : conc Tryd.prog 174 = true := by kernel_rfl
@[go_sem] theorem tfield_174_0 : tfield Tryd.prog 174 0 = some 0 := by kernel_rfl
@[go_sem] theorem tfield_174_1 : tfield Tryd.prog 174 1 = some 1 := by kernel_rfl
@[go_sem] theorem tfield_174_2 : tfield Tryd.prog 174 2 = some 2 := by kernel_rfl
@[go_sem] theorem tfield_174_3 : tfield Tryd.prog 174 3 = some 3 := by kernel_rfl
@[go_sem] theorem tfield_174_4 : tfield Tryd.prog 174 4 = some 4 := by kernel_rfl
@[go_sem] theorem tfield_174_5 : tfield Tryd.prog 174 5 = some 5 := by kernel_rfl
@[go_sem] theorem tfield_174_6 : tfield Tryd.prog 174 6 = some 6 := by kernel_rfl
@[go_sem] theorem tfield_174_7 : tfield Tryd.prog 174 7 = some 7 := by kernel_rfl
@[go_sem] theorem tfield_174_8 : tfield Tryd.prog 174 8 = some 8 := by kernel_rfl
@[go_sem] theorem tfield_174_9 : tfield Tryd.prog 174 9 = some 9 := by kernel_rfl
@[go_sem] theorem tfield_174_10 : tfield Tryd.prog 174 10 = some 10 := by kernel_rfl
@[go_sem] theorem tplaces_174 : tplaces Tryd.prog 174 = some fun i => ([(0, 1), (1, 1), (2, 1), (3, 1), (4, 1), (5, 1), (6, 1), (7, 1), (8, 1), (9, 1), (10, 1)] : List (Nat × Nat))[i]? := by kernel_rfl
@[go_sem] theorem tsize_176 : tsize Tryd.prog 176 = some 1 := by kernel_rfl
@[go_sem] theorem tbytes_176 : tbytes Tryd.prog 176 = some 8 := by kernel_rfl
@[go_sem] theorem tagg_176 : tagg Tryd.prog 176 = some false := by kernel_rfl
@[go_sem] theorem tzero_176 : tzero Tryd.prog 176 = some [.pointer none] := by kernel_rfl
@[go_sem] theorem conc_176 : conc Tryd.prog 176 = true := by kernel_rfl
@[go_sem] theorem tz1_176 : tz1 Tryd.prog 176 = some (.pointer none) := by kernel_rfl
attribute [go_sem] Tryd.underlying2 Tryd.underlying3 Tryd.underlying4 Tryd.underlying5 Tryd.underlying6 Tryd.underlying7 Tryd.underlying8 Tryd.underlying9 Tryd.underlying10 Tryd.underlying11 Tryd.underlying12 Tryd.underlying13 Tryd.underlying14 Tryd.underlying15 Tryd.underlying16 Tryd.underlying17 Tryd.underlying18 Tryd.underlying19 Tryd.underlying20 Tryd.underlying21 Tryd.underlying22 Tryd.underlying23 Tryd.underlying24 Tryd.underlying25 Tryd.underlying26 Tryd.underlying28 Tryd.underlying32 Tryd.underlying33 Tryd.underlying34 Tryd.underlying35 Tryd.underlying37 Tryd.underlying38 Tryd.underlying39 Tryd.underlying40 Tryd.underlying41 Tryd.underlying43 Tryd.underlying44 Tryd.underlying45 Tryd.underlying46 Tryd.underlying47 Tryd.underlying48 Tryd.underlying52 Tryd.underlying54 Tryd.underlying55 Tryd.underlying57 Tryd.underlying72 Tryd.underlying77 Tryd.underlying78 Tryd.underlying79 Tryd.underlying83 Tryd.underlying84 Tryd.underlying85 Tryd.underlying98 Tryd.underlying99 Tryd.underlying103 Tryd.underlying106 Tryd.underlying107 Tryd.underlying108 Tryd.underlying109 Tryd.underlying110 Tryd.underlying112 Tryd.underlying113 Tryd.underlying115 Tryd.underlying117 Tryd.underlying118 Tryd.underlying121 Tryd.underlying122 Tryd.underlying123 Tryd.underlying124 Tryd.underlying125 Tryd.underlying126 Tryd.underlying128 Tryd.underlying129 Tryd.underlying139 Tryd.underlying142 Tryd.underlying155 Tryd.underlying156 Tryd.underlying157 Tryd.underlying158 Tryd.underlying159 Tryd.underlying161 Tryd.underlying162 Tryd.underlying163 Tryd.underlying164 Tryd.underlying165 Tryd.underlying167 Tryd.underlying168 Tryd.underlying169 Tryd.underlying171 Tryd.underlying172 Tryd.underlying173 Tryd.underlying174 Tryd.underlying175 Tryd.underlying176
theorem mixed : Tryd.prog.follows .mixedOrders = true := by kernel_rfl
end Go.Aw
