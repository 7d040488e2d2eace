/- The types, as the layer of abstract values reads them. Written by gen/tys.py. -/
import Derived.Test.YtophpbihcfdkcaaGB
import Derived.Test.YtophpbihcfdkcaaProg
namespace Go.Proofs.Ytophpbihcfdkcaa
open Go.RowKit P
set_option linter.unusedSimpArgs false
set_option linter.unusedVariables false
def TTy : List (Nat × TypeDesc) := [(1, (.func #[] #[] false)), (2, (.int .i64)), (3, (.int .i64)), (4, .bool), (5, (.int .u8)), (6, (.int .u8)), (9, .string), (10, .string), (11, .string), (12, (.int .u64)), (15, (.pointer 91)), (16, (.pointer 94)), (17, (.pointer 104)), (20, (.interface #[])), (21, (.int .i32)), (22, (.int .u64)), (23, (.func #[22] #[9] false)), (24, (.int .i64)), (26, (.func #[9] #[22, 3, 24] false)), (27, (.func #[] #[4] false)), (28, (.func #[22, 9] #[4] false)), (29, (.func #[9] #[4] false)), (30, (.slice 52)), (32, (.func #[30] #[9, 24] false)), (33, (.func #[9, 24, 24, 9] #[4] false)), (34, (.func #[30] #[4] false)), (35, (.func #[9, 3] #[9, 24] false)), (36, (.func #[9, 3] #[4] false)), (37, (.func #[9] #[9, 24] false)), (38, (.func #[3, 3] #[3] false)), (39, (.slice 5)), (40, (.func #[3, 3] #[4] false)), (42, (.func #[9] #[30, 24] false)), (43, (.func #[30, 30] #[4] false)), (44, (.func #[9, 9] #[4] false)), (45, (.func #[9, 3, 9] #[4] false)), (46, (.int .u64)), (47, (.struct #[{ name := "Name", type := 9, offset := 0, embedded := false, tag := "", pkgPath := "", byteOffset := 0 }, { name := "Value", type := 9, offset := 1, embedded := false, tag := "", pkgPath := "", byteOffset := 16 }])), (48, (.struct #[{ name := "Name", type := 9, offset := 0, embedded := false, tag := "", pkgPath := "", byteOffset := 0 }, { name := "Value", type := 9, offset := 1, embedded := false, tag := "", pkgPath := "", byteOffset := 16 }])), (49, (.slice 48)), (50, (.slice 56)), (51, (.struct #[{ name := "Labels", type := 49, offset := 0, embedded := false, tag := "", pkgPath := "", byteOffset := 0 }, { name := "Samples", type := 50, offset := 1, embedded := false, tag := "", pkgPath := "", byteOffset := 24 }])), (52, (.struct #[{ name := "Labels", type := 49, offset := 0, embedded := false, tag := "", pkgPath := "", byteOffset := 0 }, { name := "Samples", type := 50, offset := 1, embedded := false, tag := "", pkgPath := "", byteOffset := 24 }])), (53, (.func #[30] #[24] false)), (54, (.func #[3, 9] #[9] false)), (55, (.struct #[{ name := "Time", type := 3, offset := 0, embedded := false, tag := "", pkgPath := "", byteOffset := 0 }, { name := "Bits", type := 22, offset := 1, embedded := false, tag := "", pkgPath := "", byteOffset := 8 }])), (56, (.struct #[{ name := "Time", type := 3, offset := 0, embedded := false, tag := "", pkgPath := "", byteOffset := 0 }, { name := "Bits", type := 22, offset := 1, embedded := false, tag := "", pkgPath := "", byteOffset := 8 }])), (57, (.func #[56] #[9] false)), (58, (.func #[3] #[22] false)), (59, (.pointer 61)), (60, (.struct #[{ name := "s", type := 9, offset := 0, embedded := false, tag := "", pkgPath := "gleaner/press", byteOffset := 0 }, { name := "out", type := 39, offset := 1, embedded := false, tag := "", pkgPath := "gleaner/press", byteOffset := 16 }, { name := "most", type := 3, offset := 2, embedded := false, tag := "", pkgPath := "gleaner/press", byteOffset := 40 }])), (61, (.struct #[{ name := "s", type := 9, offset := 0, embedded := false, tag := "", pkgPath := "gleaner/press", byteOffset := 0 }, { name := "out", type := 39, offset := 1, embedded := false, tag := "", pkgPath := "gleaner/press", byteOffset := 16 }, { name := "most", type := 3, offset := 2, embedded := false, tag := "", pkgPath := "gleaner/press", byteOffset := 40 }])), (62, (.func #[3] #[3] false)), (63, (.map 9 3)), (65, (.func #[39, 9] #[39] false)), (66, (.func #[39, 3, 3] #[39] false)), (67, (.struct #[])), (68, (.struct #[])), (70, (.func #[9, 74] #[] false)), (71, (.struct #[{ name := "number", type := 3, offset := 0, embedded := false, tag := "", pkgPath := "gleaner/wire", byteOffset := 0 }, { name := "kind", type := 3, offset := 1, embedded := false, tag := "", pkgPath := "gleaner/wire", byteOffset := 8 }, { name := "n", type := 22, offset := 2, embedded := false, tag := "", pkgPath := "gleaner/wire", byteOffset := 16 }, { name := "bytes", type := 9, offset := 3, embedded := false, tag := "", pkgPath := "gleaner/wire", byteOffset := 24 }])), (72, (.struct #[{ name := "number", type := 3, offset := 0, embedded := false, tag := "", pkgPath := "gleaner/wire", byteOffset := 0 }, { name := "kind", type := 3, offset := 1, embedded := false, tag := "", pkgPath := "gleaner/wire", byteOffset := 8 }, { name := "n", type := 22, offset := 2, embedded := false, tag := "", pkgPath := "gleaner/wire", byteOffset := 16 }, { name := "bytes", type := 9, offset := 3, embedded := false, tag := "", pkgPath := "gleaner/wire", byteOffset := 24 }])), (73, (.func #[9] #[52] false)), (74, (.func #[72] #[] false)), (75, (.slice 79)), (77, (.func #[9] #[75, 4] false)), (78, (.struct #[{ name := "Number", type := 3, offset := 0, embedded := false, tag := "", pkgPath := "", byteOffset := 0 }, { name := "Kind", type := 3, offset := 1, embedded := false, tag := "", pkgPath := "", byteOffset := 8 }, { name := "N", type := 22, offset := 2, embedded := false, tag := "", pkgPath := "", byteOffset := 16 }, { name := "Bytes", type := 9, offset := 3, embedded := false, tag := "", pkgPath := "", byteOffset := 24 }])), (79, (.struct #[{ name := "Number", type := 3, offset := 0, embedded := false, tag := "", pkgPath := "", byteOffset := 0 }, { name := "Kind", type := 3, offset := 1, embedded := false, tag := "", pkgPath := "", byteOffset := 8 }, { name := "N", type := 22, offset := 2, embedded := false, tag := "", pkgPath := "", byteOffset := 16 }, { name := "Bytes", type := 9, offset := 3, embedded := false, tag := "", pkgPath := "", byteOffset := 24 }])), (80, (.func #[49, 49] #[4] false)), (81, (.func #[50, 50] #[4] false)), (82, (.func #[3] #[4] false)), (84, (.func #[3] #[9, 4] false)), (85, (.func #[9] #[3] false)), (86, (.func #[] #[22] false)), (87, (.func #[9] #[48] false)), (88, (.func #[9] #[56] false)), (89, (.func #[] #[9] false))]
def TSz : List (Nat × (Nat × Nat)) := [(1, (1, 8)), (2, (1, 8)), (3, (1, 8)), (4, (1, 1)), (5, (1, 1)), (6, (1, 1)), (9, (1, 16)), (10, (1, 16)), (11, (1, 16)), (12, (1, 8)), (15, (1, 8)), (16, (1, 8)), (17, (1, 8)), (20, (1, 16)), (21, (1, 4)), (22, (1, 8)), (23, (1, 8)), (24, (1, 8)), (26, (1, 8)), (27, (1, 8)), (28, (1, 8)), (29, (1, 8)), (30, (1, 24)), (32, (1, 8)), (33, (1, 8)), (34, (1, 8)), (35, (1, 8)), (36, (1, 8)), (37, (1, 8)), (38, (1, 8)), (39, (1, 24)), (40, (1, 8)), (42, (1, 8)), (43, (1, 8)), (44, (1, 8)), (45, (1, 8)), (46, (1, 8)), (47, (2, 32)), (48, (2, 32)), (49, (1, 24)), (50, (1, 24)), (51, (2, 48)), (52, (2, 48)), (53, (1, 8)), (54, (1, 8)), (55, (2, 16)), (56, (2, 16)), (57, (1, 8)), (58, (1, 8)), (59, (1, 8)), (60, (3, 48)), (61, (3, 48)), (62, (1, 8)), (63, (1, 8)), (65, (1, 8)), (66, (1, 8)), (70, (1, 8)), (71, (4, 40)), (72, (4, 40)), (73, (1, 8)), (74, (1, 8)), (75, (1, 24)), (77, (1, 8)), (78, (4, 40)), (79, (4, 40)), (80, (1, 8)), (81, (1, 8)), (82, (1, 8)), (84, (1, 8)), (85, (1, 8)), (86, (1, 8)), (87, (1, 8)), (88, (1, 8)), (89, (1, 8)), (68, (0, 0))]
def TZr : List (Nat × Value) := [(1, .nilFunc), (2, .int .i64 0), (3, .int .i64 0), (4, .bool false), (5, .int .u8 0), (6, .int .u8 0), (9, .string ByteArray.empty), (10, .string ByteArray.empty), (11, .string ByteArray.empty), (12, .int .u64 0), (15, .pointer none), (16, .pointer none), (17, .pointer none), (20, .nilIface), (21, .int .i32 0), (22, .int .u64 0), (23, .nilFunc), (24, .int .i64 0), (26, .nilFunc), (27, .nilFunc), (28, .nilFunc), (29, .nilFunc), (30, .slice none 0 0), (32, .nilFunc), (33, .nilFunc), (34, .nilFunc), (35, .nilFunc), (36, .nilFunc), (37, .nilFunc), (38, .nilFunc), (39, .slice none 0 0), (40, .nilFunc), (42, .nilFunc), (43, .nilFunc), (44, .nilFunc), (45, .nilFunc), (46, .int .u64 0), (47, .agg #[.string ByteArray.empty, .string ByteArray.empty]), (48, .agg #[.string ByteArray.empty, .string ByteArray.empty]), (49, .slice none 0 0), (50, .slice none 0 0), (51, .agg #[.slice none 0 0, .slice none 0 0]), (52, .agg #[.slice none 0 0, .slice none 0 0]), (53, .nilFunc), (54, .nilFunc), (55, .agg #[.int .i64 0, .int .u64 0]), (56, .agg #[.int .i64 0, .int .u64 0]), (57, .nilFunc), (58, .nilFunc), (59, .pointer none), (60, .agg #[.string ByteArray.empty, .slice none 0 0, .int .i64 0]), (61, .agg #[.string ByteArray.empty, .slice none 0 0, .int .i64 0]), (62, .nilFunc), (63, .map none), (65, .nilFunc), (66, .nilFunc), (70, .nilFunc), (71, .agg #[.int .i64 0, .int .i64 0, .int .u64 0, .string ByteArray.empty]), (72, .agg #[.int .i64 0, .int .i64 0, .int .u64 0, .string ByteArray.empty]), (73, .nilFunc), (74, .nilFunc), (75, .slice none 0 0), (77, .nilFunc), (78, .agg #[.int .i64 0, .int .i64 0, .int .u64 0, .string ByteArray.empty]), (79, .agg #[.int .i64 0, .int .i64 0, .int .u64 0, .string ByteArray.empty]), (80, .nilFunc), (81, .nilFunc), (82, .nilFunc), (84, .nilFunc), (85, .nilFunc), (86, .nilFunc), (87, .nilFunc), (88, .nilFunc), (89, .nilFunc), (68, .agg #[])]
set_option maxRecDepth 100000 in
theorem TTy_ok : ∀ p ∈ TTy, Try.prog.underlying p.1 = some p.2 := by
  simp only [TTy, List.forall_mem_cons]
  exact ⟨Try.underlying1, Try.underlying2, Try.underlying3, Try.underlying4, Try.underlying5, Try.underlying6, Try.underlying9, Try.underlying10, Try.underlying11, Try.underlying12, Try.underlying15, Try.underlying16, Try.underlying17, Try.underlying20, Try.underlying21, Try.underlying22, Try.underlying23, Try.underlying24, Try.underlying26, Try.underlying27, Try.underlying28, Try.underlying29, Try.underlying30, Try.underlying32, Try.underlying33, Try.underlying34, Try.underlying35, Try.underlying36, Try.underlying37, Try.underlying38, Try.underlying39, Try.underlying40, Try.underlying42, Try.underlying43, Try.underlying44, Try.underlying45, Try.underlying46, Try.underlying47, Try.underlying48, Try.underlying49, Try.underlying50, Try.underlying51, Try.underlying52, Try.underlying53, Try.underlying54, Try.underlying55, Try.underlying56, Try.underlying57, Try.underlying58, Try.underlying59, Try.underlying60, Try.underlying61, Try.underlying62, Try.underlying63, Try.underlying65, Try.underlying66, Try.underlying67, Try.underlying68, Try.underlying70, Try.underlying71, Try.underlying72, Try.underlying73, Try.underlying74, Try.underlying75, Try.underlying77, Try.underlying78, Try.underlying79, Try.underlying80, Try.underlying81, Try.underlying82, Try.underlying84, Try.underlying85, Try.underlying86, Try.underlying87, Try.underlying88, Try.underlying89, by simp⟩
theorem TSz_ok : (TSz.all fun p => (Try.prog.info? p.1).any fun i => i.size == p.2.1 && i.bytes == p.2.2 && i.zero.any (fun z => z.cells.size == p.2.1)) = true := by kernel_rfl
theorem TZr_1 : (Try.prog.info? 1).bind (·.zero) = some (.nilFunc) := by kernel_rfl
theorem TZr_2 : (Try.prog.info? 2).bind (·.zero) = some (.int .i64 0) := by kernel_rfl
theorem TZr_3 : (Try.prog.info? 3).bind (·.zero) = some (.int .i64 0) := by kernel_rfl
theorem TZr_4 : (Try.prog.info? 4).bind (·.zero) = some (.bool false) := by kernel_rfl
theorem TZr_5 : (Try.prog.info? 5).bind (·.zero) = some (.int .u8 0) := by kernel_rfl
theorem TZr_6 : (Try.prog.info? 6).bind (·.zero) = some (.int .u8 0) := by kernel_rfl
theorem TZr_9 : (Try.prog.info? 9).bind (·.zero) = some (.string ByteArray.empty) := by kernel_rfl
theorem TZr_10 : (Try.prog.info? 10).bind (·.zero) = some (.string ByteArray.empty) := by kernel_rfl
theorem TZr_11 : (Try.prog.info? 11).bind (·.zero) = some (.string ByteArray.empty) := by kernel_rfl
theorem TZr_12 : (Try.prog.info? 12).bind (·.zero) = some (.int .u64 0) := by kernel_rfl
theorem TZr_15 : (Try.prog.info? 15).bind (·.zero) = some (.pointer none) := by kernel_rfl
theorem TZr_16 : (Try.prog.info? 16).bind (·.zero) = some (.pointer none) := by kernel_rfl
theorem TZr_17 : (Try.prog.info? 17).bind (·.zero) = some (.pointer none) := by kernel_rfl
theorem TZr_20 : (Try.prog.info? 20).bind (·.zero) = some (.nilIface) := by kernel_rfl
theorem TZr_21 : (Try.prog.info? 21).bind (·.zero) = some (.int .i32 0) := by kernel_rfl
theorem TZr_22 : (Try.prog.info? 22).bind (·.zero) = some (.int .u64 0) := by kernel_rfl
theorem TZr_23 : (Try.prog.info? 23).bind (·.zero) = some (.nilFunc) := by kernel_rfl
theorem TZr_24 : (Try.prog.info? 24).bind (·.zero) = some (.int .i64 0) := by kernel_rfl
theorem TZr_26 : (Try.prog.info? 26).bind (·.zero) = some (.nilFunc) := by kernel_rfl
theorem TZr_27 : (Try.prog.info? 27).bind (·.zero) = some (.nilFunc) := by kernel_rfl
theorem TZr_28 : (Try.prog.info? 28).bind (·.zero) = some (.nilFunc) := by kernel_rfl
theorem TZr_29 : (Try.prog.info? 29).bind (·.zero) = some (.nilFunc) := by kernel_rfl
theorem TZr_30 : (Try.prog.info? 30).bind (·.zero) = some (.slice none 0 0) := by kernel_rfl
theorem TZr_32 : (Try.prog.info? 32).bind (·.zero) = some (.nilFunc) := by kernel_rfl
theorem TZr_33 : (Try.prog.info? 33).bind (·.zero) = some (.nilFunc) := by kernel_rfl
theorem TZr_34 : (Try.prog.info? 34).bind (·.zero) = some (.nilFunc) := by kernel_rfl
theorem TZr_35 : (Try.prog.info? 35).bind (·.zero) = some (.nilFunc) := by kernel_rfl
theorem TZr_36 : (Try.prog.info? 36).bind (·.zero) = some (.nilFunc) := by kernel_rfl
theorem TZr_37 : (Try.prog.info? 37).bind (·.zero) = some (.nilFunc) := by kernel_rfl
theorem TZr_38 : (Try.prog.info? 38).bind (·.zero) = some (.nilFunc) := by kernel_rfl
theorem TZr_39 : (Try.prog.info? 39).bind (·.zero) = some (.slice none 0 0) := by kernel_rfl
theorem TZr_40 : (Try.prog.info? 40).bind (·.zero) = some (.nilFunc) := by kernel_rfl
theorem TZr_42 : (Try.prog.info? 42).bind (·.zero) = some (.nilFunc) := by kernel_rfl
theorem TZr_43 : (Try.prog.info? 43).bind (·.zero) = some (.nilFunc) := by kernel_rfl
theorem TZr_44 : (Try.prog.info? 44).bind (·.zero) = some (.nilFunc) := by kernel_rfl
theorem TZr_45 : (Try.prog.info? 45).bind (·.zero) = some (.nilFunc) := by kernel_rfl
theorem TZr_46 : (Try.prog.info? 46).bind (·.zero) = some (.int .u64 0) := by kernel_rfl
theorem TZr_47 : (Try.prog.info? 47).bind (·.zero) = some (.agg #[.string ByteArray.empty, .string ByteArray.empty]) := by kernel_rfl
theorem TZr_48 : (Try.prog.info? 48).bind (·.zero) = some (.agg #[.string ByteArray.empty, .string ByteArray.empty]) := by kernel_rfl
theorem TZr_49 : (Try.prog.info? 49).bind (·.zero) = some (.slice none 0 0) := by kernel_rfl
theorem TZr_50 : (Try.prog.info? 50).bind (·.zero) = some (.slice none 0 0) := by kernel_rfl
theorem TZr_51 : (Try.prog.info? 51).bind (·.zero) = some (.agg #[.slice none 0 0, .slice none 0 0]) := by kernel_rfl
theorem TZr_52 : (Try.prog.info? 52).bind (·.zero) = some (.agg #[.slice none 0 0, .slice none 0 0]) := by kernel_rfl
theorem TZr_53 : (Try.prog.info? 53).bind (·.zero) = some (.nilFunc) := by kernel_rfl
theorem TZr_54 : (Try.prog.info? 54).bind (·.zero) = some (.nilFunc) := by kernel_rfl
theorem TZr_55 : (Try.prog.info? 55).bind (·.zero) = some (.agg #[.int .i64 0, .int .u64 0]) := by kernel_rfl
theorem TZr_56 : (Try.prog.info? 56).bind (·.zero) = some (.agg #[.int .i64 0, .int .u64 0]) := by kernel_rfl
theorem TZr_57 : (Try.prog.info? 57).bind (·.zero) = some (.nilFunc) := by kernel_rfl
theorem TZr_58 : (Try.prog.info? 58).bind (·.zero) = some (.nilFunc) := by kernel_rfl
theorem TZr_59 : (Try.prog.info? 59).bind (·.zero) = some (.pointer none) := by kernel_rfl
theorem TZr_60 : (Try.prog.info? 60).bind (·.zero) = some (.agg #[.string ByteArray.empty, .slice none 0 0, .int .i64 0]) := by kernel_rfl
theorem TZr_61 : (Try.prog.info? 61).bind (·.zero) = some (.agg #[.string ByteArray.empty, .slice none 0 0, .int .i64 0]) := by kernel_rfl
theorem TZr_62 : (Try.prog.info? 62).bind (·.zero) = some (.nilFunc) := by kernel_rfl
theorem TZr_63 : (Try.prog.info? 63).bind (·.zero) = some (.map none) := by kernel_rfl
theorem TZr_65 : (Try.prog.info? 65).bind (·.zero) = some (.nilFunc) := by kernel_rfl
theorem TZr_66 : (Try.prog.info? 66).bind (·.zero) = some (.nilFunc) := by kernel_rfl
theorem TZr_70 : (Try.prog.info? 70).bind (·.zero) = some (.nilFunc) := by kernel_rfl
theorem TZr_71 : (Try.prog.info? 71).bind (·.zero) = some (.agg #[.int .i64 0, .int .i64 0, .int .u64 0, .string ByteArray.empty]) := by kernel_rfl
theorem TZr_72 : (Try.prog.info? 72).bind (·.zero) = some (.agg #[.int .i64 0, .int .i64 0, .int .u64 0, .string ByteArray.empty]) := by kernel_rfl
theorem TZr_73 : (Try.prog.info? 73).bind (·.zero) = some (.nilFunc) := by kernel_rfl
theorem TZr_74 : (Try.prog.info? 74).bind (·.zero) = some (.nilFunc) := by kernel_rfl
theorem TZr_75 : (Try.prog.info? 75).bind (·.zero) = some (.slice none 0 0) := by kernel_rfl
theorem TZr_77 : (Try.prog.info? 77).bind (·.zero) = some (.nilFunc) := by kernel_rfl
theorem TZr_78 : (Try.prog.info? 78).bind (·.zero) = some (.agg #[.int .i64 0, .int .i64 0, .int .u64 0, .string ByteArray.empty]) := by kernel_rfl
theorem TZr_79 : (Try.prog.info? 79).bind (·.zero) = some (.agg #[.int .i64 0, .int .i64 0, .int .u64 0, .string ByteArray.empty]) := by kernel_rfl
theorem TZr_80 : (Try.prog.info? 80).bind (·.zero) = some (.nilFunc) := by kernel_rfl
theorem TZr_81 : (Try.prog.info? 81).bind (·.zero) = some (.nilFunc) := by kernel_rfl
theorem TZr_82 : (Try.prog.info? 82).bind (·.zero) = some (.nilFunc) := by kernel_rfl
theorem TZr_84 : (Try.prog.info? 84).bind (·.zero) = some (.nilFunc) := by kernel_rfl
theorem TZr_85 : (Try.prog.info? 85).bind (·.zero) = some (.nilFunc) := by kernel_rfl
theorem TZr_86 : (Try.prog.info? 86).bind (·.zero) = some (.nilFunc) := by kernel_rfl
theorem TZr_87 : (Try.prog.info? 87).bind (·.zero) = some (.nilFunc) := by kernel_rfl
theorem TZr_88 : (Try.prog.info? 88).bind (·.zero) = some (.nilFunc) := by kernel_rfl
theorem TZr_89 : (Try.prog.info? 89).bind (·.zero) = some (.nilFunc) := by kernel_rfl
theorem TZr_68 : (Try.prog.info? 68).bind (·.zero) = some (.agg #[]) := by kernel_rfl
set_option maxRecDepth 100000 in
theorem TZr_ok : ∀ p ∈ TZr, (Try.prog.info? p.1).bind (·.zero) = some p.2 := by
  simp only [TZr, List.forall_mem_cons]
  exact ⟨TZr_1, TZr_2, TZr_3, TZr_4, TZr_5, TZr_6, TZr_9, TZr_10, TZr_11, TZr_12, TZr_15, TZr_16, TZr_17, TZr_20, TZr_21, TZr_22, TZr_23, TZr_24, TZr_26, TZr_27, TZr_28, TZr_29, TZr_30, TZr_32, TZr_33, TZr_34, TZr_35, TZr_36, TZr_37, TZr_38, TZr_39, TZr_40, TZr_42, TZr_43, TZr_44, TZr_45, TZr_46, TZr_47, TZr_48, TZr_49, TZr_50, TZr_51, TZr_52, TZr_53, TZr_54, TZr_55, TZr_56, TZr_57, TZr_58, TZr_59, TZr_60, TZr_61, TZr_62, TZr_63, TZr_65, TZr_66, TZr_70, TZr_71, TZr_72, TZr_73, TZr_74, TZr_75, TZr_77, TZr_78, TZr_79, TZr_80, TZr_81, TZr_82, TZr_84, TZr_85, TZr_86, TZr_87, TZr_88, TZr_89, TZr_68, by simp⟩
def TT : Tys Try.prog where
  ty := TTy
  sz := TSz
  zr := TZr
  tyOk := fun t d h => TTy_ok _ (look_mem h)
  szOk := fun t s b h => by
    have h1 := List.all_eq_true.1 TSz_ok _ (look_mem h)
    simp only [Option.any_eq_true_iff_get, Bool.and_eq_true, beq_iff_eq] at h1
    obtain ⟨hs, ⟨h2, h3⟩, hz, h4⟩ := h1
    exact ⟨_, (Option.some_get hs).symm, h2, h3, _, (Option.some_get hz).symm, h4⟩
  zrOk := fun t z h => by
    have h1 := TZr_ok _ (look_mem h)
    simp only [Option.bind_eq_some_iff] at h1
    exact h1
theorem mixed : Try.prog.follows .mixedOrders = true := by kernel_rfl
end Go.Proofs.Ytophpbihcfdkcaa
