/- The types, as the layer of abstract values reads them. Written by gen/tys.py. -/
import Derived.Test.YtgmbgbalcndohaaGB
import Derived.Test.YtgmbgbalcndohaaProg
namespace Go.Proofs.Ytgmbgbalcndohaa
open Go.RowKit P
def TTy : List (Nat × TypeDesc) := [(1, (.func #[] #[] false)), (2, (.int .i64)), (3, (.int .i64)), (4, .bool), (5, (.int .u8)), (6, (.int .u8)), (9, .string), (10, .string), (11, .string), (12, (.int .u64)), (15, (.pointer 80)), (16, (.pointer 83)), (17, (.pointer 92)), (20, (.interface #[])), (21, (.int .i32)), (22, (.slice 43)), (23, (.slice 49)), (24, (.struct #[{ name := "Kind", type := 3, offset := 0, embedded := false, tag := "", pkgPath := "", byteOffset := 0 }, { name := "Refs", type := 22, offset := 1, embedded := false, tag := "", pkgPath := "", byteOffset := 8 }, { name := "Points", type := 23, offset := 2, embedded := false, tag := "", pkgPath := "", byteOffset := 32 }])), (25, (.struct #[{ name := "Kind", type := 3, offset := 0, embedded := false, tag := "", pkgPath := "", byteOffset := 0 }, { name := "Refs", type := 22, offset := 1, embedded := false, tag := "", pkgPath := "", byteOffset := 8 }, { name := "Points", type := 23, offset := 2, embedded := false, tag := "", pkgPath := "", byteOffset := 32 }])), (26, (.int .i64)), (28, (.func #[25] #[9, 26] false)), (29, (.func #[25] #[26] false)), (30, (.func #[25] #[9] false)), (31, (.func #[] #[4] false)), (32, (.func #[9, 26, 26, 9] #[4] false)), (33, (.func #[25] #[4] false)), (35, (.func #[9] #[25, 26] false)), (36, (.func #[25, 25] #[4] false)), (37, (.func #[9] #[4] false)), (38, (.func #[25, 9] #[4] false)), (39, (.slice 5)), (40, (.func #[3] #[9] false)), (41, (.slice 45)), (42, (.struct #[{ name := "Ref", type := 3, offset := 0, embedded := false, tag := "", pkgPath := "", byteOffset := 0 }, { name := "Labels", type := 41, offset := 1, embedded := false, tag := "", pkgPath := "", byteOffset := 8 }])), (43, (.struct #[{ name := "Ref", type := 3, offset := 0, embedded := false, tag := "", pkgPath := "", byteOffset := 0 }, { name := "Labels", type := 41, offset := 1, embedded := false, tag := "", pkgPath := "", byteOffset := 8 }])), (44, (.struct #[{ name := "Name", type := 9, offset := 0, embedded := false, tag := "", pkgPath := "", byteOffset := 0 }, { name := "Value", type := 9, offset := 1, embedded := false, tag := "", pkgPath := "", byteOffset := 16 }])), (45, (.struct #[{ name := "Name", type := 9, offset := 0, embedded := false, tag := "", pkgPath := "", byteOffset := 0 }, { name := "Value", type := 9, offset := 1, embedded := false, tag := "", pkgPath := "", byteOffset := 16 }])), (46, (.func #[9] #[9] false)), (47, (.int .u64)), (48, (.struct #[{ name := "Ref", type := 3, offset := 0, embedded := false, tag := "", pkgPath := "", byteOffset := 0 }, { name := "Time", type := 3, offset := 1, embedded := false, tag := "", pkgPath := "", byteOffset := 8 }, { name := "Bits", type := 47, offset := 2, embedded := false, tag := "", pkgPath := "", byteOffset := 16 }])), (49, (.struct #[{ name := "Ref", type := 3, offset := 0, embedded := false, tag := "", pkgPath := "", byteOffset := 0 }, { name := "Time", type := 3, offset := 1, embedded := false, tag := "", pkgPath := "", byteOffset := 8 }, { name := "Bits", type := 47, offset := 2, embedded := false, tag := "", pkgPath := "", byteOffset := 16 }])), (50, (.func #[47] #[9] false)), (51, (.func #[43] #[26] false)), (52, (.func #[3] #[4] false)), (53, (.struct #[])), (54, (.struct #[])), (56, (.pointer 58)), (57, (.struct #[{ name := "s", type := 9, offset := 0, embedded := false, tag := "", pkgPath := "gleaner/record", byteOffset := 0 }])), (58, (.struct #[{ name := "s", type := 9, offset := 0, embedded := false, tag := "", pkgPath := "gleaner/record", byteOffset := 0 }])), (59, (.func #[] #[25] false)), (60, (.pointer 62)), (61, (.struct #[{ name := "S", type := 9, offset := 0, embedded := false, tag := "", pkgPath := "", byteOffset := 0 }, { name := "Bad", type := 4, offset := 1, embedded := false, tag := "", pkgPath := "", byteOffset := 16 }])), (62, (.struct #[{ name := "S", type := 9, offset := 0, embedded := false, tag := "", pkgPath := "", byteOffset := 0 }, { name := "Bad", type := 4, offset := 1, embedded := false, tag := "", pkgPath := "", byteOffset := 16 }])), (63, (.func #[] #[3] false)), (64, (.func #[22, 22] #[4] false)), (65, (.array 8 5)), (66, (.func #[41] #[26] false)), (67, (.func #[1] #[] false)), (68, (.func #[] #[9] false)), (70, (.func #[9] #[47, 3, 26] false)), (71, (.func #[41, 41] #[4] false)), (72, (.int .u64)), (73, (.func #[41, 4] #[26] false)), (74, (.func #[41, 75] #[4] false)), (75, (.func #[45, 45] #[3] false)), (76, (.map 9 4)), (77, (.func #[9, 9] #[3] false)), (78, (.func #[5] #[4] false)), (81, (.array 0 16)), (84, (.int .u32)), (85, (.int .u8)), (86, (.int .u8)), (87, (.func #[93, 93] #[4] false)), (88, (.pointer 5)), (89, (.int .i32)), (90, (.int .i32)), (91, (.struct #[{ name := "Size_", type := 12, offset := 0, embedded := false, tag := "", pkgPath := "", byteOffset := 0 }, { name := "PtrBytes", type := 12, offset := 1, embedded := false, tag := "", pkgPath := "", byteOffset := 8 }, { name := "Hash", type := 84, offset := 2, embedded := false, tag := "", pkgPath := "", byteOffset := 16 }, { name := "TFlag", type := 85, offset := 3, embedded := false, tag := "", pkgPath := "", byteOffset := 20 }, { name := "Align_", type := 5, offset := 4, embedded := false, tag := "", pkgPath := "", byteOffset := 21 }, { name := "FieldAlign_", type := 5, offset := 5, embedded := false, tag := "", pkgPath := "", byteOffset := 22 }, { name := "Kind_", type := 86, offset := 6, embedded := false, tag := "", pkgPath := "", byteOffset := 23 }, { name := "Equal", type := 87, offset := 7, embedded := false, tag := "", pkgPath := "", byteOffset := 24 }, { name := "GCData", type := 88, offset := 8, embedded := false, tag := "", pkgPath := "", byteOffset := 32 }, { name := "Str", type := 89, offset := 9, embedded := false, tag := "", pkgPath := "", byteOffset := 40 }, { name := "PtrToThis", type := 90, offset := 10, embedded := false, tag := "", pkgPath := "", byteOffset := 44 }])), (92, (.struct #[{ name := "Size_", type := 12, offset := 0, embedded := false, tag := "", pkgPath := "", byteOffset := 0 }, { name := "PtrBytes", type := 12, offset := 1, embedded := false, tag := "", pkgPath := "", byteOffset := 8 }, { name := "Hash", type := 84, offset := 2, embedded := false, tag := "", pkgPath := "", byteOffset := 16 }, { name := "TFlag", type := 85, offset := 3, embedded := false, tag := "", pkgPath := "", byteOffset := 20 }, { name := "Align_", type := 5, offset := 4, embedded := false, tag := "", pkgPath := "", byteOffset := 21 }, { name := "FieldAlign_", type := 5, offset := 5, embedded := false, tag := "", pkgPath := "", byteOffset := 22 }, { name := "Kind_", type := 86, offset := 6, embedded := false, tag := "", pkgPath := "", byteOffset := 23 }, { name := "Equal", type := 87, offset := 7, embedded := false, tag := "", pkgPath := "", byteOffset := 24 }, { name := "GCData", type := 88, offset := 8, embedded := false, tag := "", pkgPath := "", byteOffset := 32 }, { name := "Str", type := 89, offset := 9, embedded := false, tag := "", pkgPath := "", byteOffset := 40 }, { name := "PtrToThis", type := 90, offset := 10, embedded := false, tag := "", pkgPath := "", byteOffset := 44 }]))]
def TSz : List (Nat × (Nat × Nat)) := [(1, (1, 8)), (2, (1, 8)), (3, (1, 8)), (4, (1, 1)), (5, (1, 1)), (6, (1, 1)), (9, (1, 16)), (10, (1, 16)), (11, (1, 16)), (12, (1, 8)), (15, (1, 8)), (16, (1, 8)), (17, (1, 8)), (20, (1, 16)), (21, (1, 4)), (22, (1, 24)), (23, (1, 24)), (24, (3, 56)), (25, (3, 56)), (26, (1, 8)), (28, (1, 8)), (29, (1, 8)), (30, (1, 8)), (31, (1, 8)), (32, (1, 8)), (33, (1, 8)), (35, (1, 8)), (36, (1, 8)), (37, (1, 8)), (38, (1, 8)), (39, (1, 24)), (40, (1, 8)), (41, (1, 24)), (42, (2, 32)), (43, (2, 32)), (44, (2, 32)), (45, (2, 32)), (46, (1, 8)), (47, (1, 8)), (48, (3, 24)), (49, (3, 24)), (50, (1, 8)), (51, (1, 8)), (52, (1, 8)), (53, (0, 0)), (54, (0, 0)), (56, (1, 8)), (57, (1, 16)), (58, (1, 16)), (59, (1, 8)), (60, (1, 8)), (61, (2, 24)), (62, (2, 24)), (63, (1, 8)), (64, (1, 8)), (65, (8, 8)), (66, (1, 8)), (67, (1, 8)), (68, (1, 8)), (70, (1, 8)), (71, (1, 8)), (72, (1, 8)), (73, (1, 8)), (74, (1, 8)), (75, (1, 8)), (76, (1, 8)), (77, (1, 8)), (78, (1, 8)), (81, (0, 0)), (84, (1, 4)), (85, (1, 1)), (86, (1, 1)), (87, (1, 8)), (88, (1, 8)), (89, (1, 4)), (90, (1, 4)), (91, (11, 48)), (92, (11, 48))]
def TZr : List (Nat × Value) := [(1, .nilFunc), (2, .int .i64 0), (3, .int .i64 0), (4, .bool false), (5, .int .u8 0), (6, .int .u8 0), (9, .string ByteArray.empty), (10, .string ByteArray.empty), (11, .string ByteArray.empty), (12, .int .u64 0), (15, .pointer none), (16, .pointer none), (17, .pointer none), (20, .nilIface), (21, .int .i32 0), (22, .slice none 0 0), (23, .slice none 0 0), (24, .agg #[.int .i64 0, .slice none 0 0, .slice none 0 0]), (25, .agg #[.int .i64 0, .slice none 0 0, .slice none 0 0]), (26, .int .i64 0), (28, .nilFunc), (29, .nilFunc), (30, .nilFunc), (31, .nilFunc), (32, .nilFunc), (33, .nilFunc), (35, .nilFunc), (36, .nilFunc), (37, .nilFunc), (38, .nilFunc), (39, .slice none 0 0), (40, .nilFunc), (41, .slice none 0 0), (42, .agg #[.int .i64 0, .slice none 0 0]), (43, .agg #[.int .i64 0, .slice none 0 0]), (44, .agg #[.string ByteArray.empty, .string ByteArray.empty]), (45, .agg #[.string ByteArray.empty, .string ByteArray.empty]), (46, .nilFunc), (47, .int .u64 0), (48, .agg #[.int .i64 0, .int .i64 0, .int .u64 0]), (49, .agg #[.int .i64 0, .int .i64 0, .int .u64 0]), (50, .nilFunc), (51, .nilFunc), (52, .nilFunc), (53, .agg #[]), (54, .agg #[]), (56, .pointer none), (57, .agg #[.string ByteArray.empty]), (58, .agg #[.string ByteArray.empty]), (59, .nilFunc), (60, .pointer none), (61, .agg #[.string ByteArray.empty, .bool false]), (62, .agg #[.string ByteArray.empty, .bool false]), (63, .nilFunc), (64, .nilFunc), (65, .agg #[.int .u8 0, .int .u8 0, .int .u8 0, .int .u8 0, .int .u8 0, .int .u8 0, .int .u8 0, .int .u8 0]), (66, .nilFunc), (67, .nilFunc), (68, .nilFunc), (70, .nilFunc), (71, .nilFunc), (72, .int .u64 0), (73, .nilFunc), (74, .nilFunc), (75, .nilFunc), (76, .map none), (77, .nilFunc), (78, .nilFunc), (81, .agg #[]), (84, .int .u32 0), (85, .int .u8 0), (86, .int .u8 0), (87, .nilFunc), (88, .pointer none), (89, .int .i32 0), (90, .int .i32 0), (91, .agg #[.int .u64 0, .int .u64 0, .int .u32 0, .int .u8 0, .int .u8 0, .int .u8 0, .int .u8 0, .nilFunc, .pointer none, .int .i32 0, .int .i32 0]), (92, .agg #[.int .u64 0, .int .u64 0, .int .u32 0, .int .u8 0, .int .u8 0, .int .u8 0, .int .u8 0, .nilFunc, .pointer none, .int .i32 0, .int .i32 0])]
set_option maxRecDepth 100000 in
theorem TTy_ok : ∀ p ∈ TTy, Try.prog.underlying p.1 = some p.2 := by
  simp only [TTy, List.forall_mem_cons]
  exact ⟨Try.underlying1, Try.underlying2, Try.underlying3, Try.underlying4, Try.underlying5, Try.underlying6, Try.underlying9, Try.underlying10, Try.underlying11, Try.underlying12, Try.underlying15, Try.underlying16, Try.underlying17, Try.underlying20, Try.underlying21, Try.underlying22, Try.underlying23, Try.underlying24, Try.underlying25, Try.underlying26, Try.underlying28, Try.underlying29, Try.underlying30, Try.underlying31, Try.underlying32, Try.underlying33, Try.underlying35, Try.underlying36, Try.underlying37, Try.underlying38, Try.underlying39, Try.underlying40, Try.underlying41, Try.underlying42, Try.underlying43, Try.underlying44, Try.underlying45, Try.underlying46, Try.underlying47, Try.underlying48, Try.underlying49, Try.underlying50, Try.underlying51, Try.underlying52, Try.underlying53, Try.underlying54, Try.underlying56, Try.underlying57, Try.underlying58, Try.underlying59, Try.underlying60, Try.underlying61, Try.underlying62, Try.underlying63, Try.underlying64, Try.underlying65, Try.underlying66, Try.underlying67, Try.underlying68, Try.underlying70, Try.underlying71, Try.underlying72, Try.underlying73, Try.underlying74, Try.underlying75, Try.underlying76, Try.underlying77, Try.underlying78, Try.underlying81, Try.underlying84, Try.underlying85, Try.underlying86, Try.underlying87, Try.underlying88, Try.underlying89, Try.underlying90, Try.underlying91, Try.underlying92, by simp⟩
set_option maxRecDepth 100000 in
theorem TSz_ok : (TSz.all fun p => (Try.prog.info? p.1).any fun i => i.size == p.2.1 && i.bytes == p.2.2 && i.zero.any (fun z => z.cells.size == p.2.1)) = true := by kernel_rfl
set_option maxRecDepth 100000 in
theorem TZr_1 : (Try.prog.info? 1).bind (·.zero) = some (.nilFunc) := by kernel_rfl
set_option maxRecDepth 100000 in
theorem TZr_2 : (Try.prog.info? 2).bind (·.zero) = some (.int .i64 0) := by kernel_rfl
set_option maxRecDepth 100000 in
theorem TZr_3 : (Try.prog.info? 3).bind (·.zero) = some (.int .i64 0) := by kernel_rfl
set_option maxRecDepth 100000 in
theorem TZr_4 : (Try.prog.info? 4).bind (·.zero) = some (.bool false) := by kernel_rfl
set_option maxRecDepth 100000 in
theorem TZr_5 : (Try.prog.info? 5).bind (·.zero) = some (.int .u8 0) := by kernel_rfl
set_option maxRecDepth 100000 in
theorem TZr_6 : (Try.prog.info? 6).bind (·.zero) = some (.int .u8 0) := by kernel_rfl
set_option maxRecDepth 100000 in
theorem TZr_9 : (Try.prog.info? 9).bind (·.zero) = some (.string ByteArray.empty) := by kernel_rfl
set_option maxRecDepth 100000 in
theorem TZr_10 : (Try.prog.info? 10).bind (·.zero) = some (.string ByteArray.empty) := by kernel_rfl
set_option maxRecDepth 100000 in
theorem TZr_11 : (Try.prog.info? 11).bind (·.zero) = some (.string ByteArray.empty) := by kernel_rfl
set_option maxRecDepth 100000 in
theorem TZr_12 : (Try.prog.info? 12).bind (·.zero) = some (.int .u64 0) := by kernel_rfl
set_option maxRecDepth 100000 in
theorem TZr_15 : (Try.prog.info? 15).bind (·.zero) = some (.pointer none) := by kernel_rfl
set_option maxRecDepth 100000 in
theorem TZr_16 : (Try.prog.info? 16).bind (·.zero) = some (.pointer none) := by kernel_rfl
set_option maxRecDepth 100000 in
theorem TZr_17 : (Try.prog.info? 17).bind (·.zero) = some (.pointer none) := by kernel_rfl
set_option maxRecDepth 100000 in
theorem TZr_20 : (Try.prog.info? 20).bind (·.zero) = some (.nilIface) := by kernel_rfl
set_option maxRecDepth 100000 in
theorem TZr_21 : (Try.prog.info? 21).bind (·.zero) = some (.int .i32 0) := by kernel_rfl
set_option maxRecDepth 100000 in
theorem TZr_22 : (Try.prog.info? 22).bind (·.zero) = some (.slice none 0 0) := by kernel_rfl
set_option maxRecDepth 100000 in
theorem TZr_23 : (Try.prog.info? 23).bind (·.zero) = some (.slice none 0 0) := by kernel_rfl
set_option maxRecDepth 100000 in
theorem TZr_24 : (Try.prog.info? 24).bind (·.zero) = some (.agg #[.int .i64 0, .slice none 0 0, .slice none 0 0]) := by kernel_rfl
set_option maxRecDepth 100000 in
theorem TZr_25 : (Try.prog.info? 25).bind (·.zero) = some (.agg #[.int .i64 0, .slice none 0 0, .slice none 0 0]) := by kernel_rfl
set_option maxRecDepth 100000 in
theorem TZr_26 : (Try.prog.info? 26).bind (·.zero) = some (.int .i64 0) := by kernel_rfl
set_option maxRecDepth 100000 in
theorem TZr_28 : (Try.prog.info? 28).bind (·.zero) = some (.nilFunc) := by kernel_rfl
set_option maxRecDepth 100000 in
theorem TZr_29 : (Try.prog.info? 29).bind (·.zero) = some (.nilFunc) := by kernel_rfl
set_option maxRecDepth 100000 in
theorem TZr_30 : (Try.prog.info? 30).bind (·.zero) = some (.nilFunc) := by kernel_rfl
set_option maxRecDepth 100000 in
theorem TZr_31 : (Try.prog.info? 31).bind (·.zero) = some (.nilFunc) := by kernel_rfl
set_option maxRecDepth 100000 in
theorem TZr_32 : (Try.prog.info? 32).bind (·.zero) = some (.nilFunc) := by kernel_rfl
set_option maxRecDepth 100000 in
theorem TZr_33 : (Try.prog.info? 33).bind (·.zero) = some (.nilFunc) := by kernel_rfl
set_option maxRecDepth 100000 in
theorem TZr_35 : (Try.prog.info? 35).bind (·.zero) = some (.nilFunc) := by kernel_rfl
set_option maxRecDepth 100000 in
theorem TZr_36 : (Try.prog.info? 36).bind (·.zero) = some (.nilFunc) := by kernel_rfl
set_option maxRecDepth 100000 in
theorem TZr_37 : (Try.prog.info? 37).bind (·.zero) = some (.nilFunc) := by kernel_rfl
set_option maxRecDepth 100000 in
theorem TZr_38 : (Try.prog.info? 38).bind (·.zero) = some (.nilFunc) := by kernel_rfl
set_option maxRecDepth 100000 in
theorem TZr_39 : (Try.prog.info? 39).bind (·.zero) = some (.slice none 0 0) := by kernel_rfl
set_option maxRecDepth 100000 in
theorem TZr_40 : (Try.prog.info? 40).bind (·.zero) = some (.nilFunc) := by kernel_rfl
set_option maxRecDepth 100000 in
theorem TZr_41 : (Try.prog.info? 41).bind (·.zero) = some (.slice none 0 0) := by kernel_rfl
set_option maxRecDepth 100000 in
theorem TZr_42 : (Try.prog.info? 42).bind (·.zero) = some (.agg #[.int .i64 0, .slice none 0 0]) := by kernel_rfl
set_option maxRecDepth 100000 in
theorem TZr_43 : (Try.prog.info? 43).bind (·.zero) = some (.agg #[.int .i64 0, .slice none 0 0]) := by kernel_rfl
set_option maxRecDepth 100000 in
theorem TZr_44 : (Try.prog.info? 44).bind (·.zero) = some (.agg #[.string ByteArray.empty, .string ByteArray.empty]) := by kernel_rfl
set_option maxRecDepth 100000 in
theorem TZr_45 : (Try.prog.info? 45).bind (·.zero) = some (.agg #[.string ByteArray.empty, .string ByteArray.empty]) := by kernel_rfl
set_option maxRecDepth 100000 in
theorem TZr_46 : (Try.prog.info? 46).bind (·.zero) = some (.nilFunc) := by kernel_rfl
set_option maxRecDepth 100000 in
theorem TZr_47 : (Try.prog.info? 47).bind (·.zero) = some (.int .u64 0) := by kernel_rfl
set_option maxRecDepth 100000 in
theorem TZr_48 : (Try.prog.info? 48).bind (·.zero) = some (.agg #[.int .i64 0, .int .i64 0, .int .u64 0]) := by kernel_rfl
set_option maxRecDepth 100000 in
theorem TZr_49 : (Try.prog.info? 49).bind (·.zero) = some (.agg #[.int .i64 0, .int .i64 0, .int .u64 0]) := by kernel_rfl
set_option maxRecDepth 100000 in
theorem TZr_50 : (Try.prog.info? 50).bind (·.zero) = some (.nilFunc) := by kernel_rfl
set_option maxRecDepth 100000 in
theorem TZr_51 : (Try.prog.info? 51).bind (·.zero) = some (.nilFunc) := by kernel_rfl
set_option maxRecDepth 100000 in
theorem TZr_52 : (Try.prog.info? 52).bind (·.zero) = some (.nilFunc) := by kernel_rfl
set_option maxRecDepth 100000 in
theorem TZr_53 : (Try.prog.info? 53).bind (·.zero) = some (.agg #[]) := by kernel_rfl
set_option maxRecDepth 100000 in
theorem TZr_54 : (Try.prog.info? 54).bind (·.zero) = some (.agg #[]) := by kernel_rfl
set_option maxRecDepth 100000 in
theorem TZr_56 : (Try.prog.info? 56).bind (·.zero) = some (.pointer none) := by kernel_rfl
set_option maxRecDepth 100000 in
theorem TZr_57 : (Try.prog.info? 57).bind (·.zero) = some (.agg #[.string ByteArray.empty]) := by kernel_rfl
set_option maxRecDepth 100000 in
theorem TZr_58 : (Try.prog.info? 58).bind (·.zero) = some (.agg #[.string ByteArray.empty]) := by kernel_rfl
set_option maxRecDepth 100000 in
theorem TZr_59 : (Try.prog.info? 59).bind (·.zero) = some (.nilFunc) := by kernel_rfl
set_option maxRecDepth 100000 in
theorem TZr_60 : (Try.prog.info? 60).bind (·.zero) = some (.pointer none) := by kernel_rfl
set_option maxRecDepth 100000 in
theorem TZr_61 : (Try.prog.info? 61).bind (·.zero) = some (.agg #[.string ByteArray.empty, .bool false]) := by kernel_rfl
set_option maxRecDepth 100000 in
theorem TZr_62 : (Try.prog.info? 62).bind (·.zero) = some (.agg #[.string ByteArray.empty, .bool false]) := by kernel_rfl
set_option maxRecDepth 100000 in
theorem TZr_63 : (Try.prog.info? 63).bind (·.zero) = some (.nilFunc) := by kernel_rfl
set_option maxRecDepth 100000 in
theorem TZr_64 : (Try.prog.info? 64).bind (·.zero) = some (.nilFunc) := by kernel_rfl
set_option maxRecDepth 100000 in
theorem TZr_65 : (Try.prog.info? 65).bind (·.zero) = some (.agg #[.int .u8 0, .int .u8 0, .int .u8 0, .int .u8 0, .int .u8 0, .int .u8 0, .int .u8 0, .int .u8 0]) := by kernel_rfl
set_option maxRecDepth 100000 in
theorem TZr_66 : (Try.prog.info? 66).bind (·.zero) = some (.nilFunc) := by kernel_rfl
set_option maxRecDepth 100000 in
theorem TZr_67 : (Try.prog.info? 67).bind (·.zero) = some (.nilFunc) := by kernel_rfl
set_option maxRecDepth 100000 in
theorem TZr_68 : (Try.prog.info? 68).bind (·.zero) = some (.nilFunc) := by kernel_rfl
set_option maxRecDepth 100000 in
theorem TZr_70 : (Try.prog.info? 70).bind (·.zero) = some (.nilFunc) := by kernel_rfl
set_option maxRecDepth 100000 in
theorem TZr_71 : (Try.prog.info? 71).bind (·.zero) = some (.nilFunc) := by kernel_rfl
set_option maxRecDepth 100000 in
theorem TZr_72 : (Try.prog.info? 72).bind (·.zero) = some (.int .u64 0) := by kernel_rfl
set_option maxRecDepth 100000 in
theorem TZr_73 : (Try.prog.info? 73).bind (·.zero) = some (.nilFunc) := by kernel_rfl
set_option maxRecDepth 100000 in
theorem TZr_74 : (Try.prog.info? 74).bind (·.zero) = some (.nilFunc) := by kernel_rfl
set_option maxRecDepth 100000 in
theorem TZr_75 : (Try.prog.info? 75).bind (·.zero) = some (.nilFunc) := by kernel_rfl
set_option maxRecDepth 100000 in
theorem TZr_76 : (Try.prog.info? 76).bind (·.zero) = some (.map none) := by kernel_rfl
set_option maxRecDepth 100000 in
theorem TZr_77 : (Try.prog.info? 77).bind (·.zero) = some (.nilFunc) := by kernel_rfl
set_option maxRecDepth 100000 in
theorem TZr_78 : (Try.prog.info? 78).bind (·.zero) = some (.nilFunc) := by kernel_rfl
set_option maxRecDepth 100000 in
theorem TZr_81 : (Try.prog.info? 81).bind (·.zero) = some (.agg #[]) := by kernel_rfl
set_option maxRecDepth 100000 in
theorem TZr_84 : (Try.prog.info? 84).bind (·.zero) = some (.int .u32 0) := by kernel_rfl
set_option maxRecDepth 100000 in
theorem TZr_85 : (Try.prog.info? 85).bind (·.zero) = some (.int .u8 0) := by kernel_rfl
set_option maxRecDepth 100000 in
theorem TZr_86 : (Try.prog.info? 86).bind (·.zero) = some (.int .u8 0) := by kernel_rfl
set_option maxRecDepth 100000 in
theorem TZr_87 : (Try.prog.info? 87).bind (·.zero) = some (.nilFunc) := by kernel_rfl
set_option maxRecDepth 100000 in
theorem TZr_88 : (Try.prog.info? 88).bind (·.zero) = some (.pointer none) := by kernel_rfl
set_option maxRecDepth 100000 in
theorem TZr_89 : (Try.prog.info? 89).bind (·.zero) = some (.int .i32 0) := by kernel_rfl
set_option maxRecDepth 100000 in
theorem TZr_90 : (Try.prog.info? 90).bind (·.zero) = some (.int .i32 0) := by kernel_rfl
set_option maxRecDepth 100000 in
theorem TZr_91 : (Try.prog.info? 91).bind (·.zero) = some (.agg #[.int .u64 0, .int .u64 0, .int .u32 0, .int .u8 0, .int .u8 0, .int .u8 0, .int .u8 0, .nilFunc, .pointer none, .int .i32 0, .int .i32 0]) := by kernel_rfl
set_option maxRecDepth 100000 in
theorem TZr_92 : (Try.prog.info? 92).bind (·.zero) = some (.agg #[.int .u64 0, .int .u64 0, .int .u32 0, .int .u8 0, .int .u8 0, .int .u8 0, .int .u8 0, .nilFunc, .pointer none, .int .i32 0, .int .i32 0]) := by kernel_rfl
set_option maxRecDepth 100000 in
theorem TZr_ok : ∀ p ∈ TZr, (Try.prog.info? p.1).bind (·.zero) = some p.2 := by
  simp only [TZr, List.forall_mem_cons]
  exact ⟨TZr_1, TZr_2, TZr_3, TZr_4, TZr_5, TZr_6, TZr_9, TZr_10, TZr_11, TZr_12, TZr_15, TZr_16, TZr_17, TZr_20, TZr_21, TZr_22, TZr_23, TZr_24, TZr_25, TZr_26, TZr_28, TZr_29, TZr_30, TZr_31, TZr_32, TZr_33, TZr_35, TZr_36, TZr_37, TZr_38, TZr_39, TZr_40, TZr_41, TZr_42, TZr_43, TZr_44, TZr_45, TZr_46, TZr_47, TZr_48, TZr_49, TZr_50, TZr_51, TZr_52, TZr_53, TZr_54, TZr_56, TZr_57, TZr_58, TZr_59, TZr_60, TZr_61, TZr_62, TZr_63, TZr_64, TZr_65, TZr_66, TZr_67, TZr_68, TZr_70, TZr_71, TZr_72, TZr_73, TZr_74, TZr_75, TZr_76, TZr_77, TZr_78, TZr_81, TZr_84, TZr_85, TZr_86, TZr_87, TZr_88, TZr_89, TZr_90, TZr_91, TZr_92, by simp⟩
set_option maxRecDepth 100000 in
def TT : Tys Try.prog where
  ty := TTy
  sz := TSz
  zr := TZr
  tyOk := fun t d h => TTy_ok _ (look_mem h)
  szOk := fun t s b h => by
    have h1 := List.all_eq_true.1 TSz_ok _ (look_mem h)
    simp only [Option.any_eq_true_iff_get, Bool.and_eq_true, beq_iff_eq] at h1
    obtain ⟨hs, ⟨h2, h3⟩, hz, h4⟩ := h1
    exact ⟨_, (Option.some_get hs).symm, h2, h3, _, (Option.some_get hz).symm, h4⟩
  zrOk := fun t z h => by
    have h1 := TZr_ok _ (look_mem h)
    simp only [Option.bind_eq_some_iff] at h1
    exact h1
theorem mixed : Try.prog.follows .mixedOrders = true := by kernel_rfl
end Go.Proofs.Ytgmbgbalcndohaa
