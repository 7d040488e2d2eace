/- The types, as the layer of abstract values reads them. Written by gen/tys.py. -/
import Derived.Test.YtofidfkojmbdoaaGB
import Derived.Test.YtofidfkojmbdoaaProg
namespace Go.Proofs.Ytofidfkojmbdoaa
open Go.RowKit P
def TTy : List (Nat × TypeDesc) := [(1, (.func #[] #[] false)), (2, (.int .i64)), (3, (.int .i64)), (4, .bool), (5, (.int .u8)), (6, (.int .u8)), (9, .string), (10, .string), (11, .string), (12, (.int .u64)), (15, (.pointer 139)), (16, (.pointer 142)), (17, (.pointer 151)), (20, (.interface #[])), (21, (.int .i32)), (22, (.slice 75)), (23, (.slice 80)), (24, (.struct #[{ name := "Kind", type := 3, offset := 0, embedded := false, tag := "", pkgPath := "", byteOffset := 0 }, { name := "Refs", type := 22, offset := 1, embedded := false, tag := "", pkgPath := "", byteOffset := 8 }, { name := "Points", type := 23, offset := 2, embedded := false, tag := "", pkgPath := "", byteOffset := 32 }])), (25, (.struct #[{ name := "Kind", type := 3, offset := 0, embedded := false, tag := "", pkgPath := "", byteOffset := 0 }, { name := "Refs", type := 22, offset := 1, embedded := false, tag := "", pkgPath := "", byteOffset := 8 }, { name := "Points", type := 23, offset := 2, embedded := false, tag := "", pkgPath := "", byteOffset := 32 }])), (26, (.int .i64)), (28, (.func #[25] #[9, 26] false)), (29, (.func #[25] #[26] false)), (30, (.func #[25] #[9] false)), (31, (.func #[] #[4] false)), (32, (.func #[9, 26, 26, 9] #[4] false)), (33, (.func #[25] #[4] false)), (35, (.func #[9] #[25, 26] false)), (36, (.func #[25, 25] #[4] false)), (37, (.func #[9] #[4] false)), (38, (.func #[25, 9] #[4] false)), (39, (.slice 49)), (40, (.struct #[{ name := "Items", type := 39, offset := 0, embedded := false, tag := "", pkgPath := "", byteOffset := 0 }, { name := "Batch", type := 3, offset := 1, embedded := false, tag := "", pkgPath := "", byteOffset := 24 }, { name := "Room", type := 3, offset := 2, embedded := false, tag := "", pkgPath := "", byteOffset := 32 }, { name := "First", type := 3, offset := 3, embedded := false, tag := "", pkgPath := "", byteOffset := 40 }, { name := "Most", type := 3, offset := 4, embedded := false, tag := "", pkgPath := "", byteOffset := 48 }, { name := "Waits", type := 3, offset := 5, embedded := false, tag := "", pkgPath := "", byteOffset := 56 }, { name := "Till", type := 3, offset := 6, embedded := false, tag := "", pkgPath := "", byteOffset := 64 }])), (41, (.struct #[{ name := "Items", type := 39, offset := 0, embedded := false, tag := "", pkgPath := "", byteOffset := 0 }, { name := "Batch", type := 3, offset := 1, embedded := false, tag := "", pkgPath := "", byteOffset := 24 }, { name := "Room", type := 3, offset := 2, embedded := false, tag := "", pkgPath := "", byteOffset := 32 }, { name := "First", type := 3, offset := 3, embedded := false, tag := "", pkgPath := "", byteOffset := 40 }, { name := "Most", type := 3, offset := 4, embedded := false, tag := "", pkgPath := "", byteOffset := 48 }, { name := "Waits", type := 3, offset := 5, embedded := false, tag := "", pkgPath := "", byteOffset := 56 }, { name := "Till", type := 3, offset := 6, embedded := false, tag := "", pkgPath := "", byteOffset := 64 }])), (42, (.func #[41] #[26] false)), (43, (.func #[41] #[4] false)), (44, (.slice 77)), (45, (.int .u64)), (46, (.struct #[{ name := "Time", type := 3, offset := 0, embedded := false, tag := "", pkgPath := "", byteOffset := 0 }, { name := "Bits", type := 45, offset := 1, embedded := false, tag := "", pkgPath := "", byteOffset := 8 }])), (47, (.struct #[{ name := "Time", type := 3, offset := 0, embedded := false, tag := "", pkgPath := "", byteOffset := 0 }, { name := "Bits", type := 45, offset := 1, embedded := false, tag := "", pkgPath := "", byteOffset := 8 }])), (48, (.struct #[{ name := "Number", type := 3, offset := 0, embedded := false, tag := "", pkgPath := "", byteOffset := 0 }, { name := "Labels", type := 44, offset := 1, embedded := false, tag := "", pkgPath := "", byteOffset := 8 }, { name := "Sample", type := 47, offset := 2, embedded := false, tag := "", pkgPath := "", byteOffset := 32 }])), (49, (.struct #[{ name := "Number", type := 3, offset := 0, embedded := false, tag := "", pkgPath := "", byteOffset := 0 }, { name := "Labels", type := 44, offset := 1, embedded := false, tag := "", pkgPath := "", byteOffset := 8 }, { name := "Sample", type := 47, offset := 2, embedded := false, tag := "", pkgPath := "", byteOffset := 32 }])), (51, (.func #[41, 49] #[41, 26] false)), (52, (.func #[49] #[26] false)), (53, (.func #[41, 41] #[4] false)), (54, (.func #[41, 49] #[4] false)), (56, (.func #[41, 3] #[39, 9, 26] false)), (57, (.func #[41, 3] #[26] false)), (58, (.func #[41] #[39] false)), (59, (.func #[39, 39] #[4] false)), (60, (.func #[9, 3] #[9, 26] false)), (61, (.func #[62] #[9, 26] false)), (62, (.slice 108)), (63, (.func #[39] #[62] false)), (64, (.func #[41, 3] #[4] false)), (65, (.func #[41, 3, 3] #[41, 26] false)), (66, (.func #[41, 3, 3] #[4] false)), (68, (.func #[44, 3] #[3, 26] false)), (69, (.func #[44] #[26] false)), (70, (.func #[44] #[45] false)), (71, (.func #[44, 3] #[4] false)), (72, (.slice 5)), (73, (.func #[3] #[9] false)), (74, (.struct #[{ name := "Ref", type := 3, offset := 0, embedded := false, tag := "", pkgPath := "", byteOffset := 0 }, { name := "Labels", type := 44, offset := 1, embedded := false, tag := "", pkgPath := "", byteOffset := 8 }])), (75, (.struct #[{ name := "Ref", type := 3, offset := 0, embedded := false, tag := "", pkgPath := "", byteOffset := 0 }, { name := "Labels", type := 44, offset := 1, embedded := false, tag := "", pkgPath := "", byteOffset := 8 }])), (76, (.struct #[{ name := "Name", type := 9, offset := 0, embedded := false, tag := "", pkgPath := "", byteOffset := 0 }, { name := "Value", type := 9, offset := 1, embedded := false, tag := "", pkgPath := "", byteOffset := 16 }])), (77, (.struct #[{ name := "Name", type := 9, offset := 0, embedded := false, tag := "", pkgPath := "", byteOffset := 0 }, { name := "Value", type := 9, offset := 1, embedded := false, tag := "", pkgPath := "", byteOffset := 16 }])), (78, (.func #[9] #[9] false)), (79, (.struct #[{ name := "Ref", type := 3, offset := 0, embedded := false, tag := "", pkgPath := "", byteOffset := 0 }, { name := "Time", type := 3, offset := 1, embedded := false, tag := "", pkgPath := "", byteOffset := 8 }, { name := "Bits", type := 45, offset := 2, embedded := false, tag := "", pkgPath := "", byteOffset := 16 }])), (80, (.struct #[{ name := "Ref", type := 3, offset := 0, embedded := false, tag := "", pkgPath := "", byteOffset := 0 }, { name := "Time", type := 3, offset := 1, embedded := false, tag := "", pkgPath := "", byteOffset := 8 }, { name := "Bits", type := 45, offset := 2, embedded := false, tag := "", pkgPath := "", byteOffset := 16 }])), (81, (.func #[45] #[9] false)), (82, (.func #[75] #[26] false)), (83, (.func #[3] #[4] false)), (84, (.struct #[])), (85, (.struct #[])), (87, (.pointer 89)), (88, (.struct #[{ name := "s", type := 9, offset := 0, embedded := false, tag := "", pkgPath := "gleaner/record", byteOffset := 0 }])), (89, (.struct #[{ name := "s", type := 9, offset := 0, embedded := false, tag := "", pkgPath := "gleaner/record", byteOffset := 0 }])), (90, (.func #[] #[25] false)), (91, (.pointer 93)), (92, (.struct #[{ name := "S", type := 9, offset := 0, embedded := false, tag := "", pkgPath := "", byteOffset := 0 }, { name := "Bad", type := 4, offset := 1, embedded := false, tag := "", pkgPath := "", byteOffset := 16 }])), (93, (.struct #[{ name := "S", type := 9, offset := 0, embedded := false, tag := "", pkgPath := "", byteOffset := 0 }, { name := "Bad", type := 4, offset := 1, embedded := false, tag := "", pkgPath := "", byteOffset := 16 }])), (94, (.func #[] #[3] false)), (95, (.func #[22, 22] #[4] false)), (96, (.func #[3, 3, 3] #[4] false)), (97, (.func #[39] #[39] false)), (98, (.func #[41, 3] #[41] false)), (100, (.func #[39] #[9, 4] false)), (101, (.func #[44, 44] #[4] false)), (103, (.func #[9] #[45, 3, 26] false)), (104, (.func #[3] #[3] false)), (105, (.func #[62] #[26] false)), (106, (.slice 47)), (107, (.struct #[{ name := "Labels", type := 44, offset := 0, embedded := false, tag := "", pkgPath := "", byteOffset := 0 }, { name := "Samples", type := 106, offset := 1, embedded := false, tag := "", pkgPath := "", byteOffset := 24 }])), (108, (.struct #[{ name := "Labels", type := 44, offset := 0, embedded := false, tag := "", pkgPath := "", byteOffset := 0 }, { name := "Samples", type := 106, offset := 1, embedded := false, tag := "", pkgPath := "", byteOffset := 24 }])), (109, (.func #[3, 9] #[9] false)), (110, (.func #[3] #[45] false)), (112, (.func #[44] #[45, 26] false)), (113, (.func #[44, 4] #[26] false)), (114, (.slice 3)), (115, (.func #[3, 3] #[3] false)), (116, (.func #[3] #[] false)), (117, (.func #[9] #[] false)), (118, (.array 8 5)), (119, (.func #[1] #[] false)), (120, (.func #[] #[9] false)), (121, (.func #[44] #[44] false)), (122, (.func #[9] #[9, 26] false)), (123, (.func #[62] #[4] false)), (124, (.func #[133] #[26] true)), (125, (.int .u64)), (126, (.func #[44, 127] #[4] false)), (127, (.func #[77, 77] #[3] false)), (128, (.func #[47] #[9] false)), (129, (.map 9 3)), (131, (.func #[72, 9] #[72] false)), (132, (.func #[72, 3, 3] #[72] false)), (133, (.slice 44)), (134, (.func #[45, 9] #[45] false)), (135, (.func #[5] #[4] false)), (136, (.map 9 4)), (137, (.func #[9, 9] #[3] false)), (140, (.array 0 16)), (143, (.int .u32)), (144, (.int .u8)), (145, (.int .u8)), (146, (.func #[152, 152] #[4] false)), (147, (.pointer 5)), (148, (.int .i32)), (149, (.int .i32)), (150, (.struct #[{ name := "Size_", type := 12, offset := 0, embedded := false, tag := "", pkgPath := "", byteOffset := 0 }, { name := "PtrBytes", type := 12, offset := 1, embedded := false, tag := "", pkgPath := "", byteOffset := 8 }, { name := "Hash", type := 143, offset := 2, embedded := false, tag := "", pkgPath := "", byteOffset := 16 }, { name := "TFlag", type := 144, offset := 3, embedded := false, tag := "", pkgPath := "", byteOffset := 20 }, { name := "Align_", type := 5, offset := 4, embedded := false, tag := "", pkgPath := "", byteOffset := 21 }, { name := "FieldAlign_", type := 5, offset := 5, embedded := false, tag := "", pkgPath := "", byteOffset := 22 }, { name := "Kind_", type := 145, offset := 6, embedded := false, tag := "", pkgPath := "", byteOffset := 23 }, { name := "Equal", type := 146, offset := 7, embedded := false, tag := "", pkgPath := "", byteOffset := 24 }, { name := "GCData", type := 147, offset := 8, embedded := false, tag := "", pkgPath := "", byteOffset := 32 }, { name := "Str", type := 148, offset := 9, embedded := false, tag := "", pkgPath := "", byteOffset := 40 }, { name := "PtrToThis", type := 149, offset := 10, embedded := false, tag := "", pkgPath := "", byteOffset := 44 }])), (151, (.struct #[{ name := "Size_", type := 12, offset := 0, embedded := false, tag := "", pkgPath := "", byteOffset := 0 }, { name := "PtrBytes", type := 12, offset := 1, embedded := false, tag := "", pkgPath := "", byteOffset := 8 }, { name := "Hash", type := 143, offset := 2, embedded := false, tag := "", pkgPath := "", byteOffset := 16 }, { name := "TFlag", type := 144, offset := 3, embedded := false, tag := "", pkgPath := "", byteOffset := 20 }, { name := "Align_", type := 5, offset := 4, embedded := false, tag := "", pkgPath := "", byteOffset := 21 }, { name := "FieldAlign_", type := 5, offset := 5, embedded := false, tag := "", pkgPath := "", byteOffset := 22 }, { name := "Kind_", type := 145, offset := 6, embedded := false, tag := "", pkgPath := "", byteOffset := 23 }, { name := "Equal", type := 146, offset := 7, embedded := false, tag := "", pkgPath := "", byteOffset := 24 }, { name := "GCData", type := 147, offset := 8, embedded := false, tag := "", pkgPath := "", byteOffset := 32 }, { name := "Str", type := 148, offset := 9, embedded := false, tag := "", pkgPath := "", byteOffset := 40 }, { name := "PtrToThis", type := 149, offset := 10, embedded := false, tag := "", pkgPath := "", byteOffset := 44 }]))]
def TSz : List (Nat × (Nat × Nat)) := [(1, (1, 8)), (2, (1, 8)), (3, (1, 8)), (4, (1, 1)), (5, (1, 1)), (6, (1, 1)), (9, (1, 16)), (10, (1, 16)), (11, (1, 16)), (12, (1, 8)), (15, (1, 8)), (16, (1, 8)), (17, (1, 8)), (20, (1, 16)), (21, (1, 4)), (22, (1, 24)), (23, (1, 24)), (24, (3, 56)), (25, (3, 56)), (26, (1, 8)), (28, (1, 8)), (29, (1, 8)), (30, (1, 8)), (31, (1, 8)), (32, (1, 8)), (33, (1, 8)), (35, (1, 8)), (36, (1, 8)), (37, (1, 8)), (38, (1, 8)), (39, (1, 24)), (40, (7, 72)), (41, (7, 72)), (42, (1, 8)), (43, (1, 8)), (44, (1, 24)), (45, (1, 8)), (46, (2, 16)), (47, (2, 16)), (48, (4, 48)), (49, (4, 48)), (51, (1, 8)), (52, (1, 8)), (53, (1, 8)), (54, (1, 8)), (56, (1, 8)), (57, (1, 8)), (58, (1, 8)), (59, (1, 8)), (60, (1, 8)), (61, (1, 8)), (62, (1, 24)), (63, (1, 8)), (64, (1, 8)), (65, (1, 8)), (66, (1, 8)), (68, (1, 8)), (69, (1, 8)), (70, (1, 8)), (71, (1, 8)), (72, (1, 24)), (73, (1, 8)), (74, (2, 32)), (75, (2, 32)), (76, (2, 32)), (77, (2, 32)), (78, (1, 8)), (79, (3, 24)), (80, (3, 24)), (81, (1, 8)), (82, (1, 8)), (83, (1, 8)), (84, (0, 0)), (85, (0, 0)), (87, (1, 8)), (88, (1, 16)), (89, (1, 16)), (90, (1, 8)), (91, (1, 8)), (92, (2, 24)), (93, (2, 24)), (94, (1, 8)), (95, (1, 8)), (96, (1, 8)), (97, (1, 8)), (98, (1, 8)), (100, (1, 8)), (101, (1, 8)), (103, (1, 8)), (104, (1, 8)), (105, (1, 8)), (106, (1, 24)), (107, (2, 48)), (108, (2, 48)), (109, (1, 8)), (110, (1, 8)), (112, (1, 8)), (113, (1, 8)), (114, (1, 24)), (115, (1, 8)), (116, (1, 8)), (117, (1, 8)), (118, (8, 8)), (119, (1, 8)), (120, (1, 8)), (121, (1, 8)), (122, (1, 8)), (123, (1, 8)), (124, (1, 8)), (125, (1, 8)), (126, (1, 8)), (127, (1, 8)), (128, (1, 8)), (129, (1, 8)), (131, (1, 8)), (132, (1, 8)), (133, (1, 24)), (134, (1, 8)), (135, (1, 8)), (136, (1, 8)), (137, (1, 8)), (140, (0, 0)), (143, (1, 4)), (144, (1, 1)), (145, (1, 1)), (146, (1, 8)), (147, (1, 8)), (148, (1, 4)), (149, (1, 4)), (150, (11, 48)), (151, (11, 48))]
def TZr : List (Nat × Value) := [(1, .nilFunc), (2, .int .i64 0), (3, .int .i64 0), (4, .bool false), (5, .int .u8 0), (6, .int .u8 0), (9, .string ByteArray.empty), (10, .string ByteArray.empty), (11, .string ByteArray.empty), (12, .int .u64 0), (15, .pointer none), (16, .pointer none), (17, .pointer none), (20, .nilIface), (21, .int .i32 0), (22, .slice none 0 0), (23, .slice none 0 0), (24, .agg #[.int .i64 0, .slice none 0 0, .slice none 0 0]), (25, .agg #[.int .i64 0, .slice none 0 0, .slice none 0 0]), (26, .int .i64 0), (28, .nilFunc), (29, .nilFunc), (30, .nilFunc), (31, .nilFunc), (32, .nilFunc), (33, .nilFunc), (35, .nilFunc), (36, .nilFunc), (37, .nilFunc), (38, .nilFunc), (39, .slice none 0 0), (40, .agg #[.slice none 0 0, .int .i64 0, .int .i64 0, .int .i64 0, .int .i64 0, .int .i64 0, .int .i64 0]), (41, .agg #[.slice none 0 0, .int .i64 0, .int .i64 0, .int .i64 0, .int .i64 0, .int .i64 0, .int .i64 0]), (42, .nilFunc), (43, .nilFunc), (44, .slice none 0 0), (45, .int .u64 0), (46, .agg #[.int .i64 0, .int .u64 0]), (47, .agg #[.int .i64 0, .int .u64 0]), (48, .agg #[.int .i64 0, .slice none 0 0, .int .i64 0, .int .u64 0]), (49, .agg #[.int .i64 0, .slice none 0 0, .int .i64 0, .int .u64 0]), (51, .nilFunc), (52, .nilFunc), (53, .nilFunc), (54, .nilFunc), (56, .nilFunc), (57, .nilFunc), (58, .nilFunc), (59, .nilFunc), (60, .nilFunc), (61, .nilFunc), (62, .slice none 0 0), (63, .nilFunc), (64, .nilFunc), (65, .nilFunc), (66, .nilFunc), (68, .nilFunc), (69, .nilFunc), (70, .nilFunc), (71, .nilFunc), (72, .slice none 0 0), (73, .nilFunc), (74, .agg #[.int .i64 0, .slice none 0 0]), (75, .agg #[.int .i64 0, .slice none 0 0]), (76, .agg #[.string ByteArray.empty, .string ByteArray.empty]), (77, .agg #[.string ByteArray.empty, .string ByteArray.empty]), (78, .nilFunc), (79, .agg #[.int .i64 0, .int .i64 0, .int .u64 0]), (80, .agg #[.int .i64 0, .int .i64 0, .int .u64 0]), (81, .nilFunc), (82, .nilFunc), (83, .nilFunc), (84, .agg #[]), (85, .agg #[]), (87, .pointer none), (88, .agg #[.string ByteArray.empty]), (89, .agg #[.string ByteArray.empty]), (90, .nilFunc), (91, .pointer none), (92, .agg #[.string ByteArray.empty, .bool false]), (93, .agg #[.string ByteArray.empty, .bool false]), (94, .nilFunc), (95, .nilFunc), (96, .nilFunc), (97, .nilFunc), (98, .nilFunc), (100, .nilFunc), (101, .nilFunc), (103, .nilFunc), (104, .nilFunc), (105, .nilFunc), (106, .slice none 0 0), (107, .agg #[.slice none 0 0, .slice none 0 0]), (108, .agg #[.slice none 0 0, .slice none 0 0]), (109, .nilFunc), (110, .nilFunc), (112, .nilFunc), (113, .nilFunc), (114, .slice none 0 0), (115, .nilFunc), (116, .nilFunc), (117, .nilFunc), (118, .agg #[.int .u8 0, .int .u8 0, .int .u8 0, .int .u8 0, .int .u8 0, .int .u8 0, .int .u8 0, .int .u8 0]), (119, .nilFunc), (120, .nilFunc), (121, .nilFunc), (122, .nilFunc), (123, .nilFunc), (124, .nilFunc), (125, .int .u64 0), (126, .nilFunc), (127, .nilFunc), (128, .nilFunc), (129, .map none), (131, .nilFunc), (132, .nilFunc), (133, .slice none 0 0), (134, .nilFunc), (135, .nilFunc), (136, .map none), (137, .nilFunc), (140, .agg #[]), (143, .int .u32 0), (144, .int .u8 0), (145, .int .u8 0), (146, .nilFunc), (147, .pointer none), (148, .int .i32 0), (149, .int .i32 0), (150, .agg #[.int .u64 0, .int .u64 0, .int .u32 0, .int .u8 0, .int .u8 0, .int .u8 0, .int .u8 0, .nilFunc, .pointer none, .int .i32 0, .int .i32 0]), (151, .agg #[.int .u64 0, .int .u64 0, .int .u32 0, .int .u8 0, .int .u8 0, .int .u8 0, .int .u8 0, .nilFunc, .pointer none, .int .i32 0, .int .i32 0])]
set_option maxRecDepth 100000 in
theorem TTy_ok : ∀ p ∈ TTy, Try.prog.underlying p.1 = some p.2 := by
  simp only [TTy, List.forall_mem_cons]
  exact ⟨Try.underlying1, Try.underlying2, Try.underlying3, Try.underlying4, Try.underlying5, Try.underlying6, Try.underlying9, Try.underlying10, Try.underlying11, Try.underlying12, Try.underlying15, Try.underlying16, Try.underlying17, Try.underlying20, Try.underlying21, Try.underlying22, Try.underlying23, Try.underlying24, Try.underlying25, Try.underlying26, Try.underlying28, Try.underlying29, Try.underlying30, Try.underlying31, Try.underlying32, Try.underlying33, Try.underlying35, Try.underlying36, Try.underlying37, Try.underlying38, Try.underlying39, Try.underlying40, Try.underlying41, Try.underlying42, Try.underlying43, Try.underlying44, Try.underlying45, Try.underlying46, Try.underlying47, Try.underlying48, Try.underlying49, Try.underlying51, Try.underlying52, Try.underlying53, Try.underlying54, Try.underlying56, Try.underlying57, Try.underlying58, Try.underlying59, Try.underlying60, Try.underlying61, Try.underlying62, Try.underlying63, Try.underlying64, Try.underlying65, Try.underlying66, Try.underlying68, Try.underlying69, Try.underlying70, Try.underlying71, Try.underlying72, Try.underlying73, Try.underlying74, Try.underlying75, Try.underlying76, Try.underlying77, Try.underlying78, Try.underlying79, Try.underlying80, Try.underlying81, Try.underlying82, Try.underlying83, Try.underlying84, Try.underlying85, Try.underlying87, Try.underlying88, Try.underlying89, Try.underlying90, Try.underlying91, Try.underlying92, Try.underlying93, Try.underlying94, Try.underlying95, Try.underlying96, Try.underlying97, Try.underlying98, Try.underlying100, Try.underlying101, Try.underlying103, Try.underlying104, Try.underlying105, Try.underlying106, Try.underlying107, Try.underlying108, Try.underlying109, Try.underlying110, Try.underlying112, Try.underlying113, Try.underlying114, Try.underlying115, Try.underlying116, Try.underlying117, Try.underlying118, Try.underlying119, Try.underlying120, Try.underlying121, Try.underlying122, Try.underlying123, Try.underlying124, Try.underlying125, Try.underlying126, Try.underlying127, Try.underlying128, Try.underlying129, Try.underlying131, Try.underlying132, Try.underlying133, Try.underlying134, Try.underlying135, Try.underlying136, Try.underlying137, Try.underlying140, Try.underlying143, Try.underlying144, Try.underlying145, Try.underlying146, Try.underlying147, Try.underlying148, Try.underlying149, Try.underlying150, Try.underlying151, by simp⟩
set_option maxRecDepth 100000 in
theorem TSz_ok : (TSz.all fun p => (Try.prog.info? p.1).any fun i => i.size == p.2.1 && i.bytes == p.2.2 && i.zero.any (fun z => z.cells.size == p.2.1)) = true := by kernel_rfl
set_option maxRecDepth 100000 in
theorem TZr_1 : (Try.prog.info? 1).bind (·.zero) = some (.nilFunc) := by kernel_rfl
set_option maxRecDepth 100000 in
theorem TZr_2 : (Try.prog.info? 2).bind (·.zero) = some (.int .i64 0) := by kernel_rfl
set_option maxRecDepth 100000 in
theorem TZr_3 : (Try.prog.info? 3).bind (·.zero) = some (.int .i64 0) := by kernel_rfl
set_option maxRecDepth 100000 in
theorem TZr_4 : (Try.prog.info? 4).bind (·.zero) = some (.bool false) := by kernel_rfl
set_option maxRecDepth 100000 in
theorem TZr_5 : (Try.prog.info? 5).bind (·.zero) = some (.int .u8 0) := by kernel_rfl
set_option maxRecDepth 100000 in
theorem TZr_6 : (Try.prog.info? 6).bind (·.zero) = some (.int .u8 0) := by kernel_rfl
set_option maxRecDepth 100000 in
theorem TZr_9 : (Try.prog.info? 9).bind (·.zero) = some (.string ByteArray.empty) := by kernel_rfl
set_option maxRecDepth 100000 in
theorem TZr_10 : (Try.prog.info? 10).bind (·.zero) = some (.string ByteArray.empty) := by kernel_rfl
set_option maxRecDepth 100000 in
theorem TZr_11 : (Try.prog.info? 11).bind (·.zero) = some (.string ByteArray.empty) := by kernel_rfl
set_option maxRecDepth 100000 in
theorem TZr_12 : (Try.prog.info? 12).bind (·.zero) = some (.int .u64 0) := by kernel_rfl
set_option maxRecDepth 100000 in
theorem TZr_15 : (Try.prog.info? 15).bind (·.zero) = some (.pointer none) := by kernel_rfl
set_option maxRecDepth 100000 in
theorem TZr_16 : (Try.prog.info? 16).bind (·.zero) = some (.pointer none) := by kernel_rfl
set_option maxRecDepth 100000 in
theorem TZr_17 : (Try.prog.info? 17).bind (·.zero) = some (.pointer none) := by kernel_rfl
set_option maxRecDepth 100000 in
theorem TZr_20 : (Try.prog.info? 20).bind (·.zero) = some (.nilIface) := by kernel_rfl
set_option maxRecDepth 100000 in
theorem TZr_21 : (Try.prog.info? 21).bind (·.zero) = some (.int .i32 0) := by kernel_rfl
set_option maxRecDepth 100000 in
theorem TZr_22 : (Try.prog.info? 22).bind (·.zero) = some (.slice none 0 0) := by kernel_rfl
set_option maxRecDepth 100000 in
theorem TZr_23 : (Try.prog.info? 23).bind (·.zero) = some (.slice none 0 0) := by kernel_rfl
set_option maxRecDepth 100000 in
theorem TZr_24 : (Try.prog.info? 24).bind (·.zero) = some (.agg #[.int .i64 0, .slice none 0 0, .slice none 0 0]) := by kernel_rfl
set_option maxRecDepth 100000 in
theorem TZr_25 : (Try.prog.info? 25).bind (·.zero) = some (.agg #[.int .i64 0, .slice none 0 0, .slice none 0 0]) := by kernel_rfl
set_option maxRecDepth 100000 in
theorem TZr_26 : (Try.prog.info? 26).bind (·.zero) = some (.int .i64 0) := by kernel_rfl
set_option maxRecDepth 100000 in
theorem TZr_28 : (Try.prog.info? 28).bind (·.zero) = some (.nilFunc) := by kernel_rfl
set_option maxRecDepth 100000 in
theorem TZr_29 : (Try.prog.info? 29).bind (·.zero) = some (.nilFunc) := by kernel_rfl
set_option maxRecDepth 100000 in
theorem TZr_30 : (Try.prog.info? 30).bind (·.zero) = some (.nilFunc) := by kernel_rfl
set_option maxRecDepth 100000 in
theorem TZr_31 : (Try.prog.info? 31).bind (·.zero) = some (.nilFunc) := by kernel_rfl
set_option maxRecDepth 100000 in
theorem TZr_32 : (Try.prog.info? 32).bind (·.zero) = some (.nilFunc) := by kernel_rfl
set_option maxRecDepth 100000 in
theorem TZr_33 : (Try.prog.info? 33).bind (·.zero) = some (.nilFunc) := by kernel_rfl
set_option maxRecDepth 100000 in
theorem TZr_35 : (Try.prog.info? 35).bind (·.zero) = some (.nilFunc) := by kernel_rfl
set_option maxRecDepth 100000 in
theorem TZr_36 : (Try.prog.info? 36).bind (·.zero) = some (.nilFunc) := by kernel_rfl
set_option maxRecDepth 100000 in
theorem TZr_37 : (Try.prog.info? 37).bind (·.zero) = some (.nilFunc) := by kernel_rfl
set_option maxRecDepth 100000 in
theorem TZr_38 : (Try.prog.info? 38).bind (·.zero) = some (.nilFunc) := by kernel_rfl
set_option maxRecDepth 100000 in
theorem TZr_39 : (Try.prog.info? 39).bind (·.zero) = some (.slice none 0 0) := by kernel_rfl
set_option maxRecDepth 100000 in
theorem TZr_40 : (Try.prog.info? 40).bind (·.zero) = some (.agg #[.slice none 0 0, .int .i64 0, .int .i64 0, .int .i64 0, .int .i64 0, .int .i64 0, .int .i64 0]) := by kernel_rfl
set_option maxRecDepth 100000 in
theorem TZr_41 : (Try.prog.info? 41).bind (·.zero) = some (.agg #[.slice none 0 0, .int .i64 0, .int .i64 0, .int .i64 0, .int .i64 0, .int .i64 0, .int .i64 0]) := by kernel_rfl
set_option maxRecDepth 100000 in
theorem TZr_42 : (Try.prog.info? 42).bind (·.zero) = some (.nilFunc) := by kernel_rfl
set_option maxRecDepth 100000 in
theorem TZr_43 : (Try.prog.info? 43).bind (·.zero) = some (.nilFunc) := by kernel_rfl
set_option maxRecDepth 100000 in
theorem TZr_44 : (Try.prog.info? 44).bind (·.zero) = some (.slice none 0 0) := by kernel_rfl
set_option maxRecDepth 100000 in
theorem TZr_45 : (Try.prog.info? 45).bind (·.zero) = some (.int .u64 0) := by kernel_rfl
set_option maxRecDepth 100000 in
theorem TZr_46 : (Try.prog.info? 46).bind (·.zero) = some (.agg #[.int .i64 0, .int .u64 0]) := by kernel_rfl
set_option maxRecDepth 100000 in
theorem TZr_47 : (Try.prog.info? 47).bind (·.zero) = some (.agg #[.int .i64 0, .int .u64 0]) := by kernel_rfl
set_option maxRecDepth 100000 in
theorem TZr_48 : (Try.prog.info? 48).bind (·.zero) = some (.agg #[.int .i64 0, .slice none 0 0, .int .i64 0, .int .u64 0]) := by kernel_rfl
set_option maxRecDepth 100000 in
theorem TZr_49 : (Try.prog.info? 49).bind (·.zero) = some (.agg #[.int .i64 0, .slice none 0 0, .int .i64 0, .int .u64 0]) := by kernel_rfl
set_option maxRecDepth 100000 in
theorem TZr_51 : (Try.prog.info? 51).bind (·.zero) = some (.nilFunc) := by kernel_rfl
set_option maxRecDepth 100000 in
theorem TZr_52 : (Try.prog.info? 52).bind (·.zero) = some (.nilFunc) := by kernel_rfl
set_option maxRecDepth 100000 in
theorem TZr_53 : (Try.prog.info? 53).bind (·.zero) = some (.nilFunc) := by kernel_rfl
set_option maxRecDepth 100000 in
theorem TZr_54 : (Try.prog.info? 54).bind (·.zero) = some (.nilFunc) := by kernel_rfl
set_option maxRecDepth 100000 in
theorem TZr_56 : (Try.prog.info? 56).bind (·.zero) = some (.nilFunc) := by kernel_rfl
set_option maxRecDepth 100000 in
theorem TZr_57 : (Try.prog.info? 57).bind (·.zero) = some (.nilFunc) := by kernel_rfl
set_option maxRecDepth 100000 in
theorem TZr_58 : (Try.prog.info? 58).bind (·.zero) = some (.nilFunc) := by kernel_rfl
set_option maxRecDepth 100000 in
theorem TZr_59 : (Try.prog.info? 59).bind (·.zero) = some (.nilFunc) := by kernel_rfl
set_option maxRecDepth 100000 in
theorem TZr_60 : (Try.prog.info? 60).bind (·.zero) = some (.nilFunc) := by kernel_rfl
set_option maxRecDepth 100000 in
theorem TZr_61 : (Try.prog.info? 61).bind (·.zero) = some (.nilFunc) := by kernel_rfl
set_option maxRecDepth 100000 in
theorem TZr_62 : (Try.prog.info? 62).bind (·.zero) = some (.slice none 0 0) := by kernel_rfl
set_option maxRecDepth 100000 in
theorem TZr_63 : (Try.prog.info? 63).bind (·.zero) = some (.nilFunc) := by kernel_rfl
set_option maxRecDepth 100000 in
theorem TZr_64 : (Try.prog.info? 64).bind (·.zero) = some (.nilFunc) := by kernel_rfl
set_option maxRecDepth 100000 in
theorem TZr_65 : (Try.prog.info? 65).bind (·.zero) = some (.nilFunc) := by kernel_rfl
set_option maxRecDepth 100000 in
theorem TZr_66 : (Try.prog.info? 66).bind (·.zero) = some (.nilFunc) := by kernel_rfl
set_option maxRecDepth 100000 in
theorem TZr_68 : (Try.prog.info? 68).bind (·.zero) = some (.nilFunc) := by kernel_rfl
set_option maxRecDepth 100000 in
theorem TZr_69 : (Try.prog.info? 69).bind (·.zero) = some (.nilFunc) := by kernel_rfl
set_option maxRecDepth 100000 in
theorem TZr_70 : (Try.prog.info? 70).bind (·.zero) = some (.nilFunc) := by kernel_rfl
set_option maxRecDepth 100000 in
theorem TZr_71 : (Try.prog.info? 71).bind (·.zero) = some (.nilFunc) := by kernel_rfl
set_option maxRecDepth 100000 in
theorem TZr_72 : (Try.prog.info? 72).bind (·.zero) = some (.slice none 0 0) := by kernel_rfl
set_option maxRecDepth 100000 in
theorem TZr_73 : (Try.prog.info? 73).bind (·.zero) = some (.nilFunc) := by kernel_rfl
set_option maxRecDepth 100000 in
theorem TZr_74 : (Try.prog.info? 74).bind (·.zero) = some (.agg #[.int .i64 0, .slice none 0 0]) := by kernel_rfl
set_option maxRecDepth 100000 in
theorem TZr_75 : (Try.prog.info? 75).bind (·.zero) = some (.agg #[.int .i64 0, .slice none 0 0]) := by kernel_rfl
set_option maxRecDepth 100000 in
theorem TZr_76 : (Try.prog.info? 76).bind (·.zero) = some (.agg #[.string ByteArray.empty, .string ByteArray.empty]) := by kernel_rfl
set_option maxRecDepth 100000 in
theorem TZr_77 : (Try.prog.info? 77).bind (·.zero) = some (.agg #[.string ByteArray.empty, .string ByteArray.empty]) := by kernel_rfl
set_option maxRecDepth 100000 in
theorem TZr_78 : (Try.prog.info? 78).bind (·.zero) = some (.nilFunc) := by kernel_rfl
set_option maxRecDepth 100000 in
theorem TZr_79 : (Try.prog.info? 79).bind (·.zero) = some (.agg #[.int .i64 0, .int .i64 0, .int .u64 0]) := by kernel_rfl
set_option maxRecDepth 100000 in
theorem TZr_80 : (Try.prog.info? 80).bind (·.zero) = some (.agg #[.int .i64 0, .int .i64 0, .int .u64 0]) := by kernel_rfl
set_option maxRecDepth 100000 in
theorem TZr_81 : (Try.prog.info? 81).bind (·.zero) = some (.nilFunc) := by kernel_rfl
set_option maxRecDepth 100000 in
theorem TZr_82 : (Try.prog.info? 82).bind (·.zero) = some (.nilFunc) := by kernel_rfl
set_option maxRecDepth 100000 in
theorem TZr_83 : (Try.prog.info? 83).bind (·.zero) = some (.nilFunc) := by kernel_rfl
set_option maxRecDepth 100000 in
theorem TZr_84 : (Try.prog.info? 84).bind (·.zero) = some (.agg #[]) := by kernel_rfl
set_option maxRecDepth 100000 in
theorem TZr_85 : (Try.prog.info? 85).bind (·.zero) = some (.agg #[]) := by kernel_rfl
set_option maxRecDepth 100000 in
theorem TZr_87 : (Try.prog.info? 87).bind (·.zero) = some (.pointer none) := by kernel_rfl
set_option maxRecDepth 100000 in
theorem TZr_88 : (Try.prog.info? 88).bind (·.zero) = some (.agg #[.string ByteArray.empty]) := by kernel_rfl
set_option maxRecDepth 100000 in
theorem TZr_89 : (Try.prog.info? 89).bind (·.zero) = some (.agg #[.string ByteArray.empty]) := by kernel_rfl
set_option maxRecDepth 100000 in
theorem TZr_90 : (Try.prog.info? 90).bind (·.zero) = some (.nilFunc) := by kernel_rfl
set_option maxRecDepth 100000 in
theorem TZr_91 : (Try.prog.info? 91).bind (·.zero) = some (.pointer none) := by kernel_rfl
set_option maxRecDepth 100000 in
theorem TZr_92 : (Try.prog.info? 92).bind (·.zero) = some (.agg #[.string ByteArray.empty, .bool false]) := by kernel_rfl
set_option maxRecDepth 100000 in
theorem TZr_93 : (Try.prog.info? 93).bind (·.zero) = some (.agg #[.string ByteArray.empty, .bool false]) := by kernel_rfl
set_option maxRecDepth 100000 in
theorem TZr_94 : (Try.prog.info? 94).bind (·.zero) = some (.nilFunc) := by kernel_rfl
set_option maxRecDepth 100000 in
theorem TZr_95 : (Try.prog.info? 95).bind (·.zero) = some (.nilFunc) := by kernel_rfl
set_option maxRecDepth 100000 in
theorem TZr_96 : (Try.prog.info? 96).bind (·.zero) = some (.nilFunc) := by kernel_rfl
set_option maxRecDepth 100000 in
theorem TZr_97 : (Try.prog.info? 97).bind (·.zero) = some (.nilFunc) := by kernel_rfl
set_option maxRecDepth 100000 in
theorem TZr_98 : (Try.prog.info? 98).bind (·.zero) = some (.nilFunc) := by kernel_rfl
set_option maxRecDepth 100000 in
theorem TZr_100 : (Try.prog.info? 100).bind (·.zero) = some (.nilFunc) := by kernel_rfl
set_option maxRecDepth 100000 in
theorem TZr_101 : (Try.prog.info? 101).bind (·.zero) = some (.nilFunc) := by kernel_rfl
set_option maxRecDepth 100000 in
theorem TZr_103 : (Try.prog.info? 103).bind (·.zero) = some (.nilFunc) := by kernel_rfl
set_option maxRecDepth 100000 in
theorem TZr_104 : (Try.prog.info? 104).bind (·.zero) = some (.nilFunc) := by kernel_rfl
set_option maxRecDepth 100000 in
theorem TZr_105 : (Try.prog.info? 105).bind (·.zero) = some (.nilFunc) := by kernel_rfl
set_option maxRecDepth 100000 in
theorem TZr_106 : (Try.prog.info? 106).bind (·.zero) = some (.slice none 0 0) := by kernel_rfl
set_option maxRecDepth 100000 in
theorem TZr_107 : (Try.prog.info? 107).bind (·.zero) = some (.agg #[.slice none 0 0, .slice none 0 0]) := by kernel_rfl
set_option maxRecDepth 100000 in
theorem TZr_108 : (Try.prog.info? 108).bind (·.zero) = some (.agg #[.slice none 0 0, .slice none 0 0]) := by kernel_rfl
set_option maxRecDepth 100000 in
theorem TZr_109 : (Try.prog.info? 109).bind (·.zero) = some (.nilFunc) := by kernel_rfl
set_option maxRecDepth 100000 in
theorem TZr_110 : (Try.prog.info? 110).bind (·.zero) = some (.nilFunc) := by kernel_rfl
set_option maxRecDepth 100000 in
theorem TZr_112 : (Try.prog.info? 112).bind (·.zero) = some (.nilFunc) := by kernel_rfl
set_option maxRecDepth 100000 in
theorem TZr_113 : (Try.prog.info? 113).bind (·.zero) = some (.nilFunc) := by kernel_rfl
set_option maxRecDepth 100000 in
theorem TZr_114 : (Try.prog.info? 114).bind (·.zero) = some (.slice none 0 0) := by kernel_rfl
set_option maxRecDepth 100000 in
theorem TZr_115 : (Try.prog.info? 115).bind (·.zero) = some (.nilFunc) := by kernel_rfl
set_option maxRecDepth 100000 in
theorem TZr_116 : (Try.prog.info? 116).bind (·.zero) = some (.nilFunc) := by kernel_rfl
set_option maxRecDepth 100000 in
theorem TZr_117 : (Try.prog.info? 117).bind (·.zero) = some (.nilFunc) := by kernel_rfl
set_option maxRecDepth 100000 in
theorem TZr_118 : (Try.prog.info? 118).bind (·.zero) = some (.agg #[.int .u8 0, .int .u8 0, .int .u8 0, .int .u8 0, .int .u8 0, .int .u8 0, .int .u8 0, .int .u8 0]) := by kernel_rfl
set_option maxRecDepth 100000 in
theorem TZr_119 : (Try.prog.info? 119).bind (·.zero) = some (.nilFunc) := by kernel_rfl
set_option maxRecDepth 100000 in
theorem TZr_120 : (Try.prog.info? 120).bind (·.zero) = some (.nilFunc) := by kernel_rfl
set_option maxRecDepth 100000 in
theorem TZr_121 : (Try.prog.info? 121).bind (·.zero) = some (.nilFunc) := by kernel_rfl
set_option maxRecDepth 100000 in
theorem TZr_122 : (Try.prog.info? 122).bind (·.zero) = some (.nilFunc) := by kernel_rfl
set_option maxRecDepth 100000 in
theorem TZr_123 : (Try.prog.info? 123).bind (·.zero) = some (.nilFunc) := by kernel_rfl
set_option maxRecDepth 100000 in
theorem TZr_124 : (Try.prog.info? 124).bind (·.zero) = some (.nilFunc) := by kernel_rfl
set_option maxRecDepth 100000 in
theorem TZr_125 : (Try.prog.info? 125).bind (·.zero) = some (.int .u64 0) := by kernel_rfl
set_option maxRecDepth 100000 in
theorem TZr_126 : (Try.prog.info? 126).bind (·.zero) = some (.nilFunc) := by kernel_rfl
set_option maxRecDepth 100000 in
theorem TZr_127 : (Try.prog.info? 127).bind (·.zero) = some (.nilFunc) := by kernel_rfl
set_option maxRecDepth 100000 in
theorem TZr_128 : (Try.prog.info? 128).bind (·.zero) = some (.nilFunc) := by kernel_rfl
set_option maxRecDepth 100000 in
theorem TZr_129 : (Try.prog.info? 129).bind (·.zero) = some (.map none) := by kernel_rfl
set_option maxRecDepth 100000 in
theorem TZr_131 : (Try.prog.info? 131).bind (·.zero) = some (.nilFunc) := by kernel_rfl
set_option maxRecDepth 100000 in
theorem TZr_132 : (Try.prog.info? 132).bind (·.zero) = some (.nilFunc) := by kernel_rfl
set_option maxRecDepth 100000 in
theorem TZr_133 : (Try.prog.info? 133).bind (·.zero) = some (.slice none 0 0) := by kernel_rfl
set_option maxRecDepth 100000 in
theorem TZr_134 : (Try.prog.info? 134).bind (·.zero) = some (.nilFunc) := by kernel_rfl
set_option maxRecDepth 100000 in
theorem TZr_135 : (Try.prog.info? 135).bind (·.zero) = some (.nilFunc) := by kernel_rfl
set_option maxRecDepth 100000 in
theorem TZr_136 : (Try.prog.info? 136).bind (·.zero) = some (.map none) := by kernel_rfl
set_option maxRecDepth 100000 in
theorem TZr_137 : (Try.prog.info? 137).bind (·.zero) = some (.nilFunc) := by kernel_rfl
set_option maxRecDepth 100000 in
theorem TZr_140 : (Try.prog.info? 140).bind (·.zero) = some (.agg #[]) := by kernel_rfl
set_option maxRecDepth 100000 in
theorem TZr_143 : (Try.prog.info? 143).bind (·.zero) = some (.int .u32 0) := by kernel_rfl
set_option maxRecDepth 100000 in
theorem TZr_144 : (Try.prog.info? 144).bind (·.zero) = some (.int .u8 0) := by kernel_rfl
set_option maxRecDepth 100000 in
theorem TZr_145 : (Try.prog.info? 145).bind (·.zero) = some (.int .u8 0) := by kernel_rfl
set_option maxRecDepth 100000 in
theorem TZr_146 : (Try.prog.info? 146).bind (·.zero) = some (.nilFunc) := by kernel_rfl
set_option maxRecDepth 100000 in
theorem TZr_147 : (Try.prog.info? 147).bind (·.zero) = some (.pointer none) := by kernel_rfl
set_option maxRecDepth 100000 in
theorem TZr_148 : (Try.prog.info? 148).bind (·.zero) = some (.int .i32 0) := by kernel_rfl
set_option maxRecDepth 100000 in
theorem TZr_149 : (Try.prog.info? 149).bind (·.zero) = some (.int .i32 0) := by kernel_rfl
set_option maxRecDepth 100000 in
theorem TZr_150 : (Try.prog.info? 150).bind (·.zero) = some (.agg #[.int .u64 0, .int .u64 0, .int .u32 0, .int .u8 0, .int .u8 0, .int .u8 0, .int .u8 0, .nilFunc, .pointer none, .int .i32 0, .int .i32 0]) := by kernel_rfl
set_option maxRecDepth 100000 in
theorem TZr_151 : (Try.prog.info? 151).bind (·.zero) = some (.agg #[.int .u64 0, .int .u64 0, .int .u32 0, .int .u8 0, .int .u8 0, .int .u8 0, .int .u8 0, .nilFunc, .pointer none, .int .i32 0, .int .i32 0]) := by kernel_rfl
set_option maxRecDepth 100000 in
theorem TZr_ok : ∀ p ∈ TZr, (Try.prog.info? p.1).bind (·.zero) = some p.2 := by
  simp only [TZr, List.forall_mem_cons]
  exact ⟨TZr_1, TZr_2, TZr_3, TZr_4, TZr_5, TZr_6, TZr_9, TZr_10, TZr_11, TZr_12, TZr_15, TZr_16, TZr_17, TZr_20, TZr_21, TZr_22, TZr_23, TZr_24, TZr_25, TZr_26, TZr_28, TZr_29, TZr_30, TZr_31, TZr_32, TZr_33, TZr_35, TZr_36, TZr_37, TZr_38, TZr_39, TZr_40, TZr_41, TZr_42, TZr_43, TZr_44, TZr_45, TZr_46, TZr_47, TZr_48, TZr_49, TZr_51, TZr_52, TZr_53, TZr_54, TZr_56, TZr_57, TZr_58, TZr_59, TZr_60, TZr_61, TZr_62, TZr_63, TZr_64, TZr_65, TZr_66, TZr_68, TZr_69, TZr_70, TZr_71, TZr_72, TZr_73, TZr_74, TZr_75, TZr_76, TZr_77, TZr_78, TZr_79, TZr_80, TZr_81, TZr_82, TZr_83, TZr_84, TZr_85, TZr_87, TZr_88, TZr_89, TZr_90, TZr_91, TZr_92, TZr_93, TZr_94, TZr_95, TZr_96, TZr_97, TZr_98, TZr_100, TZr_101, TZr_103, TZr_104, TZr_105, TZr_106, TZr_107, TZr_108, TZr_109, TZr_110, TZr_112, TZr_113, TZr_114, TZr_115, TZr_116, TZr_117, TZr_118, TZr_119, TZr_120, TZr_121, TZr_122, TZr_123, TZr_124, TZr_125, TZr_126, TZr_127, TZr_128, TZr_129, TZr_131, TZr_132, TZr_133, TZr_134, TZr_135, TZr_136, TZr_137, TZr_140, TZr_143, TZr_144, TZr_145, TZr_146, TZr_147, TZr_148, TZr_149, TZr_150, TZr_151, by simp⟩
set_option maxRecDepth 100000 in
def TT : Tys Try.prog where
  ty := TTy
  sz := TSz
  zr := TZr
  tyOk := fun t d h => TTy_ok _ (look_mem h)
  szOk := fun t s b h => by
    have h1 := List.all_eq_true.1 TSz_ok _ (look_mem h)
    simp only [Option.any_eq_true_iff_get, Bool.and_eq_true, beq_iff_eq] at h1
    obtain ⟨hs, ⟨h2, h3⟩, hz, h4⟩ := h1
    exact ⟨_, (Option.some_get hs).symm, h2, h3, _, (Option.some_get hz).symm, h4⟩
  zrOk := fun t z h => by
    have h1 := TZr_ok _ (look_mem h)
    simp only [Option.bind_eq_some_iff] at h1
    exact h1
theorem mixed : Try.prog.follows .mixedOrders = true := by kernel_rfl
end Go.Proofs.Ytofidfkojmbdoaa
