import Derived.Test.YtgmlkhfjhogdbaaGreatBk04
import Derived.Test.YtgmlkhfjhogdbaaGreatProg
import Derived.Test.YtgmlkhfjhogdbaaGreatRows
import Derived.Tactics
import Derived.Tactics2
import Derived.Defers
import Derived.Laws.Pointers
import Derived.Laws.LoneSync
import Derived.RegionTactic
import Derived.RegionCalls
import Derived.ChangeAlike
import Derived.WalkKit
import Derived.WalkSpells
import Derived.WalkLawsBesides
import Derived.Lib.VarintBits
import Derived.Lib.BufferRead
import Derived.Lib.Hide
import Derived.Laws.BytesString
import Derived.LoopTactic
import Derived.Laws.RangeAny
/- The types, as the layer of abstract values reads them. Written by gen/tys.py. -/
namespace Go.Proofs.YtgmlkhfjhogdbaaGreat
open Go.RowKit P
def TTy : List (Nat × TypeDesc) := [(1, (.func #[] #[] false)), (2, (.int .i64)), (3, (.int .i64)), (4, .bool), (5, (.int .u8)), (6, (.int .u8)), (9, .string), (10, .string), (11, .string), (12, (.int .u64)), (15, (.pointer 172)), (16, (.pointer 175)), (17, (.pointer 183)), (20, (.interface #[])), (21, (.int .i32)), (22, (.slice 42)), (23, (.int .i64)), (25, (.func #[22, 9, 9] #[22, 23] false)), (26, (.func #[22] #[23] false)), (27, (.func #[9] #[4] false)), (28, (.func #[22, 9, 9] #[22] false)), (29, (.func #[] #[4] false)), (30, (.func #[22, 23, 23, 22] #[4] false)), (31, (.func #[22, 9, 9] #[4] false)), (33, (.func #[22, 9] #[9, 23] false)), (34, (.func #[22, 22] #[4] false)), (35, (.func #[22, 9, 9, 9] #[4] false)), (36, (.func #[22] #[22, 23] false)), (37, (.func #[22, 4] #[23] false)), (38, (.func #[22] #[22] false)), (39, (.func #[22] #[4] false)), (40, (.func #[54] #[23] true)), (41, (.struct #[{ name := "Name", type := 9, offset := 0, embedded := false, tag := "", pkgPath := "", byteOffset := 0 }, { name := "Value", type := 9, offset := 1, embedded := false, tag := "", pkgPath := "", byteOffset := 16 }])), (42, (.struct #[{ name := "Name", type := 9, offset := 0, embedded := false, tag := "", pkgPath := "", byteOffset := 0 }, { name := "Value", type := 9, offset := 1, embedded := false, tag := "", pkgPath := "", byteOffset := 16 }])), (43, (.func #[5] #[4] false)), (44, (.func #[22] #[9, 23] false)), (45, (.int .u64)), (47, (.func #[22] #[45, 23] false)), (48, (.func #[22, 9] #[9] false)), (49, (.func #[22, 50] #[4] false)), (50, (.func #[42, 42] #[3] false)), (51, (.func #[22, 52] #[22] false)), (52, (.func #[42] #[4] false)), (53, (.func #[22, 50] #[] false)), (54, (.slice 22)), (56, (.func #[22, 9] #[3, 4] false)), (57, (.func #[22, 3, 3] #[22] false)), (58, (.func #[22, 3, 22] #[22] true)), (59, (.slice 9)), (60, (.pointer 89)), (61, (.func #[59] #[60] true)), (62, (.func #[9] #[9] false)), (63, (.func #[59, 9] #[9] false)), (64, (.func #[22] #[45] false)), (65, (.map 9 4)), (66, (.func #[9, 9] #[3] false)), (67, (.func #[22, 52] #[3] false)), (68, (.func #[22, 3, 3, 3, 50] #[] false)), (69, (.func #[70] #[3] false)), (70, (.int .u64)), (71, (.func #[22, 9, 72] #[3, 4] false)), (72, (.func #[42, 9] #[3] false)), (73, (.func #[22, 3] #[] false)), (74, (.struct #[])), (75, (.struct #[])), (76, (.struct #[])), (77, (.int .u32)), (78, (.struct #[{ name := "_", type := 76, offset := 0, embedded := false, tag := "", pkgPath := "sync/atomic", byteOffset := 0 }, { name := "v", type := 77, offset := 0, embedded := false, tag := "", pkgPath := "sync/atomic", byteOffset := 0 }])), (79, (.struct #[{ name := "_", type := 76, offset := 0, embedded := false, tag := "", pkgPath := "sync/atomic", byteOffset := 0 }, { name := "v", type := 77, offset := 0, embedded := false, tag := "", pkgPath := "sync/atomic", byteOffset := 0 }])), (82, (.struct #[{ name := "_", type := 75, offset := 0, embedded := false, tag := "", pkgPath := "sync", byteOffset := 0 }, { name := "mu", type := 81, offset := 0, embedded := false, tag := "", pkgPath := "sync", byteOffset := 0 }])), (83, (.struct #[{ name := "_", type := 75, offset := 0, embedded := false, tag := "", pkgPath := "sync", byteOffset := 0 }, { name := "mu", type := 81, offset := 0, embedded := false, tag := "", pkgPath := "sync", byteOffset := 0 }])), (84, (.struct #[{ name := "_", type := 75, offset := 0, embedded := false, tag := "", pkgPath := "sync", byteOffset := 0 }, { name := "done", type := 79, offset := 0, embedded := false, tag := "", pkgPath := "sync", byteOffset := 0 }, { name := "m", type := 83, offset := 1, embedded := false, tag := "", pkgPath := "sync", byteOffset := 4 }])), (85, (.struct #[{ name := "_", type := 75, offset := 0, embedded := false, tag := "", pkgPath := "sync", byteOffset := 0 }, { name := "done", type := 79, offset := 0, embedded := false, tag := "", pkgPath := "sync", byteOffset := 0 }, { name := "m", type := 83, offset := 1, embedded := false, tag := "", pkgPath := "sync", byteOffset := 4 }])), (86, (.interface #[("Replace", 62), ("WriteString", 184)])), (87, (.interface #[("Replace", 62), ("WriteString", 184)])), (88, (.struct #[{ name := "once", type := 85, offset := 0, embedded := false, tag := "", pkgPath := "strings", byteOffset := 0 }, { name := "r", type := 87, offset := 3, embedded := false, tag := "", pkgPath := "strings", byteOffset := 16 }, { name := "oldnew", type := 59, offset := 4, embedded := false, tag := "", pkgPath := "strings", byteOffset := 32 }])), (89, (.struct #[{ name := "once", type := 85, offset := 0, embedded := false, tag := "", pkgPath := "strings", byteOffset := 0 }, { name := "r", type := 87, offset := 3, embedded := false, tag := "", pkgPath := "strings", byteOffset := 16 }, { name := "oldnew", type := 59, offset := 4, embedded := false, tag := "", pkgPath := "strings", byteOffset := 32 }])), (90, (.func #[1] #[] false)), (91, (.pointer 94)), (92, (.slice 5)), (93, (.struct #[{ name := "addr", type := 91, offset := 0, embedded := false, tag := "", pkgPath := "strings", byteOffset := 0 }, { name := "buf", type := 92, offset := 1, embedded := false, tag := "", pkgPath := "strings", byteOffset := 8 }])), (94, (.struct #[{ name := "addr", type := 91, offset := 0, embedded := false, tag := "", pkgPath := "strings", byteOffset := 0 }, { name := "buf", type := 92, offset := 1, embedded := false, tag := "", pkgPath := "strings", byteOffset := 8 }])), (95, (.func #[3] #[] false)), (96, (.interface #[("Error", 100)])), (97, (.interface #[("Error", 100)])), (99, (.func #[9] #[3, 97] false)), (100, (.func #[] #[9] false)), (101, (.func #[45, 9] #[45] false)), (102, (.func #[22, 3, 3, 50] #[] false)), (103, (.int .i64)), (105, (.func #[22, 3, 3, 50] #[3, 103] false)), (106, (.func #[22, 3, 3, 50] #[4] false)), (107, (.func #[22, 3, 3, 3, 50] #[3] false)), (108, (.func #[22, 3, 3, 3, 50] #[3, 4] false)), (109, (.func #[77] #[3] false)), (110, (.func #[45] #[3] false)), (111, (.pointer 85)), (112, (.func #[] #[87] false)), (113, (.pointer 5)), (114, (.int .u64)), (115, (.func #[3] #[70] false)), (116, (.func #[] #[45] false)), (117, (.func #[22, 3, 118, 50] #[3] false)), (118, (.pointer 3)), (119, (.func #[22, 3, 3, 3, 118, 50] #[3] false)), (120, (.func #[22] #[] false)), (121, (.pointer 79)), (122, (.func #[123] #[77] false)), (123, (.pointer 77)), (124, (.func #[4] #[] false)), (125, (.pointer 148)), (126, (.func #[9, 9] #[125] false)), (127, (.pointer 154)), (128, (.func #[59] #[127] false)), (129, (.array 256 5)), (130, (.array 256 5)), (131, (.pointer 130)), (132, (.array 256 92)), (133, (.struct #[{ name := "replacements", type := 132, offset := 0, embedded := false, tag := "", pkgPath := "strings", byteOffset := 0 }, { name := "toReplace", type := 59, offset := 256, embedded := false, tag := "", pkgPath := "strings", byteOffset := 6144 }])), (134, (.struct #[{ name := "replacements", type := 132, offset := 0, embedded := false, tag := "", pkgPath := "strings", byteOffset := 0 }, { name := "toReplace", type := 59, offset := 256, embedded := false, tag := "", pkgPath := "strings", byteOffset := 6144 }])), (135, (.pointer 134)), (137, (.func #[136] #[136] false)), (138, (.func #[3] #[92] false)), (139, (.pointer 114)), (141, (.func #[22, 3, 3, 118, 50] #[3, 3] false)), (142, (.pointer 83)), (143, (.func #[123, 77] #[] false)), (144, (.func #[4] #[77] false)), (145, (.pointer 165)), (146, (.func #[9] #[145] false)), (147, (.struct #[{ name := "finder", type := 145, offset := 0, embedded := false, tag := "", pkgPath := "strings", byteOffset := 0 }, { name := "value", type := 9, offset := 1, embedded := false, tag := "", pkgPath := "strings", byteOffset := 8 }])), (148, (.struct #[{ name := "finder", type := 145, offset := 0, embedded := false, tag := "", pkgPath := "strings", byteOffset := 0 }, { name := "value", type := 9, offset := 1, embedded := false, tag := "", pkgPath := "strings", byteOffset := 8 }])), (149, (.pointer 152)), (150, (.slice 149)), (151, (.struct #[{ name := "value", type := 9, offset := 0, embedded := false, tag := "", pkgPath := "strings", byteOffset := 0 }, { name := "priority", type := 3, offset := 1, embedded := false, tag := "", pkgPath := "strings", byteOffset := 16 }, { name := "prefix", type := 9, offset := 2, embedded := false, tag := "", pkgPath := "strings", byteOffset := 24 }, { name := "next", type := 149, offset := 3, embedded := false, tag := "", pkgPath := "strings", byteOffset := 40 }, { name := "table", type := 150, offset := 4, embedded := false, tag := "", pkgPath := "strings", byteOffset := 48 }])), (152, (.struct #[{ name := "value", type := 9, offset := 0, embedded := false, tag := "", pkgPath := "strings", byteOffset := 0 }, { name := "priority", type := 3, offset := 1, embedded := false, tag := "", pkgPath := "strings", byteOffset := 16 }, { name := "prefix", type := 9, offset := 2, embedded := false, tag := "", pkgPath := "strings", byteOffset := 24 }, { name := "next", type := 149, offset := 3, embedded := false, tag := "", pkgPath := "strings", byteOffset := 40 }, { name := "table", type := 150, offset := 4, embedded := false, tag := "", pkgPath := "strings", byteOffset := 48 }])), (153, (.struct #[{ name := "root", type := 152, offset := 0, embedded := false, tag := "", pkgPath := "strings", byteOffset := 0 }, { name := "tableSize", type := 3, offset := 5, embedded := false, tag := "", pkgPath := "strings", byteOffset := 72 }, { name := "mapping", type := 129, offset := 6, embedded := false, tag := "", pkgPath := "strings", byteOffset := 80 }])), (154, (.struct #[{ name := "root", type := 152, offset := 0, embedded := false, tag := "", pkgPath := "strings", byteOffset := 0 }, { name := "tableSize", type := 3, offset := 5, embedded := false, tag := "", pkgPath := "strings", byteOffset := 72 }, { name := "mapping", type := 129, offset := 6, embedded := false, tag := "", pkgPath := "strings", byteOffset := 80 }])), (155, (.func #[9, 9, 3, 127] #[] false)), (156, (.pointer 81)), (157, (.func #[158, 21, 21] #[4] false)), (158, (.pointer 21)), (159, (.func #[136] #[] false)), (160, (.func #[158, 21] #[21] false)), (161, (.func #[21] #[] false)), (162, (.slice 3)), (163, (.array 256 3)), (164, (.struct #[{ name := "pattern", type := 9, offset := 0, embedded := false, tag := "", pkgPath := "strings", byteOffset := 0 }, { name := "badCharSkip", type := 163, offset := 1, embedded := false, tag := "", pkgPath := "strings", byteOffset := 16 }, { name := "goodSuffixSkip", type := 162, offset := 257, embedded := false, tag := "", pkgPath := "strings", byteOffset := 2064 }])), (165, (.struct #[{ name := "pattern", type := 9, offset := 0, embedded := false, tag := "", pkgPath := "strings", byteOffset := 0 }, { name := "badCharSkip", type := 163, offset := 1, embedded := false, tag := "", pkgPath := "strings", byteOffset := 16 }, { name := "goodSuffixSkip", type := 162, offset := 257, embedded := false, tag := "", pkgPath := "strings", byteOffset := 2064 }])), (166, (.func #[9, 9] #[4] false)), (167, (.func #[3] #[4] false)), (168, (.func #[9] #[] false)), (169, (.func #[] #[2] false)), (170, (.func #[123, 4, 3] #[] false)), (173, (.array 0 16)), (176, (.func #[] #[3] false)), (177, (.int .u8)), (178, (.int .u8)), (179, (.func #[136, 136] #[4] false)), (180, (.int .i32)), (181, (.int .i32)), (182, (.struct #[{ name := "Size_", type := 12, offset := 0, embedded := false, tag := "", pkgPath := "", byteOffset := 0 }, { name := "PtrBytes", type := 12, offset := 1, embedded := false, tag := "", pkgPath := "", byteOffset := 8 }, { name := "Hash", type := 77, offset := 2, embedded := false, tag := "", pkgPath := "", byteOffset := 16 }, { name := "TFlag", type := 177, offset := 3, embedded := false, tag := "", pkgPath := "", byteOffset := 20 }, { name := "Align_", type := 5, offset := 4, embedded := false, tag := "", pkgPath := "", byteOffset := 21 }, { name := "FieldAlign_", type := 5, offset := 5, embedded := false, tag := "", pkgPath := "", byteOffset := 22 }, { name := "Kind_", type := 178, offset := 6, embedded := false, tag := "", pkgPath := "", byteOffset := 23 }, { name := "Equal", type := 179, offset := 7, embedded := false, tag := "", pkgPath := "", byteOffset := 24 }, { name := "GCData", type := 113, offset := 8, embedded := false, tag := "", pkgPath := "", byteOffset := 32 }, { name := "Str", type := 180, offset := 9, embedded := false, tag := "", pkgPath := "", byteOffset := 40 }, { name := "PtrToThis", type := 181, offset := 10, embedded := false, tag := "", pkgPath := "", byteOffset := 44 }])), (183, (.struct #[{ name := "Size_", type := 12, offset := 0, embedded := false, tag := "", pkgPath := "", byteOffset := 0 }, { name := "PtrBytes", type := 12, offset := 1, embedded := false, tag := "", pkgPath := "", byteOffset := 8 }, { name := "Hash", type := 77, offset := 2, embedded := false, tag := "", pkgPath := "", byteOffset := 16 }, { name := "TFlag", type := 177, offset := 3, embedded := false, tag := "", pkgPath := "", byteOffset := 20 }, { name := "Align_", type := 5, offset := 4, embedded := false, tag := "", pkgPath := "", byteOffset := 21 }, { name := "FieldAlign_", type := 5, offset := 5, embedded := false, tag := "", pkgPath := "", byteOffset := 22 }, { name := "Kind_", type := 178, offset := 6, embedded := false, tag := "", pkgPath := "", byteOffset := 23 }, { name := "Equal", type := 179, offset := 7, embedded := false, tag := "", pkgPath := "", byteOffset := 24 }, { name := "GCData", type := 113, offset := 8, embedded := false, tag := "", pkgPath := "", byteOffset := 32 }, { name := "Str", type := 180, offset := 9, embedded := false, tag := "", pkgPath := "", byteOffset := 40 }, { name := "PtrToThis", type := 181, offset := 10, embedded := false, tag := "", pkgPath := "", byteOffset := 44 }])), (184, (.func #[189, 9] #[3, 97] false)), (185, (.func #[9] #[3] false)), (186, (.slice 5)), (187, (.pointer 186)), (188, (.interface #[("Write", 198)])), (189, (.interface #[("Write", 198)])), (190, (.interface #[("WriteString", 99)])), (191, (.interface #[("WriteString", 99)])), (192, (.func #[189] #[191] false)), (194, (.func #[9, 4] #[9, 3, 4] false)), (196, (.struct #[{ name := "w", type := 189, offset := 0, embedded := false, tag := "", pkgPath := "strings", byteOffset := 0 }])), (197, (.struct #[{ name := "w", type := 189, offset := 0, embedded := false, tag := "", pkgPath := "strings", byteOffset := 0 }])), (198, (.func #[92] #[3, 97] false)), (199, (.func #[9, 5] #[3] false)), (200, (.func #[3] #[3] false)), (202, (.func #[9] #[77, 77] false))]
def TSz : List (Nat × (Nat × Nat)) := [(1, (1, 8)), (2, (1, 8)), (3, (1, 8)), (4, (1, 1)), (5, (1, 1)), (6, (1, 1)), (9, (1, 16)), (10, (1, 16)), (11, (1, 16)), (12, (1, 8)), (15, (1, 8)), (16, (1, 8)), (17, (1, 8)), (20, (1, 16)), (21, (1, 4)), (22, (1, 24)), (23, (1, 8)), (25, (1, 8)), (26, (1, 8)), (27, (1, 8)), (28, (1, 8)), (29, (1, 8)), (30, (1, 8)), (31, (1, 8)), (33, (1, 8)), (34, (1, 8)), (35, (1, 8)), (36, (1, 8)), (37, (1, 8)), (38, (1, 8)), (39, (1, 8)), (40, (1, 8)), (41, (2, 32)), (42, (2, 32)), (43, (1, 8)), (44, (1, 8)), (45, (1, 8)), (47, (1, 8)), (48, (1, 8)), (49, (1, 8)), (50, (1, 8)), (51, (1, 8)), (52, (1, 8)), (53, (1, 8)), (54, (1, 24)), (56, (1, 8)), (57, (1, 8)), (58, (1, 8)), (59, (1, 24)), (60, (1, 8)), (61, (1, 8)), (62, (1, 8)), (63, (1, 8)), (64, (1, 8)), (65, (1, 8)), (66, (1, 8)), (67, (1, 8)), (68, (1, 8)), (69, (1, 8)), (70, (1, 8)), (71, (1, 8)), (72, (1, 8)), (73, (1, 8)), (74, (0, 0)), (75, (0, 0)), (76, (0, 0)), (77, (1, 4)), (78, (1, 4)), (79, (1, 4)), (82, (2, 8)), (83, (2, 8)), (84, (3, 12)), (85, (3, 12)), (86, (1, 16)), (87, (1, 16)), (88, (5, 56)), (89, (5, 56)), (90, (1, 8)), (91, (1, 8)), (92, (1, 24)), (93, (2, 32)), (94, (2, 32)), (95, (1, 8)), (96, (1, 16)), (97, (1, 16)), (99, (1, 8)), (100, (1, 8)), (101, (1, 8)), (102, (1, 8)), (103, (1, 8)), (105, (1, 8)), (106, (1, 8)), (107, (1, 8)), (108, (1, 8)), (109, (1, 8)), (110, (1, 8)), (111, (1, 8)), (112, (1, 8)), (113, (1, 8)), (114, (1, 8)), (115, (1, 8)), (116, (1, 8)), (117, (1, 8)), (118, (1, 8)), (119, (1, 8)), (120, (1, 8)), (121, (1, 8)), (122, (1, 8)), (123, (1, 8)), (124, (1, 8)), (125, (1, 8)), (126, (1, 8)), (127, (1, 8)), (128, (1, 8)), (129, (256, 256)), (130, (256, 256)), (131, (1, 8)), (132, (256, 6144)), (133, (257, 6168)), (134, (257, 6168)), (135, (1, 8)), (137, (1, 8)), (138, (1, 8)), (139, (1, 8)), (141, (1, 8)), (142, (1, 8)), (143, (1, 8)), (144, (1, 8)), (145, (1, 8)), (146, (1, 8)), (147, (2, 24)), (148, (2, 24)), (149, (1, 8)), (150, (1, 24)), (151, (5, 72)), (152, (5, 72)), (153, (262, 336)), (154, (262, 336)), (155, (1, 8)), (156, (1, 8)), (157, (1, 8)), (158, (1, 8)), (159, (1, 8)), (160, (1, 8)), (161, (1, 8)), (162, (1, 24)), (163, (256, 2048)), (164, (258, 2088)), (165, (258, 2088)), (166, (1, 8)), (167, (1, 8)), (168, (1, 8)), (169, (1, 8)), (170, (1, 8)), (173, (0, 0)), (176, (1, 8)), (177, (1, 1)), (178, (1, 1)), (179, (1, 8)), (180, (1, 4)), (181, (1, 4)), (182, (11, 48)), (183, (11, 48)), (184, (1, 8)), (185, (1, 8)), (186, (1, 24)), (187, (1, 8)), (188, (1, 16)), (189, (1, 16)), (190, (1, 16)), (191, (1, 16)), (192, (1, 8)), (194, (1, 8)), (196, (1, 16)), (197, (1, 16)), (198, (1, 8)), (199, (1, 8)), (200, (1, 8)), (202, (1, 8))]
def TZr : List (Nat × Value) := [(1, .nilFunc), (2, .int .i64 0), (3, .int .i64 0), (4, .bool false), (5, .int .u8 0), (6, .int .u8 0), (9, .string ByteArray.empty), (10, .string ByteArray.empty), (11, .string ByteArray.empty), (12, .int .u64 0), (15, .pointer none), (16, .pointer none), (17, .pointer none), (20, .nilIface), (21, .int .i32 0), (22, .slice none 0 0), (23, .int .i64 0), (25, .nilFunc), (26, .nilFunc), (27, .nilFunc), (28, .nilFunc), (29, .nilFunc), (30, .nilFunc), (31, .nilFunc), (33, .nilFunc), (34, .nilFunc), (35, .nilFunc), (36, .nilFunc), (37, .nilFunc), (38, .nilFunc), (39, .nilFunc), (40, .nilFunc), (41, .agg #[.string ByteArray.empty, .string ByteArray.empty]), (42, .agg #[.string ByteArray.empty, .string ByteArray.empty]), (43, .nilFunc), (44, .nilFunc), (45, .int .u64 0), (47, .nilFunc), (48, .nilFunc), (49, .nilFunc), (50, .nilFunc), (51, .nilFunc), (52, .nilFunc), (53, .nilFunc), (54, .slice none 0 0), (56, .nilFunc), (57, .nilFunc), (58, .nilFunc), (59, .slice none 0 0), (60, .pointer none), (61, .nilFunc), (62, .nilFunc), (63, .nilFunc), (64, .nilFunc), (65, .map none), (66, .nilFunc), (67, .nilFunc), (68, .nilFunc), (69, .nilFunc), (70, .int .u64 0), (71, .nilFunc), (72, .nilFunc), (73, .nilFunc), (74, .agg #[]), (75, .agg #[]), (76, .agg #[]), (77, .int .u32 0), (78, .agg #[.int .u32 0]), (79, .agg #[.int .u32 0]), (82, .agg #[.int .i32 0, .int .u32 0]), (83, .agg #[.int .i32 0, .int .u32 0]), (84, .agg #[.int .u32 0, .int .i32 0, .int .u32 0]), (85, .agg #[.int .u32 0, .int .i32 0, .int .u32 0]), (86, .nilIface), (87, .nilIface), (88, .agg #[.int .u32 0, .int .i32 0, .int .u32 0, .nilIface, .slice none 0 0]), (89, .agg #[.int .u32 0, .int .i32 0, .int .u32 0, .nilIface, .slice none 0 0]), (90, .nilFunc), (91, .pointer none), (92, .slice none 0 0), (93, .agg #[.pointer none, .slice none 0 0]), (94, .agg #[.pointer none, .slice none 0 0]), (95, .nilFunc), (96, .nilIface), (97, .nilIface), (99, .nilFunc), (100, .nilFunc), (101, .nilFunc), (102, .nilFunc), (103, .int .i64 0), (105, .nilFunc), (106, .nilFunc), (107, .nilFunc), (108, .nilFunc), (109, .nilFunc), (110, .nilFunc), (111, .pointer none), (112, .nilFunc), (113, .pointer none), (114, .int .u64 0), (115, .nilFunc), (116, .nilFunc), (117, .nilFunc), (118, .pointer none), (119, .nilFunc), (120, .nilFunc), (121, .pointer none), (122, .nilFunc), (123, .pointer none), (124, .nilFunc), (125, .pointer none), (126, .nilFunc), (127, .pointer none), (128, .nilFunc), (129, .agg #[.int .u8 0, .int .u8 0, .int .u8 0, .int .u8 0, .int .u8 0, .int .u8 0, .int .u8 0, .int .u8 0, .int .u8 0, .int .u8 0, .int .u8 0, .int .u8 0, .int .u8 0, .int .u8 0, .int .u8 0, .int .u8 0, .int .u8 0, .int .u8 0, .int .u8 0, .int .u8 0, .int .u8 0, .int .u8 0, .int .u8 0, .int .u8 0, .int .u8 0, .int .u8 0, .int .u8 0, .int .u8 0, .int .u8 0, .int .u8 0, .int .u8 0, .int .u8 0, .int .u8 0, .int .u8 0, .int .u8 0, .int .u8 0, .int .u8 0, .int .u8 0, .int .u8 0, .int .u8 0, .int .u8 0, .int .u8 0, .int .u8 0, .int .u8 0, .int .u8 0, .int .u8 0, .int .u8 0, .int .u8 0, .int .u8 0, .int .u8 0, .int .u8 0, .int .u8 0, .int .u8 0, .int .u8 0, .int .u8 0, .int .u8 0, .int .u8 0, .int .u8 0, .int .u8 0, .int .u8 0, .int .u8 0, .int .u8 0, .int .u8 0, .int .u8 0, .int .u8 0, .int .u8 0, .int .u8 0, .int .u8 0, .int .u8 0, .int .u8 0, .int .u8 0, .int .u8 0, .int .u8 0, .int .u8 0, .int .u8 0, .int .u8 0, .int .u8 0, .int .u8 0, .int .u8 0, .int .u8 0, .int .u8 0, .int .u8 0, .int .u8 0, .int .u8 0, .int .u8 0, .int .u8 0, .int .u8 0, .int .u8 0, .int .u8 0, .int .u8 0, .int .u8 0, .int .u8 0, .int .u8 0, .int .u8 0, .int .u8 0, .int .u8 0, .int .u8 0, .int .u8 0, .int .u8 0, .int .u8 0, .int .u8 0, .int .u8 0, .int .u8 0, .int .u8 0, .int .u8 0, .int .u8 0, .int .u8 0, .int .u8 0, .int .u8 0, .int .u8 0, .int .u8 0, .int .u8 0, .int .u8 0, .int .u8 0, .int .u8 0, .int .u8 0, .int .u8 0, .int .u8 0, .int .u8 0, .int .u8 0, .int .u8 0, .int .u8 0, .int .u8 0, .int .u8 0, .int .u8 0, .int .u8 0, .int .u8 0, .int .u8 0, .int .u8 0, .int .u8 0, .int .u8 0, .int .u8 0, .int .u8 0, .int .u8 0, .int .u8 0, .int .u8 0, .int .u8 0, .int .u8 0, .int .u8 0, .int .u8 0, .int .u8 0, .int .u8 0, .int .u8 0, .int .u8 0, .int .u8 0, .int .u8 0, .int .u8 0, .int .u8 0, .int .u8 0, .int .u8 0, .int .u8 0, .int .u8 0, .int .u8 0, .int .u8 0, .int .u8 0, .int .u8 0, .int .u8 0, .int .u8 0, .int .u8 0, .int .u8 0, .int .u8 0, .int .u8 0, .int .u8 0, .int .u8 0, .int .u8 0, .int .u8 0, .int .u8 0, .int .u8 0, .int .u8 0, .int .u8 0, .int .u8 0, .int .u8 0, .int .u8 0, .int .u8 0, .int .u8 0, .int .u8 0, .int .u8 0, .int .u8 0, .int .u8 0, .int .u8 0, .int .u8 0, .int .u8 0, .int .u8 0, .int .u8 0, .int .u8 0, .int .u8 0, .int .u8 0, .int .u8 0, .int .u8 0, .int .u8 0, .int .u8 0, .int .u8 0, .int .u8 0, .int .u8 0, .int .u8 0, .int .u8 0, .int .u8 0, .int .u8 0, .int .u8 0, .int .u8 0, .int .u8 0, .int .u8 0, .int .u8 0, .int .u8 0, .int .u8 0, .int .u8 0, .int .u8 0, .int .u8 0, .int .u8 0, .int .u8 0, .int .u8 0, .int .u8 0, .int .u8 0, .int .u8 0, .int .u8 0, .int .u8 0, .int .u8 0, .int .u8 0, .int .u8 0, .int .u8 0, .int .u8 0, .int .u8 0, .int .u8 0, .int .u8 0, .int .u8 0, .int .u8 0, .int .u8 0, .int .u8 0, .int .u8 0, .int .u8 0, .int .u8 0, .int .u8 0, .int .u8 0, .int .u8 0, .int .u8 0, .int .u8 0, .int .u8 0, .int .u8 0, .int .u8 0, .int .u8 0, .int .u8 0, .int .u8 0, .int .u8 0, .int .u8 0, .int .u8 0, .int .u8 0, .int .u8 0, .int .u8 0, .int .u8 0, .int .u8 0, .int .u8 0, .int .u8 0, .int .u8 0, .int .u8 0, .int .u8 0, .int .u8 0]), (130, .agg #[.int .u8 0, .int .u8 0, .int .u8 0, .int .u8 0, .int .u8 0, .int .u8 0, .int .u8 0, .int .u8 0, .int .u8 0, .int .u8 0, .int .u8 0, .int .u8 0, .int .u8 0, .int .u8 0, .int .u8 0, .int .u8 0, .int .u8 0, .int .u8 0, .int .u8 0, .int .u8 0, .int .u8 0, .int .u8 0, .int .u8 0, .int .u8 0, .int .u8 0, .int .u8 0, .int .u8 0, .int .u8 0, .int .u8 0, .int .u8 0, .int .u8 0, .int .u8 0, .int .u8 0, .int .u8 0, .int .u8 0, .int .u8 0, .int .u8 0, .int .u8 0, .int .u8 0, .int .u8 0, .int .u8 0, .int .u8 0, .int .u8 0, .int .u8 0, .int .u8 0, .int .u8 0, .int .u8 0, .int .u8 0, .int .u8 0, .int .u8 0, .int .u8 0, .int .u8 0, .int .u8 0, .int .u8 0, .int .u8 0, .int .u8 0, .int .u8 0, .int .u8 0, .int .u8 0, .int .u8 0, .int .u8 0, .int .u8 0, .int .u8 0, .int .u8 0, .int .u8 0, .int .u8 0, .int .u8 0, .int .u8 0, .int .u8 0, .int .u8 0, .int .u8 0, .int .u8 0, .int .u8 0, .int .u8 0, .int .u8 0, .int .u8 0, .int .u8 0, .int .u8 0, .int .u8 0, .int .u8 0, .int .u8 0, .int .u8 0, .int .u8 0, .int .u8 0, .int .u8 0, .int .u8 0, .int .u8 0, .int .u8 0, .int .u8 0, .int .u8 0, .int .u8 0, .int .u8 0, .int .u8 0, .int .u8 0, .int .u8 0, .int .u8 0, .int .u8 0, .int .u8 0, .int .u8 0, .int .u8 0, .int .u8 0, .int .u8 0, .int .u8 0, .int .u8 0, .int .u8 0, .int .u8 0, .int .u8 0, .int .u8 0, .int .u8 0, .int .u8 0, .int .u8 0, .int .u8 0, .int .u8 0, .int .u8 0, .int .u8 0, .int .u8 0, .int .u8 0, .int .u8 0, .int .u8 0, .int .u8 0, .int .u8 0, .int .u8 0, .int .u8 0, .int .u8 0, .int .u8 0, .int .u8 0, .int .u8 0, .int .u8 0, .int .u8 0, .int .u8 0, .int .u8 0, .int .u8 0, .int .u8 0, .int .u8 0, .int .u8 0, .int .u8 0, .int .u8 0, .int .u8 0, .int .u8 0, .int .u8 0, .int .u8 0, .int .u8 0, .int .u8 0, .int .u8 0, .int .u8 0, .int .u8 0, .int .u8 0, .int .u8 0, .int .u8 0, .int .u8 0, .int .u8 0, .int .u8 0, .int .u8 0, .int .u8 0, .int .u8 0, .int .u8 0, .int .u8 0, .int .u8 0, .int .u8 0, .int .u8 0, .int .u8 0, .int .u8 0, .int .u8 0, .int .u8 0, .int .u8 0, .int .u8 0, .int .u8 0, .int .u8 0, .int .u8 0, .int .u8 0, .int .u8 0, .int .u8 0, .int .u8 0, .int .u8 0, .int .u8 0, .int .u8 0, .int .u8 0, .int .u8 0, .int .u8 0, .int .u8 0, .int .u8 0, .int .u8 0, .int .u8 0, .int .u8 0, .int .u8 0, .int .u8 0, .int .u8 0, .int .u8 0, .int .u8 0, .int .u8 0, .int .u8 0, .int .u8 0, .int .u8 0, .int .u8 0, .int .u8 0, .int .u8 0, .int .u8 0, .int .u8 0, .int .u8 0, .int .u8 0, .int .u8 0, .int .u8 0, .int .u8 0, .int .u8 0, .int .u8 0, .int .u8 0, .int .u8 0, .int .u8 0, .int .u8 0, .int .u8 0, .int .u8 0, .int .u8 0, .int .u8 0, .int .u8 0, .int .u8 0, .int .u8 0, .int .u8 0, .int .u8 0, .int .u8 0, .int .u8 0, .int .u8 0, .int .u8 0, .int .u8 0, .int .u8 0, .int .u8 0, .int .u8 0, .int .u8 0, .int .u8 0, .int .u8 0, .int .u8 0, .int .u8 0, .int .u8 0, .int .u8 0, .int .u8 0, .int .u8 0, .int .u8 0, .int .u8 0, .int .u8 0, .int .u8 0, .int .u8 0, .int .u8 0, .int .u8 0, .int .u8 0, .int .u8 0, .int .u8 0, .int .u8 0, .int .u8 0, .int .u8 0, .int .u8 0, .int .u8 0, .int .u8 0, .int .u8 0, .int .u8 0, .int .u8 0, .int .u8 0, .int .u8 0]), (131, .pointer none), (132, .agg #[.slice none 0 0, .slice none 0 0, .slice none 0 0, .slice none 0 0, .slice none 0 0, .slice none 0 0, .slice none 0 0, .slice none 0 0, .slice none 0 0, .slice none 0 0, .slice none 0 0, .slice none 0 0, .slice none 0 0, .slice none 0 0, .slice none 0 0, .slice none 0 0, .slice none 0 0, .slice none 0 0, .slice none 0 0, .slice none 0 0, .slice none 0 0, .slice none 0 0, .slice none 0 0, .slice none 0 0, .slice none 0 0, .slice none 0 0, .slice none 0 0, .slice none 0 0, .slice none 0 0, .slice none 0 0, .slice none 0 0, .slice none 0 0, .slice none 0 0, .slice none 0 0, .slice none 0 0, .slice none 0 0, .slice none 0 0, .slice none 0 0, .slice none 0 0, .slice none 0 0, .slice none 0 0, .slice none 0 0, .slice none 0 0, .slice none 0 0, .slice none 0 0, .slice none 0 0, .slice none 0 0, .slice none 0 0, .slice none 0 0, .slice none 0 0, .slice none 0 0, .slice none 0 0, .slice none 0 0, .slice none 0 0, .slice none 0 0, .slice none 0 0, .slice none 0 0, .slice none 0 0, .slice none 0 0, .slice none 0 0, .slice none 0 0, .slice none 0 0, .slice none 0 0, .slice none 0 0, .slice none 0 0, .slice none 0 0, .slice none 0 0, .slice none 0 0, .slice none 0 0, .slice none 0 0, .slice none 0 0, .slice none 0 0, .slice none 0 0, .slice none 0 0, .slice none 0 0, .slice none 0 0, .slice none 0 0, .slice none 0 0, .slice none 0 0, .slice none 0 0, .slice none 0 0, .slice none 0 0, .slice none 0 0, .slice none 0 0, .slice none 0 0, .slice none 0 0, .slice none 0 0, .slice none 0 0, .slice none 0 0, .slice none 0 0, .slice none 0 0, .slice none 0 0, .slice none 0 0, .slice none 0 0, .slice none 0 0, .slice none 0 0, .slice none 0 0, .slice none 0 0, .slice none 0 0, .slice none 0 0, .slice none 0 0, .slice none 0 0, .slice none 0 0, .slice none 0 0, .slice none 0 0, .slice none 0 0, .slice none 0 0, .slice none 0 0, .slice none 0 0, .slice none 0 0, .slice none 0 0, .slice none 0 0, .slice none 0 0, .slice none 0 0, .slice none 0 0, .slice none 0 0, .slice none 0 0, .slice none 0 0, .slice none 0 0, .slice none 0 0, .slice none 0 0, .slice none 0 0, .slice none 0 0, .slice none 0 0, .slice none 0 0, .slice none 0 0, .slice none 0 0, .slice none 0 0, .slice none 0 0, .slice none 0 0, .slice none 0 0, .slice none 0 0, .slice none 0 0, .slice none 0 0, .slice none 0 0, .slice none 0 0, .slice none 0 0, .slice none 0 0, .slice none 0 0, .slice none 0 0, .slice none 0 0, .slice none 0 0, .slice none 0 0, .slice none 0 0, .slice none 0 0, .slice none 0 0, .slice none 0 0, .slice none 0 0, .slice none 0 0, .slice none 0 0, .slice none 0 0, .slice none 0 0, .slice none 0 0, .slice none 0 0, .slice none 0 0, .slice none 0 0, .slice none 0 0, .slice none 0 0, .slice none 0 0, .slice none 0 0, .slice none 0 0, .slice none 0 0, .slice none 0 0, .slice none 0 0, .slice none 0 0, .slice none 0 0, .slice none 0 0, .slice none 0 0, .slice none 0 0, .slice none 0 0, .slice none 0 0, .slice none 0 0, .slice none 0 0, .slice none 0 0, .slice none 0 0, .slice none 0 0, .slice none 0 0, .slice none 0 0, .slice none 0 0, .slice none 0 0, .slice none 0 0, .slice none 0 0, .slice none 0 0, .slice none 0 0, .slice none 0 0, .slice none 0 0, .slice none 0 0, .slice none 0 0, .slice none 0 0, .slice none 0 0, .slice none 0 0, .slice none 0 0, .slice none 0 0, .slice none 0 0, .slice none 0 0, .slice none 0 0, .slice none 0 0, .slice none 0 0, .slice none 0 0, .slice none 0 0, .slice none 0 0, .slice none 0 0, .slice none 0 0, .slice none 0 0, .slice none 0 0, .slice none 0 0, .slice none 0 0, .slice none 0 0, .slice none 0 0, .slice none 0 0, .slice none 0 0, .slice none 0 0, .slice none 0 0, .slice none 0 0, .slice none 0 0, .slice none 0 0, .slice none 0 0, .slice none 0 0, .slice none 0 0, .slice none 0 0, .slice none 0 0, .slice none 0 0, .slice none 0 0, .slice none 0 0, .slice none 0 0, .slice none 0 0, .slice none 0 0, .slice none 0 0, .slice none 0 0, .slice none 0 0, .slice none 0 0, .slice none 0 0, .slice none 0 0, .slice none 0 0, .slice none 0 0, .slice none 0 0, .slice none 0 0, .slice none 0 0, .slice none 0 0, .slice none 0 0, .slice none 0 0, .slice none 0 0, .slice none 0 0, .slice none 0 0, .slice none 0 0, .slice none 0 0, .slice none 0 0, .slice none 0 0, .slice none 0 0, .slice none 0 0, .slice none 0 0, .slice none 0 0, .slice none 0 0, .slice none 0 0, .slice none 0 0, .slice none 0 0]), (133, .agg #[.slice none 0 0, .slice none 0 0, .slice none 0 0, .slice none 0 0, .slice none 0 0, .slice none 0 0, .slice none 0 0, .slice none 0 0, .slice none 0 0, .slice none 0 0, .slice none 0 0, .slice none 0 0, .slice none 0 0, .slice none 0 0, .slice none 0 0, .slice none 0 0, .slice none 0 0, .slice none 0 0, .slice none 0 0, .slice none 0 0, .slice none 0 0, .slice none 0 0, .slice none 0 0, .slice none 0 0, .slice none 0 0, .slice none 0 0, .slice none 0 0, .slice none 0 0, .slice none 0 0, .slice none 0 0, .slice none 0 0, .slice none 0 0, .slice none 0 0, .slice none 0 0, .slice none 0 0, .slice none 0 0, .slice none 0 0, .slice none 0 0, .slice none 0 0, .slice none 0 0, .slice none 0 0, .slice none 0 0, .slice none 0 0, .slice none 0 0, .slice none 0 0, .slice none 0 0, .slice none 0 0, .slice none 0 0, .slice none 0 0, .slice none 0 0, .slice none 0 0, .slice none 0 0, .slice none 0 0, .slice none 0 0, .slice none 0 0, .slice none 0 0, .slice none 0 0, .slice none 0 0, .slice none 0 0, .slice none 0 0, .slice none 0 0, .slice none 0 0, .slice none 0 0, .slice none 0 0, .slice none 0 0, .slice none 0 0, .slice none 0 0, .slice none 0 0, .slice none 0 0, .slice none 0 0, .slice none 0 0, .slice none 0 0, .slice none 0 0, .slice none 0 0, .slice none 0 0, .slice none 0 0, .slice none 0 0, .slice none 0 0, .slice none 0 0, .slice none 0 0, .slice none 0 0, .slice none 0 0, .slice none 0 0, .slice none 0 0, .slice none 0 0, .slice none 0 0, .slice none 0 0, .slice none 0 0, .slice none 0 0, .slice none 0 0, .slice none 0 0, .slice none 0 0, .slice none 0 0, .slice none 0 0, .slice none 0 0, .slice none 0 0, .slice none 0 0, .slice none 0 0, .slice none 0 0, .slice none 0 0, .slice none 0 0, .slice none 0 0, .slice none 0 0, .slice none 0 0, .slice none 0 0, .slice none 0 0, .slice none 0 0, .slice none 0 0, .slice none 0 0, .slice none 0 0, .slice none 0 0, .slice none 0 0, .slice none 0 0, .slice none 0 0, .slice none 0 0, .slice none 0 0, .slice none 0 0, .slice none 0 0, .slice none 0 0, .slice none 0 0, .slice none 0 0, .slice none 0 0, .slice none 0 0, .slice none 0 0, .slice none 0 0, .slice none 0 0, .slice none 0 0, .slice none 0 0, .slice none 0 0, .slice none 0 0, .slice none 0 0, .slice none 0 0, .slice none 0 0, .slice none 0 0, .slice none 0 0, .slice none 0 0, .slice none 0 0, .slice none 0 0, .slice none 0 0, .slice none 0 0, .slice none 0 0, .slice none 0 0, .slice none 0 0, .slice none 0 0, .slice none 0 0, .slice none 0 0, .slice none 0 0, .slice none 0 0, .slice none 0 0, .slice none 0 0, .slice none 0 0, .slice none 0 0, .slice none 0 0, .slice none 0 0, .slice none 0 0, .slice none 0 0, .slice none 0 0, .slice none 0 0, .slice none 0 0, .slice none 0 0, .slice none 0 0, .slice none 0 0, .slice none 0 0, .slice none 0 0, .slice none 0 0, .slice none 0 0, .slice none 0 0, .slice none 0 0, .slice none 0 0, .slice none 0 0, .slice none 0 0, .slice none 0 0, .slice none 0 0, .slice none 0 0, .slice none 0 0, .slice none 0 0, .slice none 0 0, .slice none 0 0, .slice none 0 0, .slice none 0 0, .slice none 0 0, .slice none 0 0, .slice none 0 0, .slice none 0 0, .slice none 0 0, .slice none 0 0, .slice none 0 0, .slice none 0 0, .slice none 0 0, .slice none 0 0, .slice none 0 0, .slice none 0 0, .slice none 0 0, .slice none 0 0, .slice none 0 0, .slice none 0 0, .slice none 0 0, .slice none 0 0, .slice none 0 0, .slice none 0 0, .slice none 0 0, .slice none 0 0, .slice none 0 0, .slice none 0 0, .slice none 0 0, .slice none 0 0, .slice none 0 0, .slice none 0 0, .slice none 0 0, .slice none 0 0, .slice none 0 0, .slice none 0 0, .slice none 0 0, .slice none 0 0, .slice none 0 0, .slice none 0 0, .slice none 0 0, .slice none 0 0, .slice none 0 0, .slice none 0 0, .slice none 0 0, .slice none 0 0, .slice none 0 0, .slice none 0 0, .slice none 0 0, .slice none 0 0, .slice none 0 0, .slice none 0 0, .slice none 0 0, .slice none 0 0, .slice none 0 0, .slice none 0 0, .slice none 0 0, .slice none 0 0, .slice none 0 0, .slice none 0 0, .slice none 0 0, .slice none 0 0, .slice none 0 0, .slice none 0 0, .slice none 0 0, .slice none 0 0, .slice none 0 0, .slice none 0 0, .slice none 0 0, .slice none 0 0, .slice none 0 0, .slice none 0 0, .slice none 0 0, .slice none 0 0, .slice none 0 0, .slice none 0 0, .slice none 0 0, .slice none 0 0, .slice none 0 0, .slice none 0 0, .slice none 0 0]), (134, .agg #[.slice none 0 0, .slice none 0 0, .slice none 0 0, .slice none 0 0, .slice none 0 0, .slice none 0 0, .slice none 0 0, .slice none 0 0, .slice none 0 0, .slice none 0 0, .slice none 0 0, .slice none 0 0, .slice none 0 0, .slice none 0 0, .slice none 0 0, .slice none 0 0, .slice none 0 0, .slice none 0 0, .slice none 0 0, .slice none 0 0, .slice none 0 0, .slice none 0 0, .slice none 0 0, .slice none 0 0, .slice none 0 0, .slice none 0 0, .slice none 0 0, .slice none 0 0, .slice none 0 0, .slice none 0 0, .slice none 0 0, .slice none 0 0, .slice none 0 0, .slice none 0 0, .slice none 0 0, .slice none 0 0, .slice none 0 0, .slice none 0 0, .slice none 0 0, .slice none 0 0, .slice none 0 0, .slice none 0 0, .slice none 0 0, .slice none 0 0, .slice none 0 0, .slice none 0 0, .slice none 0 0, .slice none 0 0, .slice none 0 0, .slice none 0 0, .slice none 0 0, .slice none 0 0, .slice none 0 0, .slice none 0 0, .slice none 0 0, .slice none 0 0, .slice none 0 0, .slice none 0 0, .slice none 0 0, .slice none 0 0, .slice none 0 0, .slice none 0 0, .slice none 0 0, .slice none 0 0, .slice none 0 0, .slice none 0 0, .slice none 0 0, .slice none 0 0, .slice none 0 0, .slice none 0 0, .slice none 0 0, .slice none 0 0, .slice none 0 0, .slice none 0 0, .slice none 0 0, .slice none 0 0, .slice none 0 0, .slice none 0 0, .slice none 0 0, .slice none 0 0, .slice none 0 0, .slice none 0 0, .slice none 0 0, .slice none 0 0, .slice none 0 0, .slice none 0 0, .slice none 0 0, .slice none 0 0, .slice none 0 0, .slice none 0 0, .slice none 0 0, .slice none 0 0, .slice none 0 0, .slice none 0 0, .slice none 0 0, .slice none 0 0, .slice none 0 0, .slice none 0 0, .slice none 0 0, .slice none 0 0, .slice none 0 0, .slice none 0 0, .slice none 0 0, .slice none 0 0, .slice none 0 0, .slice none 0 0, .slice none 0 0, .slice none 0 0, .slice none 0 0, .slice none 0 0, .slice none 0 0, .slice none 0 0, .slice none 0 0, .slice none 0 0, .slice none 0 0, .slice none 0 0, .slice none 0 0, .slice none 0 0, .slice none 0 0, .slice none 0 0, .slice none 0 0, .slice none 0 0, .slice none 0 0, .slice none 0 0, .slice none 0 0, .slice none 0 0, .slice none 0 0, .slice none 0 0, .slice none 0 0, .slice none 0 0, .slice none 0 0, .slice none 0 0, .slice none 0 0, .slice none 0 0, .slice none 0 0, .slice none 0 0, .slice none 0 0, .slice none 0 0, .slice none 0 0, .slice none 0 0, .slice none 0 0, .slice none 0 0, .slice none 0 0, .slice none 0 0, .slice none 0 0, .slice none 0 0, .slice none 0 0, .slice none 0 0, .slice none 0 0, .slice none 0 0, .slice none 0 0, .slice none 0 0, .slice none 0 0, .slice none 0 0, .slice none 0 0, .slice none 0 0, .slice none 0 0, .slice none 0 0, .slice none 0 0, .slice none 0 0, .slice none 0 0, .slice none 0 0, .slice none 0 0, .slice none 0 0, .slice none 0 0, .slice none 0 0, .slice none 0 0, .slice none 0 0, .slice none 0 0, .slice none 0 0, .slice none 0 0, .slice none 0 0, .slice none 0 0, .slice none 0 0, .slice none 0 0, .slice none 0 0, .slice none 0 0, .slice none 0 0, .slice none 0 0, .slice none 0 0, .slice none 0 0, .slice none 0 0, .slice none 0 0, .slice none 0 0, .slice none 0 0, .slice none 0 0, .slice none 0 0, .slice none 0 0, .slice none 0 0, .slice none 0 0, .slice none 0 0, .slice none 0 0, .slice none 0 0, .slice none 0 0, .slice none 0 0, .slice none 0 0, .slice none 0 0, .slice none 0 0, .slice none 0 0, .slice none 0 0, .slice none 0 0, .slice none 0 0, .slice none 0 0, .slice none 0 0, .slice none 0 0, .slice none 0 0, .slice none 0 0, .slice none 0 0, .slice none 0 0, .slice none 0 0, .slice none 0 0, .slice none 0 0, .slice none 0 0, .slice none 0 0, .slice none 0 0, .slice none 0 0, .slice none 0 0, .slice none 0 0, .slice none 0 0, .slice none 0 0, .slice none 0 0, .slice none 0 0, .slice none 0 0, .slice none 0 0, .slice none 0 0, .slice none 0 0, .slice none 0 0, .slice none 0 0, .slice none 0 0, .slice none 0 0, .slice none 0 0, .slice none 0 0, .slice none 0 0, .slice none 0 0, .slice none 0 0, .slice none 0 0, .slice none 0 0, .slice none 0 0, .slice none 0 0, .slice none 0 0, .slice none 0 0, .slice none 0 0, .slice none 0 0, .slice none 0 0, .slice none 0 0, .slice none 0 0, .slice none 0 0, .slice none 0 0, .slice none 0 0, .slice none 0 0, .slice none 0 0, .slice none 0 0, .slice none 0 0, .slice none 0 0, .slice none 0 0, .slice none 0 0, .slice none 0 0]), (135, .pointer none), (137, .nilFunc), (138, .nilFunc), (139, .pointer none), (141, .nilFunc), (142, .pointer none), (143, .nilFunc), (144, .nilFunc), (145, .pointer none), (146, .nilFunc), (147, .agg #[.pointer none, .string ByteArray.empty]), (148, .agg #[.pointer none, .string ByteArray.empty]), (149, .pointer none), (150, .slice none 0 0), (151, .agg #[.string ByteArray.empty, .int .i64 0, .string ByteArray.empty, .pointer none, .slice none 0 0]), (152, .agg #[.string ByteArray.empty, .int .i64 0, .string ByteArray.empty, .pointer none, .slice none 0 0]), (153, .agg #[.string ByteArray.empty, .int .i64 0, .string ByteArray.empty, .pointer none, .slice none 0 0, .int .i64 0, .int .u8 0, .int .u8 0, .int .u8 0, .int .u8 0, .int .u8 0, .int .u8 0, .int .u8 0, .int .u8 0, .int .u8 0, .int .u8 0, .int .u8 0, .int .u8 0, .int .u8 0, .int .u8 0, .int .u8 0, .int .u8 0, .int .u8 0, .int .u8 0, .int .u8 0, .int .u8 0, .int .u8 0, .int .u8 0, .int .u8 0, .int .u8 0, .int .u8 0, .int .u8 0, .int .u8 0, .int .u8 0, .int .u8 0, .int .u8 0, .int .u8 0, .int .u8 0, .int .u8 0, .int .u8 0, .int .u8 0, .int .u8 0, .int .u8 0, .int .u8 0, .int .u8 0, .int .u8 0, .int .u8 0, .int .u8 0, .int .u8 0, .int .u8 0, .int .u8 0, .int .u8 0, .int .u8 0, .int .u8 0, .int .u8 0, .int .u8 0, .int .u8 0, .int .u8 0, .int .u8 0, .int .u8 0, .int .u8 0, .int .u8 0, .int .u8 0, .int .u8 0, .int .u8 0, .int .u8 0, .int .u8 0, .int .u8 0, .int .u8 0, .int .u8 0, .int .u8 0, .int .u8 0, .int .u8 0, .int .u8 0, .int .u8 0, .int .u8 0, .int .u8 0, .int .u8 0, .int .u8 0, .int .u8 0, .int .u8 0, .int .u8 0, .int .u8 0, .int .u8 0, .int .u8 0, .int .u8 0, .int .u8 0, .int .u8 0, .int .u8 0, .int .u8 0, .int .u8 0, .int .u8 0, .int .u8 0, .int .u8 0, .int .u8 0, .int .u8 0, .int .u8 0, .int .u8 0, .int .u8 0, .int .u8 0, .int .u8 0, .int .u8 0, .int .u8 0, .int .u8 0, .int .u8 0, .int .u8 0, .int .u8 0, .int .u8 0, .int .u8 0, .int .u8 0, .int .u8 0, .int .u8 0, .int .u8 0, .int .u8 0, .int .u8 0, .int .u8 0, .int .u8 0, .int .u8 0, .int .u8 0, .int .u8 0, .int .u8 0, .int .u8 0, .int .u8 0, .int .u8 0, .int .u8 0, .int .u8 0, .int .u8 0, .int .u8 0, .int .u8 0, .int .u8 0, .int .u8 0, .int .u8 0, .int .u8 0, .int .u8 0, .int .u8 0, .int .u8 0, .int .u8 0, .int .u8 0, .int .u8 0, .int .u8 0, .int .u8 0, .int .u8 0, .int .u8 0, .int .u8 0, .int .u8 0, .int .u8 0, .int .u8 0, .int .u8 0, .int .u8 0, .int .u8 0, .int .u8 0, .int .u8 0, .int .u8 0, .int .u8 0, .int .u8 0, .int .u8 0, .int .u8 0, .int .u8 0, .int .u8 0, .int .u8 0, .int .u8 0, .int .u8 0, .int .u8 0, .int .u8 0, .int .u8 0, .int .u8 0, .int .u8 0, .int .u8 0, .int .u8 0, .int .u8 0, .int .u8 0, .int .u8 0, .int .u8 0, .int .u8 0, .int .u8 0, .int .u8 0, .int .u8 0, .int .u8 0, .int .u8 0, .int .u8 0, .int .u8 0, .int .u8 0, .int .u8 0, .int .u8 0, .int .u8 0, .int .u8 0, .int .u8 0, .int .u8 0, .int .u8 0, .int .u8 0, .int .u8 0, .int .u8 0, .int .u8 0, .int .u8 0, .int .u8 0, .int .u8 0, .int .u8 0, .int .u8 0, .int .u8 0, .int .u8 0, .int .u8 0, .int .u8 0, .int .u8 0, .int .u8 0, .int .u8 0, .int .u8 0, .int .u8 0, .int .u8 0, .int .u8 0, .int .u8 0, .int .u8 0, .int .u8 0, .int .u8 0, .int .u8 0, .int .u8 0, .int .u8 0, .int .u8 0, .int .u8 0, .int .u8 0, .int .u8 0, .int .u8 0, .int .u8 0, .int .u8 0, .int .u8 0, .int .u8 0, .int .u8 0, .int .u8 0, .int .u8 0, .int .u8 0, .int .u8 0, .int .u8 0, .int .u8 0, .int .u8 0, .int .u8 0, .int .u8 0, .int .u8 0, .int .u8 0, .int .u8 0, .int .u8 0, .int .u8 0, .int .u8 0, .int .u8 0, .int .u8 0, .int .u8 0, .int .u8 0, .int .u8 0, .int .u8 0, .int .u8 0, .int .u8 0, .int .u8 0, .int .u8 0, .int .u8 0, .int .u8 0, .int .u8 0, .int .u8 0, .int .u8 0, .int .u8 0, .int .u8 0, .int .u8 0, .int .u8 0, .int .u8 0, .int .u8 0]), (154, .agg #[.string ByteArray.empty, .int .i64 0, .string ByteArray.empty, .pointer none, .slice none 0 0, .int .i64 0, .int .u8 0, .int .u8 0, .int .u8 0, .int .u8 0, .int .u8 0, .int .u8 0, .int .u8 0, .int .u8 0, .int .u8 0, .int .u8 0, .int .u8 0, .int .u8 0, .int .u8 0, .int .u8 0, .int .u8 0, .int .u8 0, .int .u8 0, .int .u8 0, .int .u8 0, .int .u8 0, .int .u8 0, .int .u8 0, .int .u8 0, .int .u8 0, .int .u8 0, .int .u8 0, .int .u8 0, .int .u8 0, .int .u8 0, .int .u8 0, .int .u8 0, .int .u8 0, .int .u8 0, .int .u8 0, .int .u8 0, .int .u8 0, .int .u8 0, .int .u8 0, .int .u8 0, .int .u8 0, .int .u8 0, .int .u8 0, .int .u8 0, .int .u8 0, .int .u8 0, .int .u8 0, .int .u8 0, .int .u8 0, .int .u8 0, .int .u8 0, .int .u8 0, .int .u8 0, .int .u8 0, .int .u8 0, .int .u8 0, .int .u8 0, .int .u8 0, .int .u8 0, .int .u8 0, .int .u8 0, .int .u8 0, .int .u8 0, .int .u8 0, .int .u8 0, .int .u8 0, .int .u8 0, .int .u8 0, .int .u8 0, .int .u8 0, .int .u8 0, .int .u8 0, .int .u8 0, .int .u8 0, .int .u8 0, .int .u8 0, .int .u8 0, .int .u8 0, .int .u8 0, .int .u8 0, .int .u8 0, .int .u8 0, .int .u8 0, .int .u8 0, .int .u8 0, .int .u8 0, .int .u8 0, .int .u8 0, .int .u8 0, .int .u8 0, .int .u8 0, .int .u8 0, .int .u8 0, .int .u8 0, .int .u8 0, .int .u8 0, .int .u8 0, .int .u8 0, .int .u8 0, .int .u8 0, .int .u8 0, .int .u8 0, .int .u8 0, .int .u8 0, .int .u8 0, .int .u8 0, .int .u8 0, .int .u8 0, .int .u8 0, .int .u8 0, .int .u8 0, .int .u8 0, .int .u8 0, .int .u8 0, .int .u8 0, .int .u8 0, .int .u8 0, .int .u8 0, .int .u8 0, .int .u8 0, .int .u8 0, .int .u8 0, .int .u8 0, .int .u8 0, .int .u8 0, .int .u8 0, .int .u8 0, .int .u8 0, .int .u8 0, .int .u8 0, .int .u8 0, .int .u8 0, .int .u8 0, .int .u8 0, .int .u8 0, .int .u8 0, .int .u8 0, .int .u8 0, .int .u8 0, .int .u8 0, .int .u8 0, .int .u8 0, .int .u8 0, .int .u8 0, .int .u8 0, .int .u8 0, .int .u8 0, .int .u8 0, .int .u8 0, .int .u8 0, .int .u8 0, .int .u8 0, .int .u8 0, .int .u8 0, .int .u8 0, .int .u8 0, .int .u8 0, .int .u8 0, .int .u8 0, .int .u8 0, .int .u8 0, .int .u8 0, .int .u8 0, .int .u8 0, .int .u8 0, .int .u8 0, .int .u8 0, .int .u8 0, .int .u8 0, .int .u8 0, .int .u8 0, .int .u8 0, .int .u8 0, .int .u8 0, .int .u8 0, .int .u8 0, .int .u8 0, .int .u8 0, .int .u8 0, .int .u8 0, .int .u8 0, .int .u8 0, .int .u8 0, .int .u8 0, .int .u8 0, .int .u8 0, .int .u8 0, .int .u8 0, .int .u8 0, .int .u8 0, .int .u8 0, .int .u8 0, .int .u8 0, .int .u8 0, .int .u8 0, .int .u8 0, .int .u8 0, .int .u8 0, .int .u8 0, .int .u8 0, .int .u8 0, .int .u8 0, .int .u8 0, .int .u8 0, .int .u8 0, .int .u8 0, .int .u8 0, .int .u8 0, .int .u8 0, .int .u8 0, .int .u8 0, .int .u8 0, .int .u8 0, .int .u8 0, .int .u8 0, .int .u8 0, .int .u8 0, .int .u8 0, .int .u8 0, .int .u8 0, .int .u8 0, .int .u8 0, .int .u8 0, .int .u8 0, .int .u8 0, .int .u8 0, .int .u8 0, .int .u8 0, .int .u8 0, .int .u8 0, .int .u8 0, .int .u8 0, .int .u8 0, .int .u8 0, .int .u8 0, .int .u8 0, .int .u8 0, .int .u8 0, .int .u8 0, .int .u8 0, .int .u8 0, .int .u8 0, .int .u8 0, .int .u8 0, .int .u8 0, .int .u8 0, .int .u8 0, .int .u8 0, .int .u8 0, .int .u8 0, .int .u8 0, .int .u8 0, .int .u8 0, .int .u8 0, .int .u8 0, .int .u8 0, .int .u8 0]), (155, .nilFunc), (156, .pointer none), (157, .nilFunc), (158, .pointer none), (159, .nilFunc), (160, .nilFunc), (161, .nilFunc), (162, .slice none 0 0), (163, .agg #[.int .i64 0, .int .i64 0, .int .i64 0, .int .i64 0, .int .i64 0, .int .i64 0, .int .i64 0, .int .i64 0, .int .i64 0, .int .i64 0, .int .i64 0, .int .i64 0, .int .i64 0, .int .i64 0, .int .i64 0, .int .i64 0, .int .i64 0, .int .i64 0, .int .i64 0, .int .i64 0, .int .i64 0, .int .i64 0, .int .i64 0, .int .i64 0, .int .i64 0, .int .i64 0, .int .i64 0, .int .i64 0, .int .i64 0, .int .i64 0, .int .i64 0, .int .i64 0, .int .i64 0, .int .i64 0, .int .i64 0, .int .i64 0, .int .i64 0, .int .i64 0, .int .i64 0, .int .i64 0, .int .i64 0, .int .i64 0, .int .i64 0, .int .i64 0, .int .i64 0, .int .i64 0, .int .i64 0, .int .i64 0, .int .i64 0, .int .i64 0, .int .i64 0, .int .i64 0, .int .i64 0, .int .i64 0, .int .i64 0, .int .i64 0, .int .i64 0, .int .i64 0, .int .i64 0, .int .i64 0, .int .i64 0, .int .i64 0, .int .i64 0, .int .i64 0, .int .i64 0, .int .i64 0, .int .i64 0, .int .i64 0, .int .i64 0, .int .i64 0, .int .i64 0, .int .i64 0, .int .i64 0, .int .i64 0, .int .i64 0, .int .i64 0, .int .i64 0, .int .i64 0, .int .i64 0, .int .i64 0, .int .i64 0, .int .i64 0, .int .i64 0, .int .i64 0, .int .i64 0, .int .i64 0, .int .i64 0, .int .i64 0, .int .i64 0, .int .i64 0, .int .i64 0, .int .i64 0, .int .i64 0, .int .i64 0, .int .i64 0, .int .i64 0, .int .i64 0, .int .i64 0, .int .i64 0, .int .i64 0, .int .i64 0, .int .i64 0, .int .i64 0, .int .i64 0, .int .i64 0, .int .i64 0, .int .i64 0, .int .i64 0, .int .i64 0, .int .i64 0, .int .i64 0, .int .i64 0, .int .i64 0, .int .i64 0, .int .i64 0, .int .i64 0, .int .i64 0, .int .i64 0, .int .i64 0, .int .i64 0, .int .i64 0, .int .i64 0, .int .i64 0, .int .i64 0, .int .i64 0, .int .i64 0, .int .i64 0, .int .i64 0, .int .i64 0, .int .i64 0, .int .i64 0, .int .i64 0, .int .i64 0, .int .i64 0, .int .i64 0, .int .i64 0, .int .i64 0, .int .i64 0, .int .i64 0, .int .i64 0, .int .i64 0, .int .i64 0, .int .i64 0, .int .i64 0, .int .i64 0, .int .i64 0, .int .i64 0, .int .i64 0, .int .i64 0, .int .i64 0, .int .i64 0, .int .i64 0, .int .i64 0, .int .i64 0, .int .i64 0, .int .i64 0, .int .i64 0, .int .i64 0, .int .i64 0, .int .i64 0, .int .i64 0, .int .i64 0, .int .i64 0, .int .i64 0, .int .i64 0, .int .i64 0, .int .i64 0, .int .i64 0, .int .i64 0, .int .i64 0, .int .i64 0, .int .i64 0, .int .i64 0, .int .i64 0, .int .i64 0, .int .i64 0, .int .i64 0, .int .i64 0, .int .i64 0, .int .i64 0, .int .i64 0, .int .i64 0, .int .i64 0, .int .i64 0, .int .i64 0, .int .i64 0, .int .i64 0, .int .i64 0, .int .i64 0, .int .i64 0, .int .i64 0, .int .i64 0, .int .i64 0, .int .i64 0, .int .i64 0, .int .i64 0, .int .i64 0, .int .i64 0, .int .i64 0, .int .i64 0, .int .i64 0, .int .i64 0, .int .i64 0, .int .i64 0, .int .i64 0, .int .i64 0, .int .i64 0, .int .i64 0, .int .i64 0, .int .i64 0, .int .i64 0, .int .i64 0, .int .i64 0, .int .i64 0, .int .i64 0, .int .i64 0, .int .i64 0, .int .i64 0, .int .i64 0, .int .i64 0, .int .i64 0, .int .i64 0, .int .i64 0, .int .i64 0, .int .i64 0, .int .i64 0, .int .i64 0, .int .i64 0, .int .i64 0, .int .i64 0, .int .i64 0, .int .i64 0, .int .i64 0, .int .i64 0, .int .i64 0, .int .i64 0, .int .i64 0, .int .i64 0, .int .i64 0, .int .i64 0, .int .i64 0, .int .i64 0, .int .i64 0, .int .i64 0, .int .i64 0, .int .i64 0, .int .i64 0, .int .i64 0, .int .i64 0, .int .i64 0, .int .i64 0, .int .i64 0, .int .i64 0, .int .i64 0, .int .i64 0, .int .i64 0]), (164, .agg #[.string ByteArray.empty, .int .i64 0, .int .i64 0, .int .i64 0, .int .i64 0, .int .i64 0, .int .i64 0, .int .i64 0, .int .i64 0, .int .i64 0, .int .i64 0, .int .i64 0, .int .i64 0, .int .i64 0, .int .i64 0, .int .i64 0, .int .i64 0, .int .i64 0, .int .i64 0, .int .i64 0, .int .i64 0, .int .i64 0, .int .i64 0, .int .i64 0, .int .i64 0, .int .i64 0, .int .i64 0, .int .i64 0, .int .i64 0, .int .i64 0, .int .i64 0, .int .i64 0, .int .i64 0, .int .i64 0, .int .i64 0, .int .i64 0, .int .i64 0, .int .i64 0, .int .i64 0, .int .i64 0, .int .i64 0, .int .i64 0, .int .i64 0, .int .i64 0, .int .i64 0, .int .i64 0, .int .i64 0, .int .i64 0, .int .i64 0, .int .i64 0, .int .i64 0, .int .i64 0, .int .i64 0, .int .i64 0, .int .i64 0, .int .i64 0, .int .i64 0, .int .i64 0, .int .i64 0, .int .i64 0, .int .i64 0, .int .i64 0, .int .i64 0, .int .i64 0, .int .i64 0, .int .i64 0, .int .i64 0, .int .i64 0, .int .i64 0, .int .i64 0, .int .i64 0, .int .i64 0, .int .i64 0, .int .i64 0, .int .i64 0, .int .i64 0, .int .i64 0, .int .i64 0, .int .i64 0, .int .i64 0, .int .i64 0, .int .i64 0, .int .i64 0, .int .i64 0, .int .i64 0, .int .i64 0, .int .i64 0, .int .i64 0, .int .i64 0, .int .i64 0, .int .i64 0, .int .i64 0, .int .i64 0, .int .i64 0, .int .i64 0, .int .i64 0, .int .i64 0, .int .i64 0, .int .i64 0, .int .i64 0, .int .i64 0, .int .i64 0, .int .i64 0, .int .i64 0, .int .i64 0, .int .i64 0, .int .i64 0, .int .i64 0, .int .i64 0, .int .i64 0, .int .i64 0, .int .i64 0, .int .i64 0, .int .i64 0, .int .i64 0, .int .i64 0, .int .i64 0, .int .i64 0, .int .i64 0, .int .i64 0, .int .i64 0, .int .i64 0, .int .i64 0, .int .i64 0, .int .i64 0, .int .i64 0, .int .i64 0, .int .i64 0, .int .i64 0, .int .i64 0, .int .i64 0, .int .i64 0, .int .i64 0, .int .i64 0, .int .i64 0, .int .i64 0, .int .i64 0, .int .i64 0, .int .i64 0, .int .i64 0, .int .i64 0, .int .i64 0, .int .i64 0, .int .i64 0, .int .i64 0, .int .i64 0, .int .i64 0, .int .i64 0, .int .i64 0, .int .i64 0, .int .i64 0, .int .i64 0, .int .i64 0, .int .i64 0, .int .i64 0, .int .i64 0, .int .i64 0, .int .i64 0, .int .i64 0, .int .i64 0, .int .i64 0, .int .i64 0, .int .i64 0, .int .i64 0, .int .i64 0, .int .i64 0, .int .i64 0, .int .i64 0, .int .i64 0, .int .i64 0, .int .i64 0, .int .i64 0, .int .i64 0, .int .i64 0, .int .i64 0, .int .i64 0, .int .i64 0, .int .i64 0, .int .i64 0, .int .i64 0, .int .i64 0, .int .i64 0, .int .i64 0, .int .i64 0, .int .i64 0, .int .i64 0, .int .i64 0, .int .i64 0, .int .i64 0, .int .i64 0, .int .i64 0, .int .i64 0, .int .i64 0, .int .i64 0, .int .i64 0, .int .i64 0, .int .i64 0, .int .i64 0, .int .i64 0, .int .i64 0, .int .i64 0, .int .i64 0, .int .i64 0, .int .i64 0, .int .i64 0, .int .i64 0, .int .i64 0, .int .i64 0, .int .i64 0, .int .i64 0, .int .i64 0, .int .i64 0, .int .i64 0, .int .i64 0, .int .i64 0, .int .i64 0, .int .i64 0, .int .i64 0, .int .i64 0, .int .i64 0, .int .i64 0, .int .i64 0, .int .i64 0, .int .i64 0, .int .i64 0, .int .i64 0, .int .i64 0, .int .i64 0, .int .i64 0, .int .i64 0, .int .i64 0, .int .i64 0, .int .i64 0, .int .i64 0, .int .i64 0, .int .i64 0, .int .i64 0, .int .i64 0, .int .i64 0, .int .i64 0, .int .i64 0, .int .i64 0, .int .i64 0, .int .i64 0, .int .i64 0, .int .i64 0, .int .i64 0, .int .i64 0, .int .i64 0, .int .i64 0, .int .i64 0, .int .i64 0, .int .i64 0, .int .i64 0, .int .i64 0, .int .i64 0, .int .i64 0, .slice none 0 0]), (165, .agg #[.string ByteArray.empty, .int .i64 0, .int .i64 0, .int .i64 0, .int .i64 0, .int .i64 0, .int .i64 0, .int .i64 0, .int .i64 0, .int .i64 0, .int .i64 0, .int .i64 0, .int .i64 0, .int .i64 0, .int .i64 0, .int .i64 0, .int .i64 0, .int .i64 0, .int .i64 0, .int .i64 0, .int .i64 0, .int .i64 0, .int .i64 0, .int .i64 0, .int .i64 0, .int .i64 0, .int .i64 0, .int .i64 0, .int .i64 0, .int .i64 0, .int .i64 0, .int .i64 0, .int .i64 0, .int .i64 0, .int .i64 0, .int .i64 0, .int .i64 0, .int .i64 0, .int .i64 0, .int .i64 0, .int .i64 0, .int .i64 0, .int .i64 0, .int .i64 0, .int .i64 0, .int .i64 0, .int .i64 0, .int .i64 0, .int .i64 0, .int .i64 0, .int .i64 0, .int .i64 0, .int .i64 0, .int .i64 0, .int .i64 0, .int .i64 0, .int .i64 0, .int .i64 0, .int .i64 0, .int .i64 0, .int .i64 0, .int .i64 0, .int .i64 0, .int .i64 0, .int .i64 0, .int .i64 0, .int .i64 0, .int .i64 0, .int .i64 0, .int .i64 0, .int .i64 0, .int .i64 0, .int .i64 0, .int .i64 0, .int .i64 0, .int .i64 0, .int .i64 0, .int .i64 0, .int .i64 0, .int .i64 0, .int .i64 0, .int .i64 0, .int .i64 0, .int .i64 0, .int .i64 0, .int .i64 0, .int .i64 0, .int .i64 0, .int .i64 0, .int .i64 0, .int .i64 0, .int .i64 0, .int .i64 0, .int .i64 0, .int .i64 0, .int .i64 0, .int .i64 0, .int .i64 0, .int .i64 0, .int .i64 0, .int .i64 0, .int .i64 0, .int .i64 0, .int .i64 0, .int .i64 0, .int .i64 0, .int .i64 0, .int .i64 0, .int .i64 0, .int .i64 0, .int .i64 0, .int .i64 0, .int .i64 0, .int .i64 0, .int .i64 0, .int .i64 0, .int .i64 0, .int .i64 0, .int .i64 0, .int .i64 0, .int .i64 0, .int .i64 0, .int .i64 0, .int .i64 0, .int .i64 0, .int .i64 0, .int .i64 0, .int .i64 0, .int .i64 0, .int .i64 0, .int .i64 0, .int .i64 0, .int .i64 0, .int .i64 0, .int .i64 0, .int .i64 0, .int .i64 0, .int .i64 0, .int .i64 0, .int .i64 0, .int .i64 0, .int .i64 0, .int .i64 0, .int .i64 0, .int .i64 0, .int .i64 0, .int .i64 0, .int .i64 0, .int .i64 0, .int .i64 0, .int .i64 0, .int .i64 0, .int .i64 0, .int .i64 0, .int .i64 0, .int .i64 0, .int .i64 0, .int .i64 0, .int .i64 0, .int .i64 0, .int .i64 0, .int .i64 0, .int .i64 0, .int .i64 0, .int .i64 0, .int .i64 0, .int .i64 0, .int .i64 0, .int .i64 0, .int .i64 0, .int .i64 0, .int .i64 0, .int .i64 0, .int .i64 0, .int .i64 0, .int .i64 0, .int .i64 0, .int .i64 0, .int .i64 0, .int .i64 0, .int .i64 0, .int .i64 0, .int .i64 0, .int .i64 0, .int .i64 0, .int .i64 0, .int .i64 0, .int .i64 0, .int .i64 0, .int .i64 0, .int .i64 0, .int .i64 0, .int .i64 0, .int .i64 0, .int .i64 0, .int .i64 0, .int .i64 0, .int .i64 0, .int .i64 0, .int .i64 0, .int .i64 0, .int .i64 0, .int .i64 0, .int .i64 0, .int .i64 0, .int .i64 0, .int .i64 0, .int .i64 0, .int .i64 0, .int .i64 0, .int .i64 0, .int .i64 0, .int .i64 0, .int .i64 0, .int .i64 0, .int .i64 0, .int .i64 0, .int .i64 0, .int .i64 0, .int .i64 0, .int .i64 0, .int .i64 0, .int .i64 0, .int .i64 0, .int .i64 0, .int .i64 0, .int .i64 0, .int .i64 0, .int .i64 0, .int .i64 0, .int .i64 0, .int .i64 0, .int .i64 0, .int .i64 0, .int .i64 0, .int .i64 0, .int .i64 0, .int .i64 0, .int .i64 0, .int .i64 0, .int .i64 0, .int .i64 0, .int .i64 0, .int .i64 0, .int .i64 0, .int .i64 0, .int .i64 0, .int .i64 0, .int .i64 0, .int .i64 0, .int .i64 0, .int .i64 0, .int .i64 0, .int .i64 0, .int .i64 0, .int .i64 0, .int .i64 0, .slice none 0 0]), (166, .nilFunc), (167, .nilFunc), (168, .nilFunc), (169, .nilFunc), (170, .nilFunc), (173, .agg #[]), (176, .nilFunc), (177, .int .u8 0), (178, .int .u8 0), (179, .nilFunc), (180, .int .i32 0), (181, .int .i32 0), (182, .agg #[.int .u64 0, .int .u64 0, .int .u32 0, .int .u8 0, .int .u8 0, .int .u8 0, .int .u8 0, .nilFunc, .pointer none, .int .i32 0, .int .i32 0]), (183, .agg #[.int .u64 0, .int .u64 0, .int .u32 0, .int .u8 0, .int .u8 0, .int .u8 0, .int .u8 0, .nilFunc, .pointer none, .int .i32 0, .int .i32 0]), (184, .nilFunc), (185, .nilFunc), (186, .slice none 0 0), (187, .pointer none), (188, .nilIface), (189, .nilIface), (190, .nilIface), (191, .nilIface), (192, .nilFunc), (194, .nilFunc), (196, .agg #[.nilIface]), (197, .agg #[.nilIface]), (198, .nilFunc), (199, .nilFunc), (200, .nilFunc), (202, .nilFunc)]
set_option maxRecDepth 100000 in
theorem TTy_ok : ∀ p ∈ TTy, Tryz.prog.underlying p.1 = some p.2 := by
  simp only [TTy, List.forall_mem_cons]
  exact ⟨Tryz.underlying1, Tryz.underlying2, Tryz.underlying3, Tryz.underlying4, Tryz.underlying5, Tryz.underlying6, Tryz.underlying9, Tryz.underlying10, Tryz.underlying11, Tryz.underlying12, Tryz.underlying15, Tryz.underlying16, Tryz.underlying17, Tryz.underlying20, Tryz.underlying21, Tryz.underlying22, Tryz.underlying23, Tryz.underlying25, Tryz.underlying26, Tryz.underlying27, Tryz.underlying28, Tryz.underlying29, Tryz.underlying30, Tryz.underlying31, Tryz.underlying33, Tryz.underlying34, Tryz.underlying35, Tryz.underlying36, Tryz.underlying37, Tryz.underlying38, Tryz.underlying39, Tryz.underlying40, Tryz.underlying41, Tryz.underlying42, Tryz.underlying43, Tryz.underlying44, Tryz.underlying45, Tryz.underlying47, Tryz.underlying48, Tryz.underlying49, Tryz.underlying50, Tryz.underlying51, Tryz.underlying52, Tryz.underlying53, Tryz.underlying54, Tryz.underlying56, Tryz.underlying57, Tryz.underlying58, Tryz.underlying59, Tryz.underlying60, Tryz.underlying61, Tryz.underlying62, Tryz.underlying63, Tryz.underlying64, Tryz.underlying65, Tryz.underlying66, Tryz.underlying67, Tryz.underlying68, Tryz.underlying69, Tryz.underlying70, Tryz.underlying71, Tryz.underlying72, Tryz.underlying73, Tryz.underlying74, Tryz.underlying75, Tryz.underlying76, Tryz.underlying77, Tryz.underlying78, Tryz.underlying79, Tryz.underlying82, Tryz.underlying83, Tryz.underlying84, Tryz.underlying85, Tryz.underlying86, Tryz.underlying87, Tryz.underlying88, Tryz.underlying89, Tryz.underlying90, Tryz.underlying91, Tryz.underlying92, Tryz.underlying93, Tryz.underlying94, Tryz.underlying95, Tryz.underlying96, Tryz.underlying97, Tryz.underlying99, Tryz.underlying100, Tryz.underlying101, Tryz.underlying102, Tryz.underlying103, Tryz.underlying105, Tryz.underlying106, Tryz.underlying107, Tryz.underlying108, Tryz.underlying109, Tryz.underlying110, Tryz.underlying111, Tryz.underlying112, Tryz.underlying113, Tryz.underlying114, Tryz.underlying115, Tryz.underlying116, Tryz.underlying117, Tryz.underlying118, Tryz.underlying119, Tryz.underlying120, Tryz.underlying121, Tryz.underlying122, Tryz.underlying123, Tryz.underlying124, Tryz.underlying125, Tryz.underlying126, Tryz.underlying127, Tryz.underlying128, Tryz.underlying129, Tryz.underlying130, Tryz.underlying131, Tryz.underlying132, Tryz.underlying133, Tryz.underlying134, Tryz.underlying135, Tryz.underlying137, Tryz.underlying138, Tryz.underlying139, Tryz.underlying141, Tryz.underlying142, Tryz.underlying143, Tryz.underlying144, Tryz.underlying145, Tryz.underlying146, Tryz.underlying147, Tryz.underlying148, Tryz.underlying149, Tryz.underlying150, Tryz.underlying151, Tryz.underlying152, Tryz.underlying153, Tryz.underlying154, Tryz.underlying155, Tryz.underlying156, Tryz.underlying157, Tryz.underlying158, Tryz.underlying159, Tryz.underlying160, Tryz.underlying161, Tryz.underlying162, Tryz.underlying163, Tryz.underlying164, Tryz.underlying165, Tryz.underlying166, Tryz.underlying167, Tryz.underlying168, Tryz.underlying169, Tryz.underlying170, Tryz.underlying173, Tryz.underlying176, Tryz.underlying177, Tryz.underlying178, Tryz.underlying179, Tryz.underlying180, Tryz.underlying181, Tryz.underlying182, Tryz.underlying183, Tryz.underlying184, Tryz.underlying185, Tryz.underlying186, Tryz.underlying187, Tryz.underlying188, Tryz.underlying189, Tryz.underlying190, Tryz.underlying191, Tryz.underlying192, Tryz.underlying194, Tryz.underlying196, Tryz.underlying197, Tryz.underlying198, Tryz.underlying199, Tryz.underlying200, Tryz.underlying202, by simp⟩
set_option maxRecDepth 100000 in
theorem TSz_ok : (TSz.all fun p => (Tryz.prog.info? p.1).any fun i => i.size == p.2.1 && i.bytes == p.2.2 && i.zero.any (fun z => z.cells.size == p.2.1)) = true := by kernel_rfl
set_option maxRecDepth 100000 in
theorem TZr_1 : (Tryz.prog.info? 1).bind (·.zero) = some (.nilFunc) := by kernel_rfl
set_option maxRecDepth 100000 in
theorem TZr_2 : (Tryz.prog.info? 2).bind (·.zero) = some (.int .i64 0) := by kernel_rfl
set_option maxRecDepth 100000 in
theorem TZr_3 : (Tryz.prog.info? 3).bind (·.zero) = some (.int .i64 0) := by kernel_rfl
set_option maxRecDepth 100000 in
theorem TZr_4 : (Tryz.prog.info? 4).bind (·.zero) = some (.bool false) := by kernel_rfl
set_option maxRecDepth 100000 in
theorem TZr_5 : (Tryz.prog.info? 5).bind (·.zero) = some (.int .u8 0) := by kernel_rfl
set_option maxRecDepth 100000 in
theorem TZr_6 : (Tryz.prog.info? 6).bind (·.zero) = some (.int .u8 0) := by kernel_rfl
set_option maxRecDepth 100000 in
theorem TZr_9 : (Tryz.prog.info? 9).bind (·.zero) = some (.string ByteArray.empty) := by kernel_rfl
set_option maxRecDepth 100000 in
theorem TZr_10 : (Tryz.prog.info? 10).bind (·.zero) = some (.string ByteArray.empty) := by kernel_rfl
set_option maxRecDepth 100000 in
theorem TZr_11 : (Tryz.prog.info? 11).bind (·.zero) = some (.string ByteArray.empty) := by kernel_rfl
set_option maxRecDepth 100000 in
theorem TZr_12 : (Tryz.prog.info? 12).bind (·.zero) = some (.int .u64 0) := by kernel_rfl
set_option maxRecDepth 100000 in
theorem TZr_15 : (Tryz.prog.info? 15).bind (·.zero) = some (.pointer none) := by kernel_rfl
set_option maxRecDepth 100000 in
theorem TZr_16 : (Tryz.prog.info? 16).bind (·.zero) = some (.pointer none) := by kernel_rfl
set_option maxRecDepth 100000 in
theorem TZr_17 : (Tryz.prog.info? 17).bind (·.zero) = some (.pointer none) := by kernel_rfl
set_option maxRecDepth 100000 in
theorem TZr_20 : (Tryz.prog.info? 20).bind (·.zero) = some (.nilIface) := by kernel_rfl
set_option maxRecDepth 100000 in
theorem TZr_21 : (Tryz.prog.info? 21).bind (·.zero) = some (.int .i32 0) := by kernel_rfl
set_option maxRecDepth 100000 in
theorem TZr_22 : (Tryz.prog.info? 22).bind (·.zero) = some (.slice none 0 0) := by kernel_rfl
set_option maxRecDepth 100000 in
theorem TZr_23 : (Tryz.prog.info? 23).bind (·.zero) = some (.int .i64 0) := by kernel_rfl
set_option maxRecDepth 100000 in
theorem TZr_25 : (Tryz.prog.info? 25).bind (·.zero) = some (.nilFunc) := by kernel_rfl
set_option maxRecDepth 100000 in
theorem TZr_26 : (Tryz.prog.info? 26).bind (·.zero) = some (.nilFunc) := by kernel_rfl
set_option maxRecDepth 100000 in
theorem TZr_27 : (Tryz.prog.info? 27).bind (·.zero) = some (.nilFunc) := by kernel_rfl
set_option maxRecDepth 100000 in
theorem TZr_28 : (Tryz.prog.info? 28).bind (·.zero) = some (.nilFunc) := by kernel_rfl
set_option maxRecDepth 100000 in
theorem TZr_29 : (Tryz.prog.info? 29).bind (·.zero) = some (.nilFunc) := by kernel_rfl
set_option maxRecDepth 100000 in
theorem TZr_30 : (Tryz.prog.info? 30).bind (·.zero) = some (.nilFunc) := by kernel_rfl
set_option maxRecDepth 100000 in
theorem TZr_31 : (Tryz.prog.info? 31).bind (·.zero) = some (.nilFunc) := by kernel_rfl
set_option maxRecDepth 100000 in
theorem TZr_33 : (Tryz.prog.info? 33).bind (·.zero) = some (.nilFunc) := by kernel_rfl
set_option maxRecDepth 100000 in
theorem TZr_34 : (Tryz.prog.info? 34).bind (·.zero) = some (.nilFunc) := by kernel_rfl
set_option maxRecDepth 100000 in
theorem TZr_35 : (Tryz.prog.info? 35).bind (·.zero) = some (.nilFunc) := by kernel_rfl
set_option maxRecDepth 100000 in
theorem TZr_36 : (Tryz.prog.info? 36).bind (·.zero) = some (.nilFunc) := by kernel_rfl
set_option maxRecDepth 100000 in
theorem TZr_37 : (Tryz.prog.info? 37).bind (·.zero) = some (.nilFunc) := by kernel_rfl
set_option maxRecDepth 100000 in
theorem TZr_38 : (Tryz.prog.info? 38).bind (·.zero) = some (.nilFunc) := by kernel_rfl
set_option maxRecDepth 100000 in
theorem TZr_39 : (Tryz.prog.info? 39).bind (·.zero) = some (.nilFunc) := by kernel_rfl
set_option maxRecDepth 100000 in
theorem TZr_40 : (Tryz.prog.info? 40).bind (·.zero) = some (.nilFunc) := by kernel_rfl
set_option maxRecDepth 100000 in
theorem TZr_41 : (Tryz.prog.info? 41).bind (·.zero) = some (.agg #[.string ByteArray.empty, .string ByteArray.empty]) := by kernel_rfl
set_option maxRecDepth 100000 in
theorem TZr_42 : (Tryz.prog.info? 42).bind (·.zero) = some (.agg #[.string ByteArray.empty, .string ByteArray.empty]) := by kernel_rfl
set_option maxRecDepth 100000 in
theorem TZr_43 : (Tryz.prog.info? 43).bind (·.zero) = some (.nilFunc) := by kernel_rfl
set_option maxRecDepth 100000 in
theorem TZr_44 : (Tryz.prog.info? 44).bind (·.zero) = some (.nilFunc) := by kernel_rfl
set_option maxRecDepth 100000 in
theorem TZr_45 : (Tryz.prog.info? 45).bind (·.zero) = some (.int .u64 0) := by kernel_rfl
set_option maxRecDepth 100000 in
theorem TZr_47 : (Tryz.prog.info? 47).bind (·.zero) = some (.nilFunc) := by kernel_rfl
set_option maxRecDepth 100000 in
theorem TZr_48 : (Tryz.prog.info? 48).bind (·.zero) = some (.nilFunc) := by kernel_rfl
set_option maxRecDepth 100000 in
theorem TZr_49 : (Tryz.prog.info? 49).bind (·.zero) = some (.nilFunc) := by kernel_rfl
set_option maxRecDepth 100000 in
theorem TZr_50 : (Tryz.prog.info? 50).bind (·.zero) = some (.nilFunc) := by kernel_rfl
set_option maxRecDepth 100000 in
theorem TZr_51 : (Tryz.prog.info? 51).bind (·.zero) = some (.nilFunc) := by kernel_rfl
set_option maxRecDepth 100000 in
theorem TZr_52 : (Tryz.prog.info? 52).bind (·.zero) = some (.nilFunc) := by kernel_rfl
set_option maxRecDepth 100000 in
theorem TZr_53 : (Tryz.prog.info? 53).bind (·.zero) = some (.nilFunc) := by kernel_rfl
set_option maxRecDepth 100000 in
theorem TZr_54 : (Tryz.prog.info? 54).bind (·.zero) = some (.slice none 0 0) := by kernel_rfl
set_option maxRecDepth 100000 in
theorem TZr_56 : (Tryz.prog.info? 56).bind (·.zero) = some (.nilFunc) := by kernel_rfl
set_option maxRecDepth 100000 in
theorem TZr_57 : (Tryz.prog.info? 57).bind (·.zero) = some (.nilFunc) := by kernel_rfl
set_option maxRecDepth 100000 in
theorem TZr_58 : (Tryz.prog.info? 58).bind (·.zero) = some (.nilFunc) := by kernel_rfl
set_option maxRecDepth 100000 in
theorem TZr_59 : (Tryz.prog.info? 59).bind (·.zero) = some (.slice none 0 0) := by kernel_rfl
set_option maxRecDepth 100000 in
theorem TZr_60 : (Tryz.prog.info? 60).bind (·.zero) = some (.pointer none) := by kernel_rfl
set_option maxRecDepth 100000 in
theorem TZr_61 : (Tryz.prog.info? 61).bind (·.zero) = some (.nilFunc) := by kernel_rfl
set_option maxRecDepth 100000 in
theorem TZr_62 : (Tryz.prog.info? 62).bind (·.zero) = some (.nilFunc) := by kernel_rfl
set_option maxRecDepth 100000 in
theorem TZr_63 : (Tryz.prog.info? 63).bind (·.zero) = some (.nilFunc) := by kernel_rfl
set_option maxRecDepth 100000 in
theorem TZr_64 : (Tryz.prog.info? 64).bind (·.zero) = some (.nilFunc) := by kernel_rfl
set_option maxRecDepth 100000 in
theorem TZr_65 : (Tryz.prog.info? 65).bind (·.zero) = some (.map none) := by kernel_rfl
set_option maxRecDepth 100000 in
theorem TZr_66 : (Tryz.prog.info? 66).bind (·.zero) = some (.nilFunc) := by kernel_rfl
set_option maxRecDepth 100000 in
theorem TZr_67 : (Tryz.prog.info? 67).bind (·.zero) = some (.nilFunc) := by kernel_rfl
set_option maxRecDepth 100000 in
theorem TZr_68 : (Tryz.prog.info? 68).bind (·.zero) = some (.nilFunc) := by kernel_rfl
set_option maxRecDepth 100000 in
theorem TZr_69 : (Tryz.prog.info? 69).bind (·.zero) = some (.nilFunc) := by kernel_rfl
set_option maxRecDepth 100000 in
theorem TZr_70 : (Tryz.prog.info? 70).bind (·.zero) = some (.int .u64 0) := by kernel_rfl
set_option maxRecDepth 100000 in
theorem TZr_71 : (Tryz.prog.info? 71).bind (·.zero) = some (.nilFunc) := by kernel_rfl
set_option maxRecDepth 100000 in
theorem TZr_72 : (Tryz.prog.info? 72).bind (·.zero) = some (.nilFunc) := by kernel_rfl
set_option maxRecDepth 100000 in
theorem TZr_73 : (Tryz.prog.info? 73).bind (·.zero) = some (.nilFunc) := by kernel_rfl
set_option maxRecDepth 100000 in
theorem TZr_74 : (Tryz.prog.info? 74).bind (·.zero) = some (.agg #[]) := by kernel_rfl
set_option maxRecDepth 100000 in
theorem TZr_75 : (Tryz.prog.info? 75).bind (·.zero) = some (.agg #[]) := by kernel_rfl
set_option maxRecDepth 100000 in
theorem TZr_76 : (Tryz.prog.info? 76).bind (·.zero) = some (.agg #[]) := by kernel_rfl
set_option maxRecDepth 100000 in
theorem TZr_77 : (Tryz.prog.info? 77).bind (·.zero) = some (.int .u32 0) := by kernel_rfl
set_option maxRecDepth 100000 in
theorem TZr_78 : (Tryz.prog.info? 78).bind (·.zero) = some (.agg #[.int .u32 0]) := by kernel_rfl
set_option maxRecDepth 100000 in
theorem TZr_79 : (Tryz.prog.info? 79).bind (·.zero) = some (.agg #[.int .u32 0]) := by kernel_rfl
set_option maxRecDepth 100000 in
theorem TZr_82 : (Tryz.prog.info? 82).bind (·.zero) = some (.agg #[.int .i32 0, .int .u32 0]) := by kernel_rfl
set_option maxRecDepth 100000 in
theorem TZr_83 : (Tryz.prog.info? 83).bind (·.zero) = some (.agg #[.int .i32 0, .int .u32 0]) := by kernel_rfl
set_option maxRecDepth 100000 in
theorem TZr_84 : (Tryz.prog.info? 84).bind (·.zero) = some (.agg #[.int .u32 0, .int .i32 0, .int .u32 0]) := by kernel_rfl
set_option maxRecDepth 100000 in
theorem TZr_85 : (Tryz.prog.info? 85).bind (·.zero) = some (.agg #[.int .u32 0, .int .i32 0, .int .u32 0]) := by kernel_rfl
set_option maxRecDepth 100000 in
theorem TZr_86 : (Tryz.prog.info? 86).bind (·.zero) = some (.nilIface) := by kernel_rfl
set_option maxRecDepth 100000 in
theorem TZr_87 : (Tryz.prog.info? 87).bind (·.zero) = some (.nilIface) := by kernel_rfl
set_option maxRecDepth 100000 in
theorem TZr_88 : (Tryz.prog.info? 88).bind (·.zero) = some (.agg #[.int .u32 0, .int .i32 0, .int .u32 0, .nilIface, .slice none 0 0]) := by kernel_rfl
set_option maxRecDepth 100000 in
theorem TZr_89 : (Tryz.prog.info? 89).bind (·.zero) = some (.agg #[.int .u32 0, .int .i32 0, .int .u32 0, .nilIface, .slice none 0 0]) := by kernel_rfl
set_option maxRecDepth 100000 in
theorem TZr_90 : (Tryz.prog.info? 90).bind (·.zero) = some (.nilFunc) := by kernel_rfl
set_option maxRecDepth 100000 in
theorem TZr_91 : (Tryz.prog.info? 91).bind (·.zero) = some (.pointer none) := by kernel_rfl
set_option maxRecDepth 100000 in
theorem TZr_92 : (Tryz.prog.info? 92).bind (·.zero) = some (.slice none 0 0) := by kernel_rfl
set_option maxRecDepth 100000 in
theorem TZr_93 : (Tryz.prog.info? 93).bind (·.zero) = some (.agg #[.pointer none, .slice none 0 0]) := by kernel_rfl
set_option maxRecDepth 100000 in
theorem TZr_94 : (Tryz.prog.info? 94).bind (·.zero) = some (.agg #[.pointer none, .slice none 0 0]) := by kernel_rfl
set_option maxRecDepth 100000 in
theorem TZr_95 : (Tryz.prog.info? 95).bind (·.zero) = some (.nilFunc) := by kernel_rfl
set_option maxRecDepth 100000 in
theorem TZr_96 : (Tryz.prog.info? 96).bind (·.zero) = some (.nilIface) := by kernel_rfl
set_option maxRecDepth 100000 in
theorem TZr_97 : (Tryz.prog.info? 97).bind (·.zero) = some (.nilIface) := by kernel_rfl
set_option maxRecDepth 100000 in
theorem TZr_99 : (Tryz.prog.info? 99).bind (·.zero) = some (.nilFunc) := by kernel_rfl
set_option maxRecDepth 100000 in
theorem TZr_100 : (Tryz.prog.info? 100).bind (·.zero) = some (.nilFunc) := by kernel_rfl
set_option maxRecDepth 100000 in
theorem TZr_101 : (Tryz.prog.info? 101).bind (·.zero) = some (.nilFunc) := by kernel_rfl
set_option maxRecDepth 100000 in
theorem TZr_102 : (Tryz.prog.info? 102).bind (·.zero) = some (.nilFunc) := by kernel_rfl
set_option maxRecDepth 100000 in
theorem TZr_103 : (Tryz.prog.info? 103).bind (·.zero) = some (.int .i64 0) := by kernel_rfl
set_option maxRecDepth 100000 in
theorem TZr_105 : (Tryz.prog.info? 105).bind (·.zero) = some (.nilFunc) := by kernel_rfl
set_option maxRecDepth 100000 in
theorem TZr_106 : (Tryz.prog.info? 106).bind (·.zero) = some (.nilFunc) := by kernel_rfl
set_option maxRecDepth 100000 in
theorem TZr_107 : (Tryz.prog.info? 107).bind (·.zero) = some (.nilFunc) := by kernel_rfl
set_option maxRecDepth 100000 in
theorem TZr_108 : (Tryz.prog.info? 108).bind (·.zero) = some (.nilFunc) := by kernel_rfl
set_option maxRecDepth 100000 in
theorem TZr_109 : (Tryz.prog.info? 109).bind (·.zero) = some (.nilFunc) := by kernel_rfl
set_option maxRecDepth 100000 in
theorem TZr_110 : (Tryz.prog.info? 110).bind (·.zero) = some (.nilFunc) := by kernel_rfl
set_option maxRecDepth 100000 in
theorem TZr_111 : (Tryz.prog.info? 111).bind (·.zero) = some (.pointer none) := by kernel_rfl
set_option maxRecDepth 100000 in
theorem TZr_112 : (Tryz.prog.info? 112).bind (·.zero) = some (.nilFunc) := by kernel_rfl
set_option maxRecDepth 100000 in
theorem TZr_113 : (Tryz.prog.info? 113).bind (·.zero) = some (.pointer none) := by kernel_rfl
set_option maxRecDepth 100000 in
theorem TZr_114 : (Tryz.prog.info? 114).bind (·.zero) = some (.int .u64 0) := by kernel_rfl
set_option maxRecDepth 100000 in
theorem TZr_115 : (Tryz.prog.info? 115).bind (·.zero) = some (.nilFunc) := by kernel_rfl
set_option maxRecDepth 100000 in
theorem TZr_116 : (Tryz.prog.info? 116).bind (·.zero) = some (.nilFunc) := by kernel_rfl
set_option maxRecDepth 100000 in
theorem TZr_117 : (Tryz.prog.info? 117).bind (·.zero) = some (.nilFunc) := by kernel_rfl
set_option maxRecDepth 100000 in
theorem TZr_118 : (Tryz.prog.info? 118).bind (·.zero) = some (.pointer none) := by kernel_rfl
set_option maxRecDepth 100000 in
theorem TZr_119 : (Tryz.prog.info? 119).bind (·.zero) = some (.nilFunc) := by kernel_rfl
set_option maxRecDepth 100000 in
theorem TZr_120 : (Tryz.prog.info? 120).bind (·.zero) = some (.nilFunc) := by kernel_rfl
set_option maxRecDepth 100000 in
theorem TZr_121 : (Tryz.prog.info? 121).bind (·.zero) = some (.pointer none) := by kernel_rfl
set_option maxRecDepth 100000 in
theorem TZr_122 : (Tryz.prog.info? 122).bind (·.zero) = some (.nilFunc) := by kernel_rfl
set_option maxRecDepth 100000 in
theorem TZr_123 : (Tryz.prog.info? 123).bind (·.zero) = some (.pointer none) := by kernel_rfl
set_option maxRecDepth 100000 in
theorem TZr_124 : (Tryz.prog.info? 124).bind (·.zero) = some (.nilFunc) := by kernel_rfl
set_option maxRecDepth 100000 in
theorem TZr_125 : (Tryz.prog.info? 125).bind (·.zero) = some (.pointer none) := by kernel_rfl
set_option maxRecDepth 100000 in
theorem TZr_126 : (Tryz.prog.info? 126).bind (·.zero) = some (.nilFunc) := by kernel_rfl
set_option maxRecDepth 100000 in
theorem TZr_127 : (Tryz.prog.info? 127).bind (·.zero) = some (.pointer none) := by kernel_rfl
set_option maxRecDepth 100000 in
theorem TZr_128 : (Tryz.prog.info? 128).bind (·.zero) = some (.nilFunc) := by kernel_rfl
set_option maxRecDepth 100000 in
theorem TZr_129 : (Tryz.prog.info? 129).bind (·.zero) = some (.agg #[.int .u8 0, .int .u8 0, .int .u8 0, .int .u8 0, .int .u8 0, .int .u8 0, .int .u8 0, .int .u8 0, .int .u8 0, .int .u8 0, .int .u8 0, .int .u8 0, .int .u8 0, .int .u8 0, .int .u8 0, .int .u8 0, .int .u8 0, .int .u8 0, .int .u8 0, .int .u8 0, .int .u8 0, .int .u8 0, .int .u8 0, .int .u8 0, .int .u8 0, .int .u8 0, .int .u8 0, .int .u8 0, .int .u8 0, .int .u8 0, .int .u8 0, .int .u8 0, .int .u8 0, .int .u8 0, .int .u8 0, .int .u8 0, .int .u8 0, .int .u8 0, .int .u8 0, .int .u8 0, .int .u8 0, .int .u8 0, .int .u8 0, .int .u8 0, .int .u8 0, .int .u8 0, .int .u8 0, .int .u8 0, .int .u8 0, .int .u8 0, .int .u8 0, .int .u8 0, .int .u8 0, .int .u8 0, .int .u8 0, .int .u8 0, .int .u8 0, .int .u8 0, .int .u8 0, .int .u8 0, .int .u8 0, .int .u8 0, .int .u8 0, .int .u8 0, .int .u8 0, .int .u8 0, .int .u8 0, .int .u8 0, .int .u8 0, .int .u8 0, .int .u8 0, .int .u8 0, .int .u8 0, .int .u8 0, .int .u8 0, .int .u8 0, .int .u8 0, .int .u8 0, .int .u8 0, .int .u8 0, .int .u8 0, .int .u8 0, .int .u8 0, .int .u8 0, .int .u8 0, .int .u8 0, .int .u8 0, .int .u8 0, .int .u8 0, .int .u8 0, .int .u8 0, .int .u8 0, .int .u8 0, .int .u8 0, .int .u8 0, .int .u8 0, .int .u8 0, .int .u8 0, .int .u8 0, .int .u8 0, .int .u8 0, .int .u8 0, .int .u8 0, .int .u8 0, .int .u8 0, .int .u8 0, .int .u8 0, .int .u8 0, .int .u8 0, .int .u8 0, .int .u8 0, .int .u8 0, .int .u8 0, .int .u8 0, .int .u8 0, .int .u8 0, .int .u8 0, .int .u8 0, .int .u8 0, .int .u8 0, .int .u8 0, .int .u8 0, .int .u8 0, .int .u8 0, .int .u8 0, .int .u8 0, .int .u8 0, .int .u8 0, .int .u8 0, .int .u8 0, .int .u8 0, .int .u8 0, .int .u8 0, .int .u8 0, .int .u8 0, .int .u8 0, .int .u8 0, .int .u8 0, .int .u8 0, .int .u8 0, .int .u8 0, .int .u8 0, .int .u8 0, .int .u8 0, .int .u8 0, .int .u8 0, .int .u8 0, .int .u8 0, .int .u8 0, .int .u8 0, .int .u8 0, .int .u8 0, .int .u8 0, .int .u8 0, .int .u8 0, .int .u8 0, .int .u8 0, .int .u8 0, .int .u8 0, .int .u8 0, .int .u8 0, .int .u8 0, .int .u8 0, .int .u8 0, .int .u8 0, .int .u8 0, .int .u8 0, .int .u8 0, .int .u8 0, .int .u8 0, .int .u8 0, .int .u8 0, .int .u8 0, .int .u8 0, .int .u8 0, .int .u8 0, .int .u8 0, .int .u8 0, .int .u8 0, .int .u8 0, .int .u8 0, .int .u8 0, .int .u8 0, .int .u8 0, .int .u8 0, .int .u8 0, .int .u8 0, .int .u8 0, .int .u8 0, .int .u8 0, .int .u8 0, .int .u8 0, .int .u8 0, .int .u8 0, .int .u8 0, .int .u8 0, .int .u8 0, .int .u8 0, .int .u8 0, .int .u8 0, .int .u8 0, .int .u8 0, .int .u8 0, .int .u8 0, .int .u8 0, .int .u8 0, .int .u8 0, .int .u8 0, .int .u8 0, .int .u8 0, .int .u8 0, .int .u8 0, .int .u8 0, .int .u8 0, .int .u8 0, .int .u8 0, .int .u8 0, .int .u8 0, .int .u8 0, .int .u8 0, .int .u8 0, .int .u8 0, .int .u8 0, .int .u8 0, .int .u8 0, .int .u8 0, .int .u8 0, .int .u8 0, .int .u8 0, .int .u8 0, .int .u8 0, .int .u8 0, .int .u8 0, .int .u8 0, .int .u8 0, .int .u8 0, .int .u8 0, .int .u8 0, .int .u8 0, .int .u8 0, .int .u8 0, .int .u8 0, .int .u8 0, .int .u8 0, .int .u8 0, .int .u8 0, .int .u8 0, .int .u8 0, .int .u8 0, .int .u8 0, .int .u8 0, .int .u8 0, .int .u8 0, .int .u8 0, .int .u8 0, .int .u8 0]) := by kernel_rfl
set_option maxRecDepth 100000 in
theorem TZr_130 : (Tryz.prog.info? 130).bind (·.zero) = some (.agg #[.int .u8 0, .int .u8 0, .int .u8 0, .int .u8 0, .int .u8 0, .int .u8 0, .int .u8 0, .int .u8 0, .int .u8 0, .int .u8 0, .int .u8 0, .int .u8 0, .int .u8 0, .int .u8 0, .int .u8 0, .int .u8 0, .int .u8 0, .int .u8 0, .int .u8 0, .int .u8 0, .int .u8 0, .int .u8 0, .int .u8 0, .int .u8 0, .int .u8 0, .int .u8 0, .int .u8 0, .int .u8 0, .int .u8 0, .int .u8 0, .int .u8 0, .int .u8 0, .int .u8 0, .int .u8 0, .int .u8 0, .int .u8 0, .int .u8 0, .int .u8 0, .int .u8 0, .int .u8 0, .int .u8 0, .int .u8 0, .int .u8 0, .int .u8 0, .int .u8 0, .int .u8 0, .int .u8 0, .int .u8 0, .int .u8 0, .int .u8 0, .int .u8 0, .int .u8 0, .int .u8 0, .int .u8 0, .int .u8 0, .int .u8 0, .int .u8 0, .int .u8 0, .int .u8 0, .int .u8 0, .int .u8 0, .int .u8 0, .int .u8 0, .int .u8 0, .int .u8 0, .int .u8 0, .int .u8 0, .int .u8 0, .int .u8 0, .int .u8 0, .int .u8 0, .int .u8 0, .int .u8 0, .int .u8 0, .int .u8 0, .int .u8 0, .int .u8 0, .int .u8 0, .int .u8 0, .int .u8 0, .int .u8 0, .int .u8 0, .int .u8 0, .int .u8 0, .int .u8 0, .int .u8 0, .int .u8 0, .int .u8 0, .int .u8 0, .int .u8 0, .int .u8 0, .int .u8 0, .int .u8 0, .int .u8 0, .int .u8 0, .int .u8 0, .int .u8 0, .int .u8 0, .int .u8 0, .int .u8 0, .int .u8 0, .int .u8 0, .int .u8 0, .int .u8 0, .int .u8 0, .int .u8 0, .int .u8 0, .int .u8 0, .int .u8 0, .int .u8 0, .int .u8 0, .int .u8 0, .int .u8 0, .int .u8 0, .int .u8 0, .int .u8 0, .int .u8 0, .int .u8 0, .int .u8 0, .int .u8 0, .int .u8 0, .int .u8 0, .int .u8 0, .int .u8 0, .int .u8 0, .int .u8 0, .int .u8 0, .int .u8 0, .int .u8 0, .int .u8 0, .int .u8 0, .int .u8 0, .int .u8 0, .int .u8 0, .int .u8 0, .int .u8 0, .int .u8 0, .int .u8 0, .int .u8 0, .int .u8 0, .int .u8 0, .int .u8 0, .int .u8 0, .int .u8 0, .int .u8 0, .int .u8 0, .int .u8 0, .int .u8 0, .int .u8 0, .int .u8 0, .int .u8 0, .int .u8 0, .int .u8 0, .int .u8 0, .int .u8 0, .int .u8 0, .int .u8 0, .int .u8 0, .int .u8 0, .int .u8 0, .int .u8 0, .int .u8 0, .int .u8 0, .int .u8 0, .int .u8 0, .int .u8 0, .int .u8 0, .int .u8 0, .int .u8 0, .int .u8 0, .int .u8 0, .int .u8 0, .int .u8 0, .int .u8 0, .int .u8 0, .int .u8 0, .int .u8 0, .int .u8 0, .int .u8 0, .int .u8 0, .int .u8 0, .int .u8 0, .int .u8 0, .int .u8 0, .int .u8 0, .int .u8 0, .int .u8 0, .int .u8 0, .int .u8 0, .int .u8 0, .int .u8 0, .int .u8 0, .int .u8 0, .int .u8 0, .int .u8 0, .int .u8 0, .int .u8 0, .int .u8 0, .int .u8 0, .int .u8 0, .int .u8 0, .int .u8 0, .int .u8 0, .int .u8 0, .int .u8 0, .int .u8 0, .int .u8 0, .int .u8 0, .int .u8 0, .int .u8 0, .int .u8 0, .int .u8 0, .int .u8 0, .int .u8 0, .int .u8 0, .int .u8 0, .int .u8 0, .int .u8 0, .int .u8 0, .int .u8 0, .int .u8 0, .int .u8 0, .int .u8 0, .int .u8 0, .int .u8 0, .int .u8 0, .int .u8 0, .int .u8 0, .int .u8 0, .int .u8 0, .int .u8 0, .int .u8 0, .int .u8 0, .int .u8 0, .int .u8 0, .int .u8 0, .int .u8 0, .int .u8 0, .int .u8 0, .int .u8 0, .int .u8 0, .int .u8 0, .int .u8 0, .int .u8 0, .int .u8 0, .int .u8 0, .int .u8 0, .int .u8 0, .int .u8 0, .int .u8 0, .int .u8 0, .int .u8 0, .int .u8 0, .int .u8 0, .int .u8 0, .int .u8 0]) := by kernel_rfl
set_option maxRecDepth 100000 in
theorem TZr_131 : (Tryz.prog.info? 131).bind (·.zero) = some (.pointer none) := by kernel_rfl
set_option maxRecDepth 100000 in
theorem TZr_132 : (Tryz.prog.info? 132).bind (·.zero) = some (.agg #[.slice none 0 0, .slice none 0 0, .slice none 0 0, .slice none 0 0, .slice none 0 0, .slice none 0 0, .slice none 0 0, .slice none 0 0, .slice none 0 0, .slice none 0 0, .slice none 0 0, .slice none 0 0, .slice none 0 0, .slice none 0 0, .slice none 0 0, .slice none 0 0, .slice none 0 0, .slice none 0 0, .slice none 0 0, .slice none 0 0, .slice none 0 0, .slice none 0 0, .slice none 0 0, .slice none 0 0, .slice none 0 0, .slice none 0 0, .slice none 0 0, .slice none 0 0, .slice none 0 0, .slice none 0 0, .slice none 0 0, .slice none 0 0, .slice none 0 0, .slice none 0 0, .slice none 0 0, .slice none 0 0, .slice none 0 0, .slice none 0 0, .slice none 0 0, .slice none 0 0, .slice none 0 0, .slice none 0 0, .slice none 0 0, .slice none 0 0, .slice none 0 0, .slice none 0 0, .slice none 0 0, .slice none 0 0, .slice none 0 0, .slice none 0 0, .slice none 0 0, .slice none 0 0, .slice none 0 0, .slice none 0 0, .slice none 0 0, .slice none 0 0, .slice none 0 0, .slice none 0 0, .slice none 0 0, .slice none 0 0, .slice none 0 0, .slice none 0 0, .slice none 0 0, .slice none 0 0, .slice none 0 0, .slice none 0 0, .slice none 0 0, .slice none 0 0, .slice none 0 0, .slice none 0 0, .slice none 0 0, .slice none 0 0, .slice none 0 0, .slice none 0 0, .slice none 0 0, .slice none 0 0, .slice none 0 0, .slice none 0 0, .slice none 0 0, .slice none 0 0, .slice none 0 0, .slice none 0 0, .slice none 0 0, .slice none 0 0, .slice none 0 0, .slice none 0 0, .slice none 0 0, .slice none 0 0, .slice none 0 0, .slice none 0 0, .slice none 0 0, .slice none 0 0, .slice none 0 0, .slice none 0 0, .slice none 0 0, .slice none 0 0, .slice none 0 0, .slice none 0 0, .slice none 0 0, .slice none 0 0, .slice none 0 0, .slice none 0 0, .slice none 0 0, .slice none 0 0, .slice none 0 0, .slice none 0 0, .slice none 0 0, .slice none 0 0, .slice none 0 0, .slice none 0 0, .slice none 0 0, .slice none 0 0, .slice none 0 0, .slice none 0 0, .slice none 0 0, .slice none 0 0, .slice none 0 0, .slice none 0 0, .slice none 0 0, .slice none 0 0, .slice none 0 0, .slice none 0 0, .slice none 0 0, .slice none 0 0, .slice none 0 0, .slice none 0 0, .slice none 0 0, .slice none 0 0, .slice none 0 0, .slice none 0 0, .slice none 0 0, .slice none 0 0, .slice none 0 0, .slice none 0 0, .slice none 0 0, .slice none 0 0, .slice none 0 0, .slice none 0 0, .slice none 0 0, .slice none 0 0, .slice none 0 0, .slice none 0 0, .slice none 0 0, .slice none 0 0, .slice none 0 0, .slice none 0 0, .slice none 0 0, .slice none 0 0, .slice none 0 0, .slice none 0 0, .slice none 0 0, .slice none 0 0, .slice none 0 0, .slice none 0 0, .slice none 0 0, .slice none 0 0, .slice none 0 0, .slice none 0 0, .slice none 0 0, .slice none 0 0, .slice none 0 0, .slice none 0 0, .slice none 0 0, .slice none 0 0, .slice none 0 0, .slice none 0 0, .slice none 0 0, .slice none 0 0, .slice none 0 0, .slice none 0 0, .slice none 0 0, .slice none 0 0, .slice none 0 0, .slice none 0 0, .slice none 0 0, .slice none 0 0, .slice none 0 0, .slice none 0 0, .slice none 0 0, .slice none 0 0, .slice none 0 0, .slice none 0 0, .slice none 0 0, .slice none 0 0, .slice none 0 0, .slice none 0 0, .slice none 0 0, .slice none 0 0, .slice none 0 0, .slice none 0 0, .slice none 0 0, .slice none 0 0, .slice none 0 0, .slice none 0 0, .slice none 0 0, .slice none 0 0, .slice none 0 0, .slice none 0 0, .slice none 0 0, .slice none 0 0, .slice none 0 0, .slice none 0 0, .slice none 0 0, .slice none 0 0, .slice none 0 0, .slice none 0 0, .slice none 0 0, .slice none 0 0, .slice none 0 0, .slice none 0 0, .slice none 0 0, .slice none 0 0, .slice none 0 0, .slice none 0 0, .slice none 0 0, .slice none 0 0, .slice none 0 0, .slice none 0 0, .slice none 0 0, .slice none 0 0, .slice none 0 0, .slice none 0 0, .slice none 0 0, .slice none 0 0, .slice none 0 0, .slice none 0 0, .slice none 0 0, .slice none 0 0, .slice none 0 0, .slice none 0 0, .slice none 0 0, .slice none 0 0, .slice none 0 0, .slice none 0 0, .slice none 0 0, .slice none 0 0, .slice none 0 0, .slice none 0 0, .slice none 0 0, .slice none 0 0, .slice none 0 0, .slice none 0 0, .slice none 0 0, .slice none 0 0, .slice none 0 0, .slice none 0 0, .slice none 0 0, .slice none 0 0, .slice none 0 0, .slice none 0 0, .slice none 0 0, .slice none 0 0, .slice none 0 0, .slice none 0 0, .slice none 0 0, .slice none 0 0]) := by kernel_rfl
set_option maxRecDepth 100000 in
theorem TZr_133 : (Tryz.prog.info? 133).bind (·.zero) = some (.agg #[.slice none 0 0, .slice none 0 0, .slice none 0 0, .slice none 0 0, .slice none 0 0, .slice none 0 0, .slice none 0 0, .slice none 0 0, .slice none 0 0, .slice none 0 0, .slice none 0 0, .slice none 0 0, .slice none 0 0, .slice none 0 0, .slice none 0 0, .slice none 0 0, .slice none 0 0, .slice none 0 0, .slice none 0 0, .slice none 0 0, .slice none 0 0, .slice none 0 0, .slice none 0 0, .slice none 0 0, .slice none 0 0, .slice none 0 0, .slice none 0 0, .slice none 0 0, .slice none 0 0, .slice none 0 0, .slice none 0 0, .slice none 0 0, .slice none 0 0, .slice none 0 0, .slice none 0 0, .slice none 0 0, .slice none 0 0, .slice none 0 0, .slice none 0 0, .slice none 0 0, .slice none 0 0, .slice none 0 0, .slice none 0 0, .slice none 0 0, .slice none 0 0, .slice none 0 0, .slice none 0 0, .slice none 0 0, .slice none 0 0, .slice none 0 0, .slice none 0 0, .slice none 0 0, .slice none 0 0, .slice none 0 0, .slice none 0 0, .slice none 0 0, .slice none 0 0, .slice none 0 0, .slice none 0 0, .slice none 0 0, .slice none 0 0, .slice none 0 0, .slice none 0 0, .slice none 0 0, .slice none 0 0, .slice none 0 0, .slice none 0 0, .slice none 0 0, .slice none 0 0, .slice none 0 0, .slice none 0 0, .slice none 0 0, .slice none 0 0, .slice none 0 0, .slice none 0 0, .slice none 0 0, .slice none 0 0, .slice none 0 0, .slice none 0 0, .slice none 0 0, .slice none 0 0, .slice none 0 0, .slice none 0 0, .slice none 0 0, .slice none 0 0, .slice none 0 0, .slice none 0 0, .slice none 0 0, .slice none 0 0, .slice none 0 0, .slice none 0 0, .slice none 0 0, .slice none 0 0, .slice none 0 0, .slice none 0 0, .slice none 0 0, .slice none 0 0, .slice none 0 0, .slice none 0 0, .slice none 0 0, .slice none 0 0, .slice none 0 0, .slice none 0 0, .slice none 0 0, .slice none 0 0, .slice none 0 0, .slice none 0 0, .slice none 0 0, .slice none 0 0, .slice none 0 0, .slice none 0 0, .slice none 0 0, .slice none 0 0, .slice none 0 0, .slice none 0 0, .slice none 0 0, .slice none 0 0, .slice none 0 0, .slice none 0 0, .slice none 0 0, .slice none 0 0, .slice none 0 0, .slice none 0 0, .slice none 0 0, .slice none 0 0, .slice none 0 0, .slice none 0 0, .slice none 0 0, .slice none 0 0, .slice none 0 0, .slice none 0 0, .slice none 0 0, .slice none 0 0, .slice none 0 0, .slice none 0 0, .slice none 0 0, .slice none 0 0, .slice none 0 0, .slice none 0 0, .slice none 0 0, .slice none 0 0, .slice none 0 0, .slice none 0 0, .slice none 0 0, .slice none 0 0, .slice none 0 0, .slice none 0 0, .slice none 0 0, .slice none 0 0, .slice none 0 0, .slice none 0 0, .slice none 0 0, .slice none 0 0, .slice none 0 0, .slice none 0 0, .slice none 0 0, .slice none 0 0, .slice none 0 0, .slice none 0 0, .slice none 0 0, .slice none 0 0, .slice none 0 0, .slice none 0 0, .slice none 0 0, .slice none 0 0, .slice none 0 0, .slice none 0 0, .slice none 0 0, .slice none 0 0, .slice none 0 0, .slice none 0 0, .slice none 0 0, .slice none 0 0, .slice none 0 0, .slice none 0 0, .slice none 0 0, .slice none 0 0, .slice none 0 0, .slice none 0 0, .slice none 0 0, .slice none 0 0, .slice none 0 0, .slice none 0 0, .slice none 0 0, .slice none 0 0, .slice none 0 0, .slice none 0 0, .slice none 0 0, .slice none 0 0, .slice none 0 0, .slice none 0 0, .slice none 0 0, .slice none 0 0, .slice none 0 0, .slice none 0 0, .slice none 0 0, .slice none 0 0, .slice none 0 0, .slice none 0 0, .slice none 0 0, .slice none 0 0, .slice none 0 0, .slice none 0 0, .slice none 0 0, .slice none 0 0, .slice none 0 0, .slice none 0 0, .slice none 0 0, .slice none 0 0, .slice none 0 0, .slice none 0 0, .slice none 0 0, .slice none 0 0, .slice none 0 0, .slice none 0 0, .slice none 0 0, .slice none 0 0, .slice none 0 0, .slice none 0 0, .slice none 0 0, .slice none 0 0, .slice none 0 0, .slice none 0 0, .slice none 0 0, .slice none 0 0, .slice none 0 0, .slice none 0 0, .slice none 0 0, .slice none 0 0, .slice none 0 0, .slice none 0 0, .slice none 0 0, .slice none 0 0, .slice none 0 0, .slice none 0 0, .slice none 0 0, .slice none 0 0, .slice none 0 0, .slice none 0 0, .slice none 0 0, .slice none 0 0, .slice none 0 0, .slice none 0 0, .slice none 0 0, .slice none 0 0, .slice none 0 0, .slice none 0 0, .slice none 0 0, .slice none 0 0, .slice none 0 0, .slice none 0 0, .slice none 0 0, .slice none 0 0, .slice none 0 0, .slice none 0 0, .slice none 0 0, .slice none 0 0]) := by kernel_rfl
set_option maxRecDepth 100000 in
theorem TZr_134 : (Tryz.prog.info? 134).bind (·.zero) = some (.agg #[.slice none 0 0, .slice none 0 0, .slice none 0 0, .slice none 0 0, .slice none 0 0, .slice none 0 0, .slice none 0 0, .slice none 0 0, .slice none 0 0, .slice none 0 0, .slice none 0 0, .slice none 0 0, .slice none 0 0, .slice none 0 0, .slice none 0 0, .slice none 0 0, .slice none 0 0, .slice none 0 0, .slice none 0 0, .slice none 0 0, .slice none 0 0, .slice none 0 0, .slice none 0 0, .slice none 0 0, .slice none 0 0, .slice none 0 0, .slice none 0 0, .slice none 0 0, .slice none 0 0, .slice none 0 0, .slice none 0 0, .slice none 0 0, .slice none 0 0, .slice none 0 0, .slice none 0 0, .slice none 0 0, .slice none 0 0, .slice none 0 0, .slice none 0 0, .slice none 0 0, .slice none 0 0, .slice none 0 0, .slice none 0 0, .slice none 0 0, .slice none 0 0, .slice none 0 0, .slice none 0 0, .slice none 0 0, .slice none 0 0, .slice none 0 0, .slice none 0 0, .slice none 0 0, .slice none 0 0, .slice none 0 0, .slice none 0 0, .slice none 0 0, .slice none 0 0, .slice none 0 0, .slice none 0 0, .slice none 0 0, .slice none 0 0, .slice none 0 0, .slice none 0 0, .slice none 0 0, .slice none 0 0, .slice none 0 0, .slice none 0 0, .slice none 0 0, .slice none 0 0, .slice none 0 0, .slice none 0 0, .slice none 0 0, .slice none 0 0, .slice none 0 0, .slice none 0 0, .slice none 0 0, .slice none 0 0, .slice none 0 0, .slice none 0 0, .slice none 0 0, .slice none 0 0, .slice none 0 0, .slice none 0 0, .slice none 0 0, .slice none 0 0, .slice none 0 0, .slice none 0 0, .slice none 0 0, .slice none 0 0, .slice none 0 0, .slice none 0 0, .slice none 0 0, .slice none 0 0, .slice none 0 0, .slice none 0 0, .slice none 0 0, .slice none 0 0, .slice none 0 0, .slice none 0 0, .slice none 0 0, .slice none 0 0, .slice none 0 0, .slice none 0 0, .slice none 0 0, .slice none 0 0, .slice none 0 0, .slice none 0 0, .slice none 0 0, .slice none 0 0, .slice none 0 0, .slice none 0 0, .slice none 0 0, .slice none 0 0, .slice none 0 0, .slice none 0 0, .slice none 0 0, .slice none 0 0, .slice none 0 0, .slice none 0 0, .slice none 0 0, .slice none 0 0, .slice none 0 0, .slice none 0 0, .slice none 0 0, .slice none 0 0, .slice none 0 0, .slice none 0 0, .slice none 0 0, .slice none 0 0, .slice none 0 0, .slice none 0 0, .slice none 0 0, .slice none 0 0, .slice none 0 0, .slice none 0 0, .slice none 0 0, .slice none 0 0, .slice none 0 0, .slice none 0 0, .slice none 0 0, .slice none 0 0, .slice none 0 0, .slice none 0 0, .slice none 0 0, .slice none 0 0, .slice none 0 0, .slice none 0 0, .slice none 0 0, .slice none 0 0, .slice none 0 0, .slice none 0 0, .slice none 0 0, .slice none 0 0, .slice none 0 0, .slice none 0 0, .slice none 0 0, .slice none 0 0, .slice none 0 0, .slice none 0 0, .slice none 0 0, .slice none 0 0, .slice none 0 0, .slice none 0 0, .slice none 0 0, .slice none 0 0, .slice none 0 0, .slice none 0 0, .slice none 0 0, .slice none 0 0, .slice none 0 0, .slice none 0 0, .slice none 0 0, .slice none 0 0, .slice none 0 0, .slice none 0 0, .slice none 0 0, .slice none 0 0, .slice none 0 0, .slice none 0 0, .slice none 0 0, .slice none 0 0, .slice none 0 0, .slice none 0 0, .slice none 0 0, .slice none 0 0, .slice none 0 0, .slice none 0 0, .slice none 0 0, .slice none 0 0, .slice none 0 0, .slice none 0 0, .slice none 0 0, .slice none 0 0, .slice none 0 0, .slice none 0 0, .slice none 0 0, .slice none 0 0, .slice none 0 0, .slice none 0 0, .slice none 0 0, .slice none 0 0, .slice none 0 0, .slice none 0 0, .slice none 0 0, .slice none 0 0, .slice none 0 0, .slice none 0 0, .slice none 0 0, .slice none 0 0, .slice none 0 0, .slice none 0 0, .slice none 0 0, .slice none 0 0, .slice none 0 0, .slice none 0 0, .slice none 0 0, .slice none 0 0, .slice none 0 0, .slice none 0 0, .slice none 0 0, .slice none 0 0, .slice none 0 0, .slice none 0 0, .slice none 0 0, .slice none 0 0, .slice none 0 0, .slice none 0 0, .slice none 0 0, .slice none 0 0, .slice none 0 0, .slice none 0 0, .slice none 0 0, .slice none 0 0, .slice none 0 0, .slice none 0 0, .slice none 0 0, .slice none 0 0, .slice none 0 0, .slice none 0 0, .slice none 0 0, .slice none 0 0, .slice none 0 0, .slice none 0 0, .slice none 0 0, .slice none 0 0, .slice none 0 0, .slice none 0 0, .slice none 0 0, .slice none 0 0, .slice none 0 0, .slice none 0 0, .slice none 0 0, .slice none 0 0, .slice none 0 0, .slice none 0 0, .slice none 0 0, .slice none 0 0]) := by kernel_rfl
set_option maxRecDepth 100000 in
theorem TZr_135 : (Tryz.prog.info? 135).bind (·.zero) = some (.pointer none) := by kernel_rfl
set_option maxRecDepth 100000 in
theorem TZr_137 : (Tryz.prog.info? 137).bind (·.zero) = some (.nilFunc) := by kernel_rfl
set_option maxRecDepth 100000 in
theorem TZr_138 : (Tryz.prog.info? 138).bind (·.zero) = some (.nilFunc) := by kernel_rfl
set_option maxRecDepth 100000 in
theorem TZr_139 : (Tryz.prog.info? 139).bind (·.zero) = some (.pointer none) := by kernel_rfl
set_option maxRecDepth 100000 in
theorem TZr_141 : (Tryz.prog.info? 141).bind (·.zero) = some (.nilFunc) := by kernel_rfl
set_option maxRecDepth 100000 in
theorem TZr_142 : (Tryz.prog.info? 142).bind (·.zero) = some (.pointer none) := by kernel_rfl
set_option maxRecDepth 100000 in
theorem TZr_143 : (Tryz.prog.info? 143).bind (·.zero) = some (.nilFunc) := by kernel_rfl
set_option maxRecDepth 100000 in
theorem TZr_144 : (Tryz.prog.info? 144).bind (·.zero) = some (.nilFunc) := by kernel_rfl
set_option maxRecDepth 100000 in
theorem TZr_145 : (Tryz.prog.info? 145).bind (·.zero) = some (.pointer none) := by kernel_rfl
set_option maxRecDepth 100000 in
theorem TZr_146 : (Tryz.prog.info? 146).bind (·.zero) = some (.nilFunc) := by kernel_rfl
set_option maxRecDepth 100000 in
theorem TZr_147 : (Tryz.prog.info? 147).bind (·.zero) = some (.agg #[.pointer none, .string ByteArray.empty]) := by kernel_rfl
set_option maxRecDepth 100000 in
theorem TZr_148 : (Tryz.prog.info? 148).bind (·.zero) = some (.agg #[.pointer none, .string ByteArray.empty]) := by kernel_rfl
set_option maxRecDepth 100000 in
theorem TZr_149 : (Tryz.prog.info? 149).bind (·.zero) = some (.pointer none) := by kernel_rfl
set_option maxRecDepth 100000 in
theorem TZr_150 : (Tryz.prog.info? 150).bind (·.zero) = some (.slice none 0 0) := by kernel_rfl
set_option maxRecDepth 100000 in
theorem TZr_151 : (Tryz.prog.info? 151).bind (·.zero) = some (.agg #[.string ByteArray.empty, .int .i64 0, .string ByteArray.empty, .pointer none, .slice none 0 0]) := by kernel_rfl
set_option maxRecDepth 100000 in
theorem TZr_152 : (Tryz.prog.info? 152).bind (·.zero) = some (.agg #[.string ByteArray.empty, .int .i64 0, .string ByteArray.empty, .pointer none, .slice none 0 0]) := by kernel_rfl
set_option maxRecDepth 100000 in
theorem TZr_153 : (Tryz.prog.info? 153).bind (·.zero) = some (.agg #[.string ByteArray.empty, .int .i64 0, .string ByteArray.empty, .pointer none, .slice none 0 0, .int .i64 0, .int .u8 0, .int .u8 0, .int .u8 0, .int .u8 0, .int .u8 0, .int .u8 0, .int .u8 0, .int .u8 0, .int .u8 0, .int .u8 0, .int .u8 0, .int .u8 0, .int .u8 0, .int .u8 0, .int .u8 0, .int .u8 0, .int .u8 0, .int .u8 0, .int .u8 0, .int .u8 0, .int .u8 0, .int .u8 0, .int .u8 0, .int .u8 0, .int .u8 0, .int .u8 0, .int .u8 0, .int .u8 0, .int .u8 0, .int .u8 0, .int .u8 0, .int .u8 0, .int .u8 0, .int .u8 0, .int .u8 0, .int .u8 0, .int .u8 0, .int .u8 0, .int .u8 0, .int .u8 0, .int .u8 0, .int .u8 0, .int .u8 0, .int .u8 0, .int .u8 0, .int .u8 0, .int .u8 0, .int .u8 0, .int .u8 0, .int .u8 0, .int .u8 0, .int .u8 0, .int .u8 0, .int .u8 0, .int .u8 0, .int .u8 0, .int .u8 0, .int .u8 0, .int .u8 0, .int .u8 0, .int .u8 0, .int .u8 0, .int .u8 0, .int .u8 0, .int .u8 0, .int .u8 0, .int .u8 0, .int .u8 0, .int .u8 0, .int .u8 0, .int .u8 0, .int .u8 0, .int .u8 0, .int .u8 0, .int .u8 0, .int .u8 0, .int .u8 0, .int .u8 0, .int .u8 0, .int .u8 0, .int .u8 0, .int .u8 0, .int .u8 0, .int .u8 0, .int .u8 0, .int .u8 0, .int .u8 0, .int .u8 0, .int .u8 0, .int .u8 0, .int .u8 0, .int .u8 0, .int .u8 0, .int .u8 0, .int .u8 0, .int .u8 0, .int .u8 0, .int .u8 0, .int .u8 0, .int .u8 0, .int .u8 0, .int .u8 0, .int .u8 0, .int .u8 0, .int .u8 0, .int .u8 0, .int .u8 0, .int .u8 0, .int .u8 0, .int .u8 0, .int .u8 0, .int .u8 0, .int .u8 0, .int .u8 0, .int .u8 0, .int .u8 0, .int .u8 0, .int .u8 0, .int .u8 0, .int .u8 0, .int .u8 0, .int .u8 0, .int .u8 0, .int .u8 0, .int .u8 0, .int .u8 0, .int .u8 0, .int .u8 0, .int .u8 0, .int .u8 0, .int .u8 0, .int .u8 0, .int .u8 0, .int .u8 0, .int .u8 0, .int .u8 0, .int .u8 0, .int .u8 0, .int .u8 0, .int .u8 0, .int .u8 0, .int .u8 0, .int .u8 0, .int .u8 0, .int .u8 0, .int .u8 0, .int .u8 0, .int .u8 0, .int .u8 0, .int .u8 0, .int .u8 0, .int .u8 0, .int .u8 0, .int .u8 0, .int .u8 0, .int .u8 0, .int .u8 0, .int .u8 0, .int .u8 0, .int .u8 0, .int .u8 0, .int .u8 0, .int .u8 0, .int .u8 0, .int .u8 0, .int .u8 0, .int .u8 0, .int .u8 0, .int .u8 0, .int .u8 0, .int .u8 0, .int .u8 0, .int .u8 0, .int .u8 0, .int .u8 0, .int .u8 0, .int .u8 0, .int .u8 0, .int .u8 0, .int .u8 0, .int .u8 0, .int .u8 0, .int .u8 0, .int .u8 0, .int .u8 0, .int .u8 0, .int .u8 0, .int .u8 0, .int .u8 0, .int .u8 0, .int .u8 0, .int .u8 0, .int .u8 0, .int .u8 0, .int .u8 0, .int .u8 0, .int .u8 0, .int .u8 0, .int .u8 0, .int .u8 0, .int .u8 0, .int .u8 0, .int .u8 0, .int .u8 0, .int .u8 0, .int .u8 0, .int .u8 0, .int .u8 0, .int .u8 0, .int .u8 0, .int .u8 0, .int .u8 0, .int .u8 0, .int .u8 0, .int .u8 0, .int .u8 0, .int .u8 0, .int .u8 0, .int .u8 0, .int .u8 0, .int .u8 0, .int .u8 0, .int .u8 0, .int .u8 0, .int .u8 0, .int .u8 0, .int .u8 0, .int .u8 0, .int .u8 0, .int .u8 0, .int .u8 0, .int .u8 0, .int .u8 0, .int .u8 0, .int .u8 0, .int .u8 0, .int .u8 0, .int .u8 0, .int .u8 0, .int .u8 0, .int .u8 0, .int .u8 0, .int .u8 0, .int .u8 0, .int .u8 0, .int .u8 0, .int .u8 0, .int .u8 0, .int .u8 0, .int .u8 0, .int .u8 0, .int .u8 0, .int .u8 0, .int .u8 0, .int .u8 0, .int .u8 0]) := by kernel_rfl
set_option maxRecDepth 100000 in
theorem TZr_154 : (Tryz.prog.info? 154).bind (·.zero) = some (.agg #[.string ByteArray.empty, .int .i64 0, .string ByteArray.empty, .pointer none, .slice none 0 0, .int .i64 0, .int .u8 0, .int .u8 0, .int .u8 0, .int .u8 0, .int .u8 0, .int .u8 0, .int .u8 0, .int .u8 0, .int .u8 0, .int .u8 0, .int .u8 0, .int .u8 0, .int .u8 0, .int .u8 0, .int .u8 0, .int .u8 0, .int .u8 0, .int .u8 0, .int .u8 0, .int .u8 0, .int .u8 0, .int .u8 0, .int .u8 0, .int .u8 0, .int .u8 0, .int .u8 0, .int .u8 0, .int .u8 0, .int .u8 0, .int .u8 0, .int .u8 0, .int .u8 0, .int .u8 0, .int .u8 0, .int .u8 0, .int .u8 0, .int .u8 0, .int .u8 0, .int .u8 0, .int .u8 0, .int .u8 0, .int .u8 0, .int .u8 0, .int .u8 0, .int .u8 0, .int .u8 0, .int .u8 0, .int .u8 0, .int .u8 0, .int .u8 0, .int .u8 0, .int .u8 0, .int .u8 0, .int .u8 0, .int .u8 0, .int .u8 0, .int .u8 0, .int .u8 0, .int .u8 0, .int .u8 0, .int .u8 0, .int .u8 0, .int .u8 0, .int .u8 0, .int .u8 0, .int .u8 0, .int .u8 0, .int .u8 0, .int .u8 0, .int .u8 0, .int .u8 0, .int .u8 0, .int .u8 0, .int .u8 0, .int .u8 0, .int .u8 0, .int .u8 0, .int .u8 0, .int .u8 0, .int .u8 0, .int .u8 0, .int .u8 0, .int .u8 0, .int .u8 0, .int .u8 0, .int .u8 0, .int .u8 0, .int .u8 0, .int .u8 0, .int .u8 0, .int .u8 0, .int .u8 0, .int .u8 0, .int .u8 0, .int .u8 0, .int .u8 0, .int .u8 0, .int .u8 0, .int .u8 0, .int .u8 0, .int .u8 0, .int .u8 0, .int .u8 0, .int .u8 0, .int .u8 0, .int .u8 0, .int .u8 0, .int .u8 0, .int .u8 0, .int .u8 0, .int .u8 0, .int .u8 0, .int .u8 0, .int .u8 0, .int .u8 0, .int .u8 0, .int .u8 0, .int .u8 0, .int .u8 0, .int .u8 0, .int .u8 0, .int .u8 0, .int .u8 0, .int .u8 0, .int .u8 0, .int .u8 0, .int .u8 0, .int .u8 0, .int .u8 0, .int .u8 0, .int .u8 0, .int .u8 0, .int .u8 0, .int .u8 0, .int .u8 0, .int .u8 0, .int .u8 0, .int .u8 0, .int .u8 0, .int .u8 0, .int .u8 0, .int .u8 0, .int .u8 0, .int .u8 0, .int .u8 0, .int .u8 0, .int .u8 0, .int .u8 0, .int .u8 0, .int .u8 0, .int .u8 0, .int .u8 0, .int .u8 0, .int .u8 0, .int .u8 0, .int .u8 0, .int .u8 0, .int .u8 0, .int .u8 0, .int .u8 0, .int .u8 0, .int .u8 0, .int .u8 0, .int .u8 0, .int .u8 0, .int .u8 0, .int .u8 0, .int .u8 0, .int .u8 0, .int .u8 0, .int .u8 0, .int .u8 0, .int .u8 0, .int .u8 0, .int .u8 0, .int .u8 0, .int .u8 0, .int .u8 0, .int .u8 0, .int .u8 0, .int .u8 0, .int .u8 0, .int .u8 0, .int .u8 0, .int .u8 0, .int .u8 0, .int .u8 0, .int .u8 0, .int .u8 0, .int .u8 0, .int .u8 0, .int .u8 0, .int .u8 0, .int .u8 0, .int .u8 0, .int .u8 0, .int .u8 0, .int .u8 0, .int .u8 0, .int .u8 0, .int .u8 0, .int .u8 0, .int .u8 0, .int .u8 0, .int .u8 0, .int .u8 0, .int .u8 0, .int .u8 0, .int .u8 0, .int .u8 0, .int .u8 0, .int .u8 0, .int .u8 0, .int .u8 0, .int .u8 0, .int .u8 0, .int .u8 0, .int .u8 0, .int .u8 0, .int .u8 0, .int .u8 0, .int .u8 0, .int .u8 0, .int .u8 0, .int .u8 0, .int .u8 0, .int .u8 0, .int .u8 0, .int .u8 0, .int .u8 0, .int .u8 0, .int .u8 0, .int .u8 0, .int .u8 0, .int .u8 0, .int .u8 0, .int .u8 0, .int .u8 0, .int .u8 0, .int .u8 0, .int .u8 0, .int .u8 0, .int .u8 0, .int .u8 0, .int .u8 0, .int .u8 0, .int .u8 0, .int .u8 0, .int .u8 0, .int .u8 0, .int .u8 0, .int .u8 0, .int .u8 0, .int .u8 0, .int .u8 0, .int .u8 0]) := by kernel_rfl
set_option maxRecDepth 100000 in
theorem TZr_155 : (Tryz.prog.info? 155).bind (·.zero) = some (.nilFunc) := by kernel_rfl
set_option maxRecDepth 100000 in
theorem TZr_156 : (Tryz.prog.info? 156).bind (·.zero) = some (.pointer none) := by kernel_rfl
set_option maxRecDepth 100000 in
theorem TZr_157 : (Tryz.prog.info? 157).bind (·.zero) = some (.nilFunc) := by kernel_rfl
set_option maxRecDepth 100000 in
theorem TZr_158 : (Tryz.prog.info? 158).bind (·.zero) = some (.pointer none) := by kernel_rfl
set_option maxRecDepth 100000 in
theorem TZr_159 : (Tryz.prog.info? 159).bind (·.zero) = some (.nilFunc) := by kernel_rfl
set_option maxRecDepth 100000 in
theorem TZr_160 : (Tryz.prog.info? 160).bind (·.zero) = some (.nilFunc) := by kernel_rfl
set_option maxRecDepth 100000 in
theorem TZr_161 : (Tryz.prog.info? 161).bind (·.zero) = some (.nilFunc) := by kernel_rfl
set_option maxRecDepth 100000 in
theorem TZr_162 : (Tryz.prog.info? 162).bind (·.zero) = some (.slice none 0 0) := by kernel_rfl
set_option maxRecDepth 100000 in
theorem TZr_163 : (Tryz.prog.info? 163).bind (·.zero) = some (.agg #[.int .i64 0, .int .i64 0, .int .i64 0, .int .i64 0, .int .i64 0, .int .i64 0, .int .i64 0, .int .i64 0, .int .i64 0, .int .i64 0, .int .i64 0, .int .i64 0, .int .i64 0, .int .i64 0, .int .i64 0, .int .i64 0, .int .i64 0, .int .i64 0, .int .i64 0, .int .i64 0, .int .i64 0, .int .i64 0, .int .i64 0, .int .i64 0, .int .i64 0, .int .i64 0, .int .i64 0, .int .i64 0, .int .i64 0, .int .i64 0, .int .i64 0, .int .i64 0, .int .i64 0, .int .i64 0, .int .i64 0, .int .i64 0, .int .i64 0, .int .i64 0, .int .i64 0, .int .i64 0, .int .i64 0, .int .i64 0, .int .i64 0, .int .i64 0, .int .i64 0, .int .i64 0, .int .i64 0, .int .i64 0, .int .i64 0, .int .i64 0, .int .i64 0, .int .i64 0, .int .i64 0, .int .i64 0, .int .i64 0, .int .i64 0, .int .i64 0, .int .i64 0, .int .i64 0, .int .i64 0, .int .i64 0, .int .i64 0, .int .i64 0, .int .i64 0, .int .i64 0, .int .i64 0, .int .i64 0, .int .i64 0, .int .i64 0, .int .i64 0, .int .i64 0, .int .i64 0, .int .i64 0, .int .i64 0, .int .i64 0, .int .i64 0, .int .i64 0, .int .i64 0, .int .i64 0, .int .i64 0, .int .i64 0, .int .i64 0, .int .i64 0, .int .i64 0, .int .i64 0, .int .i64 0, .int .i64 0, .int .i64 0, .int .i64 0, .int .i64 0, .int .i64 0, .int .i64 0, .int .i64 0, .int .i64 0, .int .i64 0, .int .i64 0, .int .i64 0, .int .i64 0, .int .i64 0, .int .i64 0, .int .i64 0, .int .i64 0, .int .i64 0, .int .i64 0, .int .i64 0, .int .i64 0, .int .i64 0, .int .i64 0, .int .i64 0, .int .i64 0, .int .i64 0, .int .i64 0, .int .i64 0, .int .i64 0, .int .i64 0, .int .i64 0, .int .i64 0, .int .i64 0, .int .i64 0, .int .i64 0, .int .i64 0, .int .i64 0, .int .i64 0, .int .i64 0, .int .i64 0, .int .i64 0, .int .i64 0, .int .i64 0, .int .i64 0, .int .i64 0, .int .i64 0, .int .i64 0, .int .i64 0, .int .i64 0, .int .i64 0, .int .i64 0, .int .i64 0, .int .i64 0, .int .i64 0, .int .i64 0, .int .i64 0, .int .i64 0, .int .i64 0, .int .i64 0, .int .i64 0, .int .i64 0, .int .i64 0, .int .i64 0, .int .i64 0, .int .i64 0, .int .i64 0, .int .i64 0, .int .i64 0, .int .i64 0, .int .i64 0, .int .i64 0, .int .i64 0, .int .i64 0, .int .i64 0, .int .i64 0, .int .i64 0, .int .i64 0, .int .i64 0, .int .i64 0, .int .i64 0, .int .i64 0, .int .i64 0, .int .i64 0, .int .i64 0, .int .i64 0, .int .i64 0, .int .i64 0, .int .i64 0, .int .i64 0, .int .i64 0, .int .i64 0, .int .i64 0, .int .i64 0, .int .i64 0, .int .i64 0, .int .i64 0, .int .i64 0, .int .i64 0, .int .i64 0, .int .i64 0, .int .i64 0, .int .i64 0, .int .i64 0, .int .i64 0, .int .i64 0, .int .i64 0, .int .i64 0, .int .i64 0, .int .i64 0, .int .i64 0, .int .i64 0, .int .i64 0, .int .i64 0, .int .i64 0, .int .i64 0, .int .i64 0, .int .i64 0, .int .i64 0, .int .i64 0, .int .i64 0, .int .i64 0, .int .i64 0, .int .i64 0, .int .i64 0, .int .i64 0, .int .i64 0, .int .i64 0, .int .i64 0, .int .i64 0, .int .i64 0, .int .i64 0, .int .i64 0, .int .i64 0, .int .i64 0, .int .i64 0, .int .i64 0, .int .i64 0, .int .i64 0, .int .i64 0, .int .i64 0, .int .i64 0, .int .i64 0, .int .i64 0, .int .i64 0, .int .i64 0, .int .i64 0, .int .i64 0, .int .i64 0, .int .i64 0, .int .i64 0, .int .i64 0, .int .i64 0, .int .i64 0, .int .i64 0, .int .i64 0, .int .i64 0, .int .i64 0, .int .i64 0, .int .i64 0, .int .i64 0, .int .i64 0, .int .i64 0, .int .i64 0, .int .i64 0, .int .i64 0, .int .i64 0, .int .i64 0, .int .i64 0, .int .i64 0, .int .i64 0, .int .i64 0]) := by kernel_rfl
set_option maxRecDepth 100000 in
theorem TZr_164 : (Tryz.prog.info? 164).bind (·.zero) = some (.agg #[.string ByteArray.empty, .int .i64 0, .int .i64 0, .int .i64 0, .int .i64 0, .int .i64 0, .int .i64 0, .int .i64 0, .int .i64 0, .int .i64 0, .int .i64 0, .int .i64 0, .int .i64 0, .int .i64 0, .int .i64 0, .int .i64 0, .int .i64 0, .int .i64 0, .int .i64 0, .int .i64 0, .int .i64 0, .int .i64 0, .int .i64 0, .int .i64 0, .int .i64 0, .int .i64 0, .int .i64 0, .int .i64 0, .int .i64 0, .int .i64 0, .int .i64 0, .int .i64 0, .int .i64 0, .int .i64 0, .int .i64 0, .int .i64 0, .int .i64 0, .int .i64 0, .int .i64 0, .int .i64 0, .int .i64 0, .int .i64 0, .int .i64 0, .int .i64 0, .int .i64 0, .int .i64 0, .int .i64 0, .int .i64 0, .int .i64 0, .int .i64 0, .int .i64 0, .int .i64 0, .int .i64 0, .int .i64 0, .int .i64 0, .int .i64 0, .int .i64 0, .int .i64 0, .int .i64 0, .int .i64 0, .int .i64 0, .int .i64 0, .int .i64 0, .int .i64 0, .int .i64 0, .int .i64 0, .int .i64 0, .int .i64 0, .int .i64 0, .int .i64 0, .int .i64 0, .int .i64 0, .int .i64 0, .int .i64 0, .int .i64 0, .int .i64 0, .int .i64 0, .int .i64 0, .int .i64 0, .int .i64 0, .int .i64 0, .int .i64 0, .int .i64 0, .int .i64 0, .int .i64 0, .int .i64 0, .int .i64 0, .int .i64 0, .int .i64 0, .int .i64 0, .int .i64 0, .int .i64 0, .int .i64 0, .int .i64 0, .int .i64 0, .int .i64 0, .int .i64 0, .int .i64 0, .int .i64 0, .int .i64 0, .int .i64 0, .int .i64 0, .int .i64 0, .int .i64 0, .int .i64 0, .int .i64 0, .int .i64 0, .int .i64 0, .int .i64 0, .int .i64 0, .int .i64 0, .int .i64 0, .int .i64 0, .int .i64 0, .int .i64 0, .int .i64 0, .int .i64 0, .int .i64 0, .int .i64 0, .int .i64 0, .int .i64 0, .int .i64 0, .int .i64 0, .int .i64 0, .int .i64 0, .int .i64 0, .int .i64 0, .int .i64 0, .int .i64 0, .int .i64 0, .int .i64 0, .int .i64 0, .int .i64 0, .int .i64 0, .int .i64 0, .int .i64 0, .int .i64 0, .int .i64 0, .int .i64 0, .int .i64 0, .int .i64 0, .int .i64 0, .int .i64 0, .int .i64 0, .int .i64 0, .int .i64 0, .int .i64 0, .int .i64 0, .int .i64 0, .int .i64 0, .int .i64 0, .int .i64 0, .int .i64 0, .int .i64 0, .int .i64 0, .int .i64 0, .int .i64 0, .int .i64 0, .int .i64 0, .int .i64 0, .int .i64 0, .int .i64 0, .int .i64 0, .int .i64 0, .int .i64 0, .int .i64 0, .int .i64 0, .int .i64 0, .int .i64 0, .int .i64 0, .int .i64 0, .int .i64 0, .int .i64 0, .int .i64 0, .int .i64 0, .int .i64 0, .int .i64 0, .int .i64 0, .int .i64 0, .int .i64 0, .int .i64 0, .int .i64 0, .int .i64 0, .int .i64 0, .int .i64 0, .int .i64 0, .int .i64 0, .int .i64 0, .int .i64 0, .int .i64 0, .int .i64 0, .int .i64 0, .int .i64 0, .int .i64 0, .int .i64 0, .int .i64 0, .int .i64 0, .int .i64 0, .int .i64 0, .int .i64 0, .int .i64 0, .int .i64 0, .int .i64 0, .int .i64 0, .int .i64 0, .int .i64 0, .int .i64 0, .int .i64 0, .int .i64 0, .int .i64 0, .int .i64 0, .int .i64 0, .int .i64 0, .int .i64 0, .int .i64 0, .int .i64 0, .int .i64 0, .int .i64 0, .int .i64 0, .int .i64 0, .int .i64 0, .int .i64 0, .int .i64 0, .int .i64 0, .int .i64 0, .int .i64 0, .int .i64 0, .int .i64 0, .int .i64 0, .int .i64 0, .int .i64 0, .int .i64 0, .int .i64 0, .int .i64 0, .int .i64 0, .int .i64 0, .int .i64 0, .int .i64 0, .int .i64 0, .int .i64 0, .int .i64 0, .int .i64 0, .int .i64 0, .int .i64 0, .int .i64 0, .int .i64 0, .int .i64 0, .int .i64 0, .int .i64 0, .int .i64 0, .int .i64 0, .int .i64 0, .int .i64 0, .int .i64 0, .int .i64 0, .int .i64 0, .int .i64 0, .slice none 0 0]) := by kernel_rfl
set_option maxRecDepth 100000 in
theorem TZr_165 : (Tryz.prog.info? 165).bind (·.zero) = some (.agg #[.string ByteArray.empty, .int .i64 0, .int .i64 0, .int .i64 0, .int .i64 0, .int .i64 0, .int .i64 0, .int .i64 0, .int .i64 0, .int .i64 0, .int .i64 0, .int .i64 0, .int .i64 0, .int .i64 0, .int .i64 0, .int .i64 0, .int .i64 0, .int .i64 0, .int .i64 0, .int .i64 0, .int .i64 0, .int .i64 0, .int .i64 0, .int .i64 0, .int .i64 0, .int .i64 0, .int .i64 0, .int .i64 0, .int .i64 0, .int .i64 0, .int .i64 0, .int .i64 0, .int .i64 0, .int .i64 0, .int .i64 0, .int .i64 0, .int .i64 0, .int .i64 0, .int .i64 0, .int .i64 0, .int .i64 0, .int .i64 0, .int .i64 0, .int .i64 0, .int .i64 0, .int .i64 0, .int .i64 0, .int .i64 0, .int .i64 0, .int .i64 0, .int .i64 0, .int .i64 0, .int .i64 0, .int .i64 0, .int .i64 0, .int .i64 0, .int .i64 0, .int .i64 0, .int .i64 0, .int .i64 0, .int .i64 0, .int .i64 0, .int .i64 0, .int .i64 0, .int .i64 0, .int .i64 0, .int .i64 0, .int .i64 0, .int .i64 0, .int .i64 0, .int .i64 0, .int .i64 0, .int .i64 0, .int .i64 0, .int .i64 0, .int .i64 0, .int .i64 0, .int .i64 0, .int .i64 0, .int .i64 0, .int .i64 0, .int .i64 0, .int .i64 0, .int .i64 0, .int .i64 0, .int .i64 0, .int .i64 0, .int .i64 0, .int .i64 0, .int .i64 0, .int .i64 0, .int .i64 0, .int .i64 0, .int .i64 0, .int .i64 0, .int .i64 0, .int .i64 0, .int .i64 0, .int .i64 0, .int .i64 0, .int .i64 0, .int .i64 0, .int .i64 0, .int .i64 0, .int .i64 0, .int .i64 0, .int .i64 0, .int .i64 0, .int .i64 0, .int .i64 0, .int .i64 0, .int .i64 0, .int .i64 0, .int .i64 0, .int .i64 0, .int .i64 0, .int .i64 0, .int .i64 0, .int .i64 0, .int .i64 0, .int .i64 0, .int .i64 0, .int .i64 0, .int .i64 0, .int .i64 0, .int .i64 0, .int .i64 0, .int .i64 0, .int .i64 0, .int .i64 0, .int .i64 0, .int .i64 0, .int .i64 0, .int .i64 0, .int .i64 0, .int .i64 0, .int .i64 0, .int .i64 0, .int .i64 0, .int .i64 0, .int .i64 0, .int .i64 0, .int .i64 0, .int .i64 0, .int .i64 0, .int .i64 0, .int .i64 0, .int .i64 0, .int .i64 0, .int .i64 0, .int .i64 0, .int .i64 0, .int .i64 0, .int .i64 0, .int .i64 0, .int .i64 0, .int .i64 0, .int .i64 0, .int .i64 0, .int .i64 0, .int .i64 0, .int .i64 0, .int .i64 0, .int .i64 0, .int .i64 0, .int .i64 0, .int .i64 0, .int .i64 0, .int .i64 0, .int .i64 0, .int .i64 0, .int .i64 0, .int .i64 0, .int .i64 0, .int .i64 0, .int .i64 0, .int .i64 0, .int .i64 0, .int .i64 0, .int .i64 0, .int .i64 0, .int .i64 0, .int .i64 0, .int .i64 0, .int .i64 0, .int .i64 0, .int .i64 0, .int .i64 0, .int .i64 0, .int .i64 0, .int .i64 0, .int .i64 0, .int .i64 0, .int .i64 0, .int .i64 0, .int .i64 0, .int .i64 0, .int .i64 0, .int .i64 0, .int .i64 0, .int .i64 0, .int .i64 0, .int .i64 0, .int .i64 0, .int .i64 0, .int .i64 0, .int .i64 0, .int .i64 0, .int .i64 0, .int .i64 0, .int .i64 0, .int .i64 0, .int .i64 0, .int .i64 0, .int .i64 0, .int .i64 0, .int .i64 0, .int .i64 0, .int .i64 0, .int .i64 0, .int .i64 0, .int .i64 0, .int .i64 0, .int .i64 0, .int .i64 0, .int .i64 0, .int .i64 0, .int .i64 0, .int .i64 0, .int .i64 0, .int .i64 0, .int .i64 0, .int .i64 0, .int .i64 0, .int .i64 0, .int .i64 0, .int .i64 0, .int .i64 0, .int .i64 0, .int .i64 0, .int .i64 0, .int .i64 0, .int .i64 0, .int .i64 0, .int .i64 0, .int .i64 0, .int .i64 0, .int .i64 0, .int .i64 0, .int .i64 0, .int .i64 0, .int .i64 0, .int .i64 0, .int .i64 0, .int .i64 0, .int .i64 0, .int .i64 0, .slice none 0 0]) := by kernel_rfl
set_option maxRecDepth 100000 in
theorem TZr_166 : (Tryz.prog.info? 166).bind (·.zero) = some (.nilFunc) := by kernel_rfl
set_option maxRecDepth 100000 in
theorem TZr_167 : (Tryz.prog.info? 167).bind (·.zero) = some (.nilFunc) := by kernel_rfl
set_option maxRecDepth 100000 in
theorem TZr_168 : (Tryz.prog.info? 168).bind (·.zero) = some (.nilFunc) := by kernel_rfl
set_option maxRecDepth 100000 in
theorem TZr_169 : (Tryz.prog.info? 169).bind (·.zero) = some (.nilFunc) := by kernel_rfl
set_option maxRecDepth 100000 in
theorem TZr_170 : (Tryz.prog.info? 170).bind (·.zero) = some (.nilFunc) := by kernel_rfl
set_option maxRecDepth 100000 in
theorem TZr_173 : (Tryz.prog.info? 173).bind (·.zero) = some (.agg #[]) := by kernel_rfl
set_option maxRecDepth 100000 in
theorem TZr_176 : (Tryz.prog.info? 176).bind (·.zero) = some (.nilFunc) := by kernel_rfl
set_option maxRecDepth 100000 in
theorem TZr_177 : (Tryz.prog.info? 177).bind (·.zero) = some (.int .u8 0) := by kernel_rfl
set_option maxRecDepth 100000 in
theorem TZr_178 : (Tryz.prog.info? 178).bind (·.zero) = some (.int .u8 0) := by kernel_rfl
set_option maxRecDepth 100000 in
theorem TZr_179 : (Tryz.prog.info? 179).bind (·.zero) = some (.nilFunc) := by kernel_rfl
set_option maxRecDepth 100000 in
theorem TZr_180 : (Tryz.prog.info? 180).bind (·.zero) = some (.int .i32 0) := by kernel_rfl
set_option maxRecDepth 100000 in
theorem TZr_181 : (Tryz.prog.info? 181).bind (·.zero) = some (.int .i32 0) := by kernel_rfl
set_option maxRecDepth 100000 in
theorem TZr_182 : (Tryz.prog.info? 182).bind (·.zero) = some (.agg #[.int .u64 0, .int .u64 0, .int .u32 0, .int .u8 0, .int .u8 0, .int .u8 0, .int .u8 0, .nilFunc, .pointer none, .int .i32 0, .int .i32 0]) := by kernel_rfl
set_option maxRecDepth 100000 in
theorem TZr_183 : (Tryz.prog.info? 183).bind (·.zero) = some (.agg #[.int .u64 0, .int .u64 0, .int .u32 0, .int .u8 0, .int .u8 0, .int .u8 0, .int .u8 0, .nilFunc, .pointer none, .int .i32 0, .int .i32 0]) := by kernel_rfl
set_option maxRecDepth 100000 in
theorem TZr_184 : (Tryz.prog.info? 184).bind (·.zero) = some (.nilFunc) := by kernel_rfl
set_option maxRecDepth 100000 in
theorem TZr_185 : (Tryz.prog.info? 185).bind (·.zero) = some (.nilFunc) := by kernel_rfl
set_option maxRecDepth 100000 in
theorem TZr_186 : (Tryz.prog.info? 186).bind (·.zero) = some (.slice none 0 0) := by kernel_rfl
set_option maxRecDepth 100000 in
theorem TZr_187 : (Tryz.prog.info? 187).bind (·.zero) = some (.pointer none) := by kernel_rfl
set_option maxRecDepth 100000 in
theorem TZr_188 : (Tryz.prog.info? 188).bind (·.zero) = some (.nilIface) := by kernel_rfl
set_option maxRecDepth 100000 in
theorem TZr_189 : (Tryz.prog.info? 189).bind (·.zero) = some (.nilIface) := by kernel_rfl
set_option maxRecDepth 100000 in
theorem TZr_190 : (Tryz.prog.info? 190).bind (·.zero) = some (.nilIface) := by kernel_rfl
set_option maxRecDepth 100000 in
theorem TZr_191 : (Tryz.prog.info? 191).bind (·.zero) = some (.nilIface) := by kernel_rfl
set_option maxRecDepth 100000 in
theorem TZr_192 : (Tryz.prog.info? 192).bind (·.zero) = some (.nilFunc) := by kernel_rfl
set_option maxRecDepth 100000 in
theorem TZr_194 : (Tryz.prog.info? 194).bind (·.zero) = some (.nilFunc) := by kernel_rfl
set_option maxRecDepth 100000 in
theorem TZr_196 : (Tryz.prog.info? 196).bind (·.zero) = some (.agg #[.nilIface]) := by kernel_rfl
set_option maxRecDepth 100000 in
theorem TZr_197 : (Tryz.prog.info? 197).bind (·.zero) = some (.agg #[.nilIface]) := by kernel_rfl
set_option maxRecDepth 100000 in
theorem TZr_198 : (Tryz.prog.info? 198).bind (·.zero) = some (.nilFunc) := by kernel_rfl
set_option maxRecDepth 100000 in
theorem TZr_199 : (Tryz.prog.info? 199).bind (·.zero) = some (.nilFunc) := by kernel_rfl
set_option maxRecDepth 100000 in
theorem TZr_200 : (Tryz.prog.info? 200).bind (·.zero) = some (.nilFunc) := by kernel_rfl
set_option maxRecDepth 100000 in
theorem TZr_202 : (Tryz.prog.info? 202).bind (·.zero) = some (.nilFunc) := by kernel_rfl
set_option maxRecDepth 100000 in
theorem TZr_ok : ∀ p ∈ TZr, (Tryz.prog.info? p.1).bind (·.zero) = some p.2 := by
  simp only [TZr, List.forall_mem_cons]
  exact ⟨TZr_1, TZr_2, TZr_3, TZr_4, TZr_5, TZr_6, TZr_9, TZr_10, TZr_11, TZr_12, TZr_15, TZr_16, TZr_17, TZr_20, TZr_21, TZr_22, TZr_23, TZr_25, TZr_26, TZr_27, TZr_28, TZr_29, TZr_30, TZr_31, TZr_33, TZr_34, TZr_35, TZr_36, TZr_37, TZr_38, TZr_39, TZr_40, TZr_41, TZr_42, TZr_43, TZr_44, TZr_45, TZr_47, TZr_48, TZr_49, TZr_50, TZr_51, TZr_52, TZr_53, TZr_54, TZr_56, TZr_57, TZr_58, TZr_59, TZr_60, TZr_61, TZr_62, TZr_63, TZr_64, TZr_65, TZr_66, TZr_67, TZr_68, TZr_69, TZr_70, TZr_71, TZr_72, TZr_73, TZr_74, TZr_75, TZr_76, TZr_77, TZr_78, TZr_79, TZr_82, TZr_83, TZr_84, TZr_85, TZr_86, TZr_87, TZr_88, TZr_89, TZr_90, TZr_91, TZr_92, TZr_93, TZr_94, TZr_95, TZr_96, TZr_97, TZr_99, TZr_100, TZr_101, TZr_102, TZr_103, TZr_105, TZr_106, TZr_107, TZr_108, TZr_109, TZr_110, TZr_111, TZr_112, TZr_113, TZr_114, TZr_115, TZr_116, TZr_117, TZr_118, TZr_119, TZr_120, TZr_121, TZr_122, TZr_123, TZr_124, TZr_125, TZr_126, TZr_127, TZr_128, TZr_129, TZr_130, TZr_131, TZr_132, TZr_133, TZr_134, TZr_135, TZr_137, TZr_138, TZr_139, TZr_141, TZr_142, TZr_143, TZr_144, TZr_145, TZr_146, TZr_147, TZr_148, TZr_149, TZr_150, TZr_151, TZr_152, TZr_153, TZr_154, TZr_155, TZr_156, TZr_157, TZr_158, TZr_159, TZr_160, TZr_161, TZr_162, TZr_163, TZr_164, TZr_165, TZr_166, TZr_167, TZr_168, TZr_169, TZr_170, TZr_173, TZr_176, TZr_177, TZr_178, TZr_179, TZr_180, TZr_181, TZr_182, TZr_183, TZr_184, TZr_185, TZr_186, TZr_187, TZr_188, TZr_189, TZr_190, TZr_191, TZr_192, TZr_194, TZr_196, TZr_197, TZr_198, TZr_199, TZr_200, TZr_202, by simp⟩
set_option maxRecDepth 100000 in
def TT : Tys Tryz.prog where
  ty := TTy
  sz := TSz
  zr := TZr
  tyOk := fun t d h => TTy_ok _ (look_mem h)
  szOk := fun t s b h => by
    have h1 := List.all_eq_true.1 TSz_ok _ (look_mem h)
    simp only [Option.any_eq_true_iff_get, Bool.and_eq_true, beq_iff_eq] at h1
    obtain ⟨hs, ⟨h2, h3⟩, hz, h4⟩ := h1
    exact ⟨_, (Option.some_get hs).symm, h2, h3, _, (Option.some_get hz).symm, h4⟩
  zrOk := fun t z h => by
    have h1 := TZr_ok _ (look_mem h)
    simp only [Option.bind_eq_some_iff] at h1
    exact h1
theorem mixed : Tryz.prog.follows .mixedOrders = true := by kernel_rfl
end Go.Proofs.YtgmlkhfjhogdbaaGreat

/- The named structs of the program, as typed values. Written by gen/tg.py. -/
namespace Go.Proofs.YtgmlkhfjhogdbaaGreat
open Go.RowKit P
set_option linter.unusedVariables false
set_option linter.unusedSimpArgs false
structure VboundsError where
  x : Int
  y : Int
  signed : Bool
  code : UInt8
structure VerrorAddressString where
  msg : List UInt8
  addr : Int
structure VLabel where
  Name : List UInt8
  Value : List UInt8
structure VMutex where
  state : Int
  sema : Int
def ET : Nat → Type
  | 0 => VboundsError
  | 1 => VerrorAddressString
  | 2 => VLabel
  | 3 => VMutex
  | _ => Unit
def enc_VboundsError (z : VboundsError) : List AV := [.v (.int .i64 z.x)] ++ [.v (.int .i64 z.y)] ++ [.v (.bool z.signed)] ++ [.v (.int .u8 (UInt8.toNat z.code))]
def enc_VerrorAddressString (z : VerrorAddressString) : List AV := [.v (.string (mkB z.msg))] ++ [.v (.int .u64 z.addr)]
def enc_VLabel (z : VLabel) : List AV := [.v (.string (mkB z.Name))] ++ [.v (.string (mkB z.Value))]
def enc_VMutex (z : VMutex) : List AV := [.v (.int .i32 z.state)] ++ [.v (.int .u32 z.sema)]
def encE : ∀ i, ET i → List AV
  | 0, z => enc_VboundsError z
  | 1, z => enc_VerrorAddressString z
  | 2, z => enc_VLabel z
  | 3, z => enc_VMutex z
  | _ + 4, _ => []
def szE : Nat → Nat
  | 0 => 4
  | 1 => 2
  | 2 => 2
  | 3 => 2
  | _ => 0
def ECC : Enc where
  T := ET
  enc := encE
  sz := szE
  len := fun i z => match i, z with
    | 0, z => rfl
    | 1, z => rfl
    | 2, z => rfl
    | 3, z => rfl
    | _ + 4, _ => rfl
  one := fun i z => match i, z with
    | 0, z => by intro u hu; simp only [encE, enc_VboundsError, enc_VerrorAddressString, enc_VLabel, enc_VMutex, List.cons_append, List.nil_append, List.mem_cons, List.not_mem_nil, or_false] at hu; rcases hu with rfl | rfl | rfl | rfl <;> exact ⟨rfl, rfl⟩
    | 1, z => by intro u hu; simp only [encE, enc_VboundsError, enc_VerrorAddressString, enc_VLabel, enc_VMutex, List.cons_append, List.nil_append, List.mem_cons, List.not_mem_nil, or_false] at hu; rcases hu with rfl | rfl <;> exact ⟨rfl, rfl⟩
    | 2, z => by intro u hu; simp only [encE, enc_VboundsError, enc_VerrorAddressString, enc_VLabel, enc_VMutex, List.cons_append, List.nil_append, List.mem_cons, List.not_mem_nil, or_false] at hu; rcases hu with rfl | rfl <;> exact ⟨rfl, rfl⟩
    | 3, z => by intro u hu; simp only [encE, enc_VboundsError, enc_VerrorAddressString, enc_VLabel, enc_VMutex, List.cons_append, List.nil_append, List.mem_cons, List.not_mem_nil, or_false] at hu; rcases hu with rfl | rfl <;> exact ⟨rfl, rfl⟩
    | _ + 4, _ => by intro u hu; cases hu
def unpE : ∀ i, ET i → List (TA ET)
  | 0, z => [.d (.int .i64) z.x, .d (.int .i64) z.y, .d .bool z.signed, .d .byte z.code]
  | 1, z => [.d .str z.msg, .d (.int .u64) z.addr]
  | 2, z => [.d .str z.Name, .d .str z.Value]
  | 3, z => [.d (.int .i32) z.state, .d (.int .u32) z.sema]
  | _ + 4, _ => []
def pk_VboundsError (l : List (TA ET)) : Option (VboundsError × List (TA ET)) :=
  match pkL (.int .i64) l with
  | none => none
  | some (a0, l) =>
    match pkL (.int .i64) l with
    | none => none
    | some (a1, l) =>
      match pkL .bool l with
      | none => none
      | some (a2, l) =>
        match pkL .byte l with
        | none => none
        | some (a3, l) =>
          some (⟨a0, a1, a2, a3⟩, l)
theorem pk_VboundsError_to (l : List (TA ET)) (z : VboundsError) (r : List (TA ET)) (ρ : Nat → Nat) (h : pk_VboundsError l = some (z, r)) : LeL (l.map fun a => (a.rd.to ECC ρ)) (enc_VboundsError z ++ r.map fun a => (a.rd.to ECC ρ)) := by
  unfold pk_VboundsError at h
  split at h
  · cases h
  · rename_i a0 l0 h0
    split at h
    · cases h
    · rename_i a1 l1 h1
      split at h
      · cases h
      · rename_i a2 l2 h2
        split at h
        · cases h
        · rename_i a3 l3 h3
          cases h
          have hh := (pkL_to ECC ρ rfl h0).trans ((LeL.refl _).append ((pkL_to ECC ρ rfl h1).trans ((LeL.refl _).append ((pkL_to ECC ρ rfl h2).trans ((LeL.refl _).append (pkL_to ECC ρ rfl h3))))))
          exact hh
def pk_VerrorAddressString (l : List (TA ET)) : Option (VerrorAddressString × List (TA ET)) :=
  match pkL .str l with
  | none => none
  | some (a0, l) =>
    match pkL (.int .u64) l with
    | none => none
    | some (a1, l) =>
      some (⟨a0, a1⟩, l)
theorem pk_VerrorAddressString_to (l : List (TA ET)) (z : VerrorAddressString) (r : List (TA ET)) (ρ : Nat → Nat) (h : pk_VerrorAddressString l = some (z, r)) : LeL (l.map fun a => (a.rd.to ECC ρ)) (enc_VerrorAddressString z ++ r.map fun a => (a.rd.to ECC ρ)) := by
  unfold pk_VerrorAddressString at h
  split at h
  · cases h
  · rename_i a0 l0 h0
    split at h
    · cases h
    · rename_i a1 l1 h1
      cases h
      have hh := (pkL_to ECC ρ rfl h0).trans ((LeL.refl _).append (pkL_to ECC ρ rfl h1))
      exact hh
def pk_VLabel (l : List (TA ET)) : Option (VLabel × List (TA ET)) :=
  match pkL .str l with
  | none => none
  | some (a0, l) =>
    match pkL .str l with
    | none => none
    | some (a1, l) =>
      some (⟨a0, a1⟩, l)
theorem pk_VLabel_to (l : List (TA ET)) (z : VLabel) (r : List (TA ET)) (ρ : Nat → Nat) (h : pk_VLabel l = some (z, r)) : LeL (l.map fun a => (a.rd.to ECC ρ)) (enc_VLabel z ++ r.map fun a => (a.rd.to ECC ρ)) := by
  unfold pk_VLabel at h
  split at h
  · cases h
  · rename_i a0 l0 h0
    split at h
    · cases h
    · rename_i a1 l1 h1
      cases h
      have hh := (pkL_to ECC ρ rfl h0).trans ((LeL.refl _).append (pkL_to ECC ρ rfl h1))
      exact hh
def pk_VMutex (l : List (TA ET)) : Option (VMutex × List (TA ET)) :=
  match pkL (.int .i32) l with
  | none => none
  | some (a0, l) =>
    match pkL (.int .u32) l with
    | none => none
    | some (a1, l) =>
      some (⟨a0, a1⟩, l)
theorem pk_VMutex_to (l : List (TA ET)) (z : VMutex) (r : List (TA ET)) (ρ : Nat → Nat) (h : pk_VMutex l = some (z, r)) : LeL (l.map fun a => (a.rd.to ECC ρ)) (enc_VMutex z ++ r.map fun a => (a.rd.to ECC ρ)) := by
  unfold pk_VMutex at h
  split at h
  · cases h
  · rename_i a0 l0 h0
    split at h
    · cases h
    · rename_i a1 l1 h1
      cases h
      have hh := (pkL_to ECC ρ rfl h0).trans ((LeL.refl _).append (pkL_to ECC ρ rfl h1))
      exact hh
def EE : Env where
  toEnc := ECC
  unp := unpE
  unp_to := fun i z ρ => match i, z with
    | 0, z => rfl
    | 1, z => rfl
    | 2, z => rfl
    | 3, z => rfl
    | _ + 4, _ => rfl
  pk := fun i l => match i with
    | 0 => pk_VboundsError l
    | 1 => pk_VerrorAddressString l
    | 2 => pk_VLabel l
    | 3 => pk_VMutex l
    | _ => none
  pk_to := fun i l z r ρ h => match i, z, h with
    | 0, z, h => pk_VboundsError_to l z r ρ h
    | 1, z, h => pk_VerrorAddressString_to l z r ρ h
    | 2, z, h => pk_VLabel_to l z r ρ h
    | 3, z, h => pk_VMutex_to l z r ρ h
    | _ + 4, z, h => by cases h
  et := [(22, (.sl (.nam 2))), (54, (.sl (.sl (.nam 2)))), (59, (.sl .str)), (92, (.sl .byte)), (162, (.sl (.int .i64))), (186, (.sl .byte))]
  ct := [(22, [(.sl (.nam 2))]), (54, [(.sl (.sl (.nam 2)))]), (59, [(.sl .str)]), (88, [(.int .u32), (.int .i32), (.int .u32), .bool, (.sl .str)]), (89, [(.int .u32), (.int .i32), (.int .u32), .bool, (.sl .str)]), (92, [(.sl .byte)]), (93, [.bool, (.sl .byte)]), (94, [.bool, (.sl .byte)]), (162, [(.sl (.int .i64))]), (186, [(.sl .byte)])]
def EQT : List (Nat × List Ty) := [(42, [.str, .str])]
theorem eqok_42 : EqOk Tryz.prog TT 42 [.str, .str] := ⟨by kernel_rfl, by kernel_rfl, by kernel_rfl, by kernel_rfl⟩
theorem EQT_ok : ∀ p ∈ EQT, EqOk Tryz.prog TT p.1 p.2 := by
  simp only [EQT, List.forall_mem_cons]
  exact ⟨eqok_42, by simp⟩
end Go.Proofs.YtgmlkhfjhogdbaaGreat

/- A machine without unknowns: it is run. -/
namespace Go.Proofs.YtgmlkhfjhogdbaaGreat
open Go.RowKit P
set_option linter.unusedSimpArgs false
set_option linter.unusedVariables false
/-- A tree without unknowns. -/
def Tree.go {L : Type} : Tree L → Option L
  | .leaf x => some x
  | .cond true s _ => go s
  | .cond false _ t => go t
  | .bnd (some z) k => go (k z)
  | .bnd none _ => none
  | .sm (.ok z) k _ => go (k z)
  | .sm (.pan v) _ q => go (q v)
  | .nl [] _ _ => none
  | .nl (_ :: _) _ t => go t
  | .fail => none
theorem Tree.go_holds {L : Type} {K : L → Prop} : ∀ {t : Tree L} {x : L}, t.go = some x → K x → t.holds K
  | .leaf _, _, h, hk => by cases h; exact hk
  | .cond true s t, _, h, hk => ⟨fun _ => go_holds (t := s) h hk, fun e => by cases e⟩
  | .cond false s t, _, h, hk => ⟨(fun e => by cases e), fun _ => go_holds (t := t) h hk⟩
  | .bnd (some z) k, _, h, hk => ⟨z, rfl, go_holds (t := k z) h hk⟩
  | .bnd none _, _, h, hk => by cases h
  | .sm (.ok z) k q, _, h, hk => ⟨fun z' e => (by cases e; exact go_holds (t := k z) h hk), fun v e => by cases e⟩
  | .sm (.pan v) k q, _, h, hk => ⟨(fun z' e => by cases e), fun v' e => by cases e; exact go_holds (t := q v) h hk⟩
  | .nl [] s t, _, h, hk => by cases h
  | .nl (_ :: _) s t, _, h, hk => ⟨(fun e => by cases e), go_holds (t := t) h hk⟩
  | .fail, _, h, hk => by cases h
section
variable {P : Program} (Y : Tys P) (E : Env) (G : Gam E) (lv : Lvs) (rs : List ResultVar)
/-- Up to the end. -/
def evC : Nat → List It2 → TS E.T → Option (RL E.T)
  | 0, _, _ => none
  | m + 1, ks, σ => match (stp Y E G lv rs ks σ).go with
    | some (.go ks' σ') => evC m ks' σ'
    | some (.done r) => some r
    | none => none
end
theorem evC_ok {P : Program} {Y : Tys P} {E : Env} {G : Gam E} {lv : Lvs} {rs : List ResultVar} {K : RL E.T → Prop} : ∀ (m : Nat) (ks : List It2) (σ : TS E.T) (r : RL E.T), evC Y E G lv rs m ks σ = some r → K r → Ends Y E G lv rs K ks σ
  | 0, _, _, _, h, _ => by cases h
  | m + 1, ks, σ, r, h, hk => by
    simp only [evC] at h
    split at h
    · rename_i ks' σ' hg
      exact ends_step (Tree.go_holds hg (evC_ok m ks' σ' r h hk))
    · rename_i r' hg
      cases h
      exact ends_step (Tree.go_holds hg hk)
    · cases h
end Go.Proofs.YtgmlkhfjhogdbaaGreat

/- strings.Replacer's build and its replacer's Replace, run without unknowns. -/
namespace Go.Proofs.YtgmlkhfjhogdbaaGreat
open Go.RowKit P
set_option linter.unusedVariables false
set_option linter.unusedSimpArgs false
set_option maxRecDepth 100000
def sixT : List (List UInt8) := [[92], [92, 92], [34], [92, 34], [10], [92, 110]]
/-- A replacer that is just being made ready. -/
def repT : List (TA EE.T) := [.d (.int .u32) (0 : Int), .d (.int .i32) (1 : Int), .d (.int .u32) (0 : Int), .raw .nilIface, .d (.sl .str) sixT]
def nilsT (n : Nat) : List (TA EE.T) := List.replicate n (.raw (.slice none 0 0))
def tabT : List (TA EE.T) := nilsT 10 ++ [.own .byte ([92, 110] : List UInt8)] ++ nilsT 23 ++ [.own .byte ([92, 34] : List UInt8)] ++ nilsT 57 ++ [.own .byte ([92, 92] : List UInt8)] ++ nilsT 163 ++ [.bsl 94 0 3 3]
theorem build_Gok : GOk Tryz.prog TT EE ⟨[], EQT, [], [94]⟩ := GOk.nil EQT_ok
theorem build_run : evC TT EE ⟨[], EQT, [], [94]⟩ ⟨[], [], [], [], false, [], [100000, 11, 94]⟩ [.tmp 2] 3000 [.c (bodyOf 0 Tryz.f68)] ⟨132, [(0, .a (.box 100000 0))], [(100000, .cs repT)], []⟩ =
    some (.ret (.ifc 135 (.a (.box 11 0))) [(100000, .cs repT), (11, .cs tabT), (94, .row .str ([[10], [34], [92]] : List (List UInt8)))]) := by kernel_rfl
def rep1A : List AV := [.v (.int .u32 0), .v (.int .i32 1), .v (.int .u32 0), .v .nilIface, .sl false 1 (sixT.map (cells EE.toEnc .str))]
def rowA : List AV := [.v (.string (mkB [10])), .v (.string (mkB [34])), .v (.string (mkB [92]))]
def tabA (r : Nat) : List AV := tabT.map (TA.to EE.toEnc fun _ => r)
theorem build_a (B : Nat) : ACalls Tryz.prog 68 [.v (.pointer (some ⟨B, 0, none⟩))] [(B, rep1A)] (fun out H => ∃ k r, k ≠ r ∧ k ≠ B ∧ r ≠ B ∧ out = .ret (.ifc 135 (.v (.pointer (some ⟨k, 0, none⟩)))) ∧ H = [(B, rep1A), (k, tabA r), (r, rowA)]) := by
  have h := fn_okH (Y := TT) (lv := ⟨[], [], [], [], false, [], [100000, 11, 94]⟩) (rs := [.tmp 2]) (K := fun r => r = (.ret (.ifc 135 (.a (.box 11 0))) [(100000, .cs repT), (11, .cs tabT), (94, .row .str ([[10], [34], [92]] : List (List UInt8)))])) (bodyOf 0 Tryz.f68) 132 mixed build_Gok Tryz.func68 (by kernel_rfl) rfl rfl rfl (us := [.a (.box 100000 0)]) rfl (h0 := [(100000, .cs repT)]) (evC_ok _ _ _ _ build_run rfl) (fun _ => B) (fun p hp q hq e => by simp at hp hq; rw [hp, hq])
  refine h.mono ?_
  rintro out H ⟨r, ρ', rfl, ha, h1, h2, h3⟩
  have hB : ρ' 100000 = B := ha 100000 rfl
  refine ⟨ρ' 11, ρ' 94, fun e => ?_, fun e => ?_, fun e => ?_, h1, ?_⟩
  · have := h3 (11, .cs tabT) (by simp) (94, .row .str ([[10], [34], [92]] : List (List UInt8))) (by simp) e
    cases this
  · have := h3 (11, .cs tabT) (by simp) (100000, .cs repT) (by simp) (e.trans hB.symm)
    cases this
  · have := h3 (94, .row .str ([[10], [34], [92]] : List (List UInt8))) (by simp) (100000, .cs repT) (by simp) (e.trans hB.symm)
    cases this
  rw [h2]
  show [(ρ' 100000, _), (ρ' 11, _), (ρ' 94, _)] = _
  rw [hB]
  rfl
/-- A text of one byte that is not to be replaced. -/
def tabT2 : List (TA EE.T) := nilsT 10 ++ [.own .byte ([92, 110] : List UInt8)] ++ nilsT 23 ++ [.own .byte ([92, 34] : List UInt8)] ++ nilsT 57 ++ [.own .byte ([92, 92] : List UInt8)] ++ nilsT 163 ++ [.bsl 100001 0 3 3]
theorem rep_Gok : GOk Tryz.prog TT EE ⟨[], EQT, [], []⟩ := GOk.nil EQT_ok
theorem repX_run : evC TT EE ⟨[], EQT, [], []⟩ ⟨[], [], [], [], false, [], []⟩ [.tmp 4] 3000 [.c (bodyOf 0 Tryz.f135)] ⟨122, [(0, .a (.box 100000 0)), (1, .a (.d .str ([120] : List UInt8)))], [(100000, .cs tabT2), (100001, .row .str ([[10], [34], [92]] : List (List UInt8)))], []⟩ =
    some (.ret (.a (.d .str ([120] : List UInt8))) []) := by kernel_rfl
theorem repX_a (k r : Nat) (hkr : k ≠ r) : ACalls Tryz.prog 135 [.v (.pointer (some ⟨k, 0, none⟩)), .v (.string (mkB [120]))] [(k, tabA r), (r, rowA)] (fun out H => out = .ret (.v (.string (mkB [120]))) ∧ H = []) := by
  have h := fn_okH (Y := TT) (lv := ⟨[], [], [], [], false, [], []⟩) (rs := [.tmp 4]) (K := fun r => r = (.ret (.a (.d .str ([120] : List UInt8))) [])) (bodyOf 0 Tryz.f135) 122 mixed rep_Gok Tryz.func135 (by kernel_rfl) rfl rfl rfl (us := [.a (.box 100000 0), .a (.d .str ([120] : List UInt8))]) rfl (h0 := [(100000, .cs tabT2), (100001, .row .str ([[10], [34], [92]] : List (List UInt8)))]) (evC_ok _ _ _ _ repX_run rfl) (fun i => if i = 100000 then k else r) (fun p hp q hq e => by
    simp only [List.mem_cons, List.not_mem_nil, or_false] at hp hq
    rcases hp with rfl | rfl <;> rcases hq with rfl | rfl
    · rfl
    · exact absurd e hkr
    · exact absurd e.symm hkr
    · rfl)
  exact h.mono fun out H hp => hp.ret rfl
end Go.Proofs.YtgmlkhfjhogdbaaGreat

/- strings.Replacer's buildOnce, walked over abstract values. -/
namespace Go.Proofs.YtgmlkhfjhogdbaaGreat
open Go.RowKit P
set_option linter.unusedSimpArgs false
set_option linter.unusedVariables false
attribute [local irreducible] AS.nf OpV ARun Stk QSem QSemA ACalls EffOp AppOk SrcOk Awp Aops tabA rowA
set_option maxHeartbeats 1000000
/-- A replacer that has just been made ready. -/
def doneA (k : Nat) : List AV := [.v (.int .u32 0), .v (.int .i32 1), .v (.int .u32 0), .ifc 135 (.v (.pointer (some ⟨k, 0, none⟩))), .v (.slice none 0 0)]
set_option maxRecDepth 100000 in
theorem buildOnce_a (B : Nat) : ACalls Tryz.prog 49 [.v (.pointer (some ⟨B, 0, none⟩))] [(B, rep1A)] (fun out H => ∃ k r, k ≠ r ∧ k ≠ B ∧ r ≠ B ∧ out = .ret (.tu []) ∧ ∀ q cs, look [(B, doneA k), (k, tabA r), (r, rowA)] q = some cs → look H q = some cs) := by
  have h := build_a B
  unfold rep1A at h ⊢
  generalize hsix : (sixT.map (cells EE.toEnc .str)) = six' at h ⊢
  refine acalls_enter _ 10 [] Tryz.func49 (by kernel_rfl) rfl rfl rfl rfl ?_
  dsimp only [slotsOf]
  repeat (first
    | ((first | apply ar_un); (next => (first | (simp only [go_sem, Nat.reduceBEq, Nat.reduceEqDiff, reduceIte, reduceCtorEq, String.reduceEq, Nat.reduceAdd, Int.reduceToNat]; exact rfl))))
    | (apply ar_op' rfl rfl rfl rfl; (next => (first
     | (refine evalE_ok (T := TT) rfl ?_; (first | exact trivial))
     | (apply opk ⟨_, .fieldAddr _ _ _, _, _, _, _⟩; first | exact opv_field_box (T := TT) rfl rfl rfl rfl rfl | fail)
     | fail)))
    | (refine arO _ ?_; first
     | (refine arO ⟨_, .store _ _ _, _, _, _, _⟩ ?_; first
      | (apply ar_effM rfl rfl; (next => (first
       | (apply effTo_store (T := TT) rfl; (next => (first | exact look_hd | fail)); (next => rfl); (next => rfl); (next => rfl); (next => rfl); (next => rfl); (next => rfl); (next => rfl); (next => rfl))
       | fail)))
      | fail)
     | (refine arO ⟨_, .call { callee := .value _, args := _, argTypes := _ }, _, _, _, _⟩ ?_; first
      | (apply ar_callMH rfl (h) rfl rfl; (next => (repeat (first | exact PArgs.nil | (apply PArgs.cons; (next => (first | exact PArg.rd rfl (Le1.refl _) rfl)))))); (next => rfl); (next => rfl); (next => rfl); rintro _ _ ⟨k, r, hkr, hkB, hrB, rfl, rfl⟩; refine ⟨_, rfl, ?_⟩)
      | fail)
     | fail)
    | refine ar_seq ?_
    | (refine arE ?_; refine ar_endM [0] rfl ?_)
    | refine ar_region ?_
    | fail)
  refine ar_nil ⟨.tu [], rfl, k, r, hkr, hkB, hrB, rfl, fun q cs hq => ?_⟩
  simp only [look_cons, look_nil] at hq ⊢
  by_cases e : q = B
  · rw [if_pos e] at hq ⊢; exact hq
  · rw [if_neg e] at hq
    rw [if_neg e, if_neg e, if_neg e]; exact hq
end Go.Proofs.YtgmlkhfjhogdbaaGreat

/- The parts of sync.Once's slow road, each a contract of its own (turned from the kit's worked proof Lazy). -/
namespace Go.Proofs.YtgmlkhfjhogdbaaGreat

theorem race_off (w : World) : (callFunc 92 #[]).run Tryz.prog w = .ok (.value (.tuple #[])) w := run_call_mark0 Tryz.func92 (by kernel_rfl) (by kernel_rfl) (by kernel_rfl) .disable (by kernel_rfl) w
theorem race_on (w : World) : (callFunc 94 #[]).run Tryz.prog w = .ok (.value (.tuple #[])) w := run_call_mark0 Tryz.func94 (by kernel_rfl) (by kernel_rfl) (by kernel_rfl) .enable (by kernel_rfl) w
theorem race_acquire (a : Addr) (w : World) : (callFunc 95 #[.pointer (some a)]).run Tryz.prog w = .ok (.value (.tuple #[])) w := run_call_marked Tryz.func95 (by kernel_rfl) (by kernel_rfl) (by kernel_rfl) .acquire (by kernel_rfl) a w
theorem race_release (a : Addr) (w : World) : (callFunc 97 #[.pointer (some a)]).run Tryz.prog w = .ok (.value (.tuple #[])) w := run_call_marked Tryz.func97 (by kernel_rfl) (by kernel_rfl) (by kernel_rfl) .releaseMerge (by kernel_rfl) a w

set_option maxRecDepth 100000 in
set_option maxHeartbeats 1600000 in
/-- '(*sync/atomic.Bool).Store(true)', entered as a deferred call. -/
theorem store_deferred (a : Addr) (x : Value) (u : FrameMode) (w : World) (hc : w.cell? a = some x) (hz : w.frozen? a = false) :
    CallsD Tryz.prog 80 #[.pointer (some a), .bool true] u w fun e u' w' => u' = u ∧ (e = .returned (.tuple #[]) ∧ w' = w.drew.setCell a (.int .u32 1)) := by
  have hc' : w.drew.cell? a = some x := by go_simp
  have hz' : w.drew.frozen? a = false := by go_simp
  have hst := run_call_store (P := Tryz.prog) Tryz.func88 (by kernel_rfl) (by kernel_rfl) (by kernel_rfl) (by kernel_rfl) (k := .u32) (y := 1) hc' hz'
  go_enter_d Tryz.func80, Tryz.ntmps80
  go_wp2
  go_region_calls
  all_goals (go_end0; exact ⟨rfl, rfl⟩)

set_option maxRecDepth 100000 in
set_option maxHeartbeats 1600000 in
/-- '(*sync.Mutex).Unlock', entered as a deferred call, the lock held and nobody waiting. -/
theorem unlock_deferred (a : Addr) (u : FrameMode) (w : World) (hc : w.cell? a = some (.int .i32 1)) (hz : w.frozen? a = false) :
    CallsD Tryz.prog 79 #[.pointer (some a)] u w fun e u' w' => u' = u ∧ (e = .returned (.tuple #[]) ∧ w' = w.setCell a (.int .i32 0)) := by
  have hd := race_off
  have he := race_on
  have hr := race_release
  have hadd := run_call_add (P := Tryz.prog) Tryz.func98 (by kernel_rfl) (by kernel_rfl) (by kernel_rfl) .i32 (by kernel_rfl) (y := -1) (s := 0) hc hz (by simp [go_sem]; rfl)
  have hcv := run_convert_to_unsafe (P := Tryz.prog) (src := 156) (dst := 136) Tryz.underlying156 Tryz.underlying136 (by kernel_rfl) hc
  go_enter_d Tryz.func79, Tryz.ntmps79
  go_wp2
  go_end0
  go_wp2
  go_end0
  exact ⟨rfl, rfl⟩

set_option maxRecDepth 100000 in
set_option maxHeartbeats 1600000 in
/-- '(*sync.Mutex).Lock', the lock free. -/
theorem lock_free (a : Addr) (w : World) (hc : w.cell? a = some (.int .i32 0)) (hz : w.frozen? a = false) :
    Calls Tryz.prog 78 #[.pointer (some a)] w fun e w' => e = .returned (.tuple #[]) ∧ w' = w.setCell a (.int .i32 1) := by
  have hd := race_off
  have he := race_on
  have ha := race_acquire
  have hcas := run_call_cas_hit (P := Tryz.prog) Tryz.func93 (by kernel_rfl) (by kernel_rfl) (by kernel_rfl) .i32 (by kernel_rfl) (y := 1) hc hz
  have hc' : (w.setCell a (.int .i32 1)).cell? a = some (.int .i32 1) := World.cell?_setCell_same w a _ hc
  have hcv := run_convert_to_unsafe (P := Tryz.prog) (src := 156) (dst := 136) Tryz.underlying156 Tryz.underlying136 (by kernel_rfl) hc'
  go_enter Tryz.func78, Tryz.ntmps78
  go_wp2
  first | go_end0 | (simp only [Exit.inBlock, Exit.then]; refine bodyPost_ret (results_none rfl _ _ _) rfl ?_) | refine bodyPost_ret (results_none rfl _ _ _) rfl ?_
  go_wp2
  go_end0
  exact ⟨rfl, rfl⟩
end Go.Proofs.YtgmlkhfjhogdbaaGreat

/- sync.Once.Do with a method's value, not yet done (turned from the kit's worked proof Lazy). -/
namespace Go.Proofs.YtgmlkhfjhogdbaaGreat

/-- What the call of the function must leave. -/
def OnceLeft (b off : Nat) (w : World) : Prop := w.cell? ⟨b, off, none⟩ = some (.int .u32 0) ∧ w.frozen? ⟨b, off, none⟩ = false ∧ w.cell? ⟨b, off + 1, none⟩ = some (.int .i32 1) ∧ w.frozen? ⟨b, off + 1, none⟩ = false
set_option maxRecDepth 100000 in
set_option maxHeartbeats 1600000 in
theorem slow_any (b off : Nat) (p : Addr) (w : World) (R : World → Prop)
    (h0 : w.cell? ⟨b, off, none⟩ = some (.int .u32 0)) (h1 : w.cell? ⟨b, off + 1, none⟩ = some (.int .i32 0)) (f1 : w.frozen? ⟨b, off + 1, none⟩ = false)
    (hf : Calls Tryz.prog 49 #[.pointer (some p)] (w.setCell ⟨b, off + 1, none⟩ (.int .i32 1)) fun e w' => e = .returned (.tuple #[]) ∧ OnceLeft b off w' ∧ R w') :
    Calls Tryz.prog 67 #[.pointer (some ⟨b, off, none⟩), .func (.func 49) #[.pointer (some p)] #[]] w fun e w' => e = .returned (.tuple #[]) ∧
      ∃ w1, R w1 ∧ OnceLeft b off w1 ∧ w' = (w1.drew.setCell ⟨b, off, none⟩ (.int .u32 1)).setCell ⟨b, off + 1, none⟩ (.int .i32 0) := by
  have hl := run_call_load (P := Tryz.prog) Tryz.func77 (by kernel_rfl) (by kernel_rfl) (by kernel_rfl) .u32 (by kernel_rfl) (w := w.setCell ⟨b, off + 1, none⟩ (.int .i32 1)) (a := ⟨b, off, none⟩) (x := 0) ((World.cell?_setCell_other _ ⟨b, off + 1, none⟩ ⟨b, off, none⟩ _ (by simp)).trans h0)
  have hnot : ∀ (x : Bool) (w : World), (Op.unary .not (.bool x)).run Tryz.prog w = .ok (.bool (!x)) w := fun _ _ => rfl
  go_enter_defers Tryz.func67, Tryz.ntmps67
  go_wp2_with (go_at_call 78; refine (lock_free ⟨b, off + 1, none⟩ _ (by go_simp) (by go_simp)).mono ?_; rintro e w' ⟨rfl, rfl⟩)
  go_wp2_with (first | (go_at_call 49; refine hf.mono ?_; rintro e w' ⟨rfl, ⟨l0, l1, l2, l3⟩, hR⟩) | (go_at_call 66; go_in))
  refine leaves_cons (f := 80) (args := #[.pointer (some ⟨b, off, none⟩), .bool true]) (by simp) (by simp [go_sem]) ?_
  refine (store_deferred ⟨b, off, none⟩ (.int .u32 0) .returning _ l0 l1).mono ?_
  rintro e u' w'' ⟨rfl, rfl, rfl⟩
  refine leaves_cons (f := 79) (args := #[.pointer (some ⟨b, off + 1, none⟩)]) (by simp [settle]) (by simp [go_sem]) ?_
  refine (unlock_deferred ⟨b, off + 1, none⟩ _ _ ?_ (by simp [l3])).mono ?_
  · refine (World.cell?_setCell_other _ ⟨b, off, none⟩ ⟨b, off + 1, none⟩ _ (by simp)).trans ?_
    rw [World.cell?_drew]
    exact l2
  rintro e u' w'' ⟨rfl, rfl, rfl⟩
  simp [Leaves, settle, results, Tryz.results67]
  exact ⟨_, hR, ⟨l0, l1, l2, l3⟩, rfl⟩
set_option maxRecDepth 100000 in
set_option maxHeartbeats 1600000 in
theorem do_first (b off : Nat) (p : Addr) (w : World) (R : World → Prop)
    (h0 : w.cell? ⟨b, off, none⟩ = some (.int .u32 0)) (h1 : w.cell? ⟨b, off + 1, none⟩ = some (.int .i32 0)) (f1 : w.frozen? ⟨b, off + 1, none⟩ = false)
    (hf : Calls Tryz.prog 49 #[.pointer (some p)] (w.setCell ⟨b, off + 1, none⟩ (.int .i32 1)) fun e w' => e = .returned (.tuple #[]) ∧ OnceLeft b off w' ∧ R w') :
    Calls Tryz.prog 48 #[.pointer (some ⟨b, off, none⟩), .func (.func 49) #[.pointer (some p)] #[]] w fun e w' => e = .returned (.tuple #[]) ∧
      ∃ w1, R w1 ∧ OnceLeft b off w1 ∧ w' = (w1.drew.setCell ⟨b, off, none⟩ (.int .u32 1)).setCell ⟨b, off + 1, none⟩ (.int .i32 0) := by
  have hl := run_call_load (P := Tryz.prog) Tryz.func77 (by kernel_rfl) (by kernel_rfl) (by kernel_rfl) .u32 (by kernel_rfl) h0
  have hnot : ∀ (x : Bool) (w : World), (Op.unary .not (.bool x)).run Tryz.prog w = .ok (.bool (!x)) w := fun _ _ => rfl
  go_enter Tryz.func48, Tryz.ntmps48
  go_wp2_with (first | (go_at_call 67; refine (slow_any b off p _ R h0 h1 f1 hf).mono ?_; rintro e w' ⟨rfl, hR⟩) | (go_at_call 66; go_in))
  go_end0
  exact ⟨rfl, hR⟩
end Go.Proofs.YtgmlkhfjhogdbaaGreat

/- strings.Replacer's Replace on a replacer just made, over the contract of what replaces. -/
namespace Go.Proofs.YtgmlkhfjhogdbaaGreat
open Go.RowKit P
set_option linter.unusedSimpArgs false
set_option linter.unusedVariables false
theorem sim_frame {F : Nat → Prop} {X : GW} {σ : AS} {tm : Array Value} (h : SimE F X σ tm) (us : List Value) (H : List (Nat × List AV)) (hH : ∀ q cs, look H q = some cs → look σ.h q = some cs) : SimE F X ⟨us.length, slotsOf 0 (us.map .v), H, []⟩ us.toArray := by
  refine h.other (by simp) h.fb (fun t u hu => ?_) (fun k cs hk => ⟨hH k cs hk, (h.box k cs (hH k cs hk)).nF⟩) rfl id (fun r sz l ho => ?_) (fun _ _ _ _ _ _ _ _ hne _ _ _ _ => hne)
  · obtain ⟨_, h2⟩ := look_slotsOf _ _ _ _ hu
    simp only [Nat.sub_zero, List.getElem?_map, Option.map_eq_some_iff] at h2
    obtain ⟨v, hv, rfl⟩ := h2
    have : us.toArray.getD t undef = v := by simp [Array.getD_eq_getD_getElem?, hv]
    rw [this]
    exact .v v
  · cases r with
    | s t =>
      exfalso
      simp only [AS.own] at ho
      cases hl : look (slotsOf 0 (us.map AV.v)) t with
      | none => rw [hl] at ho; cases ho
      | some u =>
        obtain ⟨_, h2⟩ := look_slotsOf _ _ _ _ hl
        simp only [Nat.sub_zero, List.getElem?_map, Option.map_eq_some_iff] at h2
        obtain ⟨v, hv, rfl⟩ := h2
        rw [hl] at ho; cases ho
    | c k o =>
      right
      have ho' : σ.own (.c k o) = some (sz, l) := by
        simp only [AS.own] at ho ⊢
        cases hl : look H k with
        | none => rw [hl] at ho; cases ho
        | some cs => rw [hl] at ho; rw [hH k cs hl]; exact ho
      exact ⟨ho', rfl, fun a n c hr => (h.own_nF ho' hr).1⟩
/-- A replacer that has not been used. -/
def repA : List AV := [.v (.int .u32 0), .v (.int .i32 0), .v (.int .u32 0), .v .nilIface, .sl false 1 (sixT.map (cells EE.toEnc .str))]
theorem box_cell {F : Nat → Prop} {X : GW} {σ : AS} {tm : Array Value} (h : SimE F X σ tm) {B o : Nat} {cs : List AV} (hb : look σ.h B = some cs) (hm : isMpB cs = false) {u : AV} (hu : cs[o]? = some u) : ∃ v, X.w.cell? ⟨B, o, none⟩ = some v ∧ Rel X u v ∧ X.w.frozen? ⟨B, o, none⟩ = false := by
  obtain ⟨b1, b2, arr, el, fr, b3, b4, b5, b6⟩ := (h.box B cs hb).cells hm
  have hlt : o < arr.size := by rw [b4]; exact (List.getElem?_eq_some_iff.1 hu).1
  refine ⟨arr[o], ?_, b6 o u _ hu (Array.getElem?_eq_getElem hlt), b5 o⟩
  simp [World.cell?, b3, hlt]
theorem box_val {F : Nat → Prop} {X : GW} {σ : AS} {tm : Array Value} (h : SimE F X σ tm) {B o : Nat} {cs : List AV} (hb : look σ.h B = some cs) (hm : isMpB cs = false) {v : Value} (hu : cs[o]? = some (.v v)) : X.w.cell? ⟨B, o, none⟩ = some v ∧ X.w.frozen? ⟨B, o, none⟩ = false := by
  obtain ⟨v', h1, h2, h3⟩ := box_cell h hb hm hu
  rw [rel_v h2] at h1
  exact ⟨h1, h3⟩
/-- A plain cell of a box is written. -/
theorem set_plain {F : Nat → Prop} {X : GW} {σ : AS} {tm : Array Value} (h : SimE F X σ tm) {B o : Nat} {cs : List AV} (hb : look σ.h B = some cs) (hm : isMpB cs = false) (ho : o + 1 ≤ cs.length) (v : Value) : SimE F ⟨X.w.setCell ⟨B, o, none⟩ v, X.g⟩ (σ.setc B (splice cs o [.v v])) tm ∧ Ext F X ⟨X.w.setCell ⟨B, o, none⟩ v, X.g⟩ :=
  SimE.setc (us := [.v v]) (vs := [v]) h hb ho rfl (fun i u x hu hx => by
    cases i with
    | zero => simp at hu hx; subst hu hx; exact .v _
    | succ i => simp at hu) (fun i sz l x hu hx => by
    cases i with
    | zero => simp [own1] at hu
    | succ i => simp [own1] at hu) (fun i j p q hu => by
    cases i with
    | zero => simp [own1] at hu
    | succ i => simp [own1] at hu) hm
theorem do_ready (B : Nat) (F : Nat → Prop) (X : GW) (σ : AS) (tm : Array Value) (hs : SimE F X σ tm) (hb : look σ.h B = some repA) : Calls Tryz.prog 48 #[.pointer (some ⟨B, 0, none⟩), .func (.func 49) #[.pointer (some ⟨B, 0, none⟩)] #[]] X.w fun e w' => e = .returned (.tuple #[]) ∧
      ∃ (X2 : GW) (k r : Nat) (v : Value), X2.w = w' ∧ k ≠ r ∧ w'.cell? ⟨B, 3, none⟩ = some (.iface 135 (.pointer (some ⟨k, 0, none⟩))) ∧ SimE F X2 ⟨1, [], [(k, tabA r), (r, rowA)], []⟩ #[v] ∧ Ext F X X2 := by
  have hm : isMpB repA = false := rfl
  obtain ⟨c0, f0⟩ := box_val (o := 0) hs hb hm (v := .int .u32 0) rfl
  obtain ⟨c1, f1⟩ := box_val (o := 1) hs hb hm (v := .int .i32 0) rfl
  obtain ⟨s1, x1⟩ := set_plain (o := 1) hs hb hm (by decide) (.int .i32 1)
  have s1' := sim_frame s1 [.pointer (some ⟨B, 0, none⟩)] [(B, rep1A)] (fun q cs hq => by
    simp only [look_cons, look_nil, AS.setc] at hq ⊢
    split at hq
    · rename_i e; rw [if_pos e]; exact hq
    · cases hq)
  have hbo := (buildOnce_a B).2 F _ _ s1'
  have hdo := do_first B 0 ⟨B, 0, none⟩ X.w (fun w' => ∃ (X1 : GW) (k r : Nat) (v : Value), X1.w = w' ∧ k ≠ r ∧ k ≠ B ∧ r ≠ B ∧ SimE F X1 ⟨1, [], [(B, doneA k), (k, tabA r), (r, rowA)], []⟩ #[v] ∧ Ext F X X1) c0 c1 f1 (hbo.mono fun e w' ⟨X1, out, H', h1, ⟨k, r, hkr, hkB, hrB, h2, h3⟩, h4, h5⟩ => by
    subst h1 h2
    obtain ⟨v, k1, k2⟩ := h4
    have k3 : SimE F X1 ⟨1, [], [(B, doneA k), (k, tabA r), (r, rowA)], []⟩ #[v] := k2.sub rfl (fun t u hu => by simp [look_nil] at hu) h3 (fun p hp => by cases hp)
    have hv : v = .tuple #[] := by
      have := k2.slot 0 (.tu []) rfl
      cases this with
      | tu us xs hl hr =>
        have : xs = #[] := by apply Array.eq_empty_of_size_eq_zero; simpa using hl.symm
        subst this
        simp_all
    have hmd : isMpB (doneA k) = false := rfl
    obtain ⟨d0, e0⟩ := box_val (o := 0) k3 (B := B) (cs := doneA k) (by simp [look_cons]) hmd (v := .int .u32 0) rfl
    obtain ⟨d1, e1⟩ := box_val (o := 1) k3 (B := B) (cs := doneA k) (by simp [look_cons]) hmd (v := .int .i32 1) rfl
    exact ⟨by rw [k1, hv], ⟨d0, e0, d1, e1⟩, X1, k, r, v, rfl, hkr, hkB, hrB, k3, x1.trans h5⟩)
  refine hdo.mono fun e w' ⟨h1, w1, ⟨X1, k, r, v, hw1, hkr, hkB, hrB, k3, k4⟩, _, h2⟩ => ⟨h1, ?_⟩
  subst hw1 h2
  have hmd : isMpB (doneA k) = false := rfl
  have hXd : New X1 ⟨X1.w.drew, X1.g⟩ := ⟨rfl, rfl, rfl, Nat.le_refl _, fun _ _ => ⟨rfl, rfl⟩⟩
  have k5 := k3.new hXd k3.gb
  obtain ⟨k6, x6⟩ := set_plain (B := B) (o := 0) (cs := doneA k) k5 (by simp [look_cons]) hmd (Nat.le_of_ble_eq_true rfl) (.int .u32 1)
  obtain ⟨k7, x7⟩ := set_plain (B := B) (o := 1) (cs := splice (doneA k) 0 [.v (.int .u32 1)]) k6 (by simp [AS.setc, look_cons]) rfl (Nat.le_of_ble_eq_true rfl) (.int .i32 0)
  obtain ⟨v3, q1, q2, _⟩ := box_cell (B := B) (o := 3) (cs := splice (splice (doneA k) 0 [.v (.int .u32 1)]) 1 [.v (.int .i32 0)]) k7 (by simp [AS.setc, look_cons]) rfl (u := .ifc 135 (.v (.pointer (some ⟨k, 0, none⟩)))) rfl
  refine ⟨_, k, r, v, rfl, hkr, ?_, k7.sub rfl (fun t u hu => by simp [look_nil] at hu) (fun q cs hq => ?_) (fun p hp => by cases hp), ((k4.trans (hXd.ext k3.gb k3.fb)).trans x6).trans x7⟩
  · cases q2 with
    | ifc t u x hr =>
      rw [rel_v hr] at q1
      exact q1
  · simp only [look_cons, look_nil, AS.setc] at hq ⊢
    have hqB : q ≠ B := by
      rintro rfl
      rw [if_neg (fun e => hkB e.symm), if_neg (fun e => hrB e.symm)] at hq
      cases hq
    rw [if_neg hqB, if_neg hqB, if_neg hqB]
    exact hq
theorem two_vals {F : Nat → Prop} {X : GW} {vs : Array Value} {a b : Value} {H : List (Nat × List AV)} (hs : SimE F X ⟨2, slotsOf 0 [.v a, .v b], H, []⟩ vs) : vs = #[a, b] := by
  have h2 : vs.size = 2 := hs.size
  have h0 := rel_v (hs.slot 0 (.v a) rfl)
  have h1 := rel_v (hs.slot 1 (.v b) rfl)
  apply Array.ext
  · simp [h2]
  · intro i hi _
    have : i = 0 ∨ i = 1 := by omega
    rcases this with rfl | rfl
    · simpa [Array.getD_eq_getD_getElem?, hi] using h0
    · simpa [Array.getD_eq_getD_getElem?, hi] using h1
set_option maxRecDepth 100000 in
set_option maxHeartbeats 1600000 in
theorem repl_a (B : Nat) (s out : List UInt8) (hrep : ∀ k r, k ≠ r → ACalls Tryz.prog 135 [.v (.pointer (some ⟨k, 0, none⟩)), .v (.string (mkB s))] [(k, tabA r), (r, rowA)] (fun o H => o = .ret (.v (.string (mkB out))) ∧ H = [])) :
    ACalls Tryz.prog 37 [.v (.pointer (some ⟨B, 0, none⟩)), .v (.string (mkB s))] [(B, repA)] (fun o H => o = .ret (.v (.string (mkB out))) ∧ H = []) := by
  refine ⟨⟨_, Tryz.func37, by kernel_rfl, by kernel_rfl⟩, fun F X vs hs => ?_⟩
  obtain rfl := two_vals hs
  have hdo := do_ready B F X _ _ hs (by simp [look_cons])
  have hmeth : ∀ (k : Nat) (w : World), (method 303 135 (.pointer (some ⟨k, 0, none⟩)) "Replace").run Tryz.prog w = .ok (135, .pointer (some ⟨k, 0, none⟩)) w := fun k w => by kernel_rfl
  go_enter Tryz.func37, Tryz.ntmps37
  go_wp2_with (first | (go_at_call 48; refine hdo.mono ?_; rintro e w' ⟨rfl, X2, k, r, v, hw, hkr, hc3, hs2, hx2⟩; subst hw) | (go_at_call 135; refine ((hrep k r hkr).2 F X2 _ (sim_frame hs2 [.pointer (some ⟨k, 0, none⟩), .string (mkB s)] [(k, tabA r), (r, rowA)] (fun _ _ h => h))).mono ?_; rintro e w' ⟨X3, o3, H3, hw3, ⟨ho3, hH3⟩, he3, hx3⟩; subst hw3 ho3 hH3; obtain ⟨v3, rfl, hs3⟩ := he3))
  go_ret
  exact ⟨X3, .ret (.v (.string (mkB out))), [], rfl, ⟨rfl, rfl⟩, ⟨v3, rfl, hs3⟩, hx2.trans hx3⟩
end Go.Proofs.YtgmlkhfjhogdbaaGreat

/- Small laws for the walks: bits of the wire's numbers, bytes that the call owns read as a string, what stays below. -/
namespace Go.Proofs.YtgmlkhfjhogdbaaGreat
open Go.RowKit P

section
variable {Pr : Program}
end

/-- How many bytes a text that is read takes at most. -/
def Small (n : Nat) : Prop := n ≤ 140737488351232
theorem Small.le {n : Nat} (h : Small n) : n ≤ 140737488351232 := h

end Go.Proofs.YtgmlkhfjhogdbaaGreat

/- labels.IsName, walked: a range over a string. -/
namespace Go.Proofs.YtgmlkhfjhogdbaaGreat
open Go.RowKit P
set_option linter.unusedSimpArgs false
set_option linter.unusedVariables false
/-- May a byte stand in a name, at this place? -/
def nmC (i : Nat) (c : Nat) : Bool := (decide (97 ≤ c) && decide (c ≤ 122) || decide (65 ≤ c) && decide (c ≤ 90) || decide (c = 95)) || (decide (i ≠ 0) && (decide (48 ≤ c) && decide (c ≤ 57)))
def nmAt (s : ByteArray) : Nat → Nat → Bool
  | 0, _ => true
  | b + 1, i => if h : i < s.size then nmC i (s[i]'h).toNat && nmAt s b (i + 1) else true
def nmB (s : ByteArray) : Bool := nmAt s s.size 0 && decide (0 < s.size) && decide (s.size ≤ 40)
theorem nmAt_end {s : ByteArray} {b i : Nat} (h : ¬ i < s.size) : nmAt s b i = true := by
  cases b with
  | zero => rfl
  | succ b => simp [nmAt, h]
theorem width_pos' (s : ByteArray) (pos : Nat) (h : pos < s.size) : 1 ≤ (Utf8.decode s pos).2 := by
  by_cases ha : (s[pos]'h).toNat < 128
  · rw [decode_ascii s pos h ha]
    exact Nat.le_refl _
  · exact (decode_high s pos h (by omega)).2
theorem nmC_dec (s : ByteArray) (pos : Nat) (h : pos < s.size) : nmC pos (s[pos]'h).toNat = nmC pos (Utf8.decode s pos).1 := by
  by_cases ha : (s[pos]'h).toNat < 128
  · rw [decode_ascii s pos h ha]
  · have h1 := (decode_high s pos h (by omega)).1
    have h2 : ∀ c, 128 ≤ c → nmC pos c = false := fun c hc => by
      unfold nmC
      simp only [decide_eq_true_eq, Bool.or_eq_false_iff, Bool.and_eq_false_iff, decide_eq_false_iff_not]
      omega
    rw [h2 _ h1, h2 _ (by omega)]
theorem size_toList' (s : ByteArray) : s.toList.length = s.size := by rw [ByteArray.toList_eq]; rfl
theorem nmAt_step {s : ByteArray} {b pos r : Nat} (hp : pos < s.size) (hb : s.size ≤ pos + b) (hnm : nmC pos (s[pos]'hp).toNat = nmC pos r) (hq : nmC pos r = true) : nmAt s (b - 1) (pos + 1) = nmAt s b pos := by
  cases b with
  | zero => omega
  | succ b =>
    show nmAt s b (pos + 1) = if h : pos < s.size then nmC pos (s[pos]'h).toNat && nmAt s b (pos + 1) else true
    rw [dif_pos hp, hnm, hq, Bool.true_and]
theorem nmAt_stop {s : ByteArray} {b pos r : Nat} (hp : pos < s.size) (hb : s.size ≤ pos + b) (hnm : nmC pos (s[pos]'hp).toNat = nmC pos r) (hq : nmC pos r = false) : nmAt s b pos = false := by
  cases b with
  | zero => omega
  | succ b =>
    show (if h : pos < s.size then nmC pos (s[pos]'h).toNat && nmAt s b (pos + 1) else true) = false
    rw [dif_pos hp, hnm, hq, Bool.false_and]
theorem decode_one (s : ByteArray) (pos : Nat) (h : pos < s.size) (h1 : (Utf8.decode s pos).1 < 128) : (Utf8.decode s pos).2 = 1 := by
  by_cases ha : (s[pos]'h).toNat < 128
  · rw [decode_ascii s pos h ha]
  · have := (decode_high s pos h (by omega)).1; omega
set_option maxHeartbeats 4000000 in
set_option maxRecDepth 1000000 in
theorem isName_walk (s : ByteArray) (hs : s.size < 9223372036854775808) (w : World) : Calls Tryz.prog 19 #[.string s] w fun e w' => e = .returned (.bool (nmB s)) ∧ ∃ pos, w' = w.iter s pos := by
  go_enter Tryz.func19, Tryz.ntmps19
  go_wp2
  go_loopw [2] (fun v w' => ∃ pos b : Nat, w' = w.iter s pos ∧ v = .bool false ∧ nmAt s b pos = nmAt s s.size 0 ∧ s.size ≤ pos + b) (fun _ w' => s.size - w'.iterPos w.heap.size)
  case atStart => exact ⟨0, s.size, rfl, rfl, rfl, by omega⟩
  case round =>
    obtain ⟨pos, b, rfl, rfl, hc, hb⟩ := hrel
    by_cases hp : pos < s.size
    · have hnx : ∀ ty, (Instr.next (.pointer (some ⟨w.heap.size, 0, none⟩)) true ty).run Tryz.prog (w.iter s pos) = _ := fun ty => run_next_any w s pos ty hp
      have hwd := width_pos' s pos hp
      have hnm := nmC_dec s pos hp
      have hr1 := decode_one s pos hp
      generalize (Utf8.decode s pos).1 = r at hnx hnm hr1
      generalize (Utf8.decode s pos).2 = n at hnx hwd hr1
      have hcase : (97 ≤ r ∧ r ≤ 122) ∨ (65 ≤ r ∧ r ≤ 90) ∨ (r = 95) ∨ (48 ≤ r ∧ r ≤ 57 ∧ pos ≠ 0) ∨ (48 ≤ r ∧ r ≤ 57 ∧ pos = 0) ∨ (r < 48 ∧ pos ≠ 0) ∨ (r < 48 ∧ pos = 0) ∨ (58 ≤ r ∧ r ≤ 64 ∧ pos ≠ 0) ∨ (58 ≤ r ∧ r ≤ 64 ∧ pos = 0) ∨ (91 ≤ r ∧ r ≤ 94 ∧ pos ≠ 0) ∨ (91 ≤ r ∧ r ≤ 94 ∧ pos = 0) ∨ (r = 96 ∧ pos ≠ 0) ∨ (r = 96 ∧ pos = 0) ∨ (123 ≤ r ∧ pos ≠ 0) ∨ (123 ≤ r ∧ pos = 0) := by omega
      rcases hcase with hh | hh | hh | hh | hh | hh | hh | hh | hh | hh | hh | hh | hh | hh | hh
      · -- 97 ≤ r ∧ r ≤ 122
        have f0 : (97 : Int) ≤ (r : Int) := by omega
        have f1 : (r : Int) ≤ 122 := by omega
        go_wp2
        have hn1 := hr1 (by omega)
        subst hn1
        have hq : nmC pos r = true := by unfold nmC; simp; omega
        refine ⟨⟨pos + 1, b - 1, rfl, rfl, (nmAt_step hp hb hnm hq).trans hc, by omega⟩, ?_⟩
        simp
        omega
      · -- 65 ≤ r ∧ r ≤ 90
        have f0 : ¬ (97 : Int) ≤ (r : Int) := by omega
        have f1 : (65 : Int) ≤ (r : Int) := by omega
        have f2 : (r : Int) ≤ 90 := by omega
        go_wp2
        have hn1 := hr1 (by omega)
        subst hn1
        have hq : nmC pos r = true := by unfold nmC; simp; omega
        refine ⟨⟨pos + 1, b - 1, rfl, rfl, (nmAt_step hp hb hnm hq).trans hc, by omega⟩, ?_⟩
        simp
        omega
      · -- r = 95
        have f0 : ¬ (97 : Int) ≤ (r : Int) := by omega
        have f1 : (65 : Int) ≤ (r : Int) := by omega
        have f2 : ¬ (r : Int) ≤ 90 := by omega
        have f3 : ((r : Int) == 95) = true := by simp; omega
        go_wp2
        have hn1 := hr1 (by omega)
        subst hn1
        have hq : nmC pos r = true := by unfold nmC; simp; omega
        refine ⟨⟨pos + 1, b - 1, rfl, rfl, (nmAt_step hp hb hnm hq).trans hc, by omega⟩, ?_⟩
        simp
        omega
      · -- 48 ≤ r ∧ r ≤ 57 ∧ pos ≠ 0
        have f0 : ¬ (97 : Int) ≤ (r : Int) := by omega
        have f1 : ¬ (65 : Int) ≤ (r : Int) := by omega
        have f2 : ((r : Int) == 95) = false := by simp; omega
        have f3 : ((pos : Int) == 0) = false := by simp; omega
        have f4 : ¬ (r : Int) < 48 := by omega
        have f5 : ¬ (57 : Int) < (r : Int) := by omega
        go_wp2
        have hn1 := hr1 (by omega)
        subst hn1
        have hq : nmC pos r = true := by unfold nmC; simp; omega
        refine ⟨⟨pos + 1, b - 1, rfl, rfl, (nmAt_step hp hb hnm hq).trans hc, by omega⟩, ?_⟩
        simp
        omega
      · -- 48 ≤ r ∧ r ≤ 57 ∧ pos = 0
        have f0 : ¬ (97 : Int) ≤ (r : Int) := by omega
        have f1 : ¬ (65 : Int) ≤ (r : Int) := by omega
        have f2 : ((r : Int) == 95) = false := by simp; omega
        obtain rfl : pos = 0 := by omega
        have hnx' : ∀ ty, (Instr.next (.pointer (some ⟨w.heap.size, 0, none⟩)) true ty).run Tryz.prog (w.iter s 0) = .ok (.tuple #[.bool true, .int .i64 0, .int .i32 r]) (w.iter s (0 + n)) := fun ty => by simpa using hnx ty
        clear hnx
        go_wp2
        have hq : nmC 0 r = false := by unfold nmC; simp; omega
        have hz := nmAt_stop hp hb hnm hq
        rw [hc] at hz
        go_ret
        exact ⟨by simp [nmB, hz], _, rfl⟩
      · -- r < 48 ∧ pos ≠ 0
        have f0 : ¬ (97 : Int) ≤ (r : Int) := by omega
        have f1 : ¬ (65 : Int) ≤ (r : Int) := by omega
        have f2 : ((r : Int) == 95) = false := by simp; omega
        have f3 : ((pos : Int) == 0) = false := by simp; omega
        have f4 : (r : Int) < 48 := by omega
        go_wp2
        have hq : nmC pos r = false := by unfold nmC; simp; omega
        have hz := nmAt_stop hp hb hnm hq
        rw [hc] at hz
        go_ret
        exact ⟨by simp [nmB, hz], _, rfl⟩
      · -- r < 48 ∧ pos = 0
        have f0 : ¬ (97 : Int) ≤ (r : Int) := by omega
        have f1 : ¬ (65 : Int) ≤ (r : Int) := by omega
        have f2 : ((r : Int) == 95) = false := by simp; omega
        obtain rfl : pos = 0 := by omega
        have hnx' : ∀ ty, (Instr.next (.pointer (some ⟨w.heap.size, 0, none⟩)) true ty).run Tryz.prog (w.iter s 0) = .ok (.tuple #[.bool true, .int .i64 0, .int .i32 r]) (w.iter s (0 + n)) := fun ty => by simpa using hnx ty
        clear hnx
        go_wp2
        have hq : nmC 0 r = false := by unfold nmC; simp; omega
        have hz := nmAt_stop hp hb hnm hq
        rw [hc] at hz
        go_ret
        exact ⟨by simp [nmB, hz], _, rfl⟩
      · -- 58 ≤ r ∧ r ≤ 64 ∧ pos ≠ 0
        have f0 : ¬ (97 : Int) ≤ (r : Int) := by omega
        have f1 : ¬ (65 : Int) ≤ (r : Int) := by omega
        have f2 : ((r : Int) == 95) = false := by simp; omega
        have f3 : ((pos : Int) == 0) = false := by simp; omega
        have f4 : ¬ (r : Int) < 48 := by omega
        have f5 : (57 : Int) < (r : Int) := by omega
        go_wp2
        have hq : nmC pos r = false := by unfold nmC; simp; omega
        have hz := nmAt_stop hp hb hnm hq
        rw [hc] at hz
        go_ret
        exact ⟨by simp [nmB, hz], _, rfl⟩
      · -- 58 ≤ r ∧ r ≤ 64 ∧ pos = 0
        have f0 : ¬ (97 : Int) ≤ (r : Int) := by omega
        have f1 : ¬ (65 : Int) ≤ (r : Int) := by omega
        have f2 : ((r : Int) == 95) = false := by simp; omega
        obtain rfl : pos = 0 := by omega
        have hnx' : ∀ ty, (Instr.next (.pointer (some ⟨w.heap.size, 0, none⟩)) true ty).run Tryz.prog (w.iter s 0) = .ok (.tuple #[.bool true, .int .i64 0, .int .i32 r]) (w.iter s (0 + n)) := fun ty => by simpa using hnx ty
        clear hnx
        go_wp2
        have hq : nmC 0 r = false := by unfold nmC; simp; omega
        have hz := nmAt_stop hp hb hnm hq
        rw [hc] at hz
        go_ret
        exact ⟨by simp [nmB, hz], _, rfl⟩
      · -- 91 ≤ r ∧ r ≤ 94 ∧ pos ≠ 0
        have f0 : ¬ (97 : Int) ≤ (r : Int) := by omega
        have f1 : (65 : Int) ≤ (r : Int) := by omega
        have f2 : ¬ (r : Int) ≤ 90 := by omega
        have f3 : ((r : Int) == 95) = false := by simp; omega
        have f4 : ((pos : Int) == 0) = false := by simp; omega
        have f5 : ¬ (r : Int) < 48 := by omega
        have f6 : (57 : Int) < (r : Int) := by omega
        go_wp2
        have hq : nmC pos r = false := by unfold nmC; simp; omega
        have hz := nmAt_stop hp hb hnm hq
        rw [hc] at hz
        go_ret
        exact ⟨by simp [nmB, hz], _, rfl⟩
      · -- 91 ≤ r ∧ r ≤ 94 ∧ pos = 0
        have f0 : ¬ (97 : Int) ≤ (r : Int) := by omega
        have f1 : (65 : Int) ≤ (r : Int) := by omega
        have f2 : ¬ (r : Int) ≤ 90 := by omega
        have f3 : ((r : Int) == 95) = false := by simp; omega
        obtain rfl : pos = 0 := by omega
        have hnx' : ∀ ty, (Instr.next (.pointer (some ⟨w.heap.size, 0, none⟩)) true ty).run Tryz.prog (w.iter s 0) = .ok (.tuple #[.bool true, .int .i64 0, .int .i32 r]) (w.iter s (0 + n)) := fun ty => by simpa using hnx ty
        clear hnx
        go_wp2
        have hq : nmC 0 r = false := by unfold nmC; simp; omega
        have hz := nmAt_stop hp hb hnm hq
        rw [hc] at hz
        go_ret
        exact ⟨by simp [nmB, hz], _, rfl⟩
      · -- r = 96 ∧ pos ≠ 0
        have f0 : ¬ (97 : Int) ≤ (r : Int) := by omega
        have f1 : (65 : Int) ≤ (r : Int) := by omega
        have f2 : ¬ (r : Int) ≤ 90 := by omega
        have f3 : ((r : Int) == 95) = false := by simp; omega
        have f4 : ((pos : Int) == 0) = false := by simp; omega
        have f5 : ¬ (r : Int) < 48 := by omega
        have f6 : (57 : Int) < (r : Int) := by omega
        go_wp2
        have hq : nmC pos r = false := by unfold nmC; simp; omega
        have hz := nmAt_stop hp hb hnm hq
        rw [hc] at hz
        go_ret
        exact ⟨by simp [nmB, hz], _, rfl⟩
      · -- r = 96 ∧ pos = 0
        have f0 : ¬ (97 : Int) ≤ (r : Int) := by omega
        have f1 : (65 : Int) ≤ (r : Int) := by omega
        have f2 : ¬ (r : Int) ≤ 90 := by omega
        have f3 : ((r : Int) == 95) = false := by simp; omega
        obtain rfl : pos = 0 := by omega
        have hnx' : ∀ ty, (Instr.next (.pointer (some ⟨w.heap.size, 0, none⟩)) true ty).run Tryz.prog (w.iter s 0) = .ok (.tuple #[.bool true, .int .i64 0, .int .i32 r]) (w.iter s (0 + n)) := fun ty => by simpa using hnx ty
        clear hnx
        go_wp2
        have hq : nmC 0 r = false := by unfold nmC; simp; omega
        have hz := nmAt_stop hp hb hnm hq
        rw [hc] at hz
        go_ret
        exact ⟨by simp [nmB, hz], _, rfl⟩
      · -- 123 ≤ r ∧ pos ≠ 0
        have f0 : (97 : Int) ≤ (r : Int) := by omega
        have f1 : ¬ (r : Int) ≤ 122 := by omega
        have f2 : (65 : Int) ≤ (r : Int) := by omega
        have f3 : ¬ (r : Int) ≤ 90 := by omega
        have f4 : ((r : Int) == 95) = false := by simp; omega
        have f5 : ((pos : Int) == 0) = false := by simp; omega
        have f6 : ¬ (r : Int) < 48 := by omega
        have f7 : (57 : Int) < (r : Int) := by omega
        go_wp2
        have hq : nmC pos r = false := by unfold nmC; simp; omega
        have hz := nmAt_stop hp hb hnm hq
        rw [hc] at hz
        go_ret
        exact ⟨by simp [nmB, hz], _, rfl⟩
      · -- 123 ≤ r ∧ pos = 0
        have f0 : (97 : Int) ≤ (r : Int) := by omega
        have f1 : ¬ (r : Int) ≤ 122 := by omega
        have f2 : (65 : Int) ≤ (r : Int) := by omega
        have f3 : ¬ (r : Int) ≤ 90 := by omega
        have f4 : ((r : Int) == 95) = false := by simp; omega
        obtain rfl : pos = 0 := by omega
        have hnx' : ∀ ty, (Instr.next (.pointer (some ⟨w.heap.size, 0, none⟩)) true ty).run Tryz.prog (w.iter s 0) = .ok (.tuple #[.bool true, .int .i64 0, .int .i32 r]) (w.iter s (0 + n)) := fun ty => by simpa using hnx ty
        clear hnx
        go_wp2
        have hq : nmC 0 r = false := by unfold nmC; simp; omega
        have hz := nmAt_stop hp hb hnm hq
        rw [hc] at hz
        go_ret
        exact ⟨by simp [nmB, hz], _, rfl⟩
    · have hnx : ∀ ty, (Instr.next (.pointer (some ⟨w.heap.size, 0, none⟩)) true ty).run Tryz.prog (w.iter s pos) = _ := fun ty => run_next_end w s pos ty hp
      rw [nmAt_end hp] at hc
      have hB : nmB s = (decide (0 < s.size) && decide (s.size ≤ 40)) := by unfold nmB; rw [← hc, Bool.true_and]
      clear hc
      by_cases h0 : s.size = 0
      · have hs0 : s = ⟨#[]⟩ := by
          rcases s with ⟨⟨l⟩⟩
          cases l with
          | nil => rfl
          | cons x l => exact absurd h0 (by simp [ByteArray.size])
        subst hs0
        go_wp2
        go_ret
        exact ⟨rfl, _, rfl⟩
      · have hne : s ≠ ⟨#[]⟩ := fun e => h0 (by rw [e]; rfl)
        have hl : ¬ s.toList = [] := fun e => hne (by
          have h1 : (s == (⟨#[]⟩ : ByteArray)) = true := by
            have := size_toList' s
            rw [e] at this
            exact absurd this.symm h0
          exact (MapKept.bytes_beq _ _).1 h1)
        have hle : s.toList.isEmpty = false := by cases hq : s.toList with
          | nil => exact absurd hq hl
          | cons => rfl
        have hnb : nmB s = decide (s.size ≤ 40) := by rw [hB]; simp; omega
        clear hB
        by_cases h40 : s.size ≤ 40
        · have hi : ((s.size : Nat) : Int) ≤ 40 := by omega
          go_wp2
          go_ret
          exact ⟨by simp [hle, hnb, h40], _, rfl⟩
        · have hi : ¬ ((s.size : Nat) : Int) ≤ 40 := by omega
          go_wp2
          go_ret
          exact ⟨by simp [hnb, h40], _, rfl⟩
end Go.Proofs.YtgmlkhfjhogdbaaGreat

/- labels.IsName, as a callee. -/
namespace Go.Proofs.YtgmlkhfjhogdbaaGreat
open Go.RowKit P
set_option linter.unusedVariables false
/-- Is it a name? -/
def nmL : Nat → List UInt8 → Bool
  | _, [] => true
  | i, c :: r => nmC i c.toNat && nmL (i + 1) r
def isNameL (s : List UInt8) : Bool := nmL 0 s && decide (0 < s.length) && decide (s.length ≤ 40)
theorem nmAt_L (s : List UInt8) : ∀ (b i : Nat), s.length ≤ i + b → nmAt (mkB s) b i = nmL i (s.drop i)
  | 0, i, h => by rw [List.drop_of_length_le (by omega)]; rfl
  | b + 1, i, h => by
    by_cases hi : i < s.length
    · have h1 : i < (mkB s).size := by rw [size_mkB]; exact hi
      rw [List.drop_eq_getElem_cons hi]
      show (if h : i < (mkB s).size then nmC i ((mkB s)[i]'h).toNat && nmAt (mkB s) b (i + 1) else true) = (nmC i s[i].toNat && nmL (i + 1) (s.drop (i + 1)))
      rw [dif_pos h1, nmAt_L s b (i + 1) (by omega)]
      rfl
    · have h1 : ¬ i < (mkB s).size := by rw [size_mkB]; exact hi
      rw [nmAt_end h1, List.drop_of_length_le (by omega)]; rfl
theorem nmB_L (s : List UInt8) : nmB (mkB s) = isNameL s := by
  unfold nmB isNameL
  rw [nmAt_L s _ 0 (by rw [size_mkB]; omega), size_mkB]; rfl
def labels_IsName (N : Nat) (s : List UInt8) : Option Bool := if s.length < 140737488355328 then some (isNameL s) else none
theorem labels_IsName_a (s : List UInt8) (hs : s.length < 140737488355328) : ACalls Tryz.prog 19 [.v (.string (mkB s))] [] (fun out H => out = .ret (.v (.bool (isNameL s))) ∧ H = []) := by
  refine acalls_of_calls (vs := [.string (mkB s)]) ⟨_, Tryz.func19, by kernel_rfl, rfl⟩ fun w => ?_
  refine (isName_walk (mkB s) (by rw [size_mkB]; omega) w).mono fun e w' ⟨he, pos, hw⟩ => ⟨by rw [he, nmB_L], ?_⟩
  subst hw
  exact (Below.refl _ _).alloc (Nat.le_refl _) _
def labels_IsName_u (r : Bool) : TV EE.T := .a (.d .bool r)
def labels_IsName_h (N : Nat) : List (TV EE.T) → PV EE.T
  | [u0] => match argD .str u0 with
    | some x0 => .opt (labels_IsName N x0) labels_IsName_u
    | _ => .bad
  | _ => .bad
theorem labels_IsName_hok (N : Nat) (us : List (TV EE.T)) : (labels_IsName_h N us).ok fun u => ∀ ρ, ACalls Tryz.prog 19 (us.map (TV.to EE.toEnc ρ)) [] (fun out H => out = .ret (u.to EE.toEnc ρ) ∧ H = []) := by
  unfold labels_IsName_h
  split
  · split
    · rename_i u0 x0 h0
      intro z hz ρ
      unfold labels_IsName at hz
      split at hz
      · rename_i hl
        cases hz
        refine acalls_le (us' := [.a (.d .str x0)]) ?_ (labels_IsName_a x0 hl)
        exact ⟨argD_le h0 ρ, trivial⟩
      · cases hz
    · trivial
  · trivial
end Go.Proofs.YtgmlkhfjhogdbaaGreat

/- Plain functions, written by gen/tgl.py out of the program. -/
namespace Go.Proofs.YtgmlkhfjhogdbaaGreat
open Go.RowKit P
set_option linter.unusedVariables false
set_option linter.unusedSimpArgs false
set_option maxRecDepth 100000
/-! ### gleaner/labels.each -/
def labels_each_R9 (N : Nat) (k4 : (List VLabel) → Bool → (List VLabel) → Int → Int → Option Int) (n : Nat) (x0 : List VLabel) (x1 : Bool) (x13 : List VLabel) (x14 : Int) (x15 : Int) (b6 : VLabel) : Option Int :=
  bif decide ((b6.Value.length : Int) > 100) then
    some 2
  else
    k4 x0 x1 x13 x14 (w64 (x15 + 1))
def labels_each_L14 (N : Nat) : Nat → (List VLabel) → Int → Int → (List (List UInt8 × Bool)) → Option Int
  | 0, _, _, _, _ => none
  | n + 1, x38, x39, x40, b37 =>
    bif decide (x40 < x39) then
      (idxC x38 x40).bind fun z3 =>
      bif (mget b37 z3.Name).getD false then
        some 6
      else
        labels_each_L14 N n x38 x39 (w64 (x40 + 1)) (mset b37 z3.Name true)
    else
      some 0
def labels_each_L4 (N : Nat) : Nat → (List VLabel) → Bool → (List VLabel) → Int → Int → Option Int
  | 0, _, _, _, _, _ => none
  | n + 1, x0, x1, x13, x14, x15 =>
    bif decide (x15 < x14) then
      (idxC x13 x15).bind fun z1 =>
      (labels_IsName N z1.Name).bind fun z2 =>
      bif !z2 then
        some 1
      else
        bif decide (z1.Value = ([] : List UInt8)) then
          bif !x1 then
            some 1
          else
            labels_each_R9 N (labels_each_L4 N n) n x0 x1 x13 x14 x15 z1
        else
          labels_each_R9 N (labels_each_L4 N n) n x0 x1 x13 x14 x15 z1
    else
      labels_each_L14 N n x0 (x0.length : Int) 0 ([] : List (List UInt8 × Bool))
def labels_each (N : Nat) (x0 : List VLabel) (x1 : Bool) : Option Int :=
  bif decide ((x0.length : Int) > 20) then
    some 2
  else
    labels_each_L4 N N x0 x1 x0 (x0.length : Int) 0
/-! ### cmp.isNaN[string] -/
def cmp_isNaN_string_ (N : Nat) (x0 : List UInt8) : Option Bool :=
  some (!decide (x0 = x0))
/-! ### cmp.Compare[string] -/
def cmp_Compare_string_ (N : Nat) (x0 : List UInt8) (x1 : List UInt8) : Option Int :=
  (cmp_isNaN_string_ N x0).bind fun z1 =>
  (cmp_isNaN_string_ N x1).bind fun z2 =>
  bif z1 then
    bif z2 then
      some 0
    else
      some (-1)
  else
    bif z2 then
      some 1
    else
      bif Op.bytesLess x0 x1 then
        some (-1)
      else
        bif !(Op.bytesLess x0 x1 || decide (x0 = x1)) then
          some 1
        else
          some 0
/-! ### gleaner/labels.byName -/
def labels_byName (N : Nat) (x0 : VLabel) (x1 : VLabel) : Option Int :=
  (cmp_Compare_string_ N x0.Name x1.Name).bind fun z1 =>
  some z1
/-! ### slices.IsSortedFunc[[]gleaner/api.Label,gleaner/api.Label] -/
def slices_IsSortedFunc_api_Label_api_Label__i0_L2 (N : Nat) : Nat → (List VLabel) → Int → Option Bool
  | 0, _, _ => none
  | n + 1, x0, x5 =>
    bif decide (x5 > 0) then
      (idxC x0 x5).bind fun z1 =>
      (idxC x0 (w64 (x5 - 1))).bind fun z2 =>
      (labels_byName N z1 z2).bind fun z3 =>
      bif decide (z3 < 0) then
        some false
      else
        slices_IsSortedFunc_api_Label_api_Label__i0_L2 N n x0 (w64 (x5 - 1))
    else
      some true
def slices_IsSortedFunc_api_Label_api_Label__i0 (N : Nat) (x0 : List VLabel) : Option Bool :=
  slices_IsSortedFunc_api_Label_api_Label__i0_L2 N N x0 (w64 ((x0.length : Int) - 1))
/-! ### gleaner/labels.Check -/
def labels_Check (N : Nat) (x0 : List VLabel) : Option Int :=
  (labels_each N x0 false).bind fun z1 =>
  bif z1 != 0 then
    some z1
  else
    (slices_IsSortedFunc_api_Label_api_Label__i0 N x0).bind fun z2 =>
    bif !z2 then
      some 4
    else
      some 0
/-! ### gleaner/labels.check -/
def labels_check_L2 (N : Nat) : Nat → (List (List VLabel)) → Int → Int → Option Int
  | 0, _, _, _ => none
  | n + 1, x6, x7, x8 =>
    bif decide (x8 < x7) then
      (idxC x6 x8).bind fun z1 =>
      (labels_Check N z1).bind fun z2 =>
      bif z2 != 0 then
        some z2
      else
        labels_check_L2 N n x6 x7 (w64 (x8 + 1))
    else
      some 0
def labels_check (N : Nat) (x0 : List (List VLabel)) : Option Int :=
  labels_check_L2 N N x0 (x0.length : Int) 0
/-! ### gleaner/labels.find$1 -/
def labels_find_1 (N : Nat) (x0 : VLabel) (x1 : List UInt8) : Option Int :=
  (cmp_Compare_string_ N x0.Name x1).bind fun z1 =>
  some z1
/-! ### slices.BinarySearchFunc[[]gleaner/api.Label,gleaner/api.Label,string] -/
def slices_BinarySearchFunc_api_Label_api_Label_string__i0_L3 (N : Nat) : Nat → (List VLabel) → (List UInt8) → Int → Int → Int → Option (Int × Bool)
  | 0, _, _, _, _, _ => none
  | n + 1, x0, x1, x8, x9, x10 =>
    bif decide (x9 < x10) then
      (shrC .u64 (IntKind.wrap .u64 (w64 (x9 + x10))) 1).bind fun z1 =>
      (idxC x0 (w64 z1)).bind fun z2 =>
      (labels_find_1 N z2 x1).bind fun z3 =>
      bif decide (z3 < 0) then
        slices_BinarySearchFunc_api_Label_api_Label_string__i0_L3 N n x0 x1 x8 (w64 ((w64 z1) + 1)) x10
      else
        slices_BinarySearchFunc_api_Label_api_Label_string__i0_L3 N n x0 x1 x8 x9 (w64 z1)
    else
      bif decide (x9 < x8) then
        (idxC x0 x9).bind fun z4 =>
        (labels_find_1 N z4 x1).bind fun z5 =>
        some (x9, z5 == 0)
      else
        some (x9, false)
def slices_BinarySearchFunc_api_Label_api_Label_string__i0 (N : Nat) (x0 : List VLabel) (x1 : List UInt8) : Option (Int × Bool) :=
  slices_BinarySearchFunc_api_Label_api_Label_string__i0_L3 N N x0 x1 (x0.length : Int) 0 (x0.length : Int)
/-! ### gleaner/labels.find -/
def labels_find (N : Nat) (x0 : List VLabel) (x1 : List UInt8) : Option (Int × Bool) :=
  (slices_BinarySearchFunc_api_Label_api_Label_string__i0 N x0 x1).bind fun z1 =>
  some (z1.1, z1.2)
/-! ### gleaner/labels.Value -/
def labels_Value (N : Nat) (x0 : List VLabel) (x1 : List UInt8) : Option (List UInt8) :=
  (labels_find N x0 x1).bind fun z1 =>
  bif z1.2 then
    (idxC x0 z1.1).bind fun z2 =>
    some z2.Value
  else
    some ([] : List UInt8)
/-! ### gleaner/labels.Get -/
def labels_Get (N : Nat) (x0 : List VLabel) (x1 : List UInt8) : Option ((List UInt8) × Int) :=
  (labels_check N ([x0] : List (List VLabel))).bind fun z1 =>
  bif z1 != 0 then
    some (([] : List UInt8), z1)
  else
    (labels_IsName N x1).bind fun z2 =>
    bif !z2 then
      some (([] : List UInt8), 1)
    else
      (labels_Value N x0 x1).bind fun z3 =>
      some (z3, 0)
/-! ### gleaner/gleanerref.IsLetter -/
def ref_IsLetter (N : Nat) (x0 : UInt8) : Option Bool :=
  bif decide ((b2i x0) ≥ (b2i 97)) then
    bif decide ((b2i x0) ≤ (b2i 122)) then
      some true
    else
      bif decide ((b2i x0) ≥ (b2i 65)) then
        bif decide ((b2i x0) ≤ (b2i 90)) then
          some true
        else
          some ((b2i x0) == (b2i 95))
      else
        some ((b2i x0) == (b2i 95))
  else
    bif decide ((b2i x0) ≥ (b2i 65)) then
      bif decide ((b2i x0) ≤ (b2i 90)) then
        some true
      else
        some ((b2i x0) == (b2i 95))
    else
      some ((b2i x0) == (b2i 95))
/-! ### gleaner/gleanerref.IsNumeral -/
def ref_IsNumeral (N : Nat) (x0 : UInt8) : Option Bool :=
  bif decide ((b2i x0) ≥ (b2i 48)) then
    some (decide ((b2i x0) ≤ (b2i 57)))
  else
    some false
/-! ### gleaner/gleanerref.IsName -/
def ref_IsName_R3 (N : Nat) (k2 : (List UInt8) → Int → Option Bool) (n : Nat) (x0 : List UInt8) (x3 : Int) : Option Bool :=
  k2 x0 (w64 (x3 + 1))
def ref_IsName_L2 (N : Nat) : Nat → (List UInt8) → Int → Option Bool
  | 0, _, _ => none
  | n + 1, x0, x3 =>
    bif decide (x3 < (x0.length : Int)) then
      (idxC x0 x3).bind fun z1 =>
      (ref_IsLetter N z1).bind fun z2 =>
      bif !z2 then
        bif x3 == 0 then
          some false
        else
          (idxC x0 x3).bind fun z3 =>
          (ref_IsNumeral N z3).bind fun z4 =>
          bif !z4 then
            some false
          else
            ref_IsName_R3 N (ref_IsName_L2 N n) n x0 x3
      else
        ref_IsName_R3 N (ref_IsName_L2 N n) n x0 x3
    else
      bif decide ((x0.length : Int) ≥ 1) then
        some (decide ((x0.length : Int) ≤ 40))
      else
        some false
def ref_IsName (N : Nat) (x0 : List UInt8) : Option Bool :=
  ref_IsName_L2 N N x0 0
/-! ### gleaner/gleanerref.EachLabel -/
def ref_EachLabel_R8 (N : Nat) (k4 : (List VLabel) → Bool → Int → Option Int) (n : Nat) (x0 : List VLabel) (x1 : Bool) (x5 : Int) : Option Int :=
  (idxC x0 x5).bind fun z4 =>
  bif decide ((z4.Value.length : Int) > 100) then
    some 2
  else
    k4 x0 x1 (w64 (x5 + 1))
def ref_EachLabel_L14 (N : Nat) (k11 : (List VLabel) → Int → Option Int) : Nat → (List VLabel) → Int → Int → Option Int
  | 0, _, _, _ => none
  | n + 1, x0, x6, x7 =>
    bif decide (x7 < x6) then
      (idxC x0 x7).bind fun z5 =>
      (idxC x0 x6).bind fun z6 =>
      bif decide (z5.Name = z6.Name) then
        some 6
      else
        ref_EachLabel_L14 N k11 n x0 x6 (w64 (x7 + 1))
    else
      k11 x0 (w64 (x6 + 1))
def ref_EachLabel_L11 (N : Nat) : Nat → (List VLabel) → Int → Option Int
  | 0, _, _ => none
  | n + 1, x0, x6 =>
    bif decide (x6 < (x0.length : Int)) then
      ref_EachLabel_L14 N (ref_EachLabel_L11 N n) n x0 x6 0
    else
      some 0
def ref_EachLabel_L4 (N : Nat) : Nat → (List VLabel) → Bool → Int → Option Int
  | 0, _, _, _ => none
  | n + 1, x0, x1, x5 =>
    bif decide (x5 < (x0.length : Int)) then
      (idxC x0 x5).bind fun z1 =>
      (ref_IsName N z1.Name).bind fun z2 =>
      bif !z2 then
        some 1
      else
        (idxC x0 x5).bind fun z3 =>
        bif decide (z3.Value = ([] : List UInt8)) then
          bif !x1 then
            some 1
          else
            ref_EachLabel_R8 N (ref_EachLabel_L4 N n) n x0 x1 x5
        else
          ref_EachLabel_R8 N (ref_EachLabel_L4 N n) n x0 x1 x5
    else
      ref_EachLabel_L11 N n x0 0
def ref_EachLabel (N : Nat) (x0 : List VLabel) (x1 : Bool) : Option Int :=
  bif decide ((x0.length : Int) > 20) then
    some 2
  else
    ref_EachLabel_L4 N N x0 x1 0
/-! ### gleaner/gleanerref.CheckLabels -/
def ref_CheckLabels_R4 (N : Nat) (k3 : (List VLabel) → Int → Int → Option Int) (n : Nat) (x0 : List VLabel) (x3 : Int) (x4 : Int) : Option Int :=
  k3 x0 x3 (w64 (x4 + 1))
def ref_CheckLabels_L3 (N : Nat) : Nat → (List VLabel) → Int → Int → Option Int
  | 0, _, _, _ => none
  | n + 1, x0, x3, x4 =>
    bif decide (x4 < (x0.length : Int)) then
      bif x3 == 0 then
        (idxC x0 x4).bind fun z2 =>
        (idxC x0 (w64 (x4 - 1))).bind fun z3 =>
        bif Op.bytesLess z2.Name z3.Name then
          ref_CheckLabels_R4 N (ref_CheckLabels_L3 N n) n x0 4 x4
        else
          ref_CheckLabels_R4 N (ref_CheckLabels_L3 N n) n x0 x3 x4
      else
        some x3
    else
      some x3
def ref_CheckLabels (N : Nat) (x0 : List VLabel) : Option Int :=
  (ref_EachLabel N x0 false).bind fun z1 =>
  ref_CheckLabels_L3 N N x0 z1 1
/-! ### gleaner/gleanerref.PutLabel -/
def ref_PutLabel_R5 (N : Nat) (k4 : (List VLabel) → (List UInt8) → (List UInt8) → (List VLabel) → Bool → Int → Option (List VLabel)) (n : Nat) (x0 : List VLabel) (x1 : List UInt8) (x2 : List UInt8) (x7 : List VLabel) (x8 : Bool) (x9 : Int) : Option (List VLabel) :=
  k4 x0 x1 x2 x7 x8 (w64 (x9 + 1))
def ref_PutLabel_R9 (N : Nat) (k4 : (List VLabel) → (List UInt8) → (List UInt8) → (List VLabel) → Bool → Int → Option (List VLabel)) (n : Nat) (x0 : List VLabel) (x1 : List UInt8) (x2 : List UInt8) (x7 : List VLabel) (x8 : Bool) (x9 : Int) : Option (List VLabel) :=
  (idxC x0 x9).bind fun z4 =>
  bif !decide (z4.Name = x1) then
    (idxC x0 x9).bind fun z5 =>
    (appC 32 x7 ([z5] : List VLabel)).bind fun z6 =>
    ref_PutLabel_R5 N k4 n x0 x1 x2 z6 x8 x9
  else
    ref_PutLabel_R5 N k4 n x0 x1 x2 x7 x8 x9
def ref_PutLabel_L4 (N : Nat) : Nat → (List VLabel) → (List UInt8) → (List UInt8) → (List VLabel) → Bool → Int → Option (List VLabel)
  | 0, _, _, _, _, _, _ => none
  | n + 1, x0, x1, x2, x7, x8, x9 =>
    bif decide (x9 < (x0.length : Int)) then
      bif !x8 then
        (idxC x0 x9).bind fun z1 =>
        bif !Op.bytesLess z1.Name x1 then
          (appC 32 x7 ([({ Name := x1, Value := x2 } : VLabel)] : List VLabel)).bind fun z2 =>
          ref_PutLabel_R9 N (ref_PutLabel_L4 N n) n x0 x1 x2 z2 true x9
        else
          ref_PutLabel_R9 N (ref_PutLabel_L4 N n) n x0 x1 x2 x7 x8 x9
      else
        ref_PutLabel_R9 N (ref_PutLabel_L4 N n) n x0 x1 x2 x7 x8 x9
    else
      bif !x8 then
        (appC 32 x7 ([({ Name := x1, Value := x2 } : VLabel)] : List VLabel)).bind fun z3 =>
        some z3
      else
        some x7
def ref_PutLabel (N : Nat) (x0 : List VLabel) (x1 : List UInt8) (x2 : List UInt8) : Option (List VLabel) :=
  ref_PutLabel_L4 N N x0 x1 x2 ([] : List VLabel) (decide (x2 = ([] : List UInt8))) 0
/-! ### gleaner/gleanerref.SameLabels -/
def ref_SameLabels_L4 (N : Nat) : Nat → (List VLabel) → (List VLabel) → Int → Option Bool
  | 0, _, _, _ => none
  | n + 1, x0, x1, x5 =>
    bif decide (x5 < (x0.length : Int)) then
      (idxC x0 x5).bind fun z1 =>
      (idxC x1 x5).bind fun z2 =>
      bif !(beqS z1.Name z2.Name && (beqS z1.Value z2.Value && true)) then
        some false
      else
        ref_SameLabels_L4 N n x0 x1 (w64 (x5 + 1))
    else
      some true
def ref_SameLabels (N : Nat) (x0 : List VLabel) (x1 : List VLabel) : Option Bool :=
  bif (x0.length : Int) != (x1.length : Int) then
    some false
  else
    ref_SameLabels_L4 N N x0 x1 0
/-! ### gleaner/gleanerlaw.labelsAre -/
def law_labelsAre_R3 (N : Nat) (n : Nat) (x0 : List VLabel) (x1 : Int) (x2 : Int) (x3 : List VLabel) : Option Bool :=
  bif x1 == x2 then
    (ref_SameLabels N x0 x3).bind fun z1 =>
    some z1
  else
    some false
def law_labelsAre (N : Nat) (x0 : List VLabel) (x1 : Int) (x2 : Int) (x3 : List VLabel) : Option Bool :=
  bif x2 != 0 then
    law_labelsAre_R3 N N x0 x1 x2 ([] : List VLabel)
  else
    law_labelsAre_R3 N N x0 x1 x2 x3
end Go.Proofs.YtgmlkhfjhogdbaaGreat
