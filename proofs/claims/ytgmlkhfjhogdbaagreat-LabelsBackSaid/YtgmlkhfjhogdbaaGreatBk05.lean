import Derived.Test.YtgmlkhfjhogdbaaGreatBk04
import Derived.Test.YtgmlkhfjhogdbaaGreatProg
import Derived.Test.YtgmlkhfjhogdbaaGreatRows
import Derived.Tactics
import Derived.Tactics2
import Derived.Defers
import Derived.Laws.Pointers
import Derived.Laws.LoneSync
import Derived.RegionTactic
import Derived.RegionCalls
import Derived.ChangeAlike
import Derived.WalkKit
import Derived.WalkSpells
import Derived.WalkLawsBesides
import Derived.Lib.VarintBits
import Derived.Lib.BufferRead
import Derived.Lib.Hide
import Derived.Laws.BytesString
import Derived.LoopTactic
import Derived.Laws.RangeAny
import Derived.Laws.IdiomCopy
import Derived.Laws.Externs
import Derived.Lib.Overlaps
import Derived.BigCall
set_option linter.unusedSimpArgs false
set_option linter.unusedVariables false
/- The types, as the layer of abstract values reads them. Written by gen/tys.py. -/
namespace Go.Proofs.YtgmlkhfjhogdbaaGreat
open Go.RowKit P
def TTy : List (Nat × TypeDesc) := [(1, (.func #[] #[] false)), (2, (.int .i64)), (3, (.int .i64)), (4, .bool), (5, (.int .u8)), (6, (.int .u8)), (9, .string), (10, .string), (11, .string), (12, (.int .u64)), (15, (.pointer 172)), (16, (.pointer 175)), (17, (.pointer 183)), (20, (.interface #[])), (21, (.int .i32)), (22, (.slice 42)), (23, (.int .i64)), (25, (.func #[22, 9, 9] #[22, 23] false)), (26, (.func #[22] #[23] false)), (27, (.func #[9] #[4] false)), (28, (.func #[22, 9, 9] #[22] false)), (29, (.func #[] #[4] false)), (30, (.func #[22, 23, 23, 22] #[4] false)), (31, (.func #[22, 9, 9] #[4] false)), (33, (.func #[22, 9] #[9, 23] false)), (34, (.func #[22, 22] #[4] false)), (35, (.func #[22, 9, 9, 9] #[4] false)), (36, (.func #[22] #[22, 23] false)), (37, (.func #[22, 4] #[23] false)), (38, (.func #[22] #[22] false)), (39, (.func #[22] #[4] false)), (40, (.func #[54] #[23] true)), (41, (.struct #[{ name := "Name", type := 9, offset := 0, embedded := false, tag := "", pkgPath := "", byteOffset := 0 }, { name := "Value", type := 9, offset := 1, embedded := false, tag := "", pkgPath := "", byteOffset := 16 }])), (42, (.struct #[{ name := "Name", type := 9, offset := 0, embedded := false, tag := "", pkgPath := "", byteOffset := 0 }, { name := "Value", type := 9, offset := 1, embedded := false, tag := "", pkgPath := "", byteOffset := 16 }])), (43, (.func #[5] #[4] false)), (44, (.func #[22] #[9, 23] false)), (45, (.int .u64)), (47, (.func #[22] #[45, 23] false)), (48, (.func #[22, 9] #[9] false)), (49, (.func #[22, 50] #[4] false)), (50, (.func #[42, 42] #[3] false)), (51, (.func #[22, 52] #[22] false)), (52, (.func #[42] #[4] false)), (53, (.func #[22, 50] #[] false)), (54, (.slice 22)), (56, (.func #[22, 9] #[3, 4] false)), (57, (.func #[22, 3, 3] #[22] false)), (58, (.func #[22, 3, 22] #[22] true)), (59, (.slice 9)), (60, (.pointer 89)), (61, (.func #[59] #[60] true)), (62, (.func #[9] #[9] false)), (63, (.func #[59, 9] #[9] false)), (64, (.func #[22] #[45] false)), (65, (.map 9 4)), (66, (.func #[9, 9] #[3] false)), (67, (.func #[22, 52] #[3] false)), (68, (.func #[22, 3, 3, 3, 50] #[] false)), (69, (.func #[70] #[3] false)), (70, (.int .u64)), (71, (.func #[22, 9, 72] #[3, 4] false)), (72, (.func #[42, 9] #[3] false)), (73, (.func #[22, 3] #[] false)), (74, (.struct #[])), (75, (.struct #[])), (76, (.struct #[])), (77, (.int .u32)), (78, (.struct #[{ name := "_", type := 76, offset := 0, embedded := false, tag := "", pkgPath := "sync/atomic", byteOffset := 0 }, { name := "v", type := 77, offset := 0, embedded := false, tag := "", pkgPath := "sync/atomic", byteOffset := 0 }])), (79, (.struct #[{ name := "_", type := 76, offset := 0, embedded := false, tag := "", pkgPath := "sync/atomic", byteOffset := 0 }, { name := "v", type := 77, offset := 0, embedded := false, tag := "", pkgPath := "sync/atomic", byteOffset := 0 }])), (82, (.struct #[{ name := "_", type := 75, offset := 0, embedded := false, tag := "", pkgPath := "sync", byteOffset := 0 }, { name := "mu", type := 81, offset := 0, embedded := false, tag := "", pkgPath := "sync", byteOffset := 0 }])), (83, (.struct #[{ name := "_", type := 75, offset := 0, embedded := false, tag := "", pkgPath := "sync", byteOffset := 0 }, { name := "mu", type := 81, offset := 0, embedded := false, tag := "", pkgPath := "sync", byteOffset := 0 }])), (84, (.struct #[{ name := "_", type := 75, offset := 0, embedded := false, tag := "", pkgPath := "sync", byteOffset := 0 }, { name := "done", type := 79, offset := 0, embedded := false, tag := "", pkgPath := "sync", byteOffset := 0 }, { name := "m", type := 83, offset := 1, embedded := false, tag := "", pkgPath := "sync", byteOffset := 4 }])), (85, (.struct #[{ name := "_", type := 75, offset := 0, embedded := false, tag := "", pkgPath := "sync", byteOffset := 0 }, { name := "done", type := 79, offset := 0, embedded := false, tag := "", pkgPath := "sync", byteOffset := 0 }, { name := "m", type := 83, offset := 1, embedded := false, tag := "", pkgPath := "sync", byteOffset := 4 }])), (86, (.interface #[("Replace", 62), ("WriteString", 184)])), (87, (.interface #[("Replace", 62), ("WriteString", 184)])), (88, (.struct #[{ name := "once", type := 85, offset := 0, embedded := false, tag := "", pkgPath := "strings", byteOffset := 0 }, { name := "r", type := 87, offset := 3, embedded := false, tag := "", pkgPath := "strings", byteOffset := 16 }, { name := "oldnew", type := 59, offset := 4, embedded := false, tag := "", pkgPath := "strings", byteOffset := 32 }])), (89, (.struct #[{ name := "once", type := 85, offset := 0, embedded := false, tag := "", pkgPath := "strings", byteOffset := 0 }, { name := "r", type := 87, offset := 3, embedded := false, tag := "", pkgPath := "strings", byteOffset := 16 }, { name := "oldnew", type := 59, offset := 4, embedded := false, tag := "", pkgPath := "strings", byteOffset := 32 }])), (90, (.func #[1] #[] false)), (91, (.pointer 94)), (92, (.slice 5)), (93, (.struct #[{ name := "addr", type := 91, offset := 0, embedded := false, tag := "", pkgPath := "strings", byteOffset := 0 }, { name := "buf", type := 92, offset := 1, embedded := false, tag := "", pkgPath := "strings", byteOffset := 8 }])), (94, (.struct #[{ name := "addr", type := 91, offset := 0, embedded := false, tag := "", pkgPath := "strings", byteOffset := 0 }, { name := "buf", type := 92, offset := 1, embedded := false, tag := "", pkgPath := "strings", byteOffset := 8 }])), (95, (.func #[3] #[] false)), (96, (.interface #[("Error", 100)])), (97, (.interface #[("Error", 100)])), (99, (.func #[9] #[3, 97] false)), (100, (.func #[] #[9] false)), (101, (.func #[45, 9] #[45] false)), (102, (.func #[22, 3, 3, 50] #[] false)), (103, (.int .i64)), (105, (.func #[22, 3, 3, 50] #[3, 103] false)), (106, (.func #[22, 3, 3, 50] #[4] false)), (107, (.func #[22, 3, 3, 3, 50] #[3] false)), (108, (.func #[22, 3, 3, 3, 50] #[3, 4] false)), (109, (.func #[77] #[3] false)), (110, (.func #[45] #[3] false)), (111, (.pointer 85)), (112, (.func #[] #[87] false)), (113, (.pointer 5)), (114, (.int .u64)), (115, (.func #[3] #[70] false)), (116, (.func #[] #[45] false)), (117, (.func #[22, 3, 118, 50] #[3] false)), (118, (.pointer 3)), (119, (.func #[22, 3, 3, 3, 118, 50] #[3] false)), (120, (.func #[22] #[] false)), (121, (.pointer 79)), (122, (.func #[123] #[77] false)), (123, (.pointer 77)), (124, (.func #[4] #[] false)), (125, (.pointer 148)), (126, (.func #[9, 9] #[125] false)), (127, (.pointer 154)), (128, (.func #[59] #[127] false)), (129, (.array 256 5)), (130, (.array 256 5)), (131, (.pointer 130)), (132, (.array 256 92)), (133, (.struct #[{ name := "replacements", type := 132, offset := 0, embedded := false, tag := "", pkgPath := "strings", byteOffset := 0 }, { name := "toReplace", type := 59, offset := 256, embedded := false, tag := "", pkgPath := "strings", byteOffset := 6144 }])), (134, (.struct #[{ name := "replacements", type := 132, offset := 0, embedded := false, tag := "", pkgPath := "strings", byteOffset := 0 }, { name := "toReplace", type := 59, offset := 256, embedded := false, tag := "", pkgPath := "strings", byteOffset := 6144 }])), (135, (.pointer 134)), (137, (.func #[136] #[136] false)), (138, (.func #[3] #[92] false)), (139, (.pointer 114)), (141, (.func #[22, 3, 3, 118, 50] #[3, 3] false)), (142, (.pointer 83)), (143, (.func #[123, 77] #[] false)), (144, (.func #[4] #[77] false)), (145, (.pointer 165)), (146, (.func #[9] #[145] false)), (147, (.struct #[{ name := "finder", type := 145, offset := 0, embedded := false, tag := "", pkgPath := "strings", byteOffset := 0 }, { name := "value", type := 9, offset := 1, embedded := false, tag := "", pkgPath := "strings", byteOffset := 8 }])), (148, (.struct #[{ name := "finder", type := 145, offset := 0, embedded := false, tag := "", pkgPath := "strings", byteOffset := 0 }, { name := "value", type := 9, offset := 1, embedded := false, tag := "", pkgPath := "strings", byteOffset := 8 }])), (149, (.pointer 152)), (150, (.slice 149)), (151, (.struct #[{ name := "value", type := 9, offset := 0, embedded := false, tag := "", pkgPath := "strings", byteOffset := 0 }, { name := "priority", type := 3, offset := 1, embedded := false, tag := "", pkgPath := "strings", byteOffset := 16 }, { name := "prefix", type := 9, offset := 2, embedded := false, tag := "", pkgPath := "strings", byteOffset := 24 }, { name := "next", type := 149, offset := 3, embedded := false, tag := "", pkgPath := "strings", byteOffset := 40 }, { name := "table", type := 150, offset := 4, embedded := false, tag := "", pkgPath := "strings", byteOffset := 48 }])), (152, (.struct #[{ name := "value", type := 9, offset := 0, embedded := false, tag := "", pkgPath := "strings", byteOffset := 0 }, { name := "priority", type := 3, offset := 1, embedded := false, tag := "", pkgPath := "strings", byteOffset := 16 }, { name := "prefix", type := 9, offset := 2, embedded := false, tag := "", pkgPath := "strings", byteOffset := 24 }, { name := "next", type := 149, offset := 3, embedded := false, tag := "", pkgPath := "strings", byteOffset := 40 }, { name := "table", type := 150, offset := 4, embedded := false, tag := "", pkgPath := "strings", byteOffset := 48 }])), (153, (.struct #[{ name := "root", type := 152, offset := 0, embedded := false, tag := "", pkgPath := "strings", byteOffset := 0 }, { name := "tableSize", type := 3, offset := 5, embedded := false, tag := "", pkgPath := "strings", byteOffset := 72 }, { name := "mapping", type := 129, offset := 6, embedded := false, tag := "", pkgPath := "strings", byteOffset := 80 }])), (154, (.struct #[{ name := "root", type := 152, offset := 0, embedded := false, tag := "", pkgPath := "strings", byteOffset := 0 }, { name := "tableSize", type := 3, offset := 5, embedded := false, tag := "", pkgPath := "strings", byteOffset := 72 }, { name := "mapping", type := 129, offset := 6, embedded := false, tag := "", pkgPath := "strings", byteOffset := 80 }])), (155, (.func #[9, 9, 3, 127] #[] false)), (156, (.pointer 81)), (157, (.func #[158, 21, 21] #[4] false)), (158, (.pointer 21)), (159, (.func #[136] #[] false)), (160, (.func #[158, 21] #[21] false)), (161, (.func #[21] #[] false)), (162, (.slice 3)), (163, (.array 256 3)), (164, (.struct #[{ name := "pattern", type := 9, offset := 0, embedded := false, tag := "", pkgPath := "strings", byteOffset := 0 }, { name := "badCharSkip", type := 163, offset := 1, embedded := false, tag := "", pkgPath := "strings", byteOffset := 16 }, { name := "goodSuffixSkip", type := 162, offset := 257, embedded := false, tag := "", pkgPath := "strings", byteOffset := 2064 }])), (165, (.struct #[{ name := "pattern", type := 9, offset := 0, embedded := false, tag := "", pkgPath := "strings", byteOffset := 0 }, { name := "badCharSkip", type := 163, offset := 1, embedded := false, tag := "", pkgPath := "strings", byteOffset := 16 }, { name := "goodSuffixSkip", type := 162, offset := 257, embedded := false, tag := "", pkgPath := "strings", byteOffset := 2064 }])), (166, (.func #[9, 9] #[4] false)), (167, (.func #[3] #[4] false)), (168, (.func #[9] #[] false)), (169, (.func #[] #[2] false)), (170, (.func #[123, 4, 3] #[] false)), (173, (.array 0 16)), (176, (.func #[] #[3] false)), (177, (.int .u8)), (178, (.int .u8)), (179, (.func #[136, 136] #[4] false)), (180, (.int .i32)), (181, (.int .i32)), (182, (.struct #[{ name := "Size_", type := 12, offset := 0, embedded := false, tag := "", pkgPath := "", byteOffset := 0 }, { name := "PtrBytes", type := 12, offset := 1, embedded := false, tag := "", pkgPath := "", byteOffset := 8 }, { name := "Hash", type := 77, offset := 2, embedded := false, tag := "", pkgPath := "", byteOffset := 16 }, { name := "TFlag", type := 177, offset := 3, embedded := false, tag := "", pkgPath := "", byteOffset := 20 }, { name := "Align_", type := 5, offset := 4, embedded := false, tag := "", pkgPath := "", byteOffset := 21 }, { name := "FieldAlign_", type := 5, offset := 5, embedded := false, tag := "", pkgPath := "", byteOffset := 22 }, { name := "Kind_", type := 178, offset := 6, embedded := false, tag := "", pkgPath := "", byteOffset := 23 }, { name := "Equal", type := 179, offset := 7, embedded := false, tag := "", pkgPath := "", byteOffset := 24 }, { name := "GCData", type := 113, offset := 8, embedded := false, tag := "", pkgPath := "", byteOffset := 32 }, { name := "Str", type := 180, offset := 9, embedded := false, tag := "", pkgPath := "", byteOffset := 40 }, { name := "PtrToThis", type := 181, offset := 10, embedded := false, tag := "", pkgPath := "", byteOffset := 44 }])), (183, (.struct #[{ name := "Size_", type := 12, offset := 0, embedded := false, tag := "", pkgPath := "", byteOffset := 0 }, { name := "PtrBytes", type := 12, offset := 1, embedded := false, tag := "", pkgPath := "", byteOffset := 8 }, { name := "Hash", type := 77, offset := 2, embedded := false, tag := "", pkgPath := "", byteOffset := 16 }, { name := "TFlag", type := 177, offset := 3, embedded := false, tag := "", pkgPath := "", byteOffset := 20 }, { name := "Align_", type := 5, offset := 4, embedded := false, tag := "", pkgPath := "", byteOffset := 21 }, { name := "FieldAlign_", type := 5, offset := 5, embedded := false, tag := "", pkgPath := "", byteOffset := 22 }, { name := "Kind_", type := 178, offset := 6, embedded := false, tag := "", pkgPath := "", byteOffset := 23 }, { name := "Equal", type := 179, offset := 7, embedded := false, tag := "", pkgPath := "", byteOffset := 24 }, { name := "GCData", type := 113, offset := 8, embedded := false, tag := "", pkgPath := "", byteOffset := 32 }, { name := "Str", type := 180, offset := 9, embedded := false, tag := "", pkgPath := "", byteOffset := 40 }, { name := "PtrToThis", type := 181, offset := 10, embedded := false, tag := "", pkgPath := "", byteOffset := 44 }])), (184, (.func #[189, 9] #[3, 97] false)), (185, (.func #[9] #[3] false)), (186, (.slice 5)), (187, (.pointer 186)), (188, (.interface #[("Write", 198)])), (189, (.interface #[("Write", 198)])), (190, (.interface #[("WriteString", 99)])), (191, (.interface #[("WriteString", 99)])), (192, (.func #[189] #[191] false)), (194, (.func #[9, 4] #[9, 3, 4] false)), (196, (.struct #[{ name := "w", type := 189, offset := 0, embedded := false, tag := "", pkgPath := "strings", byteOffset := 0 }])), (197, (.struct #[{ name := "w", type := 189, offset := 0, embedded := false, tag := "", pkgPath := "strings", byteOffset := 0 }])), (198, (.func #[92] #[3, 97] false)), (199, (.func #[9, 5] #[3] false)), (200, (.func #[3] #[3] false)), (202, (.func #[9] #[77, 77] false))]
def TSz : List (Nat × (Nat × Nat)) := [(1, (1, 8)), (2, (1, 8)), (3, (1, 8)), (4, (1, 1)), (5, (1, 1)), (6, (1, 1)), (9, (1, 16)), (10, (1, 16)), (11, (1, 16)), (12, (1, 8)), (15, (1, 8)), (16, (1, 8)), (17, (1, 8)), (20, (1, 16)), (21, (1, 4)), (22, (1, 24)), (23, (1, 8)), (25, (1, 8)), (26, (1, 8)), (27, (1, 8)), (28, (1, 8)), (29, (1, 8)), (30, (1, 8)), (31, (1, 8)), (33, (1, 8)), (34, (1, 8)), (35, (1, 8)), (36, (1, 8)), (37, (1, 8)), (38, (1, 8)), (39, (1, 8)), (40, (1, 8)), (41, (2, 32)), (42, (2, 32)), (43, (1, 8)), (44, (1, 8)), (45, (1, 8)), (47, (1, 8)), (48, (1, 8)), (49, (1, 8)), (50, (1, 8)), (51, (1, 8)), (52, (1, 8)), (53, (1, 8)), (54, (1, 24)), (56, (1, 8)), (57, (1, 8)), (58, (1, 8)), (59, (1, 24)), (60, (1, 8)), (61, (1, 8)), (62, (1, 8)), (63, (1, 8)), (64, (1, 8)), (65, (1, 8)), (66, (1, 8)), (67, (1, 8)), (68, (1, 8)), (69, (1, 8)), (70, (1, 8)), (71, (1, 8)), (72, (1, 8)), (73, (1, 8)), (74, (0, 0)), (75, (0, 0)), (76, (0, 0)), (77, (1, 4)), (78, (1, 4)), (79, (1, 4)), (82, (2, 8)), (83, (2, 8)), (84, (3, 12)), (85, (3, 12)), (86, (1, 16)), (87, (1, 16)), (88, (5, 56)), (89, (5, 56)), (90, (1, 8)), (91, (1, 8)), (92, (1, 24)), (93, (2, 32)), (94, (2, 32)), (95, (1, 8)), (96, (1, 16)), (97, (1, 16)), (99, (1, 8)), (100, (1, 8)), (101, (1, 8)), (102, (1, 8)), (103, (1, 8)), (105, (1, 8)), (106, (1, 8)), (107, (1, 8)), (108, (1, 8)), (109, (1, 8)), (110, (1, 8)), (111, (1, 8)), (112, (1, 8)), (113, (1, 8)), (114, (1, 8)), (115, (1, 8)), (116, (1, 8)), (117, (1, 8)), (118, (1, 8)), (119, (1, 8)), (120, (1, 8)), (121, (1, 8)), (122, (1, 8)), (123, (1, 8)), (124, (1, 8)), (125, (1, 8)), (126, (1, 8)), (127, (1, 8)), (128, (1, 8)), (129, (256, 256)), (130, (256, 256)), (131, (1, 8)), (132, (256, 6144)), (133, (257, 6168)), (134, (257, 6168)), (135, (1, 8)), (137, (1, 8)), (138, (1, 8)), (139, (1, 8)), (141, (1, 8)), (142, (1, 8)), (143, (1, 8)), (144, (1, 8)), (145, (1, 8)), (146, (1, 8)), (147, (2, 24)), (148, (2, 24)), (149, (1, 8)), (150, (1, 24)), (151, (5, 72)), (152, (5, 72)), (153, (262, 336)), (154, (262, 336)), (155, (1, 8)), (156, (1, 8)), (157, (1, 8)), (158, (1, 8)), (159, (1, 8)), (160, (1, 8)), (161, (1, 8)), (162, (1, 24)), (163, (256, 2048)), (164, (258, 2088)), (165, (258, 2088)), (166, (1, 8)), (167, (1, 8)), (168, (1, 8)), (169, (1, 8)), (170, (1, 8)), (173, (0, 0)), (176, (1, 8)), (177, (1, 1)), (178, (1, 1)), (179, (1, 8)), (180, (1, 4)), (181, (1, 4)), (182, (11, 48)), (183, (11, 48)), (184, (1, 8)), (185, (1, 8)), (186, (1, 24)), (187, (1, 8)), (188, (1, 16)), (189, (1, 16)), (190, (1, 16)), (191, (1, 16)), (192, (1, 8)), (194, (1, 8)), (196, (1, 16)), (197, (1, 16)), (198, (1, 8)), (199, (1, 8)), (200, (1, 8)), (202, (1, 8))]
def TZv_129 : Value := .agg #[.int .u8 0, .int .u8 0, .int .u8 0, .int .u8 0, .int .u8 0, .int .u8 0, .int .u8 0, .int .u8 0, .int .u8 0, .int .u8 0, .int .u8 0, .int .u8 0, .int .u8 0, .int .u8 0, .int .u8 0, .int .u8 0, .int .u8 0, .int .u8 0, .int .u8 0, .int .u8 0, .int .u8 0, .int .u8 0, .int .u8 0, .int .u8 0, .int .u8 0, .int .u8 0, .int .u8 0, .int .u8 0, .int .u8 0, .int .u8 0, .int .u8 0, .int .u8 0, .int .u8 0, .int .u8 0, .int .u8 0, .int .u8 0, .int .u8 0, .int .u8 0, .int .u8 0, .int .u8 0, .int .u8 0, .int .u8 0, .int .u8 0, .int .u8 0, .int .u8 0, .int .u8 0, .int .u8 0, .int .u8 0, .int .u8 0, .int .u8 0, .int .u8 0, .int .u8 0, .int .u8 0, .int .u8 0, .int .u8 0, .int .u8 0, .int .u8 0, .int .u8 0, .int .u8 0, .int .u8 0, .int .u8 0, .int .u8 0, .int .u8 0, .int .u8 0, .int .u8 0, .int .u8 0, .int .u8 0, .int .u8 0, .int .u8 0, .int .u8 0, .int .u8 0, .int .u8 0, .int .u8 0, .int .u8 0, .int .u8 0, .int .u8 0, .int .u8 0, .int .u8 0, .int .u8 0, .int .u8 0, .int .u8 0, .int .u8 0, .int .u8 0, .int .u8 0, .int .u8 0, .int .u8 0, .int .u8 0, .int .u8 0, .int .u8 0, .int .u8 0, .int .u8 0, .int .u8 0, .int .u8 0, .int .u8 0, .int .u8 0, .int .u8 0, .int .u8 0, .int .u8 0, .int .u8 0, .int .u8 0, .int .u8 0, .int .u8 0, .int .u8 0, .int .u8 0, .int .u8 0, .int .u8 0, .int .u8 0, .int .u8 0, .int .u8 0, .int .u8 0, .int .u8 0, .int .u8 0, .int .u8 0, .int .u8 0, .int .u8 0, .int .u8 0, .int .u8 0, .int .u8 0, .int .u8 0, .int .u8 0, .int .u8 0, .int .u8 0, .int .u8 0, .int .u8 0, .int .u8 0, .int .u8 0, .int .u8 0, .int .u8 0, .int .u8 0, .int .u8 0, .int .u8 0, .int .u8 0, .int .u8 0, .int .u8 0, .int .u8 0, .int .u8 0, .int .u8 0, .int .u8 0, .int .u8 0, .int .u8 0, .int .u8 0, .int .u8 0, .int .u8 0, .int .u8 0, .int .u8 0, .int .u8 0, .int .u8 0, .int .u8 0, .int .u8 0, .int .u8 0, .int .u8 0, .int .u8 0, .int .u8 0, .int .u8 0, .int .u8 0, .int .u8 0, .int .u8 0, .int .u8 0, .int .u8 0, .int .u8 0, .int .u8 0, .int .u8 0, .int .u8 0, .int .u8 0, .int .u8 0, .int .u8 0, .int .u8 0, .int .u8 0, .int .u8 0, .int .u8 0, .int .u8 0, .int .u8 0, .int .u8 0, .int .u8 0, .int .u8 0, .int .u8 0, .int .u8 0, .int .u8 0, .int .u8 0, .int .u8 0, .int .u8 0, .int .u8 0, .int .u8 0, .int .u8 0, .int .u8 0, .int .u8 0, .int .u8 0, .int .u8 0, .int .u8 0, .int .u8 0, .int .u8 0, .int .u8 0, .int .u8 0, .int .u8 0, .int .u8 0, .int .u8 0, .int .u8 0, .int .u8 0, .int .u8 0, .int .u8 0, .int .u8 0, .int .u8 0, .int .u8 0, .int .u8 0, .int .u8 0, .int .u8 0, .int .u8 0, .int .u8 0, .int .u8 0, .int .u8 0, .int .u8 0, .int .u8 0, .int .u8 0, .int .u8 0, .int .u8 0, .int .u8 0, .int .u8 0, .int .u8 0, .int .u8 0, .int .u8 0, .int .u8 0, .int .u8 0, .int .u8 0, .int .u8 0, .int .u8 0, .int .u8 0, .int .u8 0, .int .u8 0, .int .u8 0, .int .u8 0, .int .u8 0, .int .u8 0, .int .u8 0, .int .u8 0, .int .u8 0, .int .u8 0, .int .u8 0, .int .u8 0, .int .u8 0, .int .u8 0, .int .u8 0, .int .u8 0, .int .u8 0, .int .u8 0, .int .u8 0, .int .u8 0, .int .u8 0, .int .u8 0, .int .u8 0, .int .u8 0, .int .u8 0, .int .u8 0, .int .u8 0, .int .u8 0, .int .u8 0, .int .u8 0]
def TZv_130 : Value := TZv_129
def TZv_132 : Value := .agg #[.slice none 0 0, .slice none 0 0, .slice none 0 0, .slice none 0 0, .slice none 0 0, .slice none 0 0, .slice none 0 0, .slice none 0 0, .slice none 0 0, .slice none 0 0, .slice none 0 0, .slice none 0 0, .slice none 0 0, .slice none 0 0, .slice none 0 0, .slice none 0 0, .slice none 0 0, .slice none 0 0, .slice none 0 0, .slice none 0 0, .slice none 0 0, .slice none 0 0, .slice none 0 0, .slice none 0 0, .slice none 0 0, .slice none 0 0, .slice none 0 0, .slice none 0 0, .slice none 0 0, .slice none 0 0, .slice none 0 0, .slice none 0 0, .slice none 0 0, .slice none 0 0, .slice none 0 0, .slice none 0 0, .slice none 0 0, .slice none 0 0, .slice none 0 0, .slice none 0 0, .slice none 0 0, .slice none 0 0, .slice none 0 0, .slice none 0 0, .slice none 0 0, .slice none 0 0, .slice none 0 0, .slice none 0 0, .slice none 0 0, .slice none 0 0, .slice none 0 0, .slice none 0 0, .slice none 0 0, .slice none 0 0, .slice none 0 0, .slice none 0 0, .slice none 0 0, .slice none 0 0, .slice none 0 0, .slice none 0 0, .slice none 0 0, .slice none 0 0, .slice none 0 0, .slice none 0 0, .slice none 0 0, .slice none 0 0, .slice none 0 0, .slice none 0 0, .slice none 0 0, .slice none 0 0, .slice none 0 0, .slice none 0 0, .slice none 0 0, .slice none 0 0, .slice none 0 0, .slice none 0 0, .slice none 0 0, .slice none 0 0, .slice none 0 0, .slice none 0 0, .slice none 0 0, .slice none 0 0, .slice none 0 0, .slice none 0 0, .slice none 0 0, .slice none 0 0, .slice none 0 0, .slice none 0 0, .slice none 0 0, .slice none 0 0, .slice none 0 0, .slice none 0 0, .slice none 0 0, .slice none 0 0, .slice none 0 0, .slice none 0 0, .slice none 0 0, .slice none 0 0, .slice none 0 0, .slice none 0 0, .slice none 0 0, .slice none 0 0, .slice none 0 0, .slice none 0 0, .slice none 0 0, .slice none 0 0, .slice none 0 0, .slice none 0 0, .slice none 0 0, .slice none 0 0, .slice none 0 0, .slice none 0 0, .slice none 0 0, .slice none 0 0, .slice none 0 0, .slice none 0 0, .slice none 0 0, .slice none 0 0, .slice none 0 0, .slice none 0 0, .slice none 0 0, .slice none 0 0, .slice none 0 0, .slice none 0 0, .slice none 0 0, .slice none 0 0, .slice none 0 0, .slice none 0 0, .slice none 0 0, .slice none 0 0, .slice none 0 0, .slice none 0 0, .slice none 0 0, .slice none 0 0, .slice none 0 0, .slice none 0 0, .slice none 0 0, .slice none 0 0, .slice none 0 0, .slice none 0 0, .slice none 0 0, .slice none 0 0, .slice none 0 0, .slice none 0 0, .slice none 0 0, .slice none 0 0, .slice none 0 0, .slice none 0 0, .slice none 0 0, .slice none 0 0, .slice none 0 0, .slice none 0 0, .slice none 0 0, .slice none 0 0, .slice none 0 0, .slice none 0 0, .slice none 0 0, .slice none 0 0, .slice none 0 0, .slice none 0 0, .slice none 0 0, .slice none 0 0, .slice none 0 0, .slice none 0 0, .slice none 0 0, .slice none 0 0, .slice none 0 0, .slice none 0 0, .slice none 0 0, .slice none 0 0, .slice none 0 0, .slice none 0 0, .slice none 0 0, .slice none 0 0, .slice none 0 0, .slice none 0 0, .slice none 0 0, .slice none 0 0, .slice none 0 0, .slice none 0 0, .slice none 0 0, .slice none 0 0, .slice none 0 0, .slice none 0 0, .slice none 0 0, .slice none 0 0, .slice none 0 0, .slice none 0 0, .slice none 0 0, .slice none 0 0, .slice none 0 0, .slice none 0 0, .slice none 0 0, .slice none 0 0, .slice none 0 0, .slice none 0 0, .slice none 0 0, .slice none 0 0, .slice none 0 0, .slice none 0 0, .slice none 0 0, .slice none 0 0, .slice none 0 0, .slice none 0 0, .slice none 0 0, .slice none 0 0, .slice none 0 0, .slice none 0 0, .slice none 0 0, .slice none 0 0, .slice none 0 0, .slice none 0 0, .slice none 0 0, .slice none 0 0, .slice none 0 0, .slice none 0 0, .slice none 0 0, .slice none 0 0, .slice none 0 0, .slice none 0 0, .slice none 0 0, .slice none 0 0, .slice none 0 0, .slice none 0 0, .slice none 0 0, .slice none 0 0, .slice none 0 0, .slice none 0 0, .slice none 0 0, .slice none 0 0, .slice none 0 0, .slice none 0 0, .slice none 0 0, .slice none 0 0, .slice none 0 0, .slice none 0 0, .slice none 0 0, .slice none 0 0, .slice none 0 0, .slice none 0 0, .slice none 0 0, .slice none 0 0, .slice none 0 0, .slice none 0 0, .slice none 0 0, .slice none 0 0, .slice none 0 0, .slice none 0 0, .slice none 0 0, .slice none 0 0, .slice none 0 0, .slice none 0 0, .slice none 0 0, .slice none 0 0, .slice none 0 0, .slice none 0 0]
def TZv_133 : Value := .agg #[.slice none 0 0, .slice none 0 0, .slice none 0 0, .slice none 0 0, .slice none 0 0, .slice none 0 0, .slice none 0 0, .slice none 0 0, .slice none 0 0, .slice none 0 0, .slice none 0 0, .slice none 0 0, .slice none 0 0, .slice none 0 0, .slice none 0 0, .slice none 0 0, .slice none 0 0, .slice none 0 0, .slice none 0 0, .slice none 0 0, .slice none 0 0, .slice none 0 0, .slice none 0 0, .slice none 0 0, .slice none 0 0, .slice none 0 0, .slice none 0 0, .slice none 0 0, .slice none 0 0, .slice none 0 0, .slice none 0 0, .slice none 0 0, .slice none 0 0, .slice none 0 0, .slice none 0 0, .slice none 0 0, .slice none 0 0, .slice none 0 0, .slice none 0 0, .slice none 0 0, .slice none 0 0, .slice none 0 0, .slice none 0 0, .slice none 0 0, .slice none 0 0, .slice none 0 0, .slice none 0 0, .slice none 0 0, .slice none 0 0, .slice none 0 0, .slice none 0 0, .slice none 0 0, .slice none 0 0, .slice none 0 0, .slice none 0 0, .slice none 0 0, .slice none 0 0, .slice none 0 0, .slice none 0 0, .slice none 0 0, .slice none 0 0, .slice none 0 0, .slice none 0 0, .slice none 0 0, .slice none 0 0, .slice none 0 0, .slice none 0 0, .slice none 0 0, .slice none 0 0, .slice none 0 0, .slice none 0 0, .slice none 0 0, .slice none 0 0, .slice none 0 0, .slice none 0 0, .slice none 0 0, .slice none 0 0, .slice none 0 0, .slice none 0 0, .slice none 0 0, .slice none 0 0, .slice none 0 0, .slice none 0 0, .slice none 0 0, .slice none 0 0, .slice none 0 0, .slice none 0 0, .slice none 0 0, .slice none 0 0, .slice none 0 0, .slice none 0 0, .slice none 0 0, .slice none 0 0, .slice none 0 0, .slice none 0 0, .slice none 0 0, .slice none 0 0, .slice none 0 0, .slice none 0 0, .slice none 0 0, .slice none 0 0, .slice none 0 0, .slice none 0 0, .slice none 0 0, .slice none 0 0, .slice none 0 0, .slice none 0 0, .slice none 0 0, .slice none 0 0, .slice none 0 0, .slice none 0 0, .slice none 0 0, .slice none 0 0, .slice none 0 0, .slice none 0 0, .slice none 0 0, .slice none 0 0, .slice none 0 0, .slice none 0 0, .slice none 0 0, .slice none 0 0, .slice none 0 0, .slice none 0 0, .slice none 0 0, .slice none 0 0, .slice none 0 0, .slice none 0 0, .slice none 0 0, .slice none 0 0, .slice none 0 0, .slice none 0 0, .slice none 0 0, .slice none 0 0, .slice none 0 0, .slice none 0 0, .slice none 0 0, .slice none 0 0, .slice none 0 0, .slice none 0 0, .slice none 0 0, .slice none 0 0, .slice none 0 0, .slice none 0 0, .slice none 0 0, .slice none 0 0, .slice none 0 0, .slice none 0 0, .slice none 0 0, .slice none 0 0, .slice none 0 0, .slice none 0 0, .slice none 0 0, .slice none 0 0, .slice none 0 0, .slice none 0 0, .slice none 0 0, .slice none 0 0, .slice none 0 0, .slice none 0 0, .slice none 0 0, .slice none 0 0, .slice none 0 0, .slice none 0 0, .slice none 0 0, .slice none 0 0, .slice none 0 0, .slice none 0 0, .slice none 0 0, .slice none 0 0, .slice none 0 0, .slice none 0 0, .slice none 0 0, .slice none 0 0, .slice none 0 0, .slice none 0 0, .slice none 0 0, .slice none 0 0, .slice none 0 0, .slice none 0 0, .slice none 0 0, .slice none 0 0, .slice none 0 0, .slice none 0 0, .slice none 0 0, .slice none 0 0, .slice none 0 0, .slice none 0 0, .slice none 0 0, .slice none 0 0, .slice none 0 0, .slice none 0 0, .slice none 0 0, .slice none 0 0, .slice none 0 0, .slice none 0 0, .slice none 0 0, .slice none 0 0, .slice none 0 0, .slice none 0 0, .slice none 0 0, .slice none 0 0, .slice none 0 0, .slice none 0 0, .slice none 0 0, .slice none 0 0, .slice none 0 0, .slice none 0 0, .slice none 0 0, .slice none 0 0, .slice none 0 0, .slice none 0 0, .slice none 0 0, .slice none 0 0, .slice none 0 0, .slice none 0 0, .slice none 0 0, .slice none 0 0, .slice none 0 0, .slice none 0 0, .slice none 0 0, .slice none 0 0, .slice none 0 0, .slice none 0 0, .slice none 0 0, .slice none 0 0, .slice none 0 0, .slice none 0 0, .slice none 0 0, .slice none 0 0, .slice none 0 0, .slice none 0 0, .slice none 0 0, .slice none 0 0, .slice none 0 0, .slice none 0 0, .slice none 0 0, .slice none 0 0, .slice none 0 0, .slice none 0 0, .slice none 0 0, .slice none 0 0, .slice none 0 0, .slice none 0 0, .slice none 0 0, .slice none 0 0, .slice none 0 0, .slice none 0 0, .slice none 0 0, .slice none 0 0, .slice none 0 0, .slice none 0 0, .slice none 0 0, .slice none 0 0, .slice none 0 0, .slice none 0 0, .slice none 0 0, .slice none 0 0]
def TZv_134 : Value := TZv_133
def TZv_153 : Value := .agg #[.string ByteArray.empty, .int .i64 0, .string ByteArray.empty, .pointer none, .slice none 0 0, .int .i64 0, .int .u8 0, .int .u8 0, .int .u8 0, .int .u8 0, .int .u8 0, .int .u8 0, .int .u8 0, .int .u8 0, .int .u8 0, .int .u8 0, .int .u8 0, .int .u8 0, .int .u8 0, .int .u8 0, .int .u8 0, .int .u8 0, .int .u8 0, .int .u8 0, .int .u8 0, .int .u8 0, .int .u8 0, .int .u8 0, .int .u8 0, .int .u8 0, .int .u8 0, .int .u8 0, .int .u8 0, .int .u8 0, .int .u8 0, .int .u8 0, .int .u8 0, .int .u8 0, .int .u8 0, .int .u8 0, .int .u8 0, .int .u8 0, .int .u8 0, .int .u8 0, .int .u8 0, .int .u8 0, .int .u8 0, .int .u8 0, .int .u8 0, .int .u8 0, .int .u8 0, .int .u8 0, .int .u8 0, .int .u8 0, .int .u8 0, .int .u8 0, .int .u8 0, .int .u8 0, .int .u8 0, .int .u8 0, .int .u8 0, .int .u8 0, .int .u8 0, .int .u8 0, .int .u8 0, .int .u8 0, .int .u8 0, .int .u8 0, .int .u8 0, .int .u8 0, .int .u8 0, .int .u8 0, .int .u8 0, .int .u8 0, .int .u8 0, .int .u8 0, .int .u8 0, .int .u8 0, .int .u8 0, .int .u8 0, .int .u8 0, .int .u8 0, .int .u8 0, .int .u8 0, .int .u8 0, .int .u8 0, .int .u8 0, .int .u8 0, .int .u8 0, .int .u8 0, .int .u8 0, .int .u8 0, .int .u8 0, .int .u8 0, .int .u8 0, .int .u8 0, .int .u8 0, .int .u8 0, .int .u8 0, .int .u8 0, .int .u8 0, .int .u8 0, .int .u8 0, .int .u8 0, .int .u8 0, .int .u8 0, .int .u8 0, .int .u8 0, .int .u8 0, .int .u8 0, .int .u8 0, .int .u8 0, .int .u8 0, .int .u8 0, .int .u8 0, .int .u8 0, .int .u8 0, .int .u8 0, .int .u8 0, .int .u8 0, .int .u8 0, .int .u8 0, .int .u8 0, .int .u8 0, .int .u8 0, .int .u8 0, .int .u8 0, .int .u8 0, .int .u8 0, .int .u8 0, .int .u8 0, .int .u8 0, .int .u8 0, .int .u8 0, .int .u8 0, .int .u8 0, .int .u8 0, .int .u8 0, .int .u8 0, .int .u8 0, .int .u8 0, .int .u8 0, .int .u8 0, .int .u8 0, .int .u8 0, .int .u8 0, .int .u8 0, .int .u8 0, .int .u8 0, .int .u8 0, .int .u8 0, .int .u8 0, .int .u8 0, .int .u8 0, .int .u8 0, .int .u8 0, .int .u8 0, .int .u8 0, .int .u8 0, .int .u8 0, .int .u8 0, .int .u8 0, .int .u8 0, .int .u8 0, .int .u8 0, .int .u8 0, .int .u8 0, .int .u8 0, .int .u8 0, .int .u8 0, .int .u8 0, .int .u8 0, .int .u8 0, .int .u8 0, .int .u8 0, .int .u8 0, .int .u8 0, .int .u8 0, .int .u8 0, .int .u8 0, .int .u8 0, .int .u8 0, .int .u8 0, .int .u8 0, .int .u8 0, .int .u8 0, .int .u8 0, .int .u8 0, .int .u8 0, .int .u8 0, .int .u8 0, .int .u8 0, .int .u8 0, .int .u8 0, .int .u8 0, .int .u8 0, .int .u8 0, .int .u8 0, .int .u8 0, .int .u8 0, .int .u8 0, .int .u8 0, .int .u8 0, .int .u8 0, .int .u8 0, .int .u8 0, .int .u8 0, .int .u8 0, .int .u8 0, .int .u8 0, .int .u8 0, .int .u8 0, .int .u8 0, .int .u8 0, .int .u8 0, .int .u8 0, .int .u8 0, .int .u8 0, .int .u8 0, .int .u8 0, .int .u8 0, .int .u8 0, .int .u8 0, .int .u8 0, .int .u8 0, .int .u8 0, .int .u8 0, .int .u8 0, .int .u8 0, .int .u8 0, .int .u8 0, .int .u8 0, .int .u8 0, .int .u8 0, .int .u8 0, .int .u8 0, .int .u8 0, .int .u8 0, .int .u8 0, .int .u8 0, .int .u8 0, .int .u8 0, .int .u8 0, .int .u8 0, .int .u8 0, .int .u8 0, .int .u8 0, .int .u8 0, .int .u8 0, .int .u8 0, .int .u8 0, .int .u8 0, .int .u8 0, .int .u8 0, .int .u8 0, .int .u8 0, .int .u8 0, .int .u8 0, .int .u8 0, .int .u8 0, .int .u8 0, .int .u8 0]
def TZv_154 : Value := TZv_153
def TZv_163 : Value := .agg #[.int .i64 0, .int .i64 0, .int .i64 0, .int .i64 0, .int .i64 0, .int .i64 0, .int .i64 0, .int .i64 0, .int .i64 0, .int .i64 0, .int .i64 0, .int .i64 0, .int .i64 0, .int .i64 0, .int .i64 0, .int .i64 0, .int .i64 0, .int .i64 0, .int .i64 0, .int .i64 0, .int .i64 0, .int .i64 0, .int .i64 0, .int .i64 0, .int .i64 0, .int .i64 0, .int .i64 0, .int .i64 0, .int .i64 0, .int .i64 0, .int .i64 0, .int .i64 0, .int .i64 0, .int .i64 0, .int .i64 0, .int .i64 0, .int .i64 0, .int .i64 0, .int .i64 0, .int .i64 0, .int .i64 0, .int .i64 0, .int .i64 0, .int .i64 0, .int .i64 0, .int .i64 0, .int .i64 0, .int .i64 0, .int .i64 0, .int .i64 0, .int .i64 0, .int .i64 0, .int .i64 0, .int .i64 0, .int .i64 0, .int .i64 0, .int .i64 0, .int .i64 0, .int .i64 0, .int .i64 0, .int .i64 0, .int .i64 0, .int .i64 0, .int .i64 0, .int .i64 0, .int .i64 0, .int .i64 0, .int .i64 0, .int .i64 0, .int .i64 0, .int .i64 0, .int .i64 0, .int .i64 0, .int .i64 0, .int .i64 0, .int .i64 0, .int .i64 0, .int .i64 0, .int .i64 0, .int .i64 0, .int .i64 0, .int .i64 0, .int .i64 0, .int .i64 0, .int .i64 0, .int .i64 0, .int .i64 0, .int .i64 0, .int .i64 0, .int .i64 0, .int .i64 0, .int .i64 0, .int .i64 0, .int .i64 0, .int .i64 0, .int .i64 0, .int .i64 0, .int .i64 0, .int .i64 0, .int .i64 0, .int .i64 0, .int .i64 0, .int .i64 0, .int .i64 0, .int .i64 0, .int .i64 0, .int .i64 0, .int .i64 0, .int .i64 0, .int .i64 0, .int .i64 0, .int .i64 0, .int .i64 0, .int .i64 0, .int .i64 0, .int .i64 0, .int .i64 0, .int .i64 0, .int .i64 0, .int .i64 0, .int .i64 0, .int .i64 0, .int .i64 0, .int .i64 0, .int .i64 0, .int .i64 0, .int .i64 0, .int .i64 0, .int .i64 0, .int .i64 0, .int .i64 0, .int .i64 0, .int .i64 0, .int .i64 0, .int .i64 0, .int .i64 0, .int .i64 0, .int .i64 0, .int .i64 0, .int .i64 0, .int .i64 0, .int .i64 0, .int .i64 0, .int .i64 0, .int .i64 0, .int .i64 0, .int .i64 0, .int .i64 0, .int .i64 0, .int .i64 0, .int .i64 0, .int .i64 0, .int .i64 0, .int .i64 0, .int .i64 0, .int .i64 0, .int .i64 0, .int .i64 0, .int .i64 0, .int .i64 0, .int .i64 0, .int .i64 0, .int .i64 0, .int .i64 0, .int .i64 0, .int .i64 0, .int .i64 0, .int .i64 0, .int .i64 0, .int .i64 0, .int .i64 0, .int .i64 0, .int .i64 0, .int .i64 0, .int .i64 0, .int .i64 0, .int .i64 0, .int .i64 0, .int .i64 0, .int .i64 0, .int .i64 0, .int .i64 0, .int .i64 0, .int .i64 0, .int .i64 0, .int .i64 0, .int .i64 0, .int .i64 0, .int .i64 0, .int .i64 0, .int .i64 0, .int .i64 0, .int .i64 0, .int .i64 0, .int .i64 0, .int .i64 0, .int .i64 0, .int .i64 0, .int .i64 0, .int .i64 0, .int .i64 0, .int .i64 0, .int .i64 0, .int .i64 0, .int .i64 0, .int .i64 0, .int .i64 0, .int .i64 0, .int .i64 0, .int .i64 0, .int .i64 0, .int .i64 0, .int .i64 0, .int .i64 0, .int .i64 0, .int .i64 0, .int .i64 0, .int .i64 0, .int .i64 0, .int .i64 0, .int .i64 0, .int .i64 0, .int .i64 0, .int .i64 0, .int .i64 0, .int .i64 0, .int .i64 0, .int .i64 0, .int .i64 0, .int .i64 0, .int .i64 0, .int .i64 0, .int .i64 0, .int .i64 0, .int .i64 0, .int .i64 0, .int .i64 0, .int .i64 0, .int .i64 0, .int .i64 0, .int .i64 0, .int .i64 0, .int .i64 0, .int .i64 0, .int .i64 0, .int .i64 0, .int .i64 0, .int .i64 0, .int .i64 0, .int .i64 0, .int .i64 0, .int .i64 0, .int .i64 0, .int .i64 0, .int .i64 0, .int .i64 0]
def TZv_164 : Value := .agg #[.string ByteArray.empty, .int .i64 0, .int .i64 0, .int .i64 0, .int .i64 0, .int .i64 0, .int .i64 0, .int .i64 0, .int .i64 0, .int .i64 0, .int .i64 0, .int .i64 0, .int .i64 0, .int .i64 0, .int .i64 0, .int .i64 0, .int .i64 0, .int .i64 0, .int .i64 0, .int .i64 0, .int .i64 0, .int .i64 0, .int .i64 0, .int .i64 0, .int .i64 0, .int .i64 0, .int .i64 0, .int .i64 0, .int .i64 0, .int .i64 0, .int .i64 0, .int .i64 0, .int .i64 0, .int .i64 0, .int .i64 0, .int .i64 0, .int .i64 0, .int .i64 0, .int .i64 0, .int .i64 0, .int .i64 0, .int .i64 0, .int .i64 0, .int .i64 0, .int .i64 0, .int .i64 0, .int .i64 0, .int .i64 0, .int .i64 0, .int .i64 0, .int .i64 0, .int .i64 0, .int .i64 0, .int .i64 0, .int .i64 0, .int .i64 0, .int .i64 0, .int .i64 0, .int .i64 0, .int .i64 0, .int .i64 0, .int .i64 0, .int .i64 0, .int .i64 0, .int .i64 0, .int .i64 0, .int .i64 0, .int .i64 0, .int .i64 0, .int .i64 0, .int .i64 0, .int .i64 0, .int .i64 0, .int .i64 0, .int .i64 0, .int .i64 0, .int .i64 0, .int .i64 0, .int .i64 0, .int .i64 0, .int .i64 0, .int .i64 0, .int .i64 0, .int .i64 0, .int .i64 0, .int .i64 0, .int .i64 0, .int .i64 0, .int .i64 0, .int .i64 0, .int .i64 0, .int .i64 0, .int .i64 0, .int .i64 0, .int .i64 0, .int .i64 0, .int .i64 0, .int .i64 0, .int .i64 0, .int .i64 0, .int .i64 0, .int .i64 0, .int .i64 0, .int .i64 0, .int .i64 0, .int .i64 0, .int .i64 0, .int .i64 0, .int .i64 0, .int .i64 0, .int .i64 0, .int .i64 0, .int .i64 0, .int .i64 0, .int .i64 0, .int .i64 0, .int .i64 0, .int .i64 0, .int .i64 0, .int .i64 0, .int .i64 0, .int .i64 0, .int .i64 0, .int .i64 0, .int .i64 0, .int .i64 0, .int .i64 0, .int .i64 0, .int .i64 0, .int .i64 0, .int .i64 0, .int .i64 0, .int .i64 0, .int .i64 0, .int .i64 0, .int .i64 0, .int .i64 0, .int .i64 0, .int .i64 0, .int .i64 0, .int .i64 0, .int .i64 0, .int .i64 0, .int .i64 0, .int .i64 0, .int .i64 0, .int .i64 0, .int .i64 0, .int .i64 0, .int .i64 0, .int .i64 0, .int .i64 0, .int .i64 0, .int .i64 0, .int .i64 0, .int .i64 0, .int .i64 0, .int .i64 0, .int .i64 0, .int .i64 0, .int .i64 0, .int .i64 0, .int .i64 0, .int .i64 0, .int .i64 0, .int .i64 0, .int .i64 0, .int .i64 0, .int .i64 0, .int .i64 0, .int .i64 0, .int .i64 0, .int .i64 0, .int .i64 0, .int .i64 0, .int .i64 0, .int .i64 0, .int .i64 0, .int .i64 0, .int .i64 0, .int .i64 0, .int .i64 0, .int .i64 0, .int .i64 0, .int .i64 0, .int .i64 0, .int .i64 0, .int .i64 0, .int .i64 0, .int .i64 0, .int .i64 0, .int .i64 0, .int .i64 0, .int .i64 0, .int .i64 0, .int .i64 0, .int .i64 0, .int .i64 0, .int .i64 0, .int .i64 0, .int .i64 0, .int .i64 0, .int .i64 0, .int .i64 0, .int .i64 0, .int .i64 0, .int .i64 0, .int .i64 0, .int .i64 0, .int .i64 0, .int .i64 0, .int .i64 0, .int .i64 0, .int .i64 0, .int .i64 0, .int .i64 0, .int .i64 0, .int .i64 0, .int .i64 0, .int .i64 0, .int .i64 0, .int .i64 0, .int .i64 0, .int .i64 0, .int .i64 0, .int .i64 0, .int .i64 0, .int .i64 0, .int .i64 0, .int .i64 0, .int .i64 0, .int .i64 0, .int .i64 0, .int .i64 0, .int .i64 0, .int .i64 0, .int .i64 0, .int .i64 0, .int .i64 0, .int .i64 0, .int .i64 0, .int .i64 0, .int .i64 0, .int .i64 0, .int .i64 0, .int .i64 0, .int .i64 0, .int .i64 0, .int .i64 0, .int .i64 0, .int .i64 0, .int .i64 0, .int .i64 0, .int .i64 0, .int .i64 0, .int .i64 0, .int .i64 0, .slice none 0 0]
def TZv_165 : Value := TZv_164
def TZr : List (Nat × Value) := [(1, .nilFunc), (2, .int .i64 0), (3, .int .i64 0), (4, .bool false), (5, .int .u8 0), (6, .int .u8 0), (9, .string ByteArray.empty), (10, .string ByteArray.empty), (11, .string ByteArray.empty), (12, .int .u64 0), (15, .pointer none), (16, .pointer none), (17, .pointer none), (20, .nilIface), (21, .int .i32 0), (22, .slice none 0 0), (23, .int .i64 0), (25, .nilFunc), (26, .nilFunc), (27, .nilFunc), (28, .nilFunc), (29, .nilFunc), (30, .nilFunc), (31, .nilFunc), (33, .nilFunc), (34, .nilFunc), (35, .nilFunc), (36, .nilFunc), (37, .nilFunc), (38, .nilFunc), (39, .nilFunc), (40, .nilFunc), (41, .agg #[.string ByteArray.empty, .string ByteArray.empty]), (42, .agg #[.string ByteArray.empty, .string ByteArray.empty]), (43, .nilFunc), (44, .nilFunc), (45, .int .u64 0), (47, .nilFunc), (48, .nilFunc), (49, .nilFunc), (50, .nilFunc), (51, .nilFunc), (52, .nilFunc), (53, .nilFunc), (54, .slice none 0 0), (56, .nilFunc), (57, .nilFunc), (58, .nilFunc), (59, .slice none 0 0), (60, .pointer none), (61, .nilFunc), (62, .nilFunc), (63, .nilFunc), (64, .nilFunc), (65, .map none), (66, .nilFunc), (67, .nilFunc), (68, .nilFunc), (69, .nilFunc), (70, .int .u64 0), (71, .nilFunc), (72, .nilFunc), (73, .nilFunc), (74, .agg #[]), (75, .agg #[]), (76, .agg #[]), (77, .int .u32 0), (78, .agg #[.int .u32 0]), (79, .agg #[.int .u32 0]), (82, .agg #[.int .i32 0, .int .u32 0]), (83, .agg #[.int .i32 0, .int .u32 0]), (84, .agg #[.int .u32 0, .int .i32 0, .int .u32 0]), (85, .agg #[.int .u32 0, .int .i32 0, .int .u32 0]), (86, .nilIface), (87, .nilIface), (88, .agg #[.int .u32 0, .int .i32 0, .int .u32 0, .nilIface, .slice none 0 0]), (89, .agg #[.int .u32 0, .int .i32 0, .int .u32 0, .nilIface, .slice none 0 0]), (90, .nilFunc), (91, .pointer none), (92, .slice none 0 0), (93, .agg #[.pointer none, .slice none 0 0]), (94, .agg #[.pointer none, .slice none 0 0]), (95, .nilFunc), (96, .nilIface), (97, .nilIface), (99, .nilFunc), (100, .nilFunc), (101, .nilFunc), (102, .nilFunc), (103, .int .i64 0), (105, .nilFunc), (106, .nilFunc), (107, .nilFunc), (108, .nilFunc), (109, .nilFunc), (110, .nilFunc), (111, .pointer none), (112, .nilFunc), (113, .pointer none), (114, .int .u64 0), (115, .nilFunc), (116, .nilFunc), (117, .nilFunc), (118, .pointer none), (119, .nilFunc), (120, .nilFunc), (121, .pointer none), (122, .nilFunc), (123, .pointer none), (124, .nilFunc), (125, .pointer none), (126, .nilFunc), (127, .pointer none), (128, .nilFunc), (129, TZv_129), (130, TZv_130), (131, .pointer none), (132, TZv_132), (133, TZv_133), (134, TZv_134), (135, .pointer none), (137, .nilFunc), (138, .nilFunc), (139, .pointer none), (141, .nilFunc), (142, .pointer none), (143, .nilFunc), (144, .nilFunc), (145, .pointer none), (146, .nilFunc), (147, .agg #[.pointer none, .string ByteArray.empty]), (148, .agg #[.pointer none, .string ByteArray.empty]), (149, .pointer none), (150, .slice none 0 0), (151, .agg #[.string ByteArray.empty, .int .i64 0, .string ByteArray.empty, .pointer none, .slice none 0 0]), (152, .agg #[.string ByteArray.empty, .int .i64 0, .string ByteArray.empty, .pointer none, .slice none 0 0]), (153, TZv_153), (154, TZv_154), (155, .nilFunc), (156, .pointer none), (157, .nilFunc), (158, .pointer none), (159, .nilFunc), (160, .nilFunc), (161, .nilFunc), (162, .slice none 0 0), (163, TZv_163), (164, TZv_164), (165, TZv_165), (166, .nilFunc), (167, .nilFunc), (168, .nilFunc), (169, .nilFunc), (170, .nilFunc), (173, .agg #[]), (176, .nilFunc), (177, .int .u8 0), (178, .int .u8 0), (179, .nilFunc), (180, .int .i32 0), (181, .int .i32 0), (182, .agg #[.int .u64 0, .int .u64 0, .int .u32 0, .int .u8 0, .int .u8 0, .int .u8 0, .int .u8 0, .nilFunc, .pointer none, .int .i32 0, .int .i32 0]), (183, .agg #[.int .u64 0, .int .u64 0, .int .u32 0, .int .u8 0, .int .u8 0, .int .u8 0, .int .u8 0, .nilFunc, .pointer none, .int .i32 0, .int .i32 0]), (184, .nilFunc), (185, .nilFunc), (186, .slice none 0 0), (187, .pointer none), (188, .nilIface), (189, .nilIface), (190, .nilIface), (191, .nilIface), (192, .nilFunc), (194, .nilFunc), (196, .agg #[.nilIface]), (197, .agg #[.nilIface]), (198, .nilFunc), (199, .nilFunc), (200, .nilFunc), (202, .nilFunc)]
set_option maxRecDepth 100000 in
theorem TTy_ok : ∀ p ∈ TTy, Tryz.prog.underlying p.1 = some p.2 := by
  simp only [TTy, List.forall_mem_cons]
  exact ⟨Tryz.underlying1, Tryz.underlying2, Tryz.underlying3, Tryz.underlying4, Tryz.underlying5, Tryz.underlying6, Tryz.underlying9, Tryz.underlying10, Tryz.underlying11, Tryz.underlying12, Tryz.underlying15, Tryz.underlying16, Tryz.underlying17, Tryz.underlying20, Tryz.underlying21, Tryz.underlying22, Tryz.underlying23, Tryz.underlying25, Tryz.underlying26, Tryz.underlying27, Tryz.underlying28, Tryz.underlying29, Tryz.underlying30, Tryz.underlying31, Tryz.underlying33, Tryz.underlying34, Tryz.underlying35, Tryz.underlying36, Tryz.underlying37, Tryz.underlying38, Tryz.underlying39, Tryz.underlying40, Tryz.underlying41, Tryz.underlying42, Tryz.underlying43, Tryz.underlying44, Tryz.underlying45, Tryz.underlying47, Tryz.underlying48, Tryz.underlying49, Tryz.underlying50, Tryz.underlying51, Tryz.underlying52, Tryz.underlying53, Tryz.underlying54, Tryz.underlying56, Tryz.underlying57, Tryz.underlying58, Tryz.underlying59, Tryz.underlying60, Tryz.underlying61, Tryz.underlying62, Tryz.underlying63, Tryz.underlying64, Tryz.underlying65, Tryz.underlying66, Tryz.underlying67, Tryz.underlying68, Tryz.underlying69, Tryz.underlying70, Tryz.underlying71, Tryz.underlying72, Tryz.underlying73, Tryz.underlying74, Tryz.underlying75, Tryz.underlying76, Tryz.underlying77, Tryz.underlying78, Tryz.underlying79, Tryz.underlying82, Tryz.underlying83, Tryz.underlying84, Tryz.underlying85, Tryz.underlying86, Tryz.underlying87, Tryz.underlying88, Tryz.underlying89, Tryz.underlying90, Tryz.underlying91, Tryz.underlying92, Tryz.underlying93, Tryz.underlying94, Tryz.underlying95, Tryz.underlying96, Tryz.underlying97, Tryz.underlying99, Tryz.underlying100, Tryz.underlying101, Tryz.underlying102, Tryz.underlying103, Tryz.underlying105, Tryz.underlying106, Tryz.underlying107, Tryz.underlying108, Tryz.underlying109, Tryz.underlying110, Tryz.underlying111, Tryz.underlying112, Tryz.underlying113, Tryz.underlying114, Tryz.underlying115, Tryz.underlying116, Tryz.underlying117, Tryz.underlying118, Tryz.underlying119, Tryz.underlying120, Tryz.underlying121, Tryz.underlying122, Tryz.underlying123, Tryz.underlying124, Tryz.underlying125, Tryz.underlying126, Tryz.underlying127, Tryz.underlying128, Tryz.underlying129, Tryz.underlying130, Tryz.underlying131, Tryz.underlying132, Tryz.underlying133, Tryz.underlying134, Tryz.underlying135, Tryz.underlying137, Tryz.underlying138, Tryz.underlying139, Tryz.underlying141, Tryz.underlying142, Tryz.underlying143, Tryz.underlying144, Tryz.underlying145, Tryz.underlying146, Tryz.underlying147, Tryz.underlying148, Tryz.underlying149, Tryz.underlying150, Tryz.underlying151, Tryz.underlying152, Tryz.underlying153, Tryz.underlying154, Tryz.underlying155, Tryz.underlying156, Tryz.underlying157, Tryz.underlying158, Tryz.underlying159, Tryz.underlying160, Tryz.underlying161, Tryz.underlying162, Tryz.underlying163, Tryz.underlying164, Tryz.underlying165, Tryz.underlying166, Tryz.underlying167, Tryz.underlying168, Tryz.underlying169, Tryz.underlying170, Tryz.underlying173, Tryz.underlying176, Tryz.underlying177, Tryz.underlying178, Tryz.underlying179, Tryz.underlying180, Tryz.underlying181, Tryz.underlying182, Tryz.underlying183, Tryz.underlying184, Tryz.underlying185, Tryz.underlying186, Tryz.underlying187, Tryz.underlying188, Tryz.underlying189, Tryz.underlying190, Tryz.underlying191, Tryz.underlying192, Tryz.underlying194, Tryz.underlying196, Tryz.underlying197, Tryz.underlying198, Tryz.underlying199, Tryz.underlying200, Tryz.underlying202, by simp⟩
set_option maxRecDepth 100000 in
theorem TSz_ok : (TSz.all fun p => (Tryz.prog.info? p.1).any fun i => i.size == p.2.1 && i.bytes == p.2.2 && i.zero.any (fun z => z.cells.size == p.2.1)) = true := by kernel_rfl
set_option maxRecDepth 100000 in
theorem TZr_1 : (Tryz.prog.info? 1).bind (·.zero) = some (.nilFunc) := by kernel_rfl
set_option maxRecDepth 100000 in
theorem TZr_2 : (Tryz.prog.info? 2).bind (·.zero) = some (.int .i64 0) := by kernel_rfl
set_option maxRecDepth 100000 in
theorem TZr_3 : (Tryz.prog.info? 3).bind (·.zero) = some (.int .i64 0) := by kernel_rfl
set_option maxRecDepth 100000 in
theorem TZr_4 : (Tryz.prog.info? 4).bind (·.zero) = some (.bool false) := by kernel_rfl
set_option maxRecDepth 100000 in
theorem TZr_5 : (Tryz.prog.info? 5).bind (·.zero) = some (.int .u8 0) := by kernel_rfl
set_option maxRecDepth 100000 in
theorem TZr_6 : (Tryz.prog.info? 6).bind (·.zero) = some (.int .u8 0) := by kernel_rfl
set_option maxRecDepth 100000 in
theorem TZr_9 : (Tryz.prog.info? 9).bind (·.zero) = some (.string ByteArray.empty) := by kernel_rfl
set_option maxRecDepth 100000 in
theorem TZr_10 : (Tryz.prog.info? 10).bind (·.zero) = some (.string ByteArray.empty) := by kernel_rfl
set_option maxRecDepth 100000 in
theorem TZr_11 : (Tryz.prog.info? 11).bind (·.zero) = some (.string ByteArray.empty) := by kernel_rfl
set_option maxRecDepth 100000 in
theorem TZr_12 : (Tryz.prog.info? 12).bind (·.zero) = some (.int .u64 0) := by kernel_rfl
set_option maxRecDepth 100000 in
theorem TZr_15 : (Tryz.prog.info? 15).bind (·.zero) = some (.pointer none) := by kernel_rfl
set_option maxRecDepth 100000 in
theorem TZr_16 : (Tryz.prog.info? 16).bind (·.zero) = some (.pointer none) := by kernel_rfl
set_option maxRecDepth 100000 in
theorem TZr_17 : (Tryz.prog.info? 17).bind (·.zero) = some (.pointer none) := by kernel_rfl
set_option maxRecDepth 100000 in
theorem TZr_20 : (Tryz.prog.info? 20).bind (·.zero) = some (.nilIface) := by kernel_rfl
set_option maxRecDepth 100000 in
theorem TZr_21 : (Tryz.prog.info? 21).bind (·.zero) = some (.int .i32 0) := by kernel_rfl
set_option maxRecDepth 100000 in
theorem TZr_22 : (Tryz.prog.info? 22).bind (·.zero) = some (.slice none 0 0) := by kernel_rfl
set_option maxRecDepth 100000 in
theorem TZr_23 : (Tryz.prog.info? 23).bind (·.zero) = some (.int .i64 0) := by kernel_rfl
set_option maxRecDepth 100000 in
theorem TZr_25 : (Tryz.prog.info? 25).bind (·.zero) = some (.nilFunc) := by kernel_rfl
set_option maxRecDepth 100000 in
theorem TZr_26 : (Tryz.prog.info? 26).bind (·.zero) = some (.nilFunc) := by kernel_rfl
set_option maxRecDepth 100000 in
theorem TZr_27 : (Tryz.prog.info? 27).bind (·.zero) = some (.nilFunc) := by kernel_rfl
set_option maxRecDepth 100000 in
theorem TZr_28 : (Tryz.prog.info? 28).bind (·.zero) = some (.nilFunc) := by kernel_rfl
set_option maxRecDepth 100000 in
theorem TZr_29 : (Tryz.prog.info? 29).bind (·.zero) = some (.nilFunc) := by kernel_rfl
set_option maxRecDepth 100000 in
theorem TZr_30 : (Tryz.prog.info? 30).bind (·.zero) = some (.nilFunc) := by kernel_rfl
set_option maxRecDepth 100000 in
theorem TZr_31 : (Tryz.prog.info? 31).bind (·.zero) = some (.nilFunc) := by kernel_rfl
set_option maxRecDepth 100000 in
theorem TZr_33 : (Tryz.prog.info? 33).bind (·.zero) = some (.nilFunc) := by kernel_rfl
set_option maxRecDepth 100000 in
theorem TZr_34 : (Tryz.prog.info? 34).bind (·.zero) = some (.nilFunc) := by kernel_rfl
set_option maxRecDepth 100000 in
theorem TZr_35 : (Tryz.prog.info? 35).bind (·.zero) = some (.nilFunc) := by kernel_rfl
set_option maxRecDepth 100000 in
theorem TZr_36 : (Tryz.prog.info? 36).bind (·.zero) = some (.nilFunc) := by kernel_rfl
set_option maxRecDepth 100000 in
theorem TZr_37 : (Tryz.prog.info? 37).bind (·.zero) = some (.nilFunc) := by kernel_rfl
set_option maxRecDepth 100000 in
theorem TZr_38 : (Tryz.prog.info? 38).bind (·.zero) = some (.nilFunc) := by kernel_rfl
set_option maxRecDepth 100000 in
theorem TZr_39 : (Tryz.prog.info? 39).bind (·.zero) = some (.nilFunc) := by kernel_rfl
set_option maxRecDepth 100000 in
theorem TZr_40 : (Tryz.prog.info? 40).bind (·.zero) = some (.nilFunc) := by kernel_rfl
set_option maxRecDepth 100000 in
theorem TZr_41 : (Tryz.prog.info? 41).bind (·.zero) = some (.agg #[.string ByteArray.empty, .string ByteArray.empty]) := by kernel_rfl
set_option maxRecDepth 100000 in
theorem TZr_42 : (Tryz.prog.info? 42).bind (·.zero) = some (.agg #[.string ByteArray.empty, .string ByteArray.empty]) := by kernel_rfl
set_option maxRecDepth 100000 in
theorem TZr_43 : (Tryz.prog.info? 43).bind (·.zero) = some (.nilFunc) := by kernel_rfl
set_option maxRecDepth 100000 in
theorem TZr_44 : (Tryz.prog.info? 44).bind (·.zero) = some (.nilFunc) := by kernel_rfl
set_option maxRecDepth 100000 in
theorem TZr_45 : (Tryz.prog.info? 45).bind (·.zero) = some (.int .u64 0) := by kernel_rfl
set_option maxRecDepth 100000 in
theorem TZr_47 : (Tryz.prog.info? 47).bind (·.zero) = some (.nilFunc) := by kernel_rfl
set_option maxRecDepth 100000 in
theorem TZr_48 : (Tryz.prog.info? 48).bind (·.zero) = some (.nilFunc) := by kernel_rfl
set_option maxRecDepth 100000 in
theorem TZr_49 : (Tryz.prog.info? 49).bind (·.zero) = some (.nilFunc) := by kernel_rfl
set_option maxRecDepth 100000 in
theorem TZr_50 : (Tryz.prog.info? 50).bind (·.zero) = some (.nilFunc) := by kernel_rfl
set_option maxRecDepth 100000 in
theorem TZr_51 : (Tryz.prog.info? 51).bind (·.zero) = some (.nilFunc) := by kernel_rfl
set_option maxRecDepth 100000 in
theorem TZr_52 : (Tryz.prog.info? 52).bind (·.zero) = some (.nilFunc) := by kernel_rfl
set_option maxRecDepth 100000 in
theorem TZr_53 : (Tryz.prog.info? 53).bind (·.zero) = some (.nilFunc) := by kernel_rfl
set_option maxRecDepth 100000 in
theorem TZr_54 : (Tryz.prog.info? 54).bind (·.zero) = some (.slice none 0 0) := by kernel_rfl
set_option maxRecDepth 100000 in
theorem TZr_56 : (Tryz.prog.info? 56).bind (·.zero) = some (.nilFunc) := by kernel_rfl
set_option maxRecDepth 100000 in
theorem TZr_57 : (Tryz.prog.info? 57).bind (·.zero) = some (.nilFunc) := by kernel_rfl
set_option maxRecDepth 100000 in
theorem TZr_58 : (Tryz.prog.info? 58).bind (·.zero) = some (.nilFunc) := by kernel_rfl
set_option maxRecDepth 100000 in
theorem TZr_59 : (Tryz.prog.info? 59).bind (·.zero) = some (.slice none 0 0) := by kernel_rfl
set_option maxRecDepth 100000 in
theorem TZr_60 : (Tryz.prog.info? 60).bind (·.zero) = some (.pointer none) := by kernel_rfl
set_option maxRecDepth 100000 in
theorem TZr_61 : (Tryz.prog.info? 61).bind (·.zero) = some (.nilFunc) := by kernel_rfl
set_option maxRecDepth 100000 in
theorem TZr_62 : (Tryz.prog.info? 62).bind (·.zero) = some (.nilFunc) := by kernel_rfl
set_option maxRecDepth 100000 in
theorem TZr_63 : (Tryz.prog.info? 63).bind (·.zero) = some (.nilFunc) := by kernel_rfl
set_option maxRecDepth 100000 in
theorem TZr_64 : (Tryz.prog.info? 64).bind (·.zero) = some (.nilFunc) := by kernel_rfl
set_option maxRecDepth 100000 in
theorem TZr_65 : (Tryz.prog.info? 65).bind (·.zero) = some (.map none) := by kernel_rfl
set_option maxRecDepth 100000 in
theorem TZr_66 : (Tryz.prog.info? 66).bind (·.zero) = some (.nilFunc) := by kernel_rfl
set_option maxRecDepth 100000 in
theorem TZr_67 : (Tryz.prog.info? 67).bind (·.zero) = some (.nilFunc) := by kernel_rfl
set_option maxRecDepth 100000 in
theorem TZr_68 : (Tryz.prog.info? 68).bind (·.zero) = some (.nilFunc) := by kernel_rfl
set_option maxRecDepth 100000 in
theorem TZr_69 : (Tryz.prog.info? 69).bind (·.zero) = some (.nilFunc) := by kernel_rfl
set_option maxRecDepth 100000 in
theorem TZr_70 : (Tryz.prog.info? 70).bind (·.zero) = some (.int .u64 0) := by kernel_rfl
set_option maxRecDepth 100000 in
theorem TZr_71 : (Tryz.prog.info? 71).bind (·.zero) = some (.nilFunc) := by kernel_rfl
set_option maxRecDepth 100000 in
theorem TZr_72 : (Tryz.prog.info? 72).bind (·.zero) = some (.nilFunc) := by kernel_rfl
set_option maxRecDepth 100000 in
theorem TZr_73 : (Tryz.prog.info? 73).bind (·.zero) = some (.nilFunc) := by kernel_rfl
set_option maxRecDepth 100000 in
theorem TZr_74 : (Tryz.prog.info? 74).bind (·.zero) = some (.agg #[]) := by kernel_rfl
set_option maxRecDepth 100000 in
theorem TZr_75 : (Tryz.prog.info? 75).bind (·.zero) = some (.agg #[]) := by kernel_rfl
set_option maxRecDepth 100000 in
theorem TZr_76 : (Tryz.prog.info? 76).bind (·.zero) = some (.agg #[]) := by kernel_rfl
set_option maxRecDepth 100000 in
theorem TZr_77 : (Tryz.prog.info? 77).bind (·.zero) = some (.int .u32 0) := by kernel_rfl
set_option maxRecDepth 100000 in
theorem TZr_78 : (Tryz.prog.info? 78).bind (·.zero) = some (.agg #[.int .u32 0]) := by kernel_rfl
set_option maxRecDepth 100000 in
theorem TZr_79 : (Tryz.prog.info? 79).bind (·.zero) = some (.agg #[.int .u32 0]) := by kernel_rfl
set_option maxRecDepth 100000 in
theorem TZr_82 : (Tryz.prog.info? 82).bind (·.zero) = some (.agg #[.int .i32 0, .int .u32 0]) := by kernel_rfl
set_option maxRecDepth 100000 in
theorem TZr_83 : (Tryz.prog.info? 83).bind (·.zero) = some (.agg #[.int .i32 0, .int .u32 0]) := by kernel_rfl
set_option maxRecDepth 100000 in
theorem TZr_84 : (Tryz.prog.info? 84).bind (·.zero) = some (.agg #[.int .u32 0, .int .i32 0, .int .u32 0]) := by kernel_rfl
set_option maxRecDepth 100000 in
theorem TZr_85 : (Tryz.prog.info? 85).bind (·.zero) = some (.agg #[.int .u32 0, .int .i32 0, .int .u32 0]) := by kernel_rfl
set_option maxRecDepth 100000 in
theorem TZr_86 : (Tryz.prog.info? 86).bind (·.zero) = some (.nilIface) := by kernel_rfl
set_option maxRecDepth 100000 in
theorem TZr_87 : (Tryz.prog.info? 87).bind (·.zero) = some (.nilIface) := by kernel_rfl
set_option maxRecDepth 100000 in
theorem TZr_88 : (Tryz.prog.info? 88).bind (·.zero) = some (.agg #[.int .u32 0, .int .i32 0, .int .u32 0, .nilIface, .slice none 0 0]) := by kernel_rfl
set_option maxRecDepth 100000 in
theorem TZr_89 : (Tryz.prog.info? 89).bind (·.zero) = some (.agg #[.int .u32 0, .int .i32 0, .int .u32 0, .nilIface, .slice none 0 0]) := by kernel_rfl
set_option maxRecDepth 100000 in
theorem TZr_90 : (Tryz.prog.info? 90).bind (·.zero) = some (.nilFunc) := by kernel_rfl
set_option maxRecDepth 100000 in
theorem TZr_91 : (Tryz.prog.info? 91).bind (·.zero) = some (.pointer none) := by kernel_rfl
set_option maxRecDepth 100000 in
theorem TZr_92 : (Tryz.prog.info? 92).bind (·.zero) = some (.slice none 0 0) := by kernel_rfl
set_option maxRecDepth 100000 in
theorem TZr_93 : (Tryz.prog.info? 93).bind (·.zero) = some (.agg #[.pointer none, .slice none 0 0]) := by kernel_rfl
set_option maxRecDepth 100000 in
theorem TZr_94 : (Tryz.prog.info? 94).bind (·.zero) = some (.agg #[.pointer none, .slice none 0 0]) := by kernel_rfl
set_option maxRecDepth 100000 in
theorem TZr_95 : (Tryz.prog.info? 95).bind (·.zero) = some (.nilFunc) := by kernel_rfl
set_option maxRecDepth 100000 in
theorem TZr_96 : (Tryz.prog.info? 96).bind (·.zero) = some (.nilIface) := by kernel_rfl
set_option maxRecDepth 100000 in
theorem TZr_97 : (Tryz.prog.info? 97).bind (·.zero) = some (.nilIface) := by kernel_rfl
set_option maxRecDepth 100000 in
theorem TZr_99 : (Tryz.prog.info? 99).bind (·.zero) = some (.nilFunc) := by kernel_rfl
set_option maxRecDepth 100000 in
theorem TZr_100 : (Tryz.prog.info? 100).bind (·.zero) = some (.nilFunc) := by kernel_rfl
set_option maxRecDepth 100000 in
theorem TZr_101 : (Tryz.prog.info? 101).bind (·.zero) = some (.nilFunc) := by kernel_rfl
set_option maxRecDepth 100000 in
theorem TZr_102 : (Tryz.prog.info? 102).bind (·.zero) = some (.nilFunc) := by kernel_rfl
set_option maxRecDepth 100000 in
theorem TZr_103 : (Tryz.prog.info? 103).bind (·.zero) = some (.int .i64 0) := by kernel_rfl
set_option maxRecDepth 100000 in
theorem TZr_105 : (Tryz.prog.info? 105).bind (·.zero) = some (.nilFunc) := by kernel_rfl
set_option maxRecDepth 100000 in
theorem TZr_106 : (Tryz.prog.info? 106).bind (·.zero) = some (.nilFunc) := by kernel_rfl
set_option maxRecDepth 100000 in
theorem TZr_107 : (Tryz.prog.info? 107).bind (·.zero) = some (.nilFunc) := by kernel_rfl
set_option maxRecDepth 100000 in
theorem TZr_108 : (Tryz.prog.info? 108).bind (·.zero) = some (.nilFunc) := by kernel_rfl
set_option maxRecDepth 100000 in
theorem TZr_109 : (Tryz.prog.info? 109).bind (·.zero) = some (.nilFunc) := by kernel_rfl
set_option maxRecDepth 100000 in
theorem TZr_110 : (Tryz.prog.info? 110).bind (·.zero) = some (.nilFunc) := by kernel_rfl
set_option maxRecDepth 100000 in
theorem TZr_111 : (Tryz.prog.info? 111).bind (·.zero) = some (.pointer none) := by kernel_rfl
set_option maxRecDepth 100000 in
theorem TZr_112 : (Tryz.prog.info? 112).bind (·.zero) = some (.nilFunc) := by kernel_rfl
set_option maxRecDepth 100000 in
theorem TZr_113 : (Tryz.prog.info? 113).bind (·.zero) = some (.pointer none) := by kernel_rfl
set_option maxRecDepth 100000 in
theorem TZr_114 : (Tryz.prog.info? 114).bind (·.zero) = some (.int .u64 0) := by kernel_rfl
set_option maxRecDepth 100000 in
theorem TZr_115 : (Tryz.prog.info? 115).bind (·.zero) = some (.nilFunc) := by kernel_rfl
set_option maxRecDepth 100000 in
theorem TZr_116 : (Tryz.prog.info? 116).bind (·.zero) = some (.nilFunc) := by kernel_rfl
set_option maxRecDepth 100000 in
theorem TZr_117 : (Tryz.prog.info? 117).bind (·.zero) = some (.nilFunc) := by kernel_rfl
set_option maxRecDepth 100000 in
theorem TZr_118 : (Tryz.prog.info? 118).bind (·.zero) = some (.pointer none) := by kernel_rfl
set_option maxRecDepth 100000 in
theorem TZr_119 : (Tryz.prog.info? 119).bind (·.zero) = some (.nilFunc) := by kernel_rfl
set_option maxRecDepth 100000 in
theorem TZr_120 : (Tryz.prog.info? 120).bind (·.zero) = some (.nilFunc) := by kernel_rfl
set_option maxRecDepth 100000 in
theorem TZr_121 : (Tryz.prog.info? 121).bind (·.zero) = some (.pointer none) := by kernel_rfl
set_option maxRecDepth 100000 in
theorem TZr_122 : (Tryz.prog.info? 122).bind (·.zero) = some (.nilFunc) := by kernel_rfl
set_option maxRecDepth 100000 in
theorem TZr_123 : (Tryz.prog.info? 123).bind (·.zero) = some (.pointer none) := by kernel_rfl
set_option maxRecDepth 100000 in
theorem TZr_124 : (Tryz.prog.info? 124).bind (·.zero) = some (.nilFunc) := by kernel_rfl
set_option maxRecDepth 100000 in
theorem TZr_125 : (Tryz.prog.info? 125).bind (·.zero) = some (.pointer none) := by kernel_rfl
set_option maxRecDepth 100000 in
theorem TZr_126 : (Tryz.prog.info? 126).bind (·.zero) = some (.nilFunc) := by kernel_rfl
set_option maxRecDepth 100000 in
theorem TZr_127 : (Tryz.prog.info? 127).bind (·.zero) = some (.pointer none) := by kernel_rfl
set_option maxRecDepth 100000 in
theorem TZr_128 : (Tryz.prog.info? 128).bind (·.zero) = some (.nilFunc) := by kernel_rfl
set_option maxRecDepth 100000 in
theorem TZr_129 : (Tryz.prog.info? 129).bind (·.zero) = some (TZv_129) := by kernel_rfl
set_option maxRecDepth 100000 in
theorem TZr_130 : (Tryz.prog.info? 130).bind (·.zero) = some (TZv_130) := by kernel_rfl
set_option maxRecDepth 100000 in
theorem TZr_131 : (Tryz.prog.info? 131).bind (·.zero) = some (.pointer none) := by kernel_rfl
set_option maxRecDepth 100000 in
theorem TZr_132 : (Tryz.prog.info? 132).bind (·.zero) = some (TZv_132) := by kernel_rfl
set_option maxRecDepth 100000 in
theorem TZr_133 : (Tryz.prog.info? 133).bind (·.zero) = some (TZv_133) := by kernel_rfl
set_option maxRecDepth 100000 in
theorem TZr_134 : (Tryz.prog.info? 134).bind (·.zero) = some (TZv_134) := by kernel_rfl
set_option maxRecDepth 100000 in
theorem TZr_135 : (Tryz.prog.info? 135).bind (·.zero) = some (.pointer none) := by kernel_rfl
set_option maxRecDepth 100000 in
theorem TZr_137 : (Tryz.prog.info? 137).bind (·.zero) = some (.nilFunc) := by kernel_rfl
set_option maxRecDepth 100000 in
theorem TZr_138 : (Tryz.prog.info? 138).bind (·.zero) = some (.nilFunc) := by kernel_rfl
set_option maxRecDepth 100000 in
theorem TZr_139 : (Tryz.prog.info? 139).bind (·.zero) = some (.pointer none) := by kernel_rfl
set_option maxRecDepth 100000 in
theorem TZr_141 : (Tryz.prog.info? 141).bind (·.zero) = some (.nilFunc) := by kernel_rfl
set_option maxRecDepth 100000 in
theorem TZr_142 : (Tryz.prog.info? 142).bind (·.zero) = some (.pointer none) := by kernel_rfl
set_option maxRecDepth 100000 in
theorem TZr_143 : (Tryz.prog.info? 143).bind (·.zero) = some (.nilFunc) := by kernel_rfl
set_option maxRecDepth 100000 in
theorem TZr_144 : (Tryz.prog.info? 144).bind (·.zero) = some (.nilFunc) := by kernel_rfl
set_option maxRecDepth 100000 in
theorem TZr_145 : (Tryz.prog.info? 145).bind (·.zero) = some (.pointer none) := by kernel_rfl
set_option maxRecDepth 100000 in
theorem TZr_146 : (Tryz.prog.info? 146).bind (·.zero) = some (.nilFunc) := by kernel_rfl
set_option maxRecDepth 100000 in
theorem TZr_147 : (Tryz.prog.info? 147).bind (·.zero) = some (.agg #[.pointer none, .string ByteArray.empty]) := by kernel_rfl
set_option maxRecDepth 100000 in
theorem TZr_148 : (Tryz.prog.info? 148).bind (·.zero) = some (.agg #[.pointer none, .string ByteArray.empty]) := by kernel_rfl
set_option maxRecDepth 100000 in
theorem TZr_149 : (Tryz.prog.info? 149).bind (·.zero) = some (.pointer none) := by kernel_rfl
set_option maxRecDepth 100000 in
theorem TZr_150 : (Tryz.prog.info? 150).bind (·.zero) = some (.slice none 0 0) := by kernel_rfl
set_option maxRecDepth 100000 in
theorem TZr_151 : (Tryz.prog.info? 151).bind (·.zero) = some (.agg #[.string ByteArray.empty, .int .i64 0, .string ByteArray.empty, .pointer none, .slice none 0 0]) := by kernel_rfl
set_option maxRecDepth 100000 in
theorem TZr_152 : (Tryz.prog.info? 152).bind (·.zero) = some (.agg #[.string ByteArray.empty, .int .i64 0, .string ByteArray.empty, .pointer none, .slice none 0 0]) := by kernel_rfl
set_option maxRecDepth 100000 in
theorem TZr_153 : (Tryz.prog.info? 153).bind (·.zero) = some (TZv_153) := by kernel_rfl
set_option maxRecDepth 100000 in
theorem TZr_154 : (Tryz.prog.info? 154).bind (·.zero) = some (TZv_154) := by kernel_rfl
set_option maxRecDepth 100000 in
theorem TZr_155 : (Tryz.prog.info? 155).bind (·.zero) = some (.nilFunc) := by kernel_rfl
set_option maxRecDepth 100000 in
theorem TZr_156 : (Tryz.prog.info? 156).bind (·.zero) = some (.pointer none) := by kernel_rfl
set_option maxRecDepth 100000 in
theorem TZr_157 : (Tryz.prog.info? 157).bind (·.zero) = some (.nilFunc) := by kernel_rfl
set_option maxRecDepth 100000 in
theorem TZr_158 : (Tryz.prog.info? 158).bind (·.zero) = some (.pointer none) := by kernel_rfl
set_option maxRecDepth 100000 in
theorem TZr_159 : (Tryz.prog.info? 159).bind (·.zero) = some (.nilFunc) := by kernel_rfl
set_option maxRecDepth 100000 in
theorem TZr_160 : (Tryz.prog.info? 160).bind (·.zero) = some (.nilFunc) := by kernel_rfl
set_option maxRecDepth 100000 in
theorem TZr_161 : (Tryz.prog.info? 161).bind (·.zero) = some (.nilFunc) := by kernel_rfl
set_option maxRecDepth 100000 in
theorem TZr_162 : (Tryz.prog.info? 162).bind (·.zero) = some (.slice none 0 0) := by kernel_rfl
set_option maxRecDepth 100000 in
theorem TZr_163 : (Tryz.prog.info? 163).bind (·.zero) = some (TZv_163) := by kernel_rfl
set_option maxRecDepth 100000 in
theorem TZr_164 : (Tryz.prog.info? 164).bind (·.zero) = some (TZv_164) := by kernel_rfl
set_option maxRecDepth 100000 in
theorem TZr_165 : (Tryz.prog.info? 165).bind (·.zero) = some (TZv_165) := by kernel_rfl
set_option maxRecDepth 100000 in
theorem TZr_166 : (Tryz.prog.info? 166).bind (·.zero) = some (.nilFunc) := by kernel_rfl
set_option maxRecDepth 100000 in
theorem TZr_167 : (Tryz.prog.info? 167).bind (·.zero) = some (.nilFunc) := by kernel_rfl
set_option maxRecDepth 100000 in
theorem TZr_168 : (Tryz.prog.info? 168).bind (·.zero) = some (.nilFunc) := by kernel_rfl
set_option maxRecDepth 100000 in
theorem TZr_169 : (Tryz.prog.info? 169).bind (·.zero) = some (.nilFunc) := by kernel_rfl
set_option maxRecDepth 100000 in
theorem TZr_170 : (Tryz.prog.info? 170).bind (·.zero) = some (.nilFunc) := by kernel_rfl
set_option maxRecDepth 100000 in
theorem TZr_173 : (Tryz.prog.info? 173).bind (·.zero) = some (.agg #[]) := by kernel_rfl
set_option maxRecDepth 100000 in
theorem TZr_176 : (Tryz.prog.info? 176).bind (·.zero) = some (.nilFunc) := by kernel_rfl
set_option maxRecDepth 100000 in
theorem TZr_177 : (Tryz.prog.info? 177).bind (·.zero) = some (.int .u8 0) := by kernel_rfl
set_option maxRecDepth 100000 in
theorem TZr_178 : (Tryz.prog.info? 178).bind (·.zero) = some (.int .u8 0) := by kernel_rfl
set_option maxRecDepth 100000 in
theorem TZr_179 : (Tryz.prog.info? 179).bind (·.zero) = some (.nilFunc) := by kernel_rfl
set_option maxRecDepth 100000 in
theorem TZr_180 : (Tryz.prog.info? 180).bind (·.zero) = some (.int .i32 0) := by kernel_rfl
set_option maxRecDepth 100000 in
theorem TZr_181 : (Tryz.prog.info? 181).bind (·.zero) = some (.int .i32 0) := by kernel_rfl
set_option maxRecDepth 100000 in
theorem TZr_182 : (Tryz.prog.info? 182).bind (·.zero) = some (.agg #[.int .u64 0, .int .u64 0, .int .u32 0, .int .u8 0, .int .u8 0, .int .u8 0, .int .u8 0, .nilFunc, .pointer none, .int .i32 0, .int .i32 0]) := by kernel_rfl
set_option maxRecDepth 100000 in
theorem TZr_183 : (Tryz.prog.info? 183).bind (·.zero) = some (.agg #[.int .u64 0, .int .u64 0, .int .u32 0, .int .u8 0, .int .u8 0, .int .u8 0, .int .u8 0, .nilFunc, .pointer none, .int .i32 0, .int .i32 0]) := by kernel_rfl
set_option maxRecDepth 100000 in
theorem TZr_184 : (Tryz.prog.info? 184).bind (·.zero) = some (.nilFunc) := by kernel_rfl
set_option maxRecDepth 100000 in
theorem TZr_185 : (Tryz.prog.info? 185).bind (·.zero) = some (.nilFunc) := by kernel_rfl
set_option maxRecDepth 100000 in
theorem TZr_186 : (Tryz.prog.info? 186).bind (·.zero) = some (.slice none 0 0) := by kernel_rfl
set_option maxRecDepth 100000 in
theorem TZr_187 : (Tryz.prog.info? 187).bind (·.zero) = some (.pointer none) := by kernel_rfl
set_option maxRecDepth 100000 in
theorem TZr_188 : (Tryz.prog.info? 188).bind (·.zero) = some (.nilIface) := by kernel_rfl
set_option maxRecDepth 100000 in
theorem TZr_189 : (Tryz.prog.info? 189).bind (·.zero) = some (.nilIface) := by kernel_rfl
set_option maxRecDepth 100000 in
theorem TZr_190 : (Tryz.prog.info? 190).bind (·.zero) = some (.nilIface) := by kernel_rfl
set_option maxRecDepth 100000 in
theorem TZr_191 : (Tryz.prog.info? 191).bind (·.zero) = some (.nilIface) := by kernel_rfl
set_option maxRecDepth 100000 in
theorem TZr_192 : (Tryz.prog.info? 192).bind (·.zero) = some (.nilFunc) := by kernel_rfl
set_option maxRecDepth 100000 in
theorem TZr_194 : (Tryz.prog.info? 194).bind (·.zero) = some (.nilFunc) := by kernel_rfl
set_option maxRecDepth 100000 in
theorem TZr_196 : (Tryz.prog.info? 196).bind (·.zero) = some (.agg #[.nilIface]) := by kernel_rfl
set_option maxRecDepth 100000 in
theorem TZr_197 : (Tryz.prog.info? 197).bind (·.zero) = some (.agg #[.nilIface]) := by kernel_rfl
set_option maxRecDepth 100000 in
theorem TZr_198 : (Tryz.prog.info? 198).bind (·.zero) = some (.nilFunc) := by kernel_rfl
set_option maxRecDepth 100000 in
theorem TZr_199 : (Tryz.prog.info? 199).bind (·.zero) = some (.nilFunc) := by kernel_rfl
set_option maxRecDepth 100000 in
theorem TZr_200 : (Tryz.prog.info? 200).bind (·.zero) = some (.nilFunc) := by kernel_rfl
set_option maxRecDepth 100000 in
theorem TZr_202 : (Tryz.prog.info? 202).bind (·.zero) = some (.nilFunc) := by kernel_rfl
set_option maxRecDepth 100000 in
theorem TZr_ok : ∀ p ∈ TZr, (Tryz.prog.info? p.1).bind (·.zero) = some p.2 := by
  simp only [TZr, List.forall_mem_cons]
  exact ⟨TZr_1, TZr_2, TZr_3, TZr_4, TZr_5, TZr_6, TZr_9, TZr_10, TZr_11, TZr_12, TZr_15, TZr_16, TZr_17, TZr_20, TZr_21, TZr_22, TZr_23, TZr_25, TZr_26, TZr_27, TZr_28, TZr_29, TZr_30, TZr_31, TZr_33, TZr_34, TZr_35, TZr_36, TZr_37, TZr_38, TZr_39, TZr_40, TZr_41, TZr_42, TZr_43, TZr_44, TZr_45, TZr_47, TZr_48, TZr_49, TZr_50, TZr_51, TZr_52, TZr_53, TZr_54, TZr_56, TZr_57, TZr_58, TZr_59, TZr_60, TZr_61, TZr_62, TZr_63, TZr_64, TZr_65, TZr_66, TZr_67, TZr_68, TZr_69, TZr_70, TZr_71, TZr_72, TZr_73, TZr_74, TZr_75, TZr_76, TZr_77, TZr_78, TZr_79, TZr_82, TZr_83, TZr_84, TZr_85, TZr_86, TZr_87, TZr_88, TZr_89, TZr_90, TZr_91, TZr_92, TZr_93, TZr_94, TZr_95, TZr_96, TZr_97, TZr_99, TZr_100, TZr_101, TZr_102, TZr_103, TZr_105, TZr_106, TZr_107, TZr_108, TZr_109, TZr_110, TZr_111, TZr_112, TZr_113, TZr_114, TZr_115, TZr_116, TZr_117, TZr_118, TZr_119, TZr_120, TZr_121, TZr_122, TZr_123, TZr_124, TZr_125, TZr_126, TZr_127, TZr_128, TZr_129, TZr_130, TZr_131, TZr_132, TZr_133, TZr_134, TZr_135, TZr_137, TZr_138, TZr_139, TZr_141, TZr_142, TZr_143, TZr_144, TZr_145, TZr_146, TZr_147, TZr_148, TZr_149, TZr_150, TZr_151, TZr_152, TZr_153, TZr_154, TZr_155, TZr_156, TZr_157, TZr_158, TZr_159, TZr_160, TZr_161, TZr_162, TZr_163, TZr_164, TZr_165, TZr_166, TZr_167, TZr_168, TZr_169, TZr_170, TZr_173, TZr_176, TZr_177, TZr_178, TZr_179, TZr_180, TZr_181, TZr_182, TZr_183, TZr_184, TZr_185, TZr_186, TZr_187, TZr_188, TZr_189, TZr_190, TZr_191, TZr_192, TZr_194, TZr_196, TZr_197, TZr_198, TZr_199, TZr_200, TZr_202, by simp⟩
set_option maxRecDepth 100000 in
def TT : Tys Tryz.prog where
  ty := TTy
  sz := TSz
  zr := TZr
  tyOk := fun t d h => TTy_ok _ (look_mem h)
  szOk := fun t s b h => by
    have h1 := List.all_eq_true.1 TSz_ok _ (look_mem h)
    simp only [Option.any_eq_true_iff_get, Bool.and_eq_true, beq_iff_eq] at h1
    obtain ⟨hs, ⟨h2, h3⟩, hz, h4⟩ := h1
    exact ⟨_, (Option.some_get hs).symm, h2, h3, _, (Option.some_get hz).symm, h4⟩
  zrOk := fun t z h => by
    have h1 := TZr_ok _ (look_mem h)
    simp only [Option.bind_eq_some_iff] at h1
    exact h1
theorem mixed : Tryz.prog.follows .mixedOrders = true := by kernel_rfl
end Go.Proofs.YtgmlkhfjhogdbaaGreat

/- The named structs of the program, as typed values. Written by gen/tg.py. -/
namespace Go.Proofs.YtgmlkhfjhogdbaaGreat
open Go.RowKit P
set_option linter.unusedVariables false
set_option linter.unusedSimpArgs false
structure VboundsError where
  x : Int
  y : Int
  signed : Bool
  code : UInt8
structure VerrorAddressString where
  msg : List UInt8
  addr : Int
structure VLabel where
  Name : List UInt8
  Value : List UInt8
structure VMutex where
  state : Int
  sema : Int
def ET : Nat → Type
  | 0 => VboundsError
  | 1 => VerrorAddressString
  | 2 => VLabel
  | 3 => VMutex
  | _ => Unit
def enc_VboundsError (z : VboundsError) : List AV := [.v (.int .i64 z.x)] ++ [.v (.int .i64 z.y)] ++ [.v (.bool z.signed)] ++ [.v (.int .u8 (UInt8.toNat z.code))]
def enc_VerrorAddressString (z : VerrorAddressString) : List AV := [.v (.string (mkB z.msg))] ++ [.v (.int .u64 z.addr)]
def enc_VLabel (z : VLabel) : List AV := [.v (.string (mkB z.Name))] ++ [.v (.string (mkB z.Value))]
def enc_VMutex (z : VMutex) : List AV := [.v (.int .i32 z.state)] ++ [.v (.int .u32 z.sema)]
def encE : ∀ i, ET i → List AV
  | 0, z => enc_VboundsError z
  | 1, z => enc_VerrorAddressString z
  | 2, z => enc_VLabel z
  | 3, z => enc_VMutex z
  | _ + 4, _ => []
def szE : Nat → Nat
  | 0 => 4
  | 1 => 2
  | 2 => 2
  | 3 => 2
  | _ => 0
def ECC : Enc where
  T := ET
  enc := encE
  sz := szE
  len := fun i z => match i, z with
    | 0, z => rfl
    | 1, z => rfl
    | 2, z => rfl
    | 3, z => rfl
    | _ + 4, _ => rfl
  one := fun i z => match i, z with
    | 0, z => by intro u hu; simp only [encE, enc_VboundsError, enc_VerrorAddressString, enc_VLabel, enc_VMutex, List.cons_append, List.nil_append, List.mem_cons, List.not_mem_nil, or_false] at hu; rcases hu with rfl | rfl | rfl | rfl <;> exact ⟨rfl, rfl⟩
    | 1, z => by intro u hu; simp only [encE, enc_VboundsError, enc_VerrorAddressString, enc_VLabel, enc_VMutex, List.cons_append, List.nil_append, List.mem_cons, List.not_mem_nil, or_false] at hu; rcases hu with rfl | rfl <;> exact ⟨rfl, rfl⟩
    | 2, z => by intro u hu; simp only [encE, enc_VboundsError, enc_VerrorAddressString, enc_VLabel, enc_VMutex, List.cons_append, List.nil_append, List.mem_cons, List.not_mem_nil, or_false] at hu; rcases hu with rfl | rfl <;> exact ⟨rfl, rfl⟩
    | 3, z => by intro u hu; simp only [encE, enc_VboundsError, enc_VerrorAddressString, enc_VLabel, enc_VMutex, List.cons_append, List.nil_append, List.mem_cons, List.not_mem_nil, or_false] at hu; rcases hu with rfl | rfl <;> exact ⟨rfl, rfl⟩
    | _ + 4, _ => by intro u hu; cases hu
def unpE : ∀ i, ET i → List (TA ET)
  | 0, z => [.d (.int .i64) z.x, .d (.int .i64) z.y, .d .bool z.signed, .d .byte z.code]
  | 1, z => [.d .str z.msg, .d (.int .u64) z.addr]
  | 2, z => [.d .str z.Name, .d .str z.Value]
  | 3, z => [.d (.int .i32) z.state, .d (.int .u32) z.sema]
  | _ + 4, _ => []
def pk_VboundsError (l : List (TA ET)) : Option (VboundsError × List (TA ET)) :=
  match pkL (.int .i64) l with
  | none => none
  | some (a0, l) =>
    match pkL (.int .i64) l with
    | none => none
    | some (a1, l) =>
      match pkL .bool l with
      | none => none
      | some (a2, l) =>
        match pkL .byte l with
        | none => none
        | some (a3, l) =>
          some (⟨a0, a1, a2, a3⟩, l)
theorem pk_VboundsError_to (l : List (TA ET)) (z : VboundsError) (r : List (TA ET)) (ρ : Nat → Nat) (h : pk_VboundsError l = some (z, r)) : LeL (l.map fun a => (a.rd.to ECC ρ)) (enc_VboundsError z ++ r.map fun a => (a.rd.to ECC ρ)) := by
  unfold pk_VboundsError at h
  split at h
  · cases h
  · rename_i a0 l0 h0
    split at h
    · cases h
    · rename_i a1 l1 h1
      split at h
      · cases h
      · rename_i a2 l2 h2
        split at h
        · cases h
        · rename_i a3 l3 h3
          cases h
          have hh := (pkL_to ECC ρ rfl h0).trans ((LeL.refl _).append ((pkL_to ECC ρ rfl h1).trans ((LeL.refl _).append ((pkL_to ECC ρ rfl h2).trans ((LeL.refl _).append (pkL_to ECC ρ rfl h3))))))
          exact hh
def pk_VerrorAddressString (l : List (TA ET)) : Option (VerrorAddressString × List (TA ET)) :=
  match pkL .str l with
  | none => none
  | some (a0, l) =>
    match pkL (.int .u64) l with
    | none => none
    | some (a1, l) =>
      some (⟨a0, a1⟩, l)
theorem pk_VerrorAddressString_to (l : List (TA ET)) (z : VerrorAddressString) (r : List (TA ET)) (ρ : Nat → Nat) (h : pk_VerrorAddressString l = some (z, r)) : LeL (l.map fun a => (a.rd.to ECC ρ)) (enc_VerrorAddressString z ++ r.map fun a => (a.rd.to ECC ρ)) := by
  unfold pk_VerrorAddressString at h
  split at h
  · cases h
  · rename_i a0 l0 h0
    split at h
    · cases h
    · rename_i a1 l1 h1
      cases h
      have hh := (pkL_to ECC ρ rfl h0).trans ((LeL.refl _).append (pkL_to ECC ρ rfl h1))
      exact hh
def pk_VLabel (l : List (TA ET)) : Option (VLabel × List (TA ET)) :=
  match pkL .str l with
  | none => none
  | some (a0, l) =>
    match pkL .str l with
    | none => none
    | some (a1, l) =>
      some (⟨a0, a1⟩, l)
theorem pk_VLabel_to (l : List (TA ET)) (z : VLabel) (r : List (TA ET)) (ρ : Nat → Nat) (h : pk_VLabel l = some (z, r)) : LeL (l.map fun a => (a.rd.to ECC ρ)) (enc_VLabel z ++ r.map fun a => (a.rd.to ECC ρ)) := by
  unfold pk_VLabel at h
  split at h
  · cases h
  · rename_i a0 l0 h0
    split at h
    · cases h
    · rename_i a1 l1 h1
      cases h
      have hh := (pkL_to ECC ρ rfl h0).trans ((LeL.refl _).append (pkL_to ECC ρ rfl h1))
      exact hh
def pk_VMutex (l : List (TA ET)) : Option (VMutex × List (TA ET)) :=
  match pkL (.int .i32) l with
  | none => none
  | some (a0, l) =>
    match pkL (.int .u32) l with
    | none => none
    | some (a1, l) =>
      some (⟨a0, a1⟩, l)
theorem pk_VMutex_to (l : List (TA ET)) (z : VMutex) (r : List (TA ET)) (ρ : Nat → Nat) (h : pk_VMutex l = some (z, r)) : LeL (l.map fun a => (a.rd.to ECC ρ)) (enc_VMutex z ++ r.map fun a => (a.rd.to ECC ρ)) := by
  unfold pk_VMutex at h
  split at h
  · cases h
  · rename_i a0 l0 h0
    split at h
    · cases h
    · rename_i a1 l1 h1
      cases h
      have hh := (pkL_to ECC ρ rfl h0).trans ((LeL.refl _).append (pkL_to ECC ρ rfl h1))
      exact hh
def EE : Env where
  toEnc := ECC
  unp := unpE
  unp_to := fun i z ρ => match i, z with
    | 0, z => rfl
    | 1, z => rfl
    | 2, z => rfl
    | 3, z => rfl
    | _ + 4, _ => rfl
  pk := fun i l => match i with
    | 0 => pk_VboundsError l
    | 1 => pk_VerrorAddressString l
    | 2 => pk_VLabel l
    | 3 => pk_VMutex l
    | _ => none
  pk_to := fun i l z r ρ h => match i, z, h with
    | 0, z, h => pk_VboundsError_to l z r ρ h
    | 1, z, h => pk_VerrorAddressString_to l z r ρ h
    | 2, z, h => pk_VLabel_to l z r ρ h
    | 3, z, h => pk_VMutex_to l z r ρ h
    | _ + 4, z, h => by cases h
  et := [(22, (.sl (.nam 2))), (54, (.sl (.sl (.nam 2)))), (59, (.sl .str)), (92, (.sl .byte)), (162, (.sl (.int .i64))), (186, (.sl .byte))]
  ct := [(22, [(.sl (.nam 2))]), (54, [(.sl (.sl (.nam 2)))]), (59, [(.sl .str)]), (88, [(.int .u32), (.int .i32), (.int .u32), .bool, (.sl .str)]), (89, [(.int .u32), (.int .i32), (.int .u32), .bool, (.sl .str)]), (92, [(.sl .byte)]), (93, [.bool, (.sl .byte)]), (94, [.bool, (.sl .byte)]), (162, [(.sl (.int .i64))]), (186, [(.sl .byte)])]
def EQT : List (Nat × List Ty) := [(42, [.str, .str])]
theorem eqok_42 : EqOk Tryz.prog TT 42 [.str, .str] := ⟨by kernel_rfl, by kernel_rfl, by kernel_rfl, by kernel_rfl⟩
theorem EQT_ok : ∀ p ∈ EQT, EqOk Tryz.prog TT p.1 p.2 := by
  simp only [EQT, List.forall_mem_cons]
  exact ⟨eqok_42, by simp⟩
end Go.Proofs.YtgmlkhfjhogdbaaGreat

/- A machine without unknowns: it is run. -/
namespace Go.Proofs.YtgmlkhfjhogdbaaGreat
open Go.RowKit P
set_option linter.unusedSimpArgs false
set_option linter.unusedVariables false
/-- A tree without unknowns. -/
def Tree.go {L : Type} : Tree L → Option L
  | .leaf x => some x
  | .cond true s _ => go s
  | .cond false _ t => go t
  | .bnd (some z) k => go (k z)
  | .bnd none _ => none
  | .sm (.ok z) k _ => go (k z)
  | .sm (.pan v) _ q => go (q v)
  | .nl [] _ _ => none
  | .nl (_ :: _) _ t => go t
  | .fail => none
theorem Tree.go_holds {L : Type} {K : L → Prop} : ∀ {t : Tree L} {x : L}, t.go = some x → K x → t.holds K
  | .leaf _, _, h, hk => by cases h; exact hk
  | .cond true s t, _, h, hk => ⟨fun _ => go_holds (t := s) h hk, fun e => by cases e⟩
  | .cond false s t, _, h, hk => ⟨(fun e => by cases e), fun _ => go_holds (t := t) h hk⟩
  | .bnd (some z) k, _, h, hk => ⟨z, rfl, go_holds (t := k z) h hk⟩
  | .bnd none _, _, h, hk => by cases h
  | .sm (.ok z) k q, _, h, hk => ⟨fun z' e => (by cases e; exact go_holds (t := k z) h hk), fun v e => by cases e⟩
  | .sm (.pan v) k q, _, h, hk => ⟨(fun z' e => by cases e), fun v' e => by cases e; exact go_holds (t := q v) h hk⟩
  | .nl [] s t, _, h, hk => by cases h
  | .nl (_ :: _) s t, _, h, hk => ⟨(fun e => by cases e), go_holds (t := t) h hk⟩
  | .fail, _, h, hk => by cases h
section
variable {P : Program} (Y : Tys P) (E : Env) (G : Gam E) (lv : Lvs) (rs : List ResultVar)
/-- Up to the end. -/
def evC : Nat → List It2 → TS E.T → Option (RL E.T)
  | 0, _, _ => none
  | m + 1, ks, σ => match (stp Y E G lv rs ks σ).go with
    | some (.go ks' σ') => evC m ks' σ'
    | some (.done r) => some r
    | none => none
end
theorem evC_ok {P : Program} {Y : Tys P} {E : Env} {G : Gam E} {lv : Lvs} {rs : List ResultVar} {K : RL E.T → Prop} : ∀ (m : Nat) (ks : List It2) (σ : TS E.T) (r : RL E.T), evC Y E G lv rs m ks σ = some r → K r → Ends Y E G lv rs K ks σ
  | 0, _, _, _, h, _ => by cases h
  | m + 1, ks, σ, r, h, hk => by
    simp only [evC] at h
    split at h
    · rename_i ks' σ' hg
      exact ends_step (Tree.go_holds hg (evC_ok m ks' σ' r h hk))
    · rename_i r' hg
      cases h
      exact ends_step (Tree.go_holds hg hk)
    · cases h
end Go.Proofs.YtgmlkhfjhogdbaaGreat

/- strings.Replacer's build and its replacer's Replace, run without unknowns. -/
namespace Go.Proofs.YtgmlkhfjhogdbaaGreat
open Go.RowKit P
set_option linter.unusedVariables false
set_option linter.unusedSimpArgs false
set_option maxRecDepth 100000
def sixT : List (List UInt8) := [[92], [92, 92], [34], [92, 34], [10], [92, 110]]
/-- A replacer that is just being made ready. -/
def repT : List (TA EE.T) := [.d (.int .u32) (0 : Int), .d (.int .i32) (1 : Int), .d (.int .u32) (0 : Int), .raw .nilIface, .d (.sl .str) sixT]
def nilsT (n : Nat) : List (TA EE.T) := List.replicate n (.raw (.slice none 0 0))
def tabT : List (TA EE.T) := nilsT 10 ++ [.own .byte ([92, 110] : List UInt8)] ++ nilsT 23 ++ [.own .byte ([92, 34] : List UInt8)] ++ nilsT 57 ++ [.own .byte ([92, 92] : List UInt8)] ++ nilsT 163 ++ [.bsl 94 0 3 3]
theorem build_Gok : GOk Tryz.prog TT EE ⟨[], EQT, [], [94]⟩ := GOk.nil EQT_ok
theorem build_run : evC TT EE ⟨[], EQT, [], [94]⟩ ⟨[], [], [], [], false, [], [100000, 11, 94]⟩ [.tmp 2] 3000 [.c (bodyOf 0 Tryz.f68)] ⟨132, [(0, .a (.box 100000 0))], [(100000, .cs repT)], []⟩ =
    some (.ret (.ifc 135 (.a (.box 11 0))) [(100000, .cs repT), (11, .cs tabT), (94, .row .str ([[10], [34], [92]] : List (List UInt8)))]) := by kernel_rfl
def rep1A : List AV := [.v (.int .u32 0), .v (.int .i32 1), .v (.int .u32 0), .v .nilIface, .sl false 1 (sixT.map (cells EE.toEnc .str))]
def rowA : List AV := [.v (.string (mkB [10])), .v (.string (mkB [34])), .v (.string (mkB [92]))]
def tabA (r : Nat) : List AV := tabT.map (TA.to EE.toEnc fun _ => r)
theorem build_a (B : Nat) : ACalls Tryz.prog 68 [.v (.pointer (some ⟨B, 0, none⟩))] [(B, rep1A)] (fun out H => ∃ k r, k ≠ r ∧ k ≠ B ∧ r ≠ B ∧ out = .ret (.ifc 135 (.v (.pointer (some ⟨k, 0, none⟩)))) ∧ H = [(B, rep1A), (k, tabA r), (r, rowA)]) := by
  have h := fn_okH (Y := TT) (lv := ⟨[], [], [], [], false, [], [100000, 11, 94]⟩) (rs := [.tmp 2]) (K := fun r => r = (.ret (.ifc 135 (.a (.box 11 0))) [(100000, .cs repT), (11, .cs tabT), (94, .row .str ([[10], [34], [92]] : List (List UInt8)))])) (bodyOf 0 Tryz.f68) 132 mixed build_Gok Tryz.func68 (by kernel_rfl) rfl rfl rfl (us := [.a (.box 100000 0)]) rfl (h0 := [(100000, .cs repT)]) (evC_ok _ _ _ _ build_run rfl) (fun _ => B) (fun p hp q hq e => by simp at hp hq; rw [hp, hq])
  refine h.mono ?_
  rintro out H ⟨r, ρ', rfl, ha, h1, h2, h3⟩
  have hB : ρ' 100000 = B := ha 100000 rfl
  refine ⟨ρ' 11, ρ' 94, fun e => ?_, fun e => ?_, fun e => ?_, h1, ?_⟩
  · have := h3 (11, .cs tabT) (by simp) (94, .row .str ([[10], [34], [92]] : List (List UInt8))) (by simp) e
    cases this
  · have := h3 (11, .cs tabT) (by simp) (100000, .cs repT) (by simp) (e.trans hB.symm)
    cases this
  · have := h3 (94, .row .str ([[10], [34], [92]] : List (List UInt8))) (by simp) (100000, .cs repT) (by simp) (e.trans hB.symm)
    cases this
  rw [h2]
  show [(ρ' 100000, _), (ρ' 11, _), (ρ' 94, _)] = _
  rw [hB]
  rfl
/-- A text of one byte that is not to be replaced. -/
def tabT2 : List (TA EE.T) := nilsT 10 ++ [.own .byte ([92, 110] : List UInt8)] ++ nilsT 23 ++ [.own .byte ([92, 34] : List UInt8)] ++ nilsT 57 ++ [.own .byte ([92, 92] : List UInt8)] ++ nilsT 163 ++ [.bsl 100001 0 3 3]
theorem rep_Gok : GOk Tryz.prog TT EE ⟨[], EQT, [], []⟩ := GOk.nil EQT_ok
theorem repX_run : evC TT EE ⟨[], EQT, [], []⟩ ⟨[], [], [], [], false, [], []⟩ [.tmp 4] 3000 [.c (bodyOf 0 Tryz.f135)] ⟨122, [(0, .a (.box 100000 0)), (1, .a (.d .str ([120] : List UInt8)))], [(100000, .cs tabT2), (100001, .row .str ([[10], [34], [92]] : List (List UInt8)))], []⟩ =
    some (.ret (.a (.d .str ([120] : List UInt8))) []) := by kernel_rfl
theorem repX_a (k r : Nat) (hkr : k ≠ r) : ACalls Tryz.prog 135 [.v (.pointer (some ⟨k, 0, none⟩)), .v (.string (mkB [120]))] [(k, tabA r), (r, rowA)] (fun out H => out = .ret (.v (.string (mkB [120]))) ∧ H = []) := by
  have h := fn_okH (Y := TT) (lv := ⟨[], [], [], [], false, [], []⟩) (rs := [.tmp 4]) (K := fun r => r = (.ret (.a (.d .str ([120] : List UInt8))) [])) (bodyOf 0 Tryz.f135) 122 mixed rep_Gok Tryz.func135 (by kernel_rfl) rfl rfl rfl (us := [.a (.box 100000 0), .a (.d .str ([120] : List UInt8))]) rfl (h0 := [(100000, .cs tabT2), (100001, .row .str ([[10], [34], [92]] : List (List UInt8)))]) (evC_ok _ _ _ _ repX_run rfl) (fun i => if i = 100000 then k else r) (fun p hp q hq e => by
    simp only [List.mem_cons, List.not_mem_nil, or_false] at hp hq
    rcases hp with rfl | rfl <;> rcases hq with rfl | rfl
    · rfl
    · exact absurd e hkr
    · exact absurd e.symm hkr
    · rfl)
  exact h.mono fun out H hp => hp.ret rfl
end Go.Proofs.YtgmlkhfjhogdbaaGreat

/- strings.Replacer's buildOnce, walked over abstract values. -/
namespace Go.Proofs.YtgmlkhfjhogdbaaGreat
open Go.RowKit P
set_option linter.unusedSimpArgs false
set_option linter.unusedVariables false
attribute [local irreducible] AS.nf OpV ARun Stk QSem QSemA ACalls EffOp AppOk SrcOk Awp Aops tabA rowA
set_option maxHeartbeats 1000000
/-- A replacer that has just been made ready. -/
def doneA (k : Nat) : List AV := [.v (.int .u32 0), .v (.int .i32 1), .v (.int .u32 0), .ifc 135 (.v (.pointer (some ⟨k, 0, none⟩))), .v (.slice none 0 0)]
set_option maxRecDepth 100000 in
theorem buildOnce_a (B : Nat) : ACalls Tryz.prog 49 [.v (.pointer (some ⟨B, 0, none⟩))] [(B, rep1A)] (fun out H => ∃ k r, k ≠ r ∧ k ≠ B ∧ r ≠ B ∧ out = .ret (.tu []) ∧ ∀ q cs, look [(B, doneA k), (k, tabA r), (r, rowA)] q = some cs → look H q = some cs) := by
  have h := build_a B
  unfold rep1A at h ⊢
  generalize hsix : (sixT.map (cells EE.toEnc .str)) = six' at h ⊢
  refine acalls_enter _ 10 [] Tryz.func49 (by kernel_rfl) rfl rfl rfl rfl ?_
  dsimp only [slotsOf]
  repeat (first
    | ((first | apply ar_un); (next => (first | (simp only [go_sem, Nat.reduceBEq, Nat.reduceEqDiff, reduceIte, reduceCtorEq, String.reduceEq, Nat.reduceAdd, Int.reduceToNat]; exact rfl))))
    | (apply ar_op' rfl rfl rfl rfl; (next => (first
     | (refine evalE_ok (T := TT) rfl ?_; (first | exact trivial))
     | (apply opk ⟨_, .fieldAddr _ _ _, _, _, _, _⟩; first | exact opv_field_box (T := TT) rfl rfl rfl rfl rfl | fail)
     | fail)))
    | (refine arO _ ?_; first
     | (refine arO ⟨_, .store _ _ _, _, _, _, _⟩ ?_; first
      | (apply ar_effM rfl rfl; (next => (first
       | (apply effTo_store (T := TT) rfl; (next => (first | exact look_hd | fail)); (next => rfl); (next => rfl); (next => rfl); (next => rfl); (next => rfl); (next => rfl); (next => rfl); (next => rfl))
       | fail)))
      | fail)
     | (refine arO ⟨_, .call { callee := .value _, args := _, argTypes := _ }, _, _, _, _⟩ ?_; first
      | (apply ar_callMH rfl (h) rfl rfl; (next => (repeat (first | exact PArgs.nil | (apply PArgs.cons; (next => (first | exact PArg.rd rfl (Le1.refl _) rfl)))))); (next => rfl); (next => rfl); (next => rfl); rintro _ _ ⟨k, r, hkr, hkB, hrB, rfl, rfl⟩; refine ⟨_, rfl, ?_⟩)
      | fail)
     | fail)
    | refine ar_seq ?_
    | (refine arE ?_; refine ar_endM [0] rfl ?_)
    | refine ar_region ?_
    | fail)
  refine ar_nil ⟨.tu [], rfl, k, r, hkr, hkB, hrB, rfl, fun q cs hq => ?_⟩
  simp only [look_cons, look_nil] at hq ⊢
  by_cases e : q = B
  · rw [if_pos e] at hq ⊢; exact hq
  · rw [if_neg e] at hq
    rw [if_neg e, if_neg e, if_neg e]; exact hq
end Go.Proofs.YtgmlkhfjhogdbaaGreat

/- The parts of sync.Once's slow road, each a contract of its own (turned from the kit's worked proof Lazy). -/
namespace Go.Proofs.YtgmlkhfjhogdbaaGreat

theorem race_off (w : World) : (callFunc 92 #[]).run Tryz.prog w = .ok (.value (.tuple #[])) w := run_call_mark0 Tryz.func92 (by kernel_rfl) (by kernel_rfl) (by kernel_rfl) .disable (by kernel_rfl) w
theorem race_on (w : World) : (callFunc 94 #[]).run Tryz.prog w = .ok (.value (.tuple #[])) w := run_call_mark0 Tryz.func94 (by kernel_rfl) (by kernel_rfl) (by kernel_rfl) .enable (by kernel_rfl) w
theorem race_acquire (a : Addr) (w : World) : (callFunc 95 #[.pointer (some a)]).run Tryz.prog w = .ok (.value (.tuple #[])) w := run_call_marked Tryz.func95 (by kernel_rfl) (by kernel_rfl) (by kernel_rfl) .acquire (by kernel_rfl) a w
theorem race_release (a : Addr) (w : World) : (callFunc 97 #[.pointer (some a)]).run Tryz.prog w = .ok (.value (.tuple #[])) w := run_call_marked Tryz.func97 (by kernel_rfl) (by kernel_rfl) (by kernel_rfl) .releaseMerge (by kernel_rfl) a w

set_option maxRecDepth 100000 in
set_option maxHeartbeats 1600000 in
/-- '(*sync/atomic.Bool).Store(true)', entered as a deferred call. -/
theorem store_deferred (a : Addr) (x : Value) (u : FrameMode) (w : World) (hc : w.cell? a = some x) (hz : w.frozen? a = false) :
    CallsD Tryz.prog 80 #[.pointer (some a), .bool true] u w fun e u' w' => u' = u ∧ (e = .returned (.tuple #[]) ∧ w' = w.drew.setCell a (.int .u32 1)) := by
  have hc' : w.drew.cell? a = some x := by go_simp
  have hz' : w.drew.frozen? a = false := by go_simp
  have hst := run_call_store (P := Tryz.prog) Tryz.func88 (by kernel_rfl) (by kernel_rfl) (by kernel_rfl) (by kernel_rfl) (k := .u32) (y := 1) hc' hz'
  go_enter_d Tryz.func80, Tryz.ntmps80
  go_wp2
  go_region_calls
  all_goals (go_end0; exact ⟨rfl, rfl⟩)

set_option maxRecDepth 100000 in
set_option maxHeartbeats 1600000 in
/-- '(*sync.Mutex).Unlock', entered as a deferred call, the lock held and nobody waiting. -/
theorem unlock_deferred (a : Addr) (u : FrameMode) (w : World) (hc : w.cell? a = some (.int .i32 1)) (hz : w.frozen? a = false) :
    CallsD Tryz.prog 79 #[.pointer (some a)] u w fun e u' w' => u' = u ∧ (e = .returned (.tuple #[]) ∧ w' = w.setCell a (.int .i32 0)) := by
  have hd := race_off
  have he := race_on
  have hr := race_release
  have hadd := run_call_add (P := Tryz.prog) Tryz.func98 (by kernel_rfl) (by kernel_rfl) (by kernel_rfl) .i32 (by kernel_rfl) (y := -1) (s := 0) hc hz (by simp [go_sem]; rfl)
  have hcv := run_convert_to_unsafe (P := Tryz.prog) (src := 156) (dst := 136) Tryz.underlying156 Tryz.underlying136 (by kernel_rfl) hc
  go_enter_d Tryz.func79, Tryz.ntmps79
  go_wp2
  go_end0
  go_wp2
  go_end0
  exact ⟨rfl, rfl⟩

set_option maxRecDepth 100000 in
set_option maxHeartbeats 1600000 in
/-- '(*sync.Mutex).Lock', the lock free. -/
theorem lock_free (a : Addr) (w : World) (hc : w.cell? a = some (.int .i32 0)) (hz : w.frozen? a = false) :
    Calls Tryz.prog 78 #[.pointer (some a)] w fun e w' => e = .returned (.tuple #[]) ∧ w' = w.setCell a (.int .i32 1) := by
  have hd := race_off
  have he := race_on
  have ha := race_acquire
  have hcas := run_call_cas_hit (P := Tryz.prog) Tryz.func93 (by kernel_rfl) (by kernel_rfl) (by kernel_rfl) .i32 (by kernel_rfl) (y := 1) hc hz
  have hc' : (w.setCell a (.int .i32 1)).cell? a = some (.int .i32 1) := World.cell?_setCell_same w a _ hc
  have hcv := run_convert_to_unsafe (P := Tryz.prog) (src := 156) (dst := 136) Tryz.underlying156 Tryz.underlying136 (by kernel_rfl) hc'
  go_enter Tryz.func78, Tryz.ntmps78
  go_wp2
  first | go_end0 | (simp only [Exit.inBlock, Exit.then]; refine bodyPost_ret (results_none rfl _ _ _) rfl ?_) | refine bodyPost_ret (results_none rfl _ _ _) rfl ?_
  go_wp2
  go_end0
  exact ⟨rfl, rfl⟩
end Go.Proofs.YtgmlkhfjhogdbaaGreat

/- sync.Once.Do with a method's value, not yet done (turned from the kit's worked proof Lazy). -/
namespace Go.Proofs.YtgmlkhfjhogdbaaGreat

/-- What the call of the function must leave. -/
def OnceLeft (b off : Nat) (w : World) : Prop := w.cell? ⟨b, off, none⟩ = some (.int .u32 0) ∧ w.frozen? ⟨b, off, none⟩ = false ∧ w.cell? ⟨b, off + 1, none⟩ = some (.int .i32 1) ∧ w.frozen? ⟨b, off + 1, none⟩ = false
set_option maxRecDepth 100000 in
set_option maxHeartbeats 1600000 in
theorem slow_any (b off : Nat) (p : Addr) (w : World) (R : World → Prop)
    (h0 : w.cell? ⟨b, off, none⟩ = some (.int .u32 0)) (h1 : w.cell? ⟨b, off + 1, none⟩ = some (.int .i32 0)) (f1 : w.frozen? ⟨b, off + 1, none⟩ = false)
    (hf : Calls Tryz.prog 49 #[.pointer (some p)] (w.setCell ⟨b, off + 1, none⟩ (.int .i32 1)) fun e w' => e = .returned (.tuple #[]) ∧ OnceLeft b off w' ∧ R w') :
    Calls Tryz.prog 67 #[.pointer (some ⟨b, off, none⟩), .func (.func 49) #[.pointer (some p)] #[]] w fun e w' => e = .returned (.tuple #[]) ∧
      ∃ w1, R w1 ∧ OnceLeft b off w1 ∧ w' = (w1.drew.setCell ⟨b, off, none⟩ (.int .u32 1)).setCell ⟨b, off + 1, none⟩ (.int .i32 0) := by
  have hl := run_call_load (P := Tryz.prog) Tryz.func77 (by kernel_rfl) (by kernel_rfl) (by kernel_rfl) .u32 (by kernel_rfl) (w := w.setCell ⟨b, off + 1, none⟩ (.int .i32 1)) (a := ⟨b, off, none⟩) (x := 0) ((World.cell?_setCell_other _ ⟨b, off + 1, none⟩ ⟨b, off, none⟩ _ (by simp)).trans h0)
  have hnot : ∀ (x : Bool) (w : World), (Op.unary .not (.bool x)).run Tryz.prog w = .ok (.bool (!x)) w := fun _ _ => rfl
  go_enter_defers Tryz.func67, Tryz.ntmps67
  go_wp2_with (go_at_call 78; refine (lock_free ⟨b, off + 1, none⟩ _ (by go_simp) (by go_simp)).mono ?_; rintro e w' ⟨rfl, rfl⟩)
  go_wp2_with (first | (go_at_call 49; refine hf.mono ?_; rintro e w' ⟨rfl, ⟨l0, l1, l2, l3⟩, hR⟩) | (go_at_call 66; go_in))
  refine leaves_cons (f := 80) (args := #[.pointer (some ⟨b, off, none⟩), .bool true]) (by simp) (by simp [go_sem]) ?_
  refine (store_deferred ⟨b, off, none⟩ (.int .u32 0) .returning _ l0 l1).mono ?_
  rintro e u' w'' ⟨rfl, rfl, rfl⟩
  refine leaves_cons (f := 79) (args := #[.pointer (some ⟨b, off + 1, none⟩)]) (by simp [settle]) (by simp [go_sem]) ?_
  refine (unlock_deferred ⟨b, off + 1, none⟩ _ _ ?_ (by simp [l3])).mono ?_
  · refine (World.cell?_setCell_other _ ⟨b, off, none⟩ ⟨b, off + 1, none⟩ _ (by simp)).trans ?_
    rw [World.cell?_drew]
    exact l2
  rintro e u' w'' ⟨rfl, rfl, rfl⟩
  simp [Leaves, settle, results, Tryz.results67]
  exact ⟨_, hR, ⟨l0, l1, l2, l3⟩, rfl⟩
set_option maxRecDepth 100000 in
set_option maxHeartbeats 1600000 in
theorem do_first (b off : Nat) (p : Addr) (w : World) (R : World → Prop)
    (h0 : w.cell? ⟨b, off, none⟩ = some (.int .u32 0)) (h1 : w.cell? ⟨b, off + 1, none⟩ = some (.int .i32 0)) (f1 : w.frozen? ⟨b, off + 1, none⟩ = false)
    (hf : Calls Tryz.prog 49 #[.pointer (some p)] (w.setCell ⟨b, off + 1, none⟩ (.int .i32 1)) fun e w' => e = .returned (.tuple #[]) ∧ OnceLeft b off w' ∧ R w') :
    Calls Tryz.prog 48 #[.pointer (some ⟨b, off, none⟩), .func (.func 49) #[.pointer (some p)] #[]] w fun e w' => e = .returned (.tuple #[]) ∧
      ∃ w1, R w1 ∧ OnceLeft b off w1 ∧ w' = (w1.drew.setCell ⟨b, off, none⟩ (.int .u32 1)).setCell ⟨b, off + 1, none⟩ (.int .i32 0) := by
  have hl := run_call_load (P := Tryz.prog) Tryz.func77 (by kernel_rfl) (by kernel_rfl) (by kernel_rfl) .u32 (by kernel_rfl) h0
  have hnot : ∀ (x : Bool) (w : World), (Op.unary .not (.bool x)).run Tryz.prog w = .ok (.bool (!x)) w := fun _ _ => rfl
  go_enter Tryz.func48, Tryz.ntmps48
  go_wp2_with (first | (go_at_call 67; refine (slow_any b off p _ R h0 h1 f1 hf).mono ?_; rintro e w' ⟨rfl, hR⟩) | (go_at_call 66; go_in))
  go_end0
  exact ⟨rfl, hR⟩
end Go.Proofs.YtgmlkhfjhogdbaaGreat

/- strings.Replacer's Replace on a replacer just made, over the contract of what replaces. -/
namespace Go.Proofs.YtgmlkhfjhogdbaaGreat
open Go.RowKit P
set_option linter.unusedSimpArgs false
set_option linter.unusedVariables false
theorem sim_frame {F : Nat → Prop} {X : GW} {σ : AS} {tm : Array Value} (h : SimE F X σ tm) (us : List Value) (H : List (Nat × List AV)) (hH : ∀ q cs, look H q = some cs → look σ.h q = some cs) : SimE F X ⟨us.length, slotsOf 0 (us.map .v), H, []⟩ us.toArray := by
  refine h.other (by simp) h.fb (fun t u hu => ?_) (fun k cs hk => ⟨hH k cs hk, (h.box k cs (hH k cs hk)).nF⟩) rfl id (fun r sz l ho => ?_) (fun _ _ _ _ _ _ _ _ hne _ _ _ _ => hne)
  · obtain ⟨_, h2⟩ := look_slotsOf _ _ _ _ hu
    simp only [Nat.sub_zero, List.getElem?_map, Option.map_eq_some_iff] at h2
    obtain ⟨v, hv, rfl⟩ := h2
    have : us.toArray.getD t undef = v := by simp [Array.getD_eq_getD_getElem?, hv]
    rw [this]
    exact .v v
  · cases r with
    | s t =>
      exfalso
      simp only [AS.own] at ho
      cases hl : look (slotsOf 0 (us.map AV.v)) t with
      | none => rw [hl] at ho; cases ho
      | some u =>
        obtain ⟨_, h2⟩ := look_slotsOf _ _ _ _ hl
        simp only [Nat.sub_zero, List.getElem?_map, Option.map_eq_some_iff] at h2
        obtain ⟨v, hv, rfl⟩ := h2
        rw [hl] at ho; cases ho
    | c k o =>
      right
      have ho' : σ.own (.c k o) = some (sz, l) := by
        simp only [AS.own] at ho ⊢
        cases hl : look H k with
        | none => rw [hl] at ho; cases ho
        | some cs => rw [hl] at ho; rw [hH k cs hl]; exact ho
      exact ⟨ho', rfl, fun a n c hr => (h.own_nF ho' hr).1⟩
/-- A replacer that has not been used. -/
def repA : List AV := [.v (.int .u32 0), .v (.int .i32 0), .v (.int .u32 0), .v .nilIface, .sl false 1 (sixT.map (cells EE.toEnc .str))]
theorem box_cell {F : Nat → Prop} {X : GW} {σ : AS} {tm : Array Value} (h : SimE F X σ tm) {B o : Nat} {cs : List AV} (hb : look σ.h B = some cs) (hm : isMpB cs = false) {u : AV} (hu : cs[o]? = some u) : ∃ v, X.w.cell? ⟨B, o, none⟩ = some v ∧ Rel X u v ∧ X.w.frozen? ⟨B, o, none⟩ = false := by
  obtain ⟨b1, b2, arr, el, fr, b3, b4, b5, b6⟩ := (h.box B cs hb).cells hm
  have hlt : o < arr.size := by rw [b4]; exact (List.getElem?_eq_some_iff.1 hu).1
  refine ⟨arr[o], ?_, b6 o u _ hu (Array.getElem?_eq_getElem hlt), b5 o⟩
  simp [World.cell?, b3, hlt]
theorem box_val {F : Nat → Prop} {X : GW} {σ : AS} {tm : Array Value} (h : SimE F X σ tm) {B o : Nat} {cs : List AV} (hb : look σ.h B = some cs) (hm : isMpB cs = false) {v : Value} (hu : cs[o]? = some (.v v)) : X.w.cell? ⟨B, o, none⟩ = some v ∧ X.w.frozen? ⟨B, o, none⟩ = false := by
  obtain ⟨v', h1, h2, h3⟩ := box_cell h hb hm hu
  rw [rel_v h2] at h1
  exact ⟨h1, h3⟩
/-- A plain cell of a box is written. -/
theorem set_plain {F : Nat → Prop} {X : GW} {σ : AS} {tm : Array Value} (h : SimE F X σ tm) {B o : Nat} {cs : List AV} (hb : look σ.h B = some cs) (hm : isMpB cs = false) (ho : o + 1 ≤ cs.length) (v : Value) : SimE F ⟨X.w.setCell ⟨B, o, none⟩ v, X.g⟩ (σ.setc B (splice cs o [.v v])) tm ∧ Ext F X ⟨X.w.setCell ⟨B, o, none⟩ v, X.g⟩ :=
  SimE.setc (us := [.v v]) (vs := [v]) h hb ho rfl (fun i u x hu hx => by
    cases i with
    | zero => simp at hu hx; subst hu hx; exact .v _
    | succ i => simp at hu) (fun i sz l x hu hx => by
    cases i with
    | zero => simp [own1] at hu
    | succ i => simp [own1] at hu) (fun i j p q hu => by
    cases i with
    | zero => simp [own1] at hu
    | succ i => simp [own1] at hu) hm
theorem do_ready (B : Nat) (F : Nat → Prop) (X : GW) (σ : AS) (tm : Array Value) (hs : SimE F X σ tm) (hb : look σ.h B = some repA) : Calls Tryz.prog 48 #[.pointer (some ⟨B, 0, none⟩), .func (.func 49) #[.pointer (some ⟨B, 0, none⟩)] #[]] X.w fun e w' => e = .returned (.tuple #[]) ∧
      ∃ (X2 : GW) (k r : Nat) (v : Value), X2.w = w' ∧ k ≠ r ∧ w'.cell? ⟨B, 3, none⟩ = some (.iface 135 (.pointer (some ⟨k, 0, none⟩))) ∧ SimE F X2 ⟨1, [], [(k, tabA r), (r, rowA)], []⟩ #[v] ∧ Ext F X X2 := by
  have hm : isMpB repA = false := rfl
  obtain ⟨c0, f0⟩ := box_val (o := 0) hs hb hm (v := .int .u32 0) rfl
  obtain ⟨c1, f1⟩ := box_val (o := 1) hs hb hm (v := .int .i32 0) rfl
  obtain ⟨s1, x1⟩ := set_plain (o := 1) hs hb hm (by decide) (.int .i32 1)
  have s1' := sim_frame s1 [.pointer (some ⟨B, 0, none⟩)] [(B, rep1A)] (fun q cs hq => by
    simp only [look_cons, look_nil, AS.setc] at hq ⊢
    split at hq
    · rename_i e; rw [if_pos e]; exact hq
    · cases hq)
  have hbo := (buildOnce_a B).2 F _ _ s1'
  have hdo := do_first B 0 ⟨B, 0, none⟩ X.w (fun w' => ∃ (X1 : GW) (k r : Nat) (v : Value), X1.w = w' ∧ k ≠ r ∧ k ≠ B ∧ r ≠ B ∧ SimE F X1 ⟨1, [], [(B, doneA k), (k, tabA r), (r, rowA)], []⟩ #[v] ∧ Ext F X X1) c0 c1 f1 (hbo.mono fun e w' ⟨X1, out, H', h1, ⟨k, r, hkr, hkB, hrB, h2, h3⟩, h4, h5⟩ => by
    subst h1 h2
    obtain ⟨v, k1, k2⟩ := h4
    have k3 : SimE F X1 ⟨1, [], [(B, doneA k), (k, tabA r), (r, rowA)], []⟩ #[v] := k2.sub rfl (fun t u hu => by simp [look_nil] at hu) h3 (fun p hp => by cases hp)
    have hv : v = .tuple #[] := by
      have := k2.slot 0 (.tu []) rfl
      cases this with
      | tu us xs hl hr =>
        have : xs = #[] := by apply Array.eq_empty_of_size_eq_zero; simpa using hl.symm
        subst this
        simp_all
    have hmd : isMpB (doneA k) = false := rfl
    obtain ⟨d0, e0⟩ := box_val (o := 0) k3 (B := B) (cs := doneA k) (by simp [look_cons]) hmd (v := .int .u32 0) rfl
    obtain ⟨d1, e1⟩ := box_val (o := 1) k3 (B := B) (cs := doneA k) (by simp [look_cons]) hmd (v := .int .i32 1) rfl
    exact ⟨by rw [k1, hv], ⟨d0, e0, d1, e1⟩, X1, k, r, v, rfl, hkr, hkB, hrB, k3, x1.trans h5⟩)
  refine hdo.mono fun e w' ⟨h1, w1, ⟨X1, k, r, v, hw1, hkr, hkB, hrB, k3, k4⟩, _, h2⟩ => ⟨h1, ?_⟩
  subst hw1 h2
  have hmd : isMpB (doneA k) = false := rfl
  have hXd : New X1 ⟨X1.w.drew, X1.g⟩ := ⟨rfl, rfl, rfl, Nat.le_refl _, fun _ _ => ⟨rfl, rfl⟩⟩
  have k5 := k3.new hXd k3.gb
  obtain ⟨k6, x6⟩ := set_plain (B := B) (o := 0) (cs := doneA k) k5 (by simp [look_cons]) hmd (Nat.le_of_ble_eq_true rfl) (.int .u32 1)
  obtain ⟨k7, x7⟩ := set_plain (B := B) (o := 1) (cs := splice (doneA k) 0 [.v (.int .u32 1)]) k6 (by simp [AS.setc, look_cons]) rfl (Nat.le_of_ble_eq_true rfl) (.int .i32 0)
  obtain ⟨v3, q1, q2, _⟩ := box_cell (B := B) (o := 3) (cs := splice (splice (doneA k) 0 [.v (.int .u32 1)]) 1 [.v (.int .i32 0)]) k7 (by simp [AS.setc, look_cons]) rfl (u := .ifc 135 (.v (.pointer (some ⟨k, 0, none⟩)))) rfl
  refine ⟨_, k, r, v, rfl, hkr, ?_, k7.sub rfl (fun t u hu => by simp [look_nil] at hu) (fun q cs hq => ?_) (fun p hp => by cases hp), ((k4.trans (hXd.ext k3.gb k3.fb)).trans x6).trans x7⟩
  · cases q2 with
    | ifc t u x hr =>
      rw [rel_v hr] at q1
      exact q1
  · simp only [look_cons, look_nil, AS.setc] at hq ⊢
    have hqB : q ≠ B := by
      rintro rfl
      rw [if_neg (fun e => hkB e.symm), if_neg (fun e => hrB e.symm)] at hq
      cases hq
    rw [if_neg hqB, if_neg hqB, if_neg hqB]
    exact hq
theorem two_vals {F : Nat → Prop} {X : GW} {vs : Array Value} {a b : Value} {H : List (Nat × List AV)} (hs : SimE F X ⟨2, slotsOf 0 [.v a, .v b], H, []⟩ vs) : vs = #[a, b] := by
  have h2 : vs.size = 2 := hs.size
  have h0 := rel_v (hs.slot 0 (.v a) rfl)
  have h1 := rel_v (hs.slot 1 (.v b) rfl)
  apply Array.ext
  · simp [h2]
  · intro i hi _
    have : i = 0 ∨ i = 1 := by omega
    rcases this with rfl | rfl
    · simpa [Array.getD_eq_getD_getElem?, hi] using h0
    · simpa [Array.getD_eq_getD_getElem?, hi] using h1
set_option maxRecDepth 100000 in
set_option maxHeartbeats 1600000 in
theorem repl_a (B : Nat) (s out : List UInt8) (hrep : ∀ k r, k ≠ r → ACalls Tryz.prog 135 [.v (.pointer (some ⟨k, 0, none⟩)), .v (.string (mkB s))] [(k, tabA r), (r, rowA)] (fun o H => o = .ret (.v (.string (mkB out))) ∧ H = [])) :
    ACalls Tryz.prog 37 [.v (.pointer (some ⟨B, 0, none⟩)), .v (.string (mkB s))] [(B, repA)] (fun o H => o = .ret (.v (.string (mkB out))) ∧ H = []) := by
  refine ⟨⟨_, Tryz.func37, by kernel_rfl, by kernel_rfl⟩, fun F X vs hs => ?_⟩
  obtain rfl := two_vals hs
  have hdo := do_ready B F X _ _ hs (by simp [look_cons])
  have hmeth : ∀ (k : Nat) (w : World), (method 303 135 (.pointer (some ⟨k, 0, none⟩)) "Replace").run Tryz.prog w = .ok (135, .pointer (some ⟨k, 0, none⟩)) w := fun k w => by kernel_rfl
  go_enter Tryz.func37, Tryz.ntmps37
  go_wp2_with (first | (go_at_call 48; refine hdo.mono ?_; rintro e w' ⟨rfl, X2, k, r, v, hw, hkr, hc3, hs2, hx2⟩; subst hw) | (go_at_call 135; refine ((hrep k r hkr).2 F X2 _ (sim_frame hs2 [.pointer (some ⟨k, 0, none⟩), .string (mkB s)] [(k, tabA r), (r, rowA)] (fun _ _ h => h))).mono ?_; rintro e w' ⟨X3, o3, H3, hw3, ⟨ho3, hH3⟩, he3, hx3⟩; subst hw3 ho3 hH3; obtain ⟨v3, rfl, hs3⟩ := he3))
  go_ret
  exact ⟨X3, .ret (.v (.string (mkB out))), [], rfl, ⟨rfl, rfl⟩, ⟨v3, rfl, hs3⟩, hx2.trans hx3⟩
end Go.Proofs.YtgmlkhfjhogdbaaGreat

/- Small laws for the walks: bits of the wire's numbers, bytes that the call owns read as a string, what stays below. -/
namespace Go.Proofs.YtgmlkhfjhogdbaaGreat
open Go.RowKit P

section
variable {Pr : Program}
end

/-- How many bytes a text that is read takes at most. -/
def Small (n : Nat) : Prop := n ≤ 140737488351232
theorem Small.le {n : Nat} (h : Small n) : n ≤ 140737488351232 := h

end Go.Proofs.YtgmlkhfjhogdbaaGreat

/- labels.IsName, walked: a range over a string. -/
namespace Go.Proofs.YtgmlkhfjhogdbaaGreat
open Go.RowKit P
set_option linter.unusedSimpArgs false
set_option linter.unusedVariables false
/-- May a byte stand in a name, at this place? -/
def nmC (i : Nat) (c : Nat) : Bool := (decide (97 ≤ c) && decide (c ≤ 122) || decide (65 ≤ c) && decide (c ≤ 90) || decide (c = 95)) || (decide (i ≠ 0) && (decide (48 ≤ c) && decide (c ≤ 57)))
def nmAt (s : ByteArray) : Nat → Nat → Bool
  | 0, _ => true
  | b + 1, i => if h : i < s.size then nmC i (s[i]'h).toNat && nmAt s b (i + 1) else true
def nmB (s : ByteArray) : Bool := nmAt s s.size 0 && decide (0 < s.size) && decide (s.size ≤ 40)
theorem nmAt_end {s : ByteArray} {b i : Nat} (h : ¬ i < s.size) : nmAt s b i = true := by
  cases b with
  | zero => rfl
  | succ b => simp [nmAt, h]
theorem width_pos' (s : ByteArray) (pos : Nat) (h : pos < s.size) : 1 ≤ (Utf8.decode s pos).2 := by
  by_cases ha : (s[pos]'h).toNat < 128
  · rw [decode_ascii s pos h ha]
    exact Nat.le_refl _
  · exact (decode_high s pos h (by omega)).2
theorem nmC_dec (s : ByteArray) (pos : Nat) (h : pos < s.size) : nmC pos (s[pos]'h).toNat = nmC pos (Utf8.decode s pos).1 := by
  by_cases ha : (s[pos]'h).toNat < 128
  · rw [decode_ascii s pos h ha]
  · have h1 := (decode_high s pos h (by omega)).1
    have h2 : ∀ c, 128 ≤ c → nmC pos c = false := fun c hc => by
      unfold nmC
      simp only [decide_eq_true_eq, Bool.or_eq_false_iff, Bool.and_eq_false_iff, decide_eq_false_iff_not]
      omega
    rw [h2 _ h1, h2 _ (by omega)]
theorem size_toList' (s : ByteArray) : s.toList.length = s.size := by rw [ByteArray.toList_eq]; rfl
theorem nmAt_step {s : ByteArray} {b pos r : Nat} (hp : pos < s.size) (hb : s.size ≤ pos + b) (hnm : nmC pos (s[pos]'hp).toNat = nmC pos r) (hq : nmC pos r = true) : nmAt s (b - 1) (pos + 1) = nmAt s b pos := by
  cases b with
  | zero => omega
  | succ b =>
    show nmAt s b (pos + 1) = if h : pos < s.size then nmC pos (s[pos]'h).toNat && nmAt s b (pos + 1) else true
    rw [dif_pos hp, hnm, hq, Bool.true_and]
theorem nmAt_stop {s : ByteArray} {b pos r : Nat} (hp : pos < s.size) (hb : s.size ≤ pos + b) (hnm : nmC pos (s[pos]'hp).toNat = nmC pos r) (hq : nmC pos r = false) : nmAt s b pos = false := by
  cases b with
  | zero => omega
  | succ b =>
    show (if h : pos < s.size then nmC pos (s[pos]'h).toNat && nmAt s b (pos + 1) else true) = false
    rw [dif_pos hp, hnm, hq, Bool.false_and]
theorem decode_one (s : ByteArray) (pos : Nat) (h : pos < s.size) (h1 : (Utf8.decode s pos).1 < 128) : (Utf8.decode s pos).2 = 1 := by
  by_cases ha : (s[pos]'h).toNat < 128
  · rw [decode_ascii s pos h ha]
  · have := (decode_high s pos h (by omega)).1; omega
set_option maxHeartbeats 4000000 in
set_option maxRecDepth 1000000 in
theorem isName_walk (s : ByteArray) (hs : s.size < 9223372036854775808) (w : World) : Calls Tryz.prog 19 #[.string s] w fun e w' => e = .returned (.bool (nmB s)) ∧ ∃ pos, w' = w.iter s pos := by
  go_enter Tryz.func19, Tryz.ntmps19
  go_wp2
  go_loopw [2] (fun v w' => ∃ pos b : Nat, w' = w.iter s pos ∧ v = .bool false ∧ nmAt s b pos = nmAt s s.size 0 ∧ s.size ≤ pos + b) (fun _ w' => s.size - w'.iterPos w.heap.size)
  case atStart => exact ⟨0, s.size, rfl, rfl, rfl, by omega⟩
  case round =>
    obtain ⟨pos, b, rfl, rfl, hc, hb⟩ := hrel
    by_cases hp : pos < s.size
    · have hnx : ∀ ty, (Instr.next (.pointer (some ⟨w.heap.size, 0, none⟩)) true ty).run Tryz.prog (w.iter s pos) = _ := fun ty => run_next_any w s pos ty hp
      have hwd := width_pos' s pos hp
      have hnm := nmC_dec s pos hp
      have hr1 := decode_one s pos hp
      generalize (Utf8.decode s pos).1 = r at hnx hnm hr1
      generalize (Utf8.decode s pos).2 = n at hnx hwd hr1
      have hcase : (97 ≤ r ∧ r ≤ 122) ∨ (65 ≤ r ∧ r ≤ 90) ∨ (r = 95) ∨ (48 ≤ r ∧ r ≤ 57 ∧ pos ≠ 0) ∨ (48 ≤ r ∧ r ≤ 57 ∧ pos = 0) ∨ (r < 48 ∧ pos ≠ 0) ∨ (r < 48 ∧ pos = 0) ∨ (58 ≤ r ∧ r ≤ 64 ∧ pos ≠ 0) ∨ (58 ≤ r ∧ r ≤ 64 ∧ pos = 0) ∨ (91 ≤ r ∧ r ≤ 94 ∧ pos ≠ 0) ∨ (91 ≤ r ∧ r ≤ 94 ∧ pos = 0) ∨ (r = 96 ∧ pos ≠ 0) ∨ (r = 96 ∧ pos = 0) ∨ (123 ≤ r ∧ pos ≠ 0) ∨ (123 ≤ r ∧ pos = 0) := by omega
      rcases hcase with hh | hh | hh | hh | hh | hh | hh | hh | hh | hh | hh | hh | hh | hh | hh
      · -- 97 ≤ r ∧ r ≤ 122
        have f0 : (97 : Int) ≤ (r : Int) := by omega
        have f1 : (r : Int) ≤ 122 := by omega
        go_wp2
        have hn1 := hr1 (by omega)
        subst hn1
        have hq : nmC pos r = true := by unfold nmC; simp; omega
        refine ⟨⟨pos + 1, b - 1, rfl, rfl, (nmAt_step hp hb hnm hq).trans hc, by omega⟩, ?_⟩
        simp
        omega
      · -- 65 ≤ r ∧ r ≤ 90
        have f0 : ¬ (97 : Int) ≤ (r : Int) := by omega
        have f1 : (65 : Int) ≤ (r : Int) := by omega
        have f2 : (r : Int) ≤ 90 := by omega
        go_wp2
        have hn1 := hr1 (by omega)
        subst hn1
        have hq : nmC pos r = true := by unfold nmC; simp; omega
        refine ⟨⟨pos + 1, b - 1, rfl, rfl, (nmAt_step hp hb hnm hq).trans hc, by omega⟩, ?_⟩
        simp
        omega
      · -- r = 95
        have f0 : ¬ (97 : Int) ≤ (r : Int) := by omega
        have f1 : (65 : Int) ≤ (r : Int) := by omega
        have f2 : ¬ (r : Int) ≤ 90 := by omega
        have f3 : ((r : Int) == 95) = true := by simp; omega
        go_wp2
        have hn1 := hr1 (by omega)
        subst hn1
        have hq : nmC pos r = true := by unfold nmC; simp; omega
        refine ⟨⟨pos + 1, b - 1, rfl, rfl, (nmAt_step hp hb hnm hq).trans hc, by omega⟩, ?_⟩
        simp
        omega
      · -- 48 ≤ r ∧ r ≤ 57 ∧ pos ≠ 0
        have f0 : ¬ (97 : Int) ≤ (r : Int) := by omega
        have f1 : ¬ (65 : Int) ≤ (r : Int) := by omega
        have f2 : ((r : Int) == 95) = false := by simp; omega
        have f3 : ((pos : Int) == 0) = false := by simp; omega
        have f4 : ¬ (r : Int) < 48 := by omega
        have f5 : ¬ (57 : Int) < (r : Int) := by omega
        go_wp2
        have hn1 := hr1 (by omega)
        subst hn1
        have hq : nmC pos r = true := by unfold nmC; simp; omega
        refine ⟨⟨pos + 1, b - 1, rfl, rfl, (nmAt_step hp hb hnm hq).trans hc, by omega⟩, ?_⟩
        simp
        omega
      · -- 48 ≤ r ∧ r ≤ 57 ∧ pos = 0
        have f0 : ¬ (97 : Int) ≤ (r : Int) := by omega
        have f1 : ¬ (65 : Int) ≤ (r : Int) := by omega
        have f2 : ((r : Int) == 95) = false := by simp; omega
        obtain rfl : pos = 0 := by omega
        have hnx' : ∀ ty, (Instr.next (.pointer (some ⟨w.heap.size, 0, none⟩)) true ty).run Tryz.prog (w.iter s 0) = .ok (.tuple #[.bool true, .int .i64 0, .int .i32 r]) (w.iter s (0 + n)) := fun ty => by simpa using hnx ty
        clear hnx
        go_wp2
        have hq : nmC 0 r = false := by unfold nmC; simp; omega
        have hz := nmAt_stop hp hb hnm hq
        rw [hc] at hz
        go_ret
        exact ⟨by simp [nmB, hz], _, rfl⟩
      · -- r < 48 ∧ pos ≠ 0
        have f0 : ¬ (97 : Int) ≤ (r : Int) := by omega
        have f1 : ¬ (65 : Int) ≤ (r : Int) := by omega
        have f2 : ((r : Int) == 95) = false := by simp; omega
        have f3 : ((pos : Int) == 0) = false := by simp; omega
        have f4 : (r : Int) < 48 := by omega
        go_wp2
        have hq : nmC pos r = false := by unfold nmC; simp; omega
        have hz := nmAt_stop hp hb hnm hq
        rw [hc] at hz
        go_ret
        exact ⟨by simp [nmB, hz], _, rfl⟩
      · -- r < 48 ∧ pos = 0
        have f0 : ¬ (97 : Int) ≤ (r : Int) := by omega
        have f1 : ¬ (65 : Int) ≤ (r : Int) := by omega
        have f2 : ((r : Int) == 95) = false := by simp; omega
        obtain rfl : pos = 0 := by omega
        have hnx' : ∀ ty, (Instr.next (.pointer (some ⟨w.heap.size, 0, none⟩)) true ty).run Tryz.prog (w.iter s 0) = .ok (.tuple #[.bool true, .int .i64 0, .int .i32 r]) (w.iter s (0 + n)) := fun ty => by simpa using hnx ty
        clear hnx
        go_wp2
        have hq : nmC 0 r = false := by unfold nmC; simp; omega
        have hz := nmAt_stop hp hb hnm hq
        rw [hc] at hz
        go_ret
        exact ⟨by simp [nmB, hz], _, rfl⟩
      · -- 58 ≤ r ∧ r ≤ 64 ∧ pos ≠ 0
        have f0 : ¬ (97 : Int) ≤ (r : Int) := by omega
        have f1 : ¬ (65 : Int) ≤ (r : Int) := by omega
        have f2 : ((r : Int) == 95) = false := by simp; omega
        have f3 : ((pos : Int) == 0) = false := by simp; omega
        have f4 : ¬ (r : Int) < 48 := by omega
        have f5 : (57 : Int) < (r : Int) := by omega
        go_wp2
        have hq : nmC pos r = false := by unfold nmC; simp; omega
        have hz := nmAt_stop hp hb hnm hq
        rw [hc] at hz
        go_ret
        exact ⟨by simp [nmB, hz], _, rfl⟩
      · -- 58 ≤ r ∧ r ≤ 64 ∧ pos = 0
        have f0 : ¬ (97 : Int) ≤ (r : Int) := by omega
        have f1 : ¬ (65 : Int) ≤ (r : Int) := by omega
        have f2 : ((r : Int) == 95) = false := by simp; omega
        obtain rfl : pos = 0 := by omega
        have hnx' : ∀ ty, (Instr.next (.pointer (some ⟨w.heap.size, 0, none⟩)) true ty).run Tryz.prog (w.iter s 0) = .ok (.tuple #[.bool true, .int .i64 0, .int .i32 r]) (w.iter s (0 + n)) := fun ty => by simpa using hnx ty
        clear hnx
        go_wp2
        have hq : nmC 0 r = false := by unfold nmC; simp; omega
        have hz := nmAt_stop hp hb hnm hq
        rw [hc] at hz
        go_ret
        exact ⟨by simp [nmB, hz], _, rfl⟩
      · -- 91 ≤ r ∧ r ≤ 94 ∧ pos ≠ 0
        have f0 : ¬ (97 : Int) ≤ (r : Int) := by omega
        have f1 : (65 : Int) ≤ (r : Int) := by omega
        have f2 : ¬ (r : Int) ≤ 90 := by omega
        have f3 : ((r : Int) == 95) = false := by simp; omega
        have f4 : ((pos : Int) == 0) = false := by simp; omega
        have f5 : ¬ (r : Int) < 48 := by omega
        have f6 : (57 : Int) < (r : Int) := by omega
        go_wp2
        have hq : nmC pos r = false := by unfold nmC; simp; omega
        have hz := nmAt_stop hp hb hnm hq
        rw [hc] at hz
        go_ret
        exact ⟨by simp [nmB, hz], _, rfl⟩
      · -- 91 ≤ r ∧ r ≤ 94 ∧ pos = 0
        have f0 : ¬ (97 : Int) ≤ (r : Int) := by omega
        have f1 : (65 : Int) ≤ (r : Int) := by omega
        have f2 : ¬ (r : Int) ≤ 90 := by omega
        have f3 : ((r : Int) == 95) = false := by simp; omega
        obtain rfl : pos = 0 := by omega
        have hnx' : ∀ ty, (Instr.next (.pointer (some ⟨w.heap.size, 0, none⟩)) true ty).run Tryz.prog (w.iter s 0) = .ok (.tuple #[.bool true, .int .i64 0, .int .i32 r]) (w.iter s (0 + n)) := fun ty => by simpa using hnx ty
        clear hnx
        go_wp2
        have hq : nmC 0 r = false := by unfold nmC; simp; omega
        have hz := nmAt_stop hp hb hnm hq
        rw [hc] at hz
        go_ret
        exact ⟨by simp [nmB, hz], _, rfl⟩
      · -- r = 96 ∧ pos ≠ 0
        have f0 : ¬ (97 : Int) ≤ (r : Int) := by omega
        have f1 : (65 : Int) ≤ (r : Int) := by omega
        have f2 : ¬ (r : Int) ≤ 90 := by omega
        have f3 : ((r : Int) == 95) = false := by simp; omega
        have f4 : ((pos : Int) == 0) = false := by simp; omega
        have f5 : ¬ (r : Int) < 48 := by omega
        have f6 : (57 : Int) < (r : Int) := by omega
        go_wp2
        have hq : nmC pos r = false := by unfold nmC; simp; omega
        have hz := nmAt_stop hp hb hnm hq
        rw [hc] at hz
        go_ret
        exact ⟨by simp [nmB, hz], _, rfl⟩
      · -- r = 96 ∧ pos = 0
        have f0 : ¬ (97 : Int) ≤ (r : Int) := by omega
        have f1 : (65 : Int) ≤ (r : Int) := by omega
        have f2 : ¬ (r : Int) ≤ 90 := by omega
        have f3 : ((r : Int) == 95) = false := by simp; omega
        obtain rfl : pos = 0 := by omega
        have hnx' : ∀ ty, (Instr.next (.pointer (some ⟨w.heap.size, 0, none⟩)) true ty).run Tryz.prog (w.iter s 0) = .ok (.tuple #[.bool true, .int .i64 0, .int .i32 r]) (w.iter s (0 + n)) := fun ty => by simpa using hnx ty
        clear hnx
        go_wp2
        have hq : nmC 0 r = false := by unfold nmC; simp; omega
        have hz := nmAt_stop hp hb hnm hq
        rw [hc] at hz
        go_ret
        exact ⟨by simp [nmB, hz], _, rfl⟩
      · -- 123 ≤ r ∧ pos ≠ 0
        have f0 : (97 : Int) ≤ (r : Int) := by omega
        have f1 : ¬ (r : Int) ≤ 122 := by omega
        have f2 : (65 : Int) ≤ (r : Int) := by omega
        have f3 : ¬ (r : Int) ≤ 90 := by omega
        have f4 : ((r : Int) == 95) = false := by simp; omega
        have f5 : ((pos : Int) == 0) = false := by simp; omega
        have f6 : ¬ (r : Int) < 48 := by omega
        have f7 : (57 : Int) < (r : Int) := by omega
        go_wp2
        have hq : nmC pos r = false := by unfold nmC; simp; omega
        have hz := nmAt_stop hp hb hnm hq
        rw [hc] at hz
        go_ret
        exact ⟨by simp [nmB, hz], _, rfl⟩
      · -- 123 ≤ r ∧ pos = 0
        have f0 : (97 : Int) ≤ (r : Int) := by omega
        have f1 : ¬ (r : Int) ≤ 122 := by omega
        have f2 : (65 : Int) ≤ (r : Int) := by omega
        have f3 : ¬ (r : Int) ≤ 90 := by omega
        have f4 : ((r : Int) == 95) = false := by simp; omega
        obtain rfl : pos = 0 := by omega
        have hnx' : ∀ ty, (Instr.next (.pointer (some ⟨w.heap.size, 0, none⟩)) true ty).run Tryz.prog (w.iter s 0) = .ok (.tuple #[.bool true, .int .i64 0, .int .i32 r]) (w.iter s (0 + n)) := fun ty => by simpa using hnx ty
        clear hnx
        go_wp2
        have hq : nmC 0 r = false := by unfold nmC; simp; omega
        have hz := nmAt_stop hp hb hnm hq
        rw [hc] at hz
        go_ret
        exact ⟨by simp [nmB, hz], _, rfl⟩
    · have hnx : ∀ ty, (Instr.next (.pointer (some ⟨w.heap.size, 0, none⟩)) true ty).run Tryz.prog (w.iter s pos) = _ := fun ty => run_next_end w s pos ty hp
      rw [nmAt_end hp] at hc
      have hB : nmB s = (decide (0 < s.size) && decide (s.size ≤ 40)) := by unfold nmB; rw [← hc, Bool.true_and]
      clear hc
      by_cases h0 : s.size = 0
      · have hs0 : s = ⟨#[]⟩ := by
          rcases s with ⟨⟨l⟩⟩
          cases l with
          | nil => rfl
          | cons x l => exact absurd h0 (by simp [ByteArray.size])
        subst hs0
        go_wp2
        go_ret
        exact ⟨rfl, _, rfl⟩
      · have hne : s ≠ ⟨#[]⟩ := fun e => h0 (by rw [e]; rfl)
        have hl : ¬ s.toList = [] := fun e => hne (by
          have h1 : (s == (⟨#[]⟩ : ByteArray)) = true := by
            have := size_toList' s
            rw [e] at this
            exact absurd this.symm h0
          exact (MapKept.bytes_beq _ _).1 h1)
        have hle : s.toList.isEmpty = false := by cases hq : s.toList with
          | nil => exact absurd hq hl
          | cons => rfl
        have hnb : nmB s = decide (s.size ≤ 40) := by rw [hB]; simp; omega
        clear hB
        by_cases h40 : s.size ≤ 40
        · have hi : ((s.size : Nat) : Int) ≤ 40 := by omega
          go_wp2
          go_ret
          exact ⟨by simp [hle, hnb, h40], _, rfl⟩
        · have hi : ¬ ((s.size : Nat) : Int) ≤ 40 := by omega
          go_wp2
          go_ret
          exact ⟨by simp [hnb, h40], _, rfl⟩
end Go.Proofs.YtgmlkhfjhogdbaaGreat

/- labels.IsName, as a callee. -/
namespace Go.Proofs.YtgmlkhfjhogdbaaGreat
open Go.RowKit P
set_option linter.unusedVariables false
/-- Is it a name? -/
def nmL : Nat → List UInt8 → Bool
  | _, [] => true
  | i, c :: r => nmC i c.toNat && nmL (i + 1) r
def isNameL (s : List UInt8) : Bool := nmL 0 s && decide (0 < s.length) && decide (s.length ≤ 40)
theorem nmAt_L (s : List UInt8) : ∀ (b i : Nat), s.length ≤ i + b → nmAt (mkB s) b i = nmL i (s.drop i)
  | 0, i, h => by rw [List.drop_of_length_le (by omega)]; rfl
  | b + 1, i, h => by
    by_cases hi : i < s.length
    · have h1 : i < (mkB s).size := by rw [size_mkB]; exact hi
      rw [List.drop_eq_getElem_cons hi]
      show (if h : i < (mkB s).size then nmC i ((mkB s)[i]'h).toNat && nmAt (mkB s) b (i + 1) else true) = (nmC i s[i].toNat && nmL (i + 1) (s.drop (i + 1)))
      rw [dif_pos h1, nmAt_L s b (i + 1) (by omega)]
      rfl
    · have h1 : ¬ i < (mkB s).size := by rw [size_mkB]; exact hi
      rw [nmAt_end h1, List.drop_of_length_le (by omega)]; rfl
theorem nmB_L (s : List UInt8) : nmB (mkB s) = isNameL s := by
  unfold nmB isNameL
  rw [nmAt_L s _ 0 (by rw [size_mkB]; omega), size_mkB]; rfl
def labels_IsName (N : Nat) (s : List UInt8) : Option Bool := if s.length < 140737488355328 then some (isNameL s) else none
theorem labels_IsName_a (s : List UInt8) (hs : s.length < 140737488355328) : ACalls Tryz.prog 19 [.v (.string (mkB s))] [] (fun out H => out = .ret (.v (.bool (isNameL s))) ∧ H = []) := by
  refine acalls_of_calls (vs := [.string (mkB s)]) ⟨_, Tryz.func19, by kernel_rfl, rfl⟩ fun w => ?_
  refine (isName_walk (mkB s) (by rw [size_mkB]; omega) w).mono fun e w' ⟨he, pos, hw⟩ => ⟨by rw [he, nmB_L], ?_⟩
  subst hw
  exact (Below.refl _ _).alloc (Nat.le_refl _) _
def labels_IsName_u (r : Bool) : TV EE.T := .a (.d .bool r)
def labels_IsName_h (N : Nat) : List (TV EE.T) → PV EE.T
  | [u0] => match argD .str u0 with
    | some x0 => .opt (labels_IsName N x0) labels_IsName_u
    | _ => .bad
  | _ => .bad
theorem labels_IsName_hok (N : Nat) (us : List (TV EE.T)) : (labels_IsName_h N us).ok fun u => ∀ ρ, ACalls Tryz.prog 19 (us.map (TV.to EE.toEnc ρ)) [] (fun out H => out = .ret (u.to EE.toEnc ρ) ∧ H = []) := by
  unfold labels_IsName_h
  split
  · split
    · rename_i u0 x0 h0
      intro z hz ρ
      unfold labels_IsName at hz
      split at hz
      · rename_i hl
        cases hz
        refine acalls_le (us' := [.a (.d .str x0)]) ?_ (labels_IsName_a x0 hl)
        exact ⟨argD_le h0 ρ, trivial⟩
      · cases hz
    · trivial
  · trivial
end Go.Proofs.YtgmlkhfjhogdbaaGreat

/- Plain functions, written by gen/tgl.py out of the program. -/
namespace Go.Proofs.YtgmlkhfjhogdbaaGreat
open Go.RowKit P
set_option linter.unusedVariables false
set_option linter.unusedSimpArgs false
set_option maxRecDepth 100000
/-! ### gleaner/labels.each -/
def labels_each_R9 (N : Nat) (k4 : (List VLabel) → Bool → (List VLabel) → Int → Int → Option Int) (n : Nat) (x0 : List VLabel) (x1 : Bool) (x13 : List VLabel) (x14 : Int) (x15 : Int) (b6 : VLabel) : Option Int :=
  bif decide ((b6.Value.length : Int) > 100) then
    some 2
  else
    k4 x0 x1 x13 x14 (w64 (x15 + 1))
def labels_each_L14 (N : Nat) : Nat → (List VLabel) → Int → Int → (List (List UInt8 × Bool)) → Option Int
  | 0, _, _, _, _ => none
  | n + 1, x38, x39, x40, b37 =>
    bif decide (x40 < x39) then
      (idxC x38 x40).bind fun z3 =>
      bif (mget b37 z3.Name).getD false then
        some 6
      else
        labels_each_L14 N n x38 x39 (w64 (x40 + 1)) (mset b37 z3.Name true)
    else
      some 0
def labels_each_L4 (N : Nat) : Nat → (List VLabel) → Bool → (List VLabel) → Int → Int → Option Int
  | 0, _, _, _, _, _ => none
  | n + 1, x0, x1, x13, x14, x15 =>
    bif decide (x15 < x14) then
      (idxC x13 x15).bind fun z1 =>
      (labels_IsName N z1.Name).bind fun z2 =>
      bif !z2 then
        some 1
      else
        bif decide (z1.Value = ([] : List UInt8)) then
          bif !x1 then
            some 1
          else
            labels_each_R9 N (labels_each_L4 N n) n x0 x1 x13 x14 x15 z1
        else
          labels_each_R9 N (labels_each_L4 N n) n x0 x1 x13 x14 x15 z1
    else
      labels_each_L14 N n x0 (x0.length : Int) 0 ([] : List (List UInt8 × Bool))
def labels_each (N : Nat) (x0 : List VLabel) (x1 : Bool) : Option Int :=
  bif decide ((x0.length : Int) > 20) then
    some 2
  else
    labels_each_L4 N N x0 x1 x0 (x0.length : Int) 0
/-! ### cmp.isNaN[string] -/
def cmp_isNaN_string_ (N : Nat) (x0 : List UInt8) : Option Bool :=
  some (!decide (x0 = x0))
/-! ### cmp.Compare[string] -/
def cmp_Compare_string_ (N : Nat) (x0 : List UInt8) (x1 : List UInt8) : Option Int :=
  (cmp_isNaN_string_ N x0).bind fun z1 =>
  (cmp_isNaN_string_ N x1).bind fun z2 =>
  bif z1 then
    bif z2 then
      some 0
    else
      some (-1)
  else
    bif z2 then
      some 1
    else
      bif Op.bytesLess x0 x1 then
        some (-1)
      else
        bif !(Op.bytesLess x0 x1 || decide (x0 = x1)) then
          some 1
        else
          some 0
/-! ### gleaner/labels.byName -/
def labels_byName (N : Nat) (x0 : VLabel) (x1 : VLabel) : Option Int :=
  (cmp_Compare_string_ N x0.Name x1.Name).bind fun z1 =>
  some z1
/-! ### slices.IsSortedFunc[[]gleaner/api.Label,gleaner/api.Label] -/
def slices_IsSortedFunc_api_Label_api_Label__i0_L2 (N : Nat) : Nat → (List VLabel) → Int → Option Bool
  | 0, _, _ => none
  | n + 1, x0, x5 =>
    bif decide (x5 > 0) then
      (idxC x0 x5).bind fun z1 =>
      (idxC x0 (w64 (x5 - 1))).bind fun z2 =>
      (labels_byName N z1 z2).bind fun z3 =>
      bif decide (z3 < 0) then
        some false
      else
        slices_IsSortedFunc_api_Label_api_Label__i0_L2 N n x0 (w64 (x5 - 1))
    else
      some true
def slices_IsSortedFunc_api_Label_api_Label__i0 (N : Nat) (x0 : List VLabel) : Option Bool :=
  slices_IsSortedFunc_api_Label_api_Label__i0_L2 N N x0 (w64 ((x0.length : Int) - 1))
/-! ### gleaner/labels.Check -/
def labels_Check (N : Nat) (x0 : List VLabel) : Option Int :=
  (labels_each N x0 false).bind fun z1 =>
  bif z1 != 0 then
    some z1
  else
    (slices_IsSortedFunc_api_Label_api_Label__i0 N x0).bind fun z2 =>
    bif !z2 then
      some 4
    else
      some 0
/-! ### gleaner/labels.check -/
def labels_check_L2 (N : Nat) : Nat → (List (List VLabel)) → Int → Int → Option Int
  | 0, _, _, _ => none
  | n + 1, x6, x7, x8 =>
    bif decide (x8 < x7) then
      (idxC x6 x8).bind fun z1 =>
      (labels_Check N z1).bind fun z2 =>
      bif z2 != 0 then
        some z2
      else
        labels_check_L2 N n x6 x7 (w64 (x8 + 1))
    else
      some 0
def labels_check (N : Nat) (x0 : List (List VLabel)) : Option Int :=
  labels_check_L2 N N x0 (x0.length : Int) 0
/-! ### gleaner/labels.find$1 -/
def labels_find_1 (N : Nat) (x0 : VLabel) (x1 : List UInt8) : Option Int :=
  (cmp_Compare_string_ N x0.Name x1).bind fun z1 =>
  some z1
/-! ### slices.BinarySearchFunc[[]gleaner/api.Label,gleaner/api.Label,string] -/
def slices_BinarySearchFunc_api_Label_api_Label_string__i0_L3 (N : Nat) : Nat → (List VLabel) → (List UInt8) → Int → Int → Int → Option (Int × Bool)
  | 0, _, _, _, _, _ => none
  | n + 1, x0, x1, x8, x9, x10 =>
    bif decide (x9 < x10) then
      (shrC .u64 (IntKind.wrap .u64 (w64 (x9 + x10))) 1).bind fun z1 =>
      (idxC x0 (w64 z1)).bind fun z2 =>
      (labels_find_1 N z2 x1).bind fun z3 =>
      bif decide (z3 < 0) then
        slices_BinarySearchFunc_api_Label_api_Label_string__i0_L3 N n x0 x1 x8 (w64 ((w64 z1) + 1)) x10
      else
        slices_BinarySearchFunc_api_Label_api_Label_string__i0_L3 N n x0 x1 x8 x9 (w64 z1)
    else
      bif decide (x9 < x8) then
        (idxC x0 x9).bind fun z4 =>
        (labels_find_1 N z4 x1).bind fun z5 =>
        some (x9, z5 == 0)
      else
        some (x9, false)
def slices_BinarySearchFunc_api_Label_api_Label_string__i0 (N : Nat) (x0 : List VLabel) (x1 : List UInt8) : Option (Int × Bool) :=
  slices_BinarySearchFunc_api_Label_api_Label_string__i0_L3 N N x0 x1 (x0.length : Int) 0 (x0.length : Int)
/-! ### gleaner/labels.find -/
def labels_find (N : Nat) (x0 : List VLabel) (x1 : List UInt8) : Option (Int × Bool) :=
  (slices_BinarySearchFunc_api_Label_api_Label_string__i0 N x0 x1).bind fun z1 =>
  some (z1.1, z1.2)
/-! ### gleaner/labels.Value -/
def labels_Value (N : Nat) (x0 : List VLabel) (x1 : List UInt8) : Option (List UInt8) :=
  (labels_find N x0 x1).bind fun z1 =>
  bif z1.2 then
    (idxC x0 z1.1).bind fun z2 =>
    some z2.Value
  else
    some ([] : List UInt8)
/-! ### gleaner/labels.Get -/
def labels_Get (N : Nat) (x0 : List VLabel) (x1 : List UInt8) : Option ((List UInt8) × Int) :=
  (labels_check N ([x0] : List (List VLabel))).bind fun z1 =>
  bif z1 != 0 then
    some (([] : List UInt8), z1)
  else
    (labels_IsName N x1).bind fun z2 =>
    bif !z2 then
      some (([] : List UInt8), 1)
    else
      (labels_Value N x0 x1).bind fun z3 =>
      some (z3, 0)
/-! ### gleaner/gleanerref.IsLetter -/
/-! ### gleaner/gleanerref.IsNumeral -/
/-! ### gleaner/gleanerref.IsName -/
/-! ### gleaner/gleanerref.EachLabel -/
/-! ### gleaner/gleanerref.CheckLabels -/
/-! ### gleaner/gleanerref.PutLabel -/
/-! ### gleaner/gleanerref.SameLabels -/
def ref_SameLabels_L4 (N : Nat) : Nat → (List VLabel) → (List VLabel) → Int → Option Bool
  | 0, _, _, _ => none
  | n + 1, x0, x1, x5 =>
    bif decide (x5 < (x0.length : Int)) then
      (idxC x0 x5).bind fun z1 =>
      (idxC x1 x5).bind fun z2 =>
      bif !(beqS z1.Name z2.Name && (beqS z1.Value z2.Value && true)) then
        some false
      else
        ref_SameLabels_L4 N n x0 x1 (w64 (x5 + 1))
    else
      some true
def ref_SameLabels (N : Nat) (x0 : List VLabel) (x1 : List VLabel) : Option Bool :=
  bif (x0.length : Int) != (x1.length : Int) then
    some false
  else
    ref_SameLabels_L4 N N x0 x1 0
/-! ### gleaner/gleanerlaw.labelsAre -/
end Go.Proofs.YtgmlkhfjhogdbaaGreat

/- The walks that prove plain functions right, written by gen/tgl.py. -/
namespace Go.Proofs.YtgmlkhfjhogdbaaGreat
open Go.RowKit P
set_option linter.unusedVariables false
set_option linter.unusedSimpArgs false
set_option maxRecDepth 100000
/-! ### gleaner/labels.each -/
def labels_each_u (r : Int) : TV EE.T := .a (.d (.int .i64) r)
def w26enc (r : Int) : RL EE.T := .ret (labels_each_u r) []
def w26lv : Lvs := ⟨[(9, ⟨[(0, false), (1, false), (6, false), (13, false), (14, false), (15, false)], [], [(6, (some 2, []))]⟩)], [(4, ⟨[(0, false), (1, false), (13, false), (14, false), (15, false)], [], []⟩), (14, ⟨[(7, false), (38, false), (39, false), (40, false)], [], [(37, (none, []))]⟩)], [9], [], false, [], []⟩
def w26rs : List ResultVar := [.tmp 4]
def w26G (N : Nat) : Gam EE := ⟨[⟨19, labels_IsName_h N⟩], EQT, [], []⟩
theorem w26Gok (N : Nat) : GOk Tryz.prog TT EE (w26G N) := GOk.cons (labels_IsName_hok N) (GOk.nil EQT_ok)
def w26kR9 (c : Code) : List It2 := atR 9 c
def w26sR9 (x0 : List VLabel) (x1 : Bool) (x13 : List VLabel) (x14 : Int) (x15 : Int) (b6 : VLabel) : TS EE.T := ⟨52, [(0, .a (.d (.sl (.nam 2)) x0)), (1, .a (.d .bool x1)), (6, .a (.box 6 0)), (13, .a (.d (.sl (.nam 2)) x13)), (14, .a (.d (.int .i64) x14)), (15, .a (.d (.int .i64) x15))], [(6, .cs (unpT EE (.nam 2) b6))], []⟩
def w26kL14 (c : Code) : List It2 := atL 14 c
def w26sL14 (x38 : List VLabel) (x39 : Int) (x40 : Int) (b37 : List (List UInt8 × Bool)) : TS EE.T := ⟨52, [(7, .a (.mpr 37)), (38, .a (.d (.sl (.nam 2)) x38)), (39, .a (.d (.int .i64) x39)), (40, .a (.d (.int .i64) x40))], [(37, .smap .bool b37)], []⟩
def w26kL4 (c : Code) : List It2 := atL 4 c
def w26sL4 (x0 : List VLabel) (x1 : Bool) (x13 : List VLabel) (x14 : Int) (x15 : Int) : TS EE.T := ⟨52, [(0, .a (.d (.sl (.nam 2)) x0)), (1, .a (.d .bool x1)), (13, .a (.d (.sl (.nam 2)) x13)), (14, .a (.d (.int .i64) x14)), (15, .a (.d (.int .i64) x15))], [], []⟩
def w26kE0 (c : Code) : List It2 := [.c c]
def w26sE0 (x0 : List VLabel) (x1 : Bool) : TS EE.T := ⟨52, [(0, .a (.d (.sl (.nam 2)) x0)), (1, .a (.d .bool x1))], [], []⟩
def w26TR9 (c : Code) (N : Nat) (k4 : (List VLabel) → Bool → (List VLabel) → Int → Int → Option Int) (n : Nat) (x0 : List VLabel) (x1 : Bool) (x13 : List VLabel) (x14 : Int) (x15 : Int) (b6 : VLabel) : Tree (Lf EE.T × Option Int) :=
  .cond (decide ((b6.Value.length : Int) > 100))
  (
    .leaf (.done (w26enc 2), some 2))
  (
    .leaf (.go (w26kL4 c) (w26sL4 x0 x1 x13 x14 (w64 (x15 + 1))), k4 x0 x1 x13 x14 (w64 (x15 + 1))))
theorem w26vR9 (N : Nat) (k4 : (List VLabel) → Bool → (List VLabel) → Int → Int → Option Int) (n : Nat) (x0 : List VLabel) (x1 : Bool) (x13 : List VLabel) (x14 : Int) (x15 : Int) (b6 : VLabel) : evM TT EE (w26G N) w26lv w26rs 4000 true (w26kR9 (bodyOf 0 Tryz.f26)) (w26sR9 x0 x1 x13 x14 x15 b6) = (w26TR9 (bodyOf 0 Tryz.f26) N k4 n x0 x1 x13 x14 x15 b6).map1 := by kernel_rfl
theorem w26nR9 (N : Nat) (k4 : (List VLabel) → Bool → (List VLabel) → Int → Int → Option Int) (n : Nat) (x0 : List VLabel) (x1 : Bool) (x13 : List VLabel) (x14 : Int) (x15 : Int) (b6 : VLabel) : labels_each_R9 N k4 n x0 x1 x13 x14 x15 b6 = (w26TR9 (bodyOf 0 Tryz.f26) N k4 n x0 x1 x13 x14 x15 b6).run := by kernel_rfl
theorem w26oR9 {N : Nat} {r : Int} {k4 : (List VLabel) → Bool → (List VLabel) → Int → Int → Option Int} (hk4 : ∀ x0 x1 x13 x14 x15, k4 x0 x1 x13 x14 x15 = some r → Ends (Y := TT) EE (w26G N) w26lv w26rs (fun u => u = w26enc r) (w26kL4 (bodyOf 0 Tryz.f26)) (w26sL4 x0 x1 x13 x14 x15)) (n : Nat) (x0 : List VLabel) (x1 : Bool) (x13 : List VLabel) (x14 : Int) (x15 : Int) (b6 : VLabel) (h : labels_each_R9 N k4 n x0 x1 x13 x14 x15 b6 = some r) : Ends (Y := TT) EE (w26G N) w26lv w26rs (fun u => u = w26enc r) (w26kR9 (bodyOf 0 Tryz.f26)) (w26sR9 x0 x1 x13 x14 x15 b6) :=
  tree_use (w26vR9 N k4 n x0 x1 x13 x14 x15 b6) (w26nR9 N k4 n x0 x1 x13 x14 x15 b6) h (show (w26TR9 (bodyOf 0 Tryz.f26) N k4 n x0 x1 x13 x14 x15 b6).all _ from ⟨retp (enc := w26enc) rfl, fun h => hk4 _ _ _ _ _ h⟩)
def w26TL14 (c : Code) (N : Nat) (n : Nat) (x38 : List VLabel) (x39 : Int) (x40 : Int) (b37 : List (List UInt8 × Bool)) : Tree (Lf EE.T × Option Int) :=
  .cond (decide (x40 < x39))
  (
    .bnd (idxC x38 x40) fun z3 =>
    .cond ((mget b37 z3.Name).getD false)
    (
      .leaf (.done (w26enc 6), some 6))
    (
      .leaf (.go (w26kL14 c) (w26sL14 x38 x39 (w64 (x40 + 1)) (mset b37 z3.Name true)), labels_each_L14 N n x38 x39 (w64 (x40 + 1)) (mset b37 z3.Name true))))
  (
    .leaf (.done (w26enc 0), some 0))
theorem w26vL14 (N : Nat) (n : Nat) (x38 : List VLabel) (x39 : Int) (x40 : Int) (b37 : List (List UInt8 × Bool)) : evM TT EE (w26G N) w26lv w26rs 4000 true (w26kL14 (bodyOf 0 Tryz.f26)) (w26sL14 x38 x39 x40 b37) = (w26TL14 (bodyOf 0 Tryz.f26) N n x38 x39 x40 b37).map1 := by kernel_rfl
theorem w26nL14 (N : Nat) (n : Nat) (x38 : List VLabel) (x39 : Int) (x40 : Int) (b37 : List (List UInt8 × Bool)) : labels_each_L14 N (n + 1) x38 x39 x40 b37 = (w26TL14 (bodyOf 0 Tryz.f26) N n x38 x39 x40 b37).run := by kernel_rfl
theorem w26oL14 {N : Nat} {r : Int} : ∀ (n : Nat) (x38 : List VLabel) (x39 : Int) (x40 : Int) (b37 : List (List UInt8 × Bool)), labels_each_L14 N n x38 x39 x40 b37 = some r → Ends (Y := TT) EE (w26G N) w26lv w26rs (fun u => u = w26enc r) (w26kL14 (bodyOf 0 Tryz.f26)) (w26sL14 x38 x39 x40 b37)
  | 0, _, _, _, _, h => by cases h
  | n + 1, x38, x39, x40, b37, h => tree_use (w26vL14 N n x38 x39 x40 b37) (w26nL14 N n x38 x39 x40 b37) h (show (w26TL14 (bodyOf 0 Tryz.f26) N n x38 x39 x40 b37).all _ from ⟨fun _ => ⟨retp (enc := w26enc) rfl, fun h => (w26oL14 n) _ _ _ _ h⟩, retp (enc := w26enc) rfl⟩)
def w26TL4 (c : Code) (N : Nat) (n : Nat) (x0 : List VLabel) (x1 : Bool) (x13 : List VLabel) (x14 : Int) (x15 : Int) : Tree (Lf EE.T × Option Int) :=
  .cond (decide (x15 < x14))
  (
    .bnd (idxC x13 x15) fun z1 =>
    .bnd (labels_IsName N z1.Name) fun z2 =>
    .cond (!z2)
    (
      .leaf (.done (w26enc 1), some 1))
    (
      .cond (decide (z1.Value = ([] : List UInt8)))
      (
        .cond (!x1)
        (
          .leaf (.done (w26enc 1), some 1))
        (
          .leaf (.go (w26kR9 c) (w26sR9 x0 x1 x13 x14 x15 z1), labels_each_R9 N (labels_each_L4 N n) n x0 x1 x13 x14 x15 z1)))
      (
        .leaf (.go (w26kR9 c) (w26sR9 x0 x1 x13 x14 x15 z1), labels_each_R9 N (labels_each_L4 N n) n x0 x1 x13 x14 x15 z1))))
  (
    .leaf (.go (w26kL14 c) (w26sL14 x0 (x0.length : Int) 0 ([] : List (List UInt8 × Bool))), labels_each_L14 N n x0 (x0.length : Int) 0 ([] : List (List UInt8 × Bool))))
theorem w26vL4 (N : Nat) (n : Nat) (x0 : List VLabel) (x1 : Bool) (x13 : List VLabel) (x14 : Int) (x15 : Int) : evM TT EE (w26G N) w26lv w26rs 4000 true (w26kL4 (bodyOf 0 Tryz.f26)) (w26sL4 x0 x1 x13 x14 x15) = (w26TL4 (bodyOf 0 Tryz.f26) N n x0 x1 x13 x14 x15).map1 := by kernel_rfl
theorem w26nL4 (N : Nat) (n : Nat) (x0 : List VLabel) (x1 : Bool) (x13 : List VLabel) (x14 : Int) (x15 : Int) : labels_each_L4 N (n + 1) x0 x1 x13 x14 x15 = (w26TL4 (bodyOf 0 Tryz.f26) N n x0 x1 x13 x14 x15).run := by kernel_rfl
theorem w26oL4 {N : Nat} {r : Int} : ∀ (n : Nat) (x0 : List VLabel) (x1 : Bool) (x13 : List VLabel) (x14 : Int) (x15 : Int), labels_each_L4 N n x0 x1 x13 x14 x15 = some r → Ends (Y := TT) EE (w26G N) w26lv w26rs (fun u => u = w26enc r) (w26kL4 (bodyOf 0 Tryz.f26)) (w26sL4 x0 x1 x13 x14 x15)
  | 0, _, _, _, _, _, h => by cases h
  | n + 1, x0, x1, x13, x14, x15, h => tree_use (w26vL4 N n x0 x1 x13 x14 x15) (w26nL4 N n x0 x1 x13 x14 x15) h (show (w26TL4 (bodyOf 0 Tryz.f26) N n x0 x1 x13 x14 x15).all _ from ⟨fun _ => fun _ => ⟨retp (enc := w26enc) rfl, ⟨⟨retp (enc := w26enc) rfl, fun h => w26oR9 (w26oL4 n) n _ _ _ _ _ _ h⟩, fun h => w26oR9 (w26oL4 n) n _ _ _ _ _ _ h⟩⟩, fun h => w26oL14 n _ _ _ _ h⟩)
def w26TE0 (c : Code) (N : Nat) (x0 : List VLabel) (x1 : Bool) : Tree (Lf EE.T × Option Int) :=
  .cond (decide ((x0.length : Int) > 20))
  (
    .leaf (.done (w26enc 2), some 2))
  (
    .leaf (.go (w26kL4 c) (w26sL4 x0 x1 x0 (x0.length : Int) 0), labels_each_L4 N N x0 x1 x0 (x0.length : Int) 0))
theorem w26vE0 (N : Nat) (x0 : List VLabel) (x1 : Bool) : evM TT EE (w26G N) w26lv w26rs 4000 true (w26kE0 (bodyOf 0 Tryz.f26)) (w26sE0 x0 x1) = (w26TE0 (bodyOf 0 Tryz.f26) N x0 x1).map1 := by kernel_rfl
theorem w26nE0 (N : Nat) (x0 : List VLabel) (x1 : Bool) : labels_each N x0 x1 = (w26TE0 (bodyOf 0 Tryz.f26) N x0 x1).run := by kernel_rfl
theorem w26oE0 {N : Nat} {r : Int} (x0 : List VLabel) (x1 : Bool) (h : labels_each N x0 x1 = some r) : Ends (Y := TT) EE (w26G N) w26lv w26rs (fun u => u = w26enc r) (w26kE0 (bodyOf 0 Tryz.f26)) (w26sE0 x0 x1) :=
  tree_use (w26vE0 N x0 x1) (w26nE0 N x0 x1) h (show (w26TE0 (bodyOf 0 Tryz.f26) N x0 x1).all _ from ⟨retp (enc := w26enc) rfl, fun h => w26oL4 N _ _ _ _ _ h⟩)
theorem labels_each_ok {N : Nat} (x0 : List VLabel) (x1 : Bool) {r : Int} (h : labels_each N x0 x1 = some r) (ρ : Nat → Nat) : ACalls Tryz.prog 26 (([.a (.d (.sl (.nam 2)) x0), .a (.d .bool x1)] : List (TV EE.T)).map (TV.to EE.toEnc ρ)) [] (fun out H => out = .ret ((labels_each_u r).to EE.toEnc ρ) ∧ H = []) :=
  (fn_ok (bodyOf 0 Tryz.f26) 52 mixed (w26Gok N) Tryz.func26 (by kernel_rfl) rfl rfl rfl rfl (w26oE0 x0 x1 h) ρ).mono fun out H h => KPost.ret rfl h
def labels_each_h (N : Nat) : List (TV EE.T) → PV EE.T
  | [u0, u1] => match argD (.sl (.nam 2)) u0, argD .bool u1 with
    | some x0, some x1 => .opt (labels_each N x0 x1) labels_each_u
    | _, _ => .bad
  | _ => .bad
theorem labels_each_hok (N : Nat) (us : List (TV EE.T)) : (labels_each_h N us).ok fun u => ∀ ρ, ACalls Tryz.prog 26 (us.map (TV.to EE.toEnc ρ)) [] (fun out H => out = .ret (u.to EE.toEnc ρ) ∧ H = []) := by
  unfold labels_each_h
  split
  · split
    · rename_i h0 h1
      intro z hz ρ; refine acalls_le ?_ (labels_each_ok _ _ hz ρ); exact ⟨argD_le h0 ρ, argD_le h1 ρ, trivial⟩
    · trivial
  · trivial
/-! ### cmp.isNaN[string] -/
def cmp_isNaN_string__u (r : Bool) : TV EE.T := .a (.d .bool r)
def w54enc (r : Bool) : RL EE.T := .ret (cmp_isNaN_string__u r) []
def w54lv : Lvs := ⟨[], [], [], [], false, [], []⟩
def w54rs : List ResultVar := [.tmp 2]
def w54G (N : Nat) : Gam EE := ⟨[], EQT, [], []⟩
theorem w54Gok (N : Nat) : GOk Tryz.prog TT EE (w54G N) := GOk.nil EQT_ok
def w54kE0 (c : Code) : List It2 := [.c c]
def w54sE0 (x0 : List UInt8) : TS EE.T := ⟨6, [(0, .a (.d .str x0))], [], []⟩
def w54TE0 (c : Code) (N : Nat) (x0 : List UInt8) : Tree (Lf EE.T × Option Bool) :=
  .leaf (.done (w54enc (!decide (x0 = x0))), some (!decide (x0 = x0)))
theorem w54vE0 (N : Nat) (x0 : List UInt8) : evM TT EE (w54G N) w54lv w54rs 4000 true (w54kE0 (bodyOf 0 Tryz.f54)) (w54sE0 x0) = (w54TE0 (bodyOf 0 Tryz.f54) N x0).map1 := by kernel_rfl
theorem w54nE0 (N : Nat) (x0 : List UInt8) : cmp_isNaN_string_ N x0 = (w54TE0 (bodyOf 0 Tryz.f54) N x0).run := by kernel_rfl
theorem w54oE0 {N : Nat} {r : Bool} (x0 : List UInt8) (h : cmp_isNaN_string_ N x0 = some r) : Ends (Y := TT) EE (w54G N) w54lv w54rs (fun u => u = w54enc r) (w54kE0 (bodyOf 0 Tryz.f54)) (w54sE0 x0) :=
  tree_use (w54vE0 N x0) (w54nE0 N x0) h (show (w54TE0 (bodyOf 0 Tryz.f54) N x0).all _ from retp (enc := w54enc) rfl)
theorem cmp_isNaN_string__ok {N : Nat} (x0 : List UInt8) {r : Bool} (h : cmp_isNaN_string_ N x0 = some r) (ρ : Nat → Nat) : ACalls Tryz.prog 54 (([.a (.d .str x0)] : List (TV EE.T)).map (TV.to EE.toEnc ρ)) [] (fun out H => out = .ret ((cmp_isNaN_string__u r).to EE.toEnc ρ) ∧ H = []) :=
  (fn_ok (bodyOf 0 Tryz.f54) 6 mixed (w54Gok N) Tryz.func54 (by kernel_rfl) rfl rfl rfl rfl (w54oE0 x0 h) ρ).mono fun out H h => KPost.ret rfl h
def cmp_isNaN_string__h (N : Nat) : List (TV EE.T) → PV EE.T
  | [u0] => match argD .str u0 with
    | some x0 => .opt (cmp_isNaN_string_ N x0) cmp_isNaN_string__u
    | _ => .bad
  | _ => .bad
theorem cmp_isNaN_string__hok (N : Nat) (us : List (TV EE.T)) : (cmp_isNaN_string__h N us).ok fun u => ∀ ρ, ACalls Tryz.prog 54 (us.map (TV.to EE.toEnc ρ)) [] (fun out H => out = .ret (u.to EE.toEnc ρ) ∧ H = []) := by
  unfold cmp_isNaN_string__h
  split
  · split
    · rename_i h0
      intro z hz ρ; refine acalls_le ?_ (cmp_isNaN_string__ok _ hz ρ); exact ⟨argD_le h0 ρ, trivial⟩
    · trivial
  · trivial
/-! ### cmp.Compare[string] -/
def cmp_Compare_string__u (r : Int) : TV EE.T := .a (.d (.int .i64) r)
def w40enc (r : Int) : RL EE.T := .ret (cmp_Compare_string__u r) []
def w40lv : Lvs := ⟨[], [], [], [], false, [], []⟩
def w40rs : List ResultVar := [.tmp 4]
def w40G (N : Nat) : Gam EE := ⟨[⟨54, cmp_isNaN_string__h N⟩], EQT, [], []⟩
theorem w40Gok (N : Nat) : GOk Tryz.prog TT EE (w40G N) := GOk.cons (cmp_isNaN_string__hok N) (GOk.nil EQT_ok)
def w40kE0 (c : Code) : List It2 := [.c c]
def w40sE0 (x0 : List UInt8) (x1 : List UInt8) : TS EE.T := ⟨20, [(0, .a (.d .str x0)), (1, .a (.d .str x1))], [], []⟩
def w40TE0 (c : Code) (N : Nat) (x0 : List UInt8) (x1 : List UInt8) : Tree (Lf EE.T × Option Int) :=
  .bnd (cmp_isNaN_string_ N x0) fun z1 =>
  .bnd (cmp_isNaN_string_ N x1) fun z2 =>
  .cond (z1)
  (
    .cond (z2)
    (
      .leaf (.done (w40enc 0), some 0))
    (
      .leaf (.done (w40enc (-1)), some (-1))))
  (
    .cond (z2)
    (
      .leaf (.done (w40enc 1), some 1))
    (
      .cond (Op.bytesLess x0 x1)
      (
        .leaf (.done (w40enc (-1)), some (-1)))
      (
        .cond (!(Op.bytesLess x0 x1 || decide (x0 = x1)))
        (
          .leaf (.done (w40enc 1), some 1))
        (
          .leaf (.done (w40enc 0), some 0)))))
theorem w40vE0 (N : Nat) (x0 : List UInt8) (x1 : List UInt8) : evM TT EE (w40G N) w40lv w40rs 4000 true (w40kE0 (bodyOf 0 Tryz.f40)) (w40sE0 x0 x1) = (w40TE0 (bodyOf 0 Tryz.f40) N x0 x1).map1 := by kernel_rfl
theorem w40nE0 (N : Nat) (x0 : List UInt8) (x1 : List UInt8) : cmp_Compare_string_ N x0 x1 = (w40TE0 (bodyOf 0 Tryz.f40) N x0 x1).run := by kernel_rfl
theorem w40oE0 {N : Nat} {r : Int} (x0 : List UInt8) (x1 : List UInt8) (h : cmp_Compare_string_ N x0 x1 = some r) : Ends (Y := TT) EE (w40G N) w40lv w40rs (fun u => u = w40enc r) (w40kE0 (bodyOf 0 Tryz.f40)) (w40sE0 x0 x1) :=
  tree_use (w40vE0 N x0 x1) (w40nE0 N x0 x1) h (show (w40TE0 (bodyOf 0 Tryz.f40) N x0 x1).all _ from fun _ => fun _ => ⟨⟨retp (enc := w40enc) rfl, retp (enc := w40enc) rfl⟩, ⟨retp (enc := w40enc) rfl, ⟨retp (enc := w40enc) rfl, ⟨retp (enc := w40enc) rfl, retp (enc := w40enc) rfl⟩⟩⟩⟩)
theorem cmp_Compare_string__ok {N : Nat} (x0 : List UInt8) (x1 : List UInt8) {r : Int} (h : cmp_Compare_string_ N x0 x1 = some r) (ρ : Nat → Nat) : ACalls Tryz.prog 40 (([.a (.d .str x0), .a (.d .str x1)] : List (TV EE.T)).map (TV.to EE.toEnc ρ)) [] (fun out H => out = .ret ((cmp_Compare_string__u r).to EE.toEnc ρ) ∧ H = []) :=
  (fn_ok (bodyOf 0 Tryz.f40) 20 mixed (w40Gok N) Tryz.func40 (by kernel_rfl) rfl rfl rfl rfl (w40oE0 x0 x1 h) ρ).mono fun out H h => KPost.ret rfl h
def cmp_Compare_string__h (N : Nat) : List (TV EE.T) → PV EE.T
  | [u0, u1] => match argD .str u0, argD .str u1 with
    | some x0, some x1 => .opt (cmp_Compare_string_ N x0 x1) cmp_Compare_string__u
    | _, _ => .bad
  | _ => .bad
theorem cmp_Compare_string__hok (N : Nat) (us : List (TV EE.T)) : (cmp_Compare_string__h N us).ok fun u => ∀ ρ, ACalls Tryz.prog 40 (us.map (TV.to EE.toEnc ρ)) [] (fun out H => out = .ret (u.to EE.toEnc ρ) ∧ H = []) := by
  unfold cmp_Compare_string__h
  split
  · split
    · rename_i h0 h1
      intro z hz ρ; refine acalls_le ?_ (cmp_Compare_string__ok _ _ hz ρ); exact ⟨argD_le h0 ρ, argD_le h1 ρ, trivial⟩
    · trivial
  · trivial
/-! ### gleaner/labels.byName -/
def labels_byName_u (r : Int) : TV EE.T := .a (.d (.int .i64) r)
def w28enc (r : Int) : RL EE.T := .ret (labels_byName_u r) []
def w28lv : Lvs := ⟨[], [], [], [], false, [], []⟩
def w28rs : List ResultVar := [.tmp 4]
def w28G (N : Nat) : Gam EE := ⟨[⟨40, cmp_Compare_string__h N⟩], EQT, [], []⟩
theorem w28Gok (N : Nat) : GOk Tryz.prog TT EE (w28G N) := GOk.cons (cmp_Compare_string__hok N) (GOk.nil EQT_ok)
def w28kE0 (c : Code) : List It2 := [.c c]
def w28sE0 (x0 : VLabel) (x1 : VLabel) : TS EE.T := ⟨10, [(0, .ag (unpT EE (.nam 2) x0)), (1, .ag (unpT EE (.nam 2) x1))], [], []⟩
def w28TE0 (c : Code) (N : Nat) (x0 : VLabel) (x1 : VLabel) : Tree (Lf EE.T × Option Int) :=
  .bnd (cmp_Compare_string_ N x0.Name x1.Name) fun z1 =>
  .leaf (.done (w28enc z1), some z1)
theorem w28vE0 (N : Nat) (x0 : VLabel) (x1 : VLabel) : evM TT EE (w28G N) w28lv w28rs 4000 true (w28kE0 (bodyOf 0 Tryz.f28)) (w28sE0 x0 x1) = (w28TE0 (bodyOf 0 Tryz.f28) N x0 x1).map1 := by kernel_rfl
theorem w28nE0 (N : Nat) (x0 : VLabel) (x1 : VLabel) : labels_byName N x0 x1 = (w28TE0 (bodyOf 0 Tryz.f28) N x0 x1).run := by kernel_rfl
theorem w28oE0 {N : Nat} {r : Int} (x0 : VLabel) (x1 : VLabel) (h : labels_byName N x0 x1 = some r) : Ends (Y := TT) EE (w28G N) w28lv w28rs (fun u => u = w28enc r) (w28kE0 (bodyOf 0 Tryz.f28)) (w28sE0 x0 x1) :=
  tree_use (w28vE0 N x0 x1) (w28nE0 N x0 x1) h (show (w28TE0 (bodyOf 0 Tryz.f28) N x0 x1).all _ from fun _ => retp (enc := w28enc) rfl)
theorem labels_byName_ok {N : Nat} (x0 : VLabel) (x1 : VLabel) {r : Int} (h : labels_byName N x0 x1 = some r) (ρ : Nat → Nat) : ACalls Tryz.prog 28 (([.ag (unpT EE (.nam 2) x0), .ag (unpT EE (.nam 2) x1)] : List (TV EE.T)).map (TV.to EE.toEnc ρ)) [] (fun out H => out = .ret ((labels_byName_u r).to EE.toEnc ρ) ∧ H = []) :=
  (fn_ok (bodyOf 0 Tryz.f28) 10 mixed (w28Gok N) Tryz.func28 (by kernel_rfl) rfl rfl rfl rfl (w28oE0 x0 x1 h) ρ).mono fun out H h => KPost.ret rfl h
def labels_byName_h (N : Nat) : List (TV EE.T) → PV EE.T
  | [u0, u1] => match argS EE 2 u0, argS EE 2 u1 with
    | some x0, some x1 => .opt (labels_byName N x0 x1) labels_byName_u
    | _, _ => .bad
  | _ => .bad
theorem labels_byName_hok (N : Nat) (us : List (TV EE.T)) : (labels_byName_h N us).ok fun u => ∀ ρ, ACalls Tryz.prog 28 (us.map (TV.to EE.toEnc ρ)) [] (fun out H => out = .ret (u.to EE.toEnc ρ) ∧ H = []) := by
  unfold labels_byName_h
  split
  · split
    · rename_i h0 h1
      intro z hz ρ; refine acalls_le ?_ (labels_byName_ok _ _ hz ρ); exact ⟨argS_le h0 ρ, argS_le h1 ρ, trivial⟩
    · trivial
  · trivial
/-! ### slices.IsSortedFunc[[]gleaner/api.Label,gleaner/api.Label] -/
def slices_IsSortedFunc_api_Label_api_Label__i0_u (r : Bool) : TV EE.T := .a (.d .bool r)
def w27i0hh (r : Bool) : List (Nat × TB EE.T) := []
def w27i0enc (r : Bool) : RL EE.T := .ret (slices_IsSortedFunc_api_Label_api_Label__i0_u r) (w27i0hh r)
def w27i0lv : Lvs := ⟨[(4, ⟨[(0, false), (1, false), (5, false)], [], []⟩)], [(2, ⟨[(0, false), (1, false), (5, false)], [], []⟩)], [], [], false, [], []⟩
def w27i0rs : List ResultVar := [.tmp 4]
def w27i0G (N : Nat) : Gam EE := ⟨[⟨28, labels_byName_h N⟩], EQT, [], []⟩
theorem w27i0Gok (N : Nat) : GOk Tryz.prog TT EE (w27i0G N) := GOk.cons (labels_byName_hok N) (GOk.nil EQT_ok)
def w27i0kL2 (c : Code) : List It2 := atL 2 c
def w27i0sL2 (x0 : List VLabel) (x5 : Int) : TS EE.T := ⟨25, [(0, .a (.d (.sl (.nam 2)) x0)), (1, .fn 28 []), (5, .a (.d (.int .i64) x5))], [], []⟩
def w27i0kE0 (c : Code) : List It2 := [.c c]
def w27i0sE0 (x0 : List VLabel) : TS EE.T := ⟨25, [(0, .a (.d (.sl (.nam 2)) x0)), (1, .fn 28 [])], [], []⟩
def w27i0TL2 (c : Code) (N : Nat) (n : Nat) (x0 : List VLabel) (x5 : Int) : Tree (Lf EE.T × Option Bool) :=
  .cond (decide (x5 > 0))
  (
    .bnd (idxC x0 x5) fun z1 =>
    .bnd (idxC x0 (w64 (x5 - 1))) fun z2 =>
    .bnd (labels_byName N z1 z2) fun z3 =>
    .cond (decide (z3 < 0))
    (
      .leaf (.done (w27i0enc false), some false))
    (
      .leaf (.go (w27i0kL2 c) (w27i0sL2 x0 (w64 (x5 - 1))), slices_IsSortedFunc_api_Label_api_Label__i0_L2 N n x0 (w64 (x5 - 1)))))
  (
    .leaf (.done (w27i0enc true), some true))
theorem w27i0vL2 (N : Nat) (n : Nat) (x0 : List VLabel) (x5 : Int) : evM TT EE (w27i0G N) w27i0lv w27i0rs 4000 true (w27i0kL2 (bodyOf 0 Tryz.f27)) (w27i0sL2 x0 x5) = (w27i0TL2 (bodyOf 0 Tryz.f27) N n x0 x5).map1 := by kernel_rfl
theorem w27i0nL2 (N : Nat) (n : Nat) (x0 : List VLabel) (x5 : Int) : slices_IsSortedFunc_api_Label_api_Label__i0_L2 N (n + 1) x0 x5 = (w27i0TL2 (bodyOf 0 Tryz.f27) N n x0 x5).run := by kernel_rfl
theorem w27i0oL2 {N : Nat} {r : Bool} : ∀ (n : Nat) (x0 : List VLabel) (x5 : Int), slices_IsSortedFunc_api_Label_api_Label__i0_L2 N n x0 x5 = some r → Ends (Y := TT) EE (w27i0G N) w27i0lv w27i0rs (fun u => u = w27i0enc r) (w27i0kL2 (bodyOf 0 Tryz.f27)) (w27i0sL2 x0 x5)
  | 0, _, _, h => by cases h
  | n + 1, x0, x5, h => tree_use (w27i0vL2 N n x0 x5) (w27i0nL2 N n x0 x5) h (show (w27i0TL2 (bodyOf 0 Tryz.f27) N n x0 x5).all _ from ⟨fun _ => fun _ => fun _ => ⟨retp (enc := w27i0enc) rfl, fun h => (w27i0oL2 n) _ _ h⟩, retp (enc := w27i0enc) rfl⟩)
def w27i0TE0 (c : Code) (N : Nat) (x0 : List VLabel) : Tree (Lf EE.T × Option Bool) :=
  .leaf (.go (w27i0kL2 c) (w27i0sL2 x0 (w64 ((x0.length : Int) - 1))), slices_IsSortedFunc_api_Label_api_Label__i0_L2 N N x0 (w64 ((x0.length : Int) - 1)))
theorem w27i0vE0 (N : Nat) (x0 : List VLabel) : evM TT EE (w27i0G N) w27i0lv w27i0rs 4000 true (w27i0kE0 (bodyOf 0 Tryz.f27)) (w27i0sE0 x0) = (w27i0TE0 (bodyOf 0 Tryz.f27) N x0).map1 := by kernel_rfl
theorem w27i0nE0 (N : Nat) (x0 : List VLabel) : slices_IsSortedFunc_api_Label_api_Label__i0 N x0 = (w27i0TE0 (bodyOf 0 Tryz.f27) N x0).run := by kernel_rfl
theorem w27i0oE0 {N : Nat} {r : Bool} (x0 : List VLabel) (h : slices_IsSortedFunc_api_Label_api_Label__i0 N x0 = some r) : Ends (Y := TT) EE (w27i0G N) w27i0lv w27i0rs (fun u => u = w27i0enc r) (w27i0kE0 (bodyOf 0 Tryz.f27)) (w27i0sE0 x0) :=
  tree_use (w27i0vE0 N x0) (w27i0nE0 N x0) h (show (w27i0TE0 (bodyOf 0 Tryz.f27) N x0).all _ from fun h => w27i0oL2 N _ _ h)
def w27i0us (x0 : List VLabel) : List (TV EE.T) := [.a (.d (.sl (.nam 2)) x0), .fn 28 []]
def w27i0h0 (x0 : List VLabel) : List (Nat × TB EE.T) := []
theorem slices_IsSortedFunc_api_Label_api_Label__i0_ok {N : Nat} (x0 : List VLabel) {r : Bool} (h : slices_IsSortedFunc_api_Label_api_Label__i0 N x0 = some r) (ρ : Nat → Nat) (hi : Inj ρ (w27i0h0 x0)) : ACalls Tryz.prog 27 ((w27i0us x0).map (TV.to EE.toEnc ρ)) (hTo EE.toEnc ρ (w27i0h0 x0)) (fun out H => out = .ret ((slices_IsSortedFunc_api_Label_api_Label__i0_u r).to EE.toEnc ρ) ∧ H = hTo EE.toEnc ρ (w27i0hh r)) :=
  (fn_okH (bodyOf 0 Tryz.f27) 25 mixed (w27i0Gok N) Tryz.func27 (by kernel_rfl) rfl rfl rfl rfl (w27i0oE0 x0 h) ρ hi).mono fun out H h => KPost.retH rfl rfl h
def slices_IsSortedFunc_api_Label_api_Label__i0_h (N : Nat) (us : List (TV EE.T)) (hs : List (Nat × TB EE.T)) : XR EE.T :=
  gdX (lenX us 2) <|
  bnX (aD (.sl (.nam 2)) us 0) fun x0 =>
  bnX (aF 28 us 1) fun c1 =>
  bnX (cbs c1) fun s1 =>
  gdX (lenX s1 0) <|
  gdX (goodIds hs []) <|
  .ret (slices_IsSortedFunc_api_Label_api_Label__i0 N x0) [] slices_IsSortedFunc_api_Label_api_Label__i0_u (w27i0hh)
theorem slices_IsSortedFunc_api_Label_api_Label__i0_hok (N : Nat) : XOk Tryz.prog EE 27 (slices_IsSortedFunc_api_Label_api_Label__i0_h N) := fun us hs =>
  gdX_ok fun h1 => bnX_ok fun x0 h2 => bnX_ok fun c1 h3 => bnX_ok fun s1 h4 => gdX_ok fun h5 => gdX_ok fun h6 => fun z hz => ⟨rfl, fun ρ hi => xcall (us' := w27i0us x0) (h0 := w27i0h0 x0) (ρ' := rhoS ρ []) ⟨aD_le h2, aF_le (js := []) h3 h4 (by rw [lis0 (lenX_ok h5)];  kernel_rfl), lenX_ok h1⟩ trivial (slices_IsSortedFunc_api_Label_api_Label__i0_ok x0 hz _ (rhoS_inj hi h6 _ (by kernel_rfl))) (fun out H h => ⟨h.1.trans (by kernel_rfl), h.2.trans (by kernel_rfl)⟩)⟩
/-! ### gleaner/labels.Check -/
def labels_Check_u (r : Int) : TV EE.T := .a (.d (.int .i64) r)
def w14enc (r : Int) : RL EE.T := .ret (labels_Check_u r) []
def w14lv : Lvs := ⟨[], [], [], [], false, [], []⟩
def w14rs : List ResultVar := [.tmp 2]
def w14G (N : Nat) : Gam EE := ⟨[⟨26, labels_each_h N⟩], EQT, [⟨27, slices_IsSortedFunc_api_Label_api_Label__i0_h N⟩], []⟩
theorem w14Gok (N : Nat) : GOk Tryz.prog TT EE (w14G N) := GOk.cons (labels_each_hok N) (GOk.consx (slices_IsSortedFunc_api_Label_api_Label__i0_hok N) (GOk.nil EQT_ok))
def w14kE0 (c : Code) : List It2 := [.c c]
def w14sE0 (x0 : List VLabel) : TS EE.T := ⟨12, [(0, .a (.d (.sl (.nam 2)) x0))], [], []⟩
def w14TE0 (c : Code) (N : Nat) (x0 : List VLabel) : Tree (Lf EE.T × Option Int) :=
  .bnd (labels_each N x0 false) fun z1 =>
  .cond (z1 != 0)
  (
    .leaf (.done (w14enc z1), some z1))
  (
    .bnd (slices_IsSortedFunc_api_Label_api_Label__i0 N x0) fun z2 =>
    .cond (!z2)
    (
      .leaf (.done (w14enc 4), some 4))
    (
      .leaf (.done (w14enc 0), some 0)))
theorem w14vE0 (N : Nat) (x0 : List VLabel) : evM TT EE (w14G N) w14lv w14rs 4000 true (w14kE0 (bodyOf 0 Tryz.f14)) (w14sE0 x0) = (w14TE0 (bodyOf 0 Tryz.f14) N x0).map1 := by kernel_rfl
theorem w14nE0 (N : Nat) (x0 : List VLabel) : labels_Check N x0 = (w14TE0 (bodyOf 0 Tryz.f14) N x0).run := by kernel_rfl
theorem w14oE0 {N : Nat} {r : Int} (x0 : List VLabel) (h : labels_Check N x0 = some r) : Ends (Y := TT) EE (w14G N) w14lv w14rs (fun u => u = w14enc r) (w14kE0 (bodyOf 0 Tryz.f14)) (w14sE0 x0) :=
  tree_use (w14vE0 N x0) (w14nE0 N x0) h (show (w14TE0 (bodyOf 0 Tryz.f14) N x0).all _ from fun _ => ⟨retp (enc := w14enc) rfl, fun _ => ⟨retp (enc := w14enc) rfl, retp (enc := w14enc) rfl⟩⟩)
theorem labels_Check_ok {N : Nat} (x0 : List VLabel) {r : Int} (h : labels_Check N x0 = some r) (ρ : Nat → Nat) : ACalls Tryz.prog 14 (([.a (.d (.sl (.nam 2)) x0)] : List (TV EE.T)).map (TV.to EE.toEnc ρ)) [] (fun out H => out = .ret ((labels_Check_u r).to EE.toEnc ρ) ∧ H = []) :=
  (fn_ok (bodyOf 0 Tryz.f14) 12 mixed (w14Gok N) Tryz.func14 (by kernel_rfl) rfl rfl rfl rfl (w14oE0 x0 h) ρ).mono fun out H h => KPost.ret rfl h
def labels_Check_h (N : Nat) : List (TV EE.T) → PV EE.T
  | [u0] => match argD (.sl (.nam 2)) u0 with
    | some x0 => .opt (labels_Check N x0) labels_Check_u
    | _ => .bad
  | _ => .bad
theorem labels_Check_hok (N : Nat) (us : List (TV EE.T)) : (labels_Check_h N us).ok fun u => ∀ ρ, ACalls Tryz.prog 14 (us.map (TV.to EE.toEnc ρ)) [] (fun out H => out = .ret (u.to EE.toEnc ρ) ∧ H = []) := by
  unfold labels_Check_h
  split
  · split
    · rename_i h0
      intro z hz ρ; refine acalls_le ?_ (labels_Check_ok _ hz ρ); exact ⟨argD_le h0 ρ, trivial⟩
    · trivial
  · trivial
/-! ### gleaner/labels.check -/
def labels_check_u (r : Int) : TV EE.T := .a (.d (.int .i64) r)
def w18enc (r : Int) : RL EE.T := .ret (labels_check_u r) []
def w18lv : Lvs := ⟨[], [(2, ⟨[(6, false), (7, false), (8, false)], [], []⟩)], [], [], false, [], []⟩
def w18rs : List ResultVar := [.tmp 2]
def w18G (N : Nat) : Gam EE := ⟨[⟨14, labels_Check_h N⟩], EQT, [], []⟩
theorem w18Gok (N : Nat) : GOk Tryz.prog TT EE (w18G N) := GOk.cons (labels_Check_hok N) (GOk.nil EQT_ok)
def w18kL2 (c : Code) : List It2 := atL 2 c
def w18sL2 (x6 : List (List VLabel)) (x7 : Int) (x8 : Int) : TS EE.T := ⟨18, [(6, .a (.d (.sl (.sl (.nam 2))) x6)), (7, .a (.d (.int .i64) x7)), (8, .a (.d (.int .i64) x8))], [], []⟩
def w18kE0 (c : Code) : List It2 := [.c c]
def w18sE0 (x0 : List (List VLabel)) : TS EE.T := ⟨18, [(0, .a (.d (.sl (.sl (.nam 2))) x0))], [], []⟩
def w18TL2 (c : Code) (N : Nat) (n : Nat) (x6 : List (List VLabel)) (x7 : Int) (x8 : Int) : Tree (Lf EE.T × Option Int) :=
  .cond (decide (x8 < x7))
  (
    .bnd (idxC x6 x8) fun z1 =>
    .bnd (labels_Check N z1) fun z2 =>
    .cond (z2 != 0)
    (
      .leaf (.done (w18enc z2), some z2))
    (
      .leaf (.go (w18kL2 c) (w18sL2 x6 x7 (w64 (x8 + 1))), labels_check_L2 N n x6 x7 (w64 (x8 + 1)))))
  (
    .leaf (.done (w18enc 0), some 0))
theorem w18vL2 (N : Nat) (n : Nat) (x6 : List (List VLabel)) (x7 : Int) (x8 : Int) : evM TT EE (w18G N) w18lv w18rs 4000 true (w18kL2 (bodyOf 0 Tryz.f18)) (w18sL2 x6 x7 x8) = (w18TL2 (bodyOf 0 Tryz.f18) N n x6 x7 x8).map1 := by kernel_rfl
theorem w18nL2 (N : Nat) (n : Nat) (x6 : List (List VLabel)) (x7 : Int) (x8 : Int) : labels_check_L2 N (n + 1) x6 x7 x8 = (w18TL2 (bodyOf 0 Tryz.f18) N n x6 x7 x8).run := by kernel_rfl
theorem w18oL2 {N : Nat} {r : Int} : ∀ (n : Nat) (x6 : List (List VLabel)) (x7 : Int) (x8 : Int), labels_check_L2 N n x6 x7 x8 = some r → Ends (Y := TT) EE (w18G N) w18lv w18rs (fun u => u = w18enc r) (w18kL2 (bodyOf 0 Tryz.f18)) (w18sL2 x6 x7 x8)
  | 0, _, _, _, h => by cases h
  | n + 1, x6, x7, x8, h => tree_use (w18vL2 N n x6 x7 x8) (w18nL2 N n x6 x7 x8) h (show (w18TL2 (bodyOf 0 Tryz.f18) N n x6 x7 x8).all _ from ⟨fun _ => fun _ => ⟨retp (enc := w18enc) rfl, fun h => (w18oL2 n) _ _ _ h⟩, retp (enc := w18enc) rfl⟩)
def w18TE0 (c : Code) (N : Nat) (x0 : List (List VLabel)) : Tree (Lf EE.T × Option Int) :=
  .leaf (.go (w18kL2 c) (w18sL2 x0 (x0.length : Int) 0), labels_check_L2 N N x0 (x0.length : Int) 0)
theorem w18vE0 (N : Nat) (x0 : List (List VLabel)) : evM TT EE (w18G N) w18lv w18rs 4000 true (w18kE0 (bodyOf 0 Tryz.f18)) (w18sE0 x0) = (w18TE0 (bodyOf 0 Tryz.f18) N x0).map1 := by kernel_rfl
theorem w18nE0 (N : Nat) (x0 : List (List VLabel)) : labels_check N x0 = (w18TE0 (bodyOf 0 Tryz.f18) N x0).run := by kernel_rfl
theorem w18oE0 {N : Nat} {r : Int} (x0 : List (List VLabel)) (h : labels_check N x0 = some r) : Ends (Y := TT) EE (w18G N) w18lv w18rs (fun u => u = w18enc r) (w18kE0 (bodyOf 0 Tryz.f18)) (w18sE0 x0) :=
  tree_use (w18vE0 N x0) (w18nE0 N x0) h (show (w18TE0 (bodyOf 0 Tryz.f18) N x0).all _ from fun h => w18oL2 N _ _ _ h)
theorem labels_check_ok {N : Nat} (x0 : List (List VLabel)) {r : Int} (h : labels_check N x0 = some r) (ρ : Nat → Nat) : ACalls Tryz.prog 18 (([.a (.d (.sl (.sl (.nam 2))) x0)] : List (TV EE.T)).map (TV.to EE.toEnc ρ)) [] (fun out H => out = .ret ((labels_check_u r).to EE.toEnc ρ) ∧ H = []) :=
  (fn_ok (bodyOf 0 Tryz.f18) 18 mixed (w18Gok N) Tryz.func18 (by kernel_rfl) rfl rfl rfl rfl (w18oE0 x0 h) ρ).mono fun out H h => KPost.ret rfl h
def labels_check_h (N : Nat) : List (TV EE.T) → PV EE.T
  | [u0] => match argD (.sl (.sl (.nam 2))) u0 with
    | some x0 => .opt (labels_check N x0) labels_check_u
    | _ => .bad
  | _ => .bad
theorem labels_check_hok (N : Nat) (us : List (TV EE.T)) : (labels_check_h N us).ok fun u => ∀ ρ, ACalls Tryz.prog 18 (us.map (TV.to EE.toEnc ρ)) [] (fun out H => out = .ret (u.to EE.toEnc ρ) ∧ H = []) := by
  unfold labels_check_h
  split
  · split
    · rename_i h0
      intro z hz ρ; refine acalls_le ?_ (labels_check_ok _ hz ρ); exact ⟨argD_le h0 ρ, trivial⟩
    · trivial
  · trivial
/-! ### gleaner/labels.find$1 -/
def labels_find_1_u (r : Int) : TV EE.T := .a (.d (.int .i64) r)
def w45enc (r : Int) : RL EE.T := .ret (labels_find_1_u r) []
def w45lv : Lvs := ⟨[], [], [], [], false, [], []⟩
def w45rs : List ResultVar := [.tmp 4]
def w45G (N : Nat) : Gam EE := ⟨[⟨40, cmp_Compare_string__h N⟩], EQT, [], []⟩
theorem w45Gok (N : Nat) : GOk Tryz.prog TT EE (w45G N) := GOk.cons (cmp_Compare_string__hok N) (GOk.nil EQT_ok)
def w45kE0 (c : Code) : List It2 := [.c c]
def w45sE0 (x0 : VLabel) (x1 : List UInt8) : TS EE.T := ⟨9, [(0, .ag (unpT EE (.nam 2) x0)), (1, .a (.d .str x1))], [], []⟩
def w45TE0 (c : Code) (N : Nat) (x0 : VLabel) (x1 : List UInt8) : Tree (Lf EE.T × Option Int) :=
  .bnd (cmp_Compare_string_ N x0.Name x1) fun z1 =>
  .leaf (.done (w45enc z1), some z1)
theorem w45vE0 (N : Nat) (x0 : VLabel) (x1 : List UInt8) : evM TT EE (w45G N) w45lv w45rs 4000 true (w45kE0 (bodyOf 0 Tryz.f45)) (w45sE0 x0 x1) = (w45TE0 (bodyOf 0 Tryz.f45) N x0 x1).map1 := by kernel_rfl
theorem w45nE0 (N : Nat) (x0 : VLabel) (x1 : List UInt8) : labels_find_1 N x0 x1 = (w45TE0 (bodyOf 0 Tryz.f45) N x0 x1).run := by kernel_rfl
theorem w45oE0 {N : Nat} {r : Int} (x0 : VLabel) (x1 : List UInt8) (h : labels_find_1 N x0 x1 = some r) : Ends (Y := TT) EE (w45G N) w45lv w45rs (fun u => u = w45enc r) (w45kE0 (bodyOf 0 Tryz.f45)) (w45sE0 x0 x1) :=
  tree_use (w45vE0 N x0 x1) (w45nE0 N x0 x1) h (show (w45TE0 (bodyOf 0 Tryz.f45) N x0 x1).all _ from fun _ => retp (enc := w45enc) rfl)
theorem labels_find_1_ok {N : Nat} (x0 : VLabel) (x1 : List UInt8) {r : Int} (h : labels_find_1 N x0 x1 = some r) (ρ : Nat → Nat) : ACalls Tryz.prog 45 (([.ag (unpT EE (.nam 2) x0), .a (.d .str x1)] : List (TV EE.T)).map (TV.to EE.toEnc ρ)) [] (fun out H => out = .ret ((labels_find_1_u r).to EE.toEnc ρ) ∧ H = []) :=
  (fn_ok (bodyOf 0 Tryz.f45) 9 mixed (w45Gok N) Tryz.func45 (by kernel_rfl) rfl rfl rfl rfl (w45oE0 x0 x1 h) ρ).mono fun out H h => KPost.ret rfl h
def labels_find_1_h (N : Nat) : List (TV EE.T) → PV EE.T
  | [u0, u1] => match argS EE 2 u0, argD .str u1 with
    | some x0, some x1 => .opt (labels_find_1 N x0 x1) labels_find_1_u
    | _, _ => .bad
  | _ => .bad
theorem labels_find_1_hok (N : Nat) (us : List (TV EE.T)) : (labels_find_1_h N us).ok fun u => ∀ ρ, ACalls Tryz.prog 45 (us.map (TV.to EE.toEnc ρ)) [] (fun out H => out = .ret (u.to EE.toEnc ρ) ∧ H = []) := by
  unfold labels_find_1_h
  split
  · split
    · rename_i h0 h1
      intro z hz ρ; refine acalls_le ?_ (labels_find_1_ok _ _ hz ρ); exact ⟨argS_le h0 ρ, argD_le h1 ρ, trivial⟩
    · trivial
  · trivial
/-! ### slices.BinarySearchFunc[[]gleaner/api.Label,gleaner/api.Label,string] -/
def slices_BinarySearchFunc_api_Label_api_Label_string__i0_u (r : Int × Bool) : TV EE.T := .tu [.a (.d (.int .i64) r.1), .a (.d .bool r.2)]
def w44i0hh (r : Int × Bool) : List (Nat × TB EE.T) := []
def w44i0enc (r : Int × Bool) : RL EE.T := .ret (slices_BinarySearchFunc_api_Label_api_Label_string__i0_u r) (w44i0hh r)
def w44i0lv : Lvs := ⟨[], [(3, ⟨[(0, false), (1, false), (2, false), (8, false), (9, false), (10, false)], [], []⟩)], [], [], false, [], []⟩
def w44i0rs : List ResultVar := [.tmp 6, .tmp 7]
def w44i0G (N : Nat) : Gam EE := ⟨[], EQT, [⟨45, xOf (labels_find_1_h N)⟩], []⟩
theorem w44i0Gok (N : Nat) : GOk Tryz.prog TT EE (w44i0G N) := GOk.consx (xOf_ok (labels_find_1_hok N)) (GOk.nil EQT_ok)
def w44i0kL3 (c : Code) : List It2 := atL 3 c
def w44i0sL3 (x0 : List VLabel) (x1 : List UInt8) (x8 : Int) (x9 : Int) (x10 : Int) : TS EE.T := ⟨49, [(0, .a (.d (.sl (.nam 2)) x0)), (1, .a (.d .str x1)), (2, .fn 45 []), (8, .a (.d (.int .i64) x8)), (9, .a (.d (.int .i64) x9)), (10, .a (.d (.int .i64) x10))], [], []⟩
def w44i0kE0 (c : Code) : List It2 := [.c c]
def w44i0sE0 (x0 : List VLabel) (x1 : List UInt8) : TS EE.T := ⟨49, [(0, .a (.d (.sl (.nam 2)) x0)), (1, .a (.d .str x1)), (2, .fn 45 [])], [], []⟩
def w44i0TL3 (c : Code) (N : Nat) (n : Nat) (x0 : List VLabel) (x1 : List UInt8) (x8 : Int) (x9 : Int) (x10 : Int) : Tree (Lf EE.T × Option (Int × Bool)) :=
  .cond (decide (x9 < x10))
  (
    .bnd (shrC .u64 (IntKind.wrap .u64 (w64 (x9 + x10))) 1) fun z1 =>
    .bnd (idxC x0 (w64 z1)) fun z2 =>
    .bnd (labels_find_1 N z2 x1) fun z3 =>
    .cond (decide (z3 < 0))
    (
      .leaf (.go (w44i0kL3 c) (w44i0sL3 x0 x1 x8 (w64 ((w64 z1) + 1)) x10), slices_BinarySearchFunc_api_Label_api_Label_string__i0_L3 N n x0 x1 x8 (w64 ((w64 z1) + 1)) x10))
    (
      .leaf (.go (w44i0kL3 c) (w44i0sL3 x0 x1 x8 x9 (w64 z1)), slices_BinarySearchFunc_api_Label_api_Label_string__i0_L3 N n x0 x1 x8 x9 (w64 z1))))
  (
    .cond (decide (x9 < x8))
    (
      .bnd (idxC x0 x9) fun z4 =>
      .bnd (labels_find_1 N z4 x1) fun z5 =>
      .leaf (.done (w44i0enc (x9, z5 == 0)), some (x9, z5 == 0)))
    (
      .leaf (.done (w44i0enc (x9, false)), some (x9, false))))
theorem w44i0vL3 (N : Nat) (n : Nat) (x0 : List VLabel) (x1 : List UInt8) (x8 : Int) (x9 : Int) (x10 : Int) : evM TT EE (w44i0G N) w44i0lv w44i0rs 4000 true (w44i0kL3 (bodyOf 0 Tryz.f44)) (w44i0sL3 x0 x1 x8 x9 x10) = (w44i0TL3 (bodyOf 0 Tryz.f44) N n x0 x1 x8 x9 x10).map1 := by kernel_rfl
theorem w44i0nL3 (N : Nat) (n : Nat) (x0 : List VLabel) (x1 : List UInt8) (x8 : Int) (x9 : Int) (x10 : Int) : slices_BinarySearchFunc_api_Label_api_Label_string__i0_L3 N (n + 1) x0 x1 x8 x9 x10 = (w44i0TL3 (bodyOf 0 Tryz.f44) N n x0 x1 x8 x9 x10).run := by kernel_rfl
theorem w44i0oL3 {N : Nat} {r : Int × Bool} : ∀ (n : Nat) (x0 : List VLabel) (x1 : List UInt8) (x8 : Int) (x9 : Int) (x10 : Int), slices_BinarySearchFunc_api_Label_api_Label_string__i0_L3 N n x0 x1 x8 x9 x10 = some r → Ends (Y := TT) EE (w44i0G N) w44i0lv w44i0rs (fun u => u = w44i0enc r) (w44i0kL3 (bodyOf 0 Tryz.f44)) (w44i0sL3 x0 x1 x8 x9 x10)
  | 0, _, _, _, _, _, h => by cases h
  | n + 1, x0, x1, x8, x9, x10, h => tree_use (w44i0vL3 N n x0 x1 x8 x9 x10) (w44i0nL3 N n x0 x1 x8 x9 x10) h (show (w44i0TL3 (bodyOf 0 Tryz.f44) N n x0 x1 x8 x9 x10).all _ from ⟨fun _ => fun _ => fun _ => ⟨fun h => (w44i0oL3 n) _ _ _ _ _ h, fun h => (w44i0oL3 n) _ _ _ _ _ h⟩, ⟨fun _ => fun _ => retp (enc := w44i0enc) rfl, retp (enc := w44i0enc) rfl⟩⟩)
def w44i0TE0 (c : Code) (N : Nat) (x0 : List VLabel) (x1 : List UInt8) : Tree (Lf EE.T × Option (Int × Bool)) :=
  .leaf (.go (w44i0kL3 c) (w44i0sL3 x0 x1 (x0.length : Int) 0 (x0.length : Int)), slices_BinarySearchFunc_api_Label_api_Label_string__i0_L3 N N x0 x1 (x0.length : Int) 0 (x0.length : Int))
theorem w44i0vE0 (N : Nat) (x0 : List VLabel) (x1 : List UInt8) : evM TT EE (w44i0G N) w44i0lv w44i0rs 4000 true (w44i0kE0 (bodyOf 0 Tryz.f44)) (w44i0sE0 x0 x1) = (w44i0TE0 (bodyOf 0 Tryz.f44) N x0 x1).map1 := by kernel_rfl
theorem w44i0nE0 (N : Nat) (x0 : List VLabel) (x1 : List UInt8) : slices_BinarySearchFunc_api_Label_api_Label_string__i0 N x0 x1 = (w44i0TE0 (bodyOf 0 Tryz.f44) N x0 x1).run := by kernel_rfl
theorem w44i0oE0 {N : Nat} {r : Int × Bool} (x0 : List VLabel) (x1 : List UInt8) (h : slices_BinarySearchFunc_api_Label_api_Label_string__i0 N x0 x1 = some r) : Ends (Y := TT) EE (w44i0G N) w44i0lv w44i0rs (fun u => u = w44i0enc r) (w44i0kE0 (bodyOf 0 Tryz.f44)) (w44i0sE0 x0 x1) :=
  tree_use (w44i0vE0 N x0 x1) (w44i0nE0 N x0 x1) h (show (w44i0TE0 (bodyOf 0 Tryz.f44) N x0 x1).all _ from fun h => w44i0oL3 N _ _ _ _ _ h)
def w44i0us (x0 : List VLabel) (x1 : List UInt8) : List (TV EE.T) := [.a (.d (.sl (.nam 2)) x0), .a (.d .str x1), .fn 45 []]
def w44i0h0 (x0 : List VLabel) (x1 : List UInt8) : List (Nat × TB EE.T) := []
theorem slices_BinarySearchFunc_api_Label_api_Label_string__i0_ok {N : Nat} (x0 : List VLabel) (x1 : List UInt8) {r : Int × Bool} (h : slices_BinarySearchFunc_api_Label_api_Label_string__i0 N x0 x1 = some r) (ρ : Nat → Nat) (hi : Inj ρ (w44i0h0 x0 x1)) : ACalls Tryz.prog 44 ((w44i0us x0 x1).map (TV.to EE.toEnc ρ)) (hTo EE.toEnc ρ (w44i0h0 x0 x1)) (fun out H => out = .ret ((slices_BinarySearchFunc_api_Label_api_Label_string__i0_u r).to EE.toEnc ρ) ∧ H = hTo EE.toEnc ρ (w44i0hh r)) :=
  (fn_okH (bodyOf 0 Tryz.f44) 49 mixed (w44i0Gok N) Tryz.func44 (by kernel_rfl) rfl rfl rfl rfl (w44i0oE0 x0 x1 h) ρ hi).mono fun out H h => KPost.retH rfl rfl h
def slices_BinarySearchFunc_api_Label_api_Label_string__i0_h (N : Nat) (us : List (TV EE.T)) (hs : List (Nat × TB EE.T)) : XR EE.T :=
  gdX (lenX us 3) <|
  bnX (aD (.sl (.nam 2)) us 0) fun x0 =>
  bnX (aD .str us 1) fun x1 =>
  bnX (aF 45 us 2) fun c2 =>
  bnX (cbs c2) fun s2 =>
  gdX (lenX s2 0) <|
  gdX (goodIds hs []) <|
  .ret (slices_BinarySearchFunc_api_Label_api_Label_string__i0 N x0 x1) [] slices_BinarySearchFunc_api_Label_api_Label_string__i0_u (w44i0hh)
theorem slices_BinarySearchFunc_api_Label_api_Label_string__i0_hok (N : Nat) : XOk Tryz.prog EE 44 (slices_BinarySearchFunc_api_Label_api_Label_string__i0_h N) := fun us hs =>
  gdX_ok fun h1 => bnX_ok fun x0 h2 => bnX_ok fun x1 h3 => bnX_ok fun c2 h4 => bnX_ok fun s2 h5 => gdX_ok fun h6 => gdX_ok fun h7 => fun z hz => ⟨rfl, fun ρ hi => xcall (us' := w44i0us x0 x1) (h0 := w44i0h0 x0 x1) (ρ' := rhoS ρ []) ⟨aD_le h2, aD_le h3, aF_le (js := []) h4 h5 (by rw [lis0 (lenX_ok h6)];  kernel_rfl), lenX_ok h1⟩ trivial (slices_BinarySearchFunc_api_Label_api_Label_string__i0_ok x0 x1 hz _ (rhoS_inj hi h7 _ (by kernel_rfl))) (fun out H h => ⟨h.1.trans (by kernel_rfl), h.2.trans (by kernel_rfl)⟩)⟩
/-! ### gleaner/labels.find -/
def labels_find_u (r : Int × Bool) : TV EE.T := .tu [.a (.d (.int .i64) r.1), .a (.d .bool r.2)]
def w33enc (r : Int × Bool) : RL EE.T := .ret (labels_find_u r) []
def w33lv : Lvs := ⟨[], [], [], [], false, [], []⟩
def w33rs : List ResultVar := [.tmp 4, .tmp 5]
def w33G (N : Nat) : Gam EE := ⟨[], EQT, [⟨44, slices_BinarySearchFunc_api_Label_api_Label_string__i0_h N⟩], []⟩
theorem w33Gok (N : Nat) : GOk Tryz.prog TT EE (w33G N) := GOk.consx (slices_BinarySearchFunc_api_Label_api_Label_string__i0_hok N) (GOk.nil EQT_ok)
def w33kE0 (c : Code) : List It2 := [.c c]
def w33sE0 (x0 : List VLabel) (x1 : List UInt8) : TS EE.T := ⟨11, [(0, .a (.d (.sl (.nam 2)) x0)), (1, .a (.d .str x1))], [], []⟩
def w33TE0 (c : Code) (N : Nat) (x0 : List VLabel) (x1 : List UInt8) : Tree (Lf EE.T × Option (Int × Bool)) :=
  .bnd (slices_BinarySearchFunc_api_Label_api_Label_string__i0 N x0 x1) fun z1 =>
  .leaf (.done (w33enc (z1.1, z1.2)), some (z1.1, z1.2))
theorem w33vE0 (N : Nat) (x0 : List VLabel) (x1 : List UInt8) : evM TT EE (w33G N) w33lv w33rs 4000 true (w33kE0 (bodyOf 0 Tryz.f33)) (w33sE0 x0 x1) = (w33TE0 (bodyOf 0 Tryz.f33) N x0 x1).map1 := by kernel_rfl
theorem w33nE0 (N : Nat) (x0 : List VLabel) (x1 : List UInt8) : labels_find N x0 x1 = (w33TE0 (bodyOf 0 Tryz.f33) N x0 x1).run := by kernel_rfl
theorem w33oE0 {N : Nat} {r : Int × Bool} (x0 : List VLabel) (x1 : List UInt8) (h : labels_find N x0 x1 = some r) : Ends (Y := TT) EE (w33G N) w33lv w33rs (fun u => u = w33enc r) (w33kE0 (bodyOf 0 Tryz.f33)) (w33sE0 x0 x1) :=
  tree_use (w33vE0 N x0 x1) (w33nE0 N x0 x1) h (show (w33TE0 (bodyOf 0 Tryz.f33) N x0 x1).all _ from fun _ => retp (enc := w33enc) rfl)
theorem labels_find_ok {N : Nat} (x0 : List VLabel) (x1 : List UInt8) {r : Int × Bool} (h : labels_find N x0 x1 = some r) (ρ : Nat → Nat) : ACalls Tryz.prog 33 (([.a (.d (.sl (.nam 2)) x0), .a (.d .str x1)] : List (TV EE.T)).map (TV.to EE.toEnc ρ)) [] (fun out H => out = .ret ((labels_find_u r).to EE.toEnc ρ) ∧ H = []) :=
  (fn_ok (bodyOf 0 Tryz.f33) 11 mixed (w33Gok N) Tryz.func33 (by kernel_rfl) rfl rfl rfl rfl (w33oE0 x0 x1 h) ρ).mono fun out H h => KPost.ret rfl h
def labels_find_h (N : Nat) : List (TV EE.T) → PV EE.T
  | [u0, u1] => match argD (.sl (.nam 2)) u0, argD .str u1 with
    | some x0, some x1 => .opt (labels_find N x0 x1) labels_find_u
    | _, _ => .bad
  | _ => .bad
theorem labels_find_hok (N : Nat) (us : List (TV EE.T)) : (labels_find_h N us).ok fun u => ∀ ρ, ACalls Tryz.prog 33 (us.map (TV.to EE.toEnc ρ)) [] (fun out H => out = .ret (u.to EE.toEnc ρ) ∧ H = []) := by
  unfold labels_find_h
  split
  · split
    · rename_i h0 h1
      intro z hz ρ; refine acalls_le ?_ (labels_find_ok _ _ hz ρ); exact ⟨argD_le h0 ρ, argD_le h1 ρ, trivial⟩
    · trivial
  · trivial
/-! ### gleaner/labels.Value -/
def labels_Value_u (r : List UInt8) : TV EE.T := .a (.d .str r)
def w25enc (r : List UInt8) : RL EE.T := .ret (labels_Value_u r) []
def w25lv : Lvs := ⟨[], [], [], [], false, [], []⟩
def w25rs : List ResultVar := [.tmp 4]
def w25G (N : Nat) : Gam EE := ⟨[⟨33, labels_find_h N⟩], EQT, [], []⟩
theorem w25Gok (N : Nat) : GOk Tryz.prog TT EE (w25G N) := GOk.cons (labels_find_hok N) (GOk.nil EQT_ok)
def w25kE0 (c : Code) : List It2 := [.c c]
def w25sE0 (x0 : List VLabel) (x1 : List UInt8) : TS EE.T := ⟨19, [(0, .a (.d (.sl (.nam 2)) x0)), (1, .a (.d .str x1))], [], []⟩
def w25TE0 (c : Code) (N : Nat) (x0 : List VLabel) (x1 : List UInt8) : Tree (Lf EE.T × Option (List UInt8)) :=
  .bnd (labels_find N x0 x1) fun z1 =>
  .cond (z1.2)
  (
    .bnd (idxC x0 z1.1) fun z2 =>
    .leaf (.done (w25enc z2.Value), some z2.Value))
  (
    .leaf (.done (w25enc ([] : List UInt8)), some ([] : List UInt8)))
theorem w25vE0 (N : Nat) (x0 : List VLabel) (x1 : List UInt8) : evM TT EE (w25G N) w25lv w25rs 4000 true (w25kE0 (bodyOf 0 Tryz.f25)) (w25sE0 x0 x1) = (w25TE0 (bodyOf 0 Tryz.f25) N x0 x1).map1 := by kernel_rfl
theorem w25nE0 (N : Nat) (x0 : List VLabel) (x1 : List UInt8) : labels_Value N x0 x1 = (w25TE0 (bodyOf 0 Tryz.f25) N x0 x1).run := by kernel_rfl
theorem w25oE0 {N : Nat} {r : List UInt8} (x0 : List VLabel) (x1 : List UInt8) (h : labels_Value N x0 x1 = some r) : Ends (Y := TT) EE (w25G N) w25lv w25rs (fun u => u = w25enc r) (w25kE0 (bodyOf 0 Tryz.f25)) (w25sE0 x0 x1) :=
  tree_use (w25vE0 N x0 x1) (w25nE0 N x0 x1) h (show (w25TE0 (bodyOf 0 Tryz.f25) N x0 x1).all _ from fun _ => ⟨fun _ => retp (enc := w25enc) rfl, retp (enc := w25enc) rfl⟩)
theorem labels_Value_ok {N : Nat} (x0 : List VLabel) (x1 : List UInt8) {r : List UInt8} (h : labels_Value N x0 x1 = some r) (ρ : Nat → Nat) : ACalls Tryz.prog 25 (([.a (.d (.sl (.nam 2)) x0), .a (.d .str x1)] : List (TV EE.T)).map (TV.to EE.toEnc ρ)) [] (fun out H => out = .ret ((labels_Value_u r).to EE.toEnc ρ) ∧ H = []) :=
  (fn_ok (bodyOf 0 Tryz.f25) 19 mixed (w25Gok N) Tryz.func25 (by kernel_rfl) rfl rfl rfl rfl (w25oE0 x0 x1 h) ρ).mono fun out H h => KPost.ret rfl h
def labels_Value_h (N : Nat) : List (TV EE.T) → PV EE.T
  | [u0, u1] => match argD (.sl (.nam 2)) u0, argD .str u1 with
    | some x0, some x1 => .opt (labels_Value N x0 x1) labels_Value_u
    | _, _ => .bad
  | _ => .bad
theorem labels_Value_hok (N : Nat) (us : List (TV EE.T)) : (labels_Value_h N us).ok fun u => ∀ ρ, ACalls Tryz.prog 25 (us.map (TV.to EE.toEnc ρ)) [] (fun out H => out = .ret (u.to EE.toEnc ρ) ∧ H = []) := by
  unfold labels_Value_h
  split
  · split
    · rename_i h0 h1
      intro z hz ρ; refine acalls_le ?_ (labels_Value_ok _ _ hz ρ); exact ⟨argD_le h0 ρ, argD_le h1 ρ, trivial⟩
    · trivial
  · trivial
/-! ### gleaner/labels.Get -/
def labels_Get_u (r : (List UInt8) × Int) : TV EE.T := .tu [.a (.d .str r.1), .a (.d (.int .i64) r.2)]
def w12enc (r : (List UInt8) × Int) : RL EE.T := .ret (labels_Get_u r) []
def w12lv : Lvs := ⟨[], [], [], [], false, [], []⟩
def w12rs : List ResultVar := [.tmp 4, .tmp 5]
def w12G (N : Nat) : Gam EE := ⟨[⟨19, labels_IsName_h N⟩, ⟨25, labels_Value_h N⟩, ⟨18, labels_check_h N⟩], EQT, [], []⟩
theorem w12Gok (N : Nat) : GOk Tryz.prog TT EE (w12G N) := GOk.cons (labels_IsName_hok N) (GOk.cons (labels_Value_hok N) (GOk.cons (labels_check_hok N) (GOk.nil EQT_ok)))
def w12kE0 (c : Code) : List It2 := [.c c]
def w12sE0 (x0 : List VLabel) (x1 : List UInt8) : TS EE.T := ⟨19, [(0, .a (.d (.sl (.nam 2)) x0)), (1, .a (.d .str x1))], [], []⟩
def w12TE0 (c : Code) (N : Nat) (x0 : List VLabel) (x1 : List UInt8) : Tree (Lf EE.T × Option ((List UInt8) × Int)) :=
  .bnd (labels_check N ([x0] : List (List VLabel))) fun z1 =>
  .cond (z1 != 0)
  (
    .leaf (.done (w12enc (([] : List UInt8), z1)), some (([] : List UInt8), z1)))
  (
    .bnd (labels_IsName N x1) fun z2 =>
    .cond (!z2)
    (
      .leaf (.done (w12enc (([] : List UInt8), 1)), some (([] : List UInt8), 1)))
    (
      .bnd (labels_Value N x0 x1) fun z3 =>
      .leaf (.done (w12enc (z3, 0)), some (z3, 0))))
theorem w12vE0 (N : Nat) (x0 : List VLabel) (x1 : List UInt8) : evM TT EE (w12G N) w12lv w12rs 4000 true (w12kE0 (bodyOf 0 Tryz.f12)) (w12sE0 x0 x1) = (w12TE0 (bodyOf 0 Tryz.f12) N x0 x1).map1 := by kernel_rfl
theorem w12nE0 (N : Nat) (x0 : List VLabel) (x1 : List UInt8) : labels_Get N x0 x1 = (w12TE0 (bodyOf 0 Tryz.f12) N x0 x1).run := by kernel_rfl
theorem w12oE0 {N : Nat} {r : (List UInt8) × Int} (x0 : List VLabel) (x1 : List UInt8) (h : labels_Get N x0 x1 = some r) : Ends (Y := TT) EE (w12G N) w12lv w12rs (fun u => u = w12enc r) (w12kE0 (bodyOf 0 Tryz.f12)) (w12sE0 x0 x1) :=
  tree_use (w12vE0 N x0 x1) (w12nE0 N x0 x1) h (show (w12TE0 (bodyOf 0 Tryz.f12) N x0 x1).all _ from fun _ => ⟨retp (enc := w12enc) rfl, fun _ => ⟨retp (enc := w12enc) rfl, fun _ => retp (enc := w12enc) rfl⟩⟩)
theorem labels_Get_ok {N : Nat} (x0 : List VLabel) (x1 : List UInt8) {r : (List UInt8) × Int} (h : labels_Get N x0 x1 = some r) (ρ : Nat → Nat) : ACalls Tryz.prog 12 (([.a (.d (.sl (.nam 2)) x0), .a (.d .str x1)] : List (TV EE.T)).map (TV.to EE.toEnc ρ)) [] (fun out H => out = .ret ((labels_Get_u r).to EE.toEnc ρ) ∧ H = []) :=
  (fn_ok (bodyOf 0 Tryz.f12) 19 mixed (w12Gok N) Tryz.func12 (by kernel_rfl) rfl rfl rfl rfl (w12oE0 x0 x1 h) ρ).mono fun out H h => KPost.ret rfl h
def labels_Get_h (N : Nat) : List (TV EE.T) → PV EE.T
  | [u0, u1] => match argD (.sl (.nam 2)) u0, argD .str u1 with
    | some x0, some x1 => .opt (labels_Get N x0 x1) labels_Get_u
    | _, _ => .bad
  | _ => .bad
theorem labels_Get_hok (N : Nat) (us : List (TV EE.T)) : (labels_Get_h N us).ok fun u => ∀ ρ, ACalls Tryz.prog 12 (us.map (TV.to EE.toEnc ρ)) [] (fun out H => out = .ret (u.to EE.toEnc ρ) ∧ H = []) := by
  unfold labels_Get_h
  split
  · split
    · rename_i h0 h1
      intro z hz ρ; refine acalls_le ?_ (labels_Get_ok _ _ hz ρ); exact ⟨argD_le h0 ρ, argD_le h1 ρ, trivial⟩
    · trivial
  · trivial
/-! ### gleaner/gleanerref.IsLetter -/
/-! ### gleaner/gleanerref.IsNumeral -/
/-! ### gleaner/gleanerref.IsName -/
/-! ### gleaner/gleanerref.EachLabel -/
/-! ### gleaner/gleanerref.CheckLabels -/
/-! ### gleaner/gleanerref.PutLabel -/
/-! ### gleaner/gleanerref.SameLabels -/
def ref_SameLabels_u (r : Bool) : TV EE.T := .a (.d .bool r)
def w13enc (r : Bool) : RL EE.T := .ret (ref_SameLabels_u r) []
def w13lv : Lvs := ⟨[(6, ⟨[(0, false), (1, false), (5, false)], [], []⟩)], [(4, ⟨[(0, false), (1, false), (5, false)], [], []⟩)], [], [], false, [], []⟩
def w13rs : List ResultVar := [.tmp 4]
def w13G (N : Nat) : Gam EE := ⟨[], EQT, [], []⟩
theorem w13Gok (N : Nat) : GOk Tryz.prog TT EE (w13G N) := GOk.nil EQT_ok
def w13kL4 (c : Code) : List It2 := atL 4 c
def w13sL4 (x0 : List VLabel) (x1 : List VLabel) (x5 : Int) : TS EE.T := ⟨26, [(0, .a (.d (.sl (.nam 2)) x0)), (1, .a (.d (.sl (.nam 2)) x1)), (5, .a (.d (.int .i64) x5))], [], []⟩
def w13kE0 (c : Code) : List It2 := [.c c]
def w13sE0 (x0 : List VLabel) (x1 : List VLabel) : TS EE.T := ⟨26, [(0, .a (.d (.sl (.nam 2)) x0)), (1, .a (.d (.sl (.nam 2)) x1))], [], []⟩
def w13TL4 (c : Code) (N : Nat) (n : Nat) (x0 : List VLabel) (x1 : List VLabel) (x5 : Int) : Tree (Lf EE.T × Option Bool) :=
  .cond (decide (x5 < (x0.length : Int)))
  (
    .bnd (idxC x0 x5) fun z1 =>
    .bnd (idxC x1 x5) fun z2 =>
    .cond (!(beqS z1.Name z2.Name && (beqS z1.Value z2.Value && true)))
    (
      .leaf (.done (w13enc false), some false))
    (
      .leaf (.go (w13kL4 c) (w13sL4 x0 x1 (w64 (x5 + 1))), ref_SameLabels_L4 N n x0 x1 (w64 (x5 + 1)))))
  (
    .leaf (.done (w13enc true), some true))
theorem w13vL4 (N : Nat) (n : Nat) (x0 : List VLabel) (x1 : List VLabel) (x5 : Int) : evM TT EE (w13G N) w13lv w13rs 4000 true (w13kL4 (bodyOf 0 Tryz.f13)) (w13sL4 x0 x1 x5) = (w13TL4 (bodyOf 0 Tryz.f13) N n x0 x1 x5).map1 := by kernel_rfl
theorem w13nL4 (N : Nat) (n : Nat) (x0 : List VLabel) (x1 : List VLabel) (x5 : Int) : ref_SameLabels_L4 N (n + 1) x0 x1 x5 = (w13TL4 (bodyOf 0 Tryz.f13) N n x0 x1 x5).run := by kernel_rfl
theorem w13oL4 {N : Nat} {r : Bool} : ∀ (n : Nat) (x0 : List VLabel) (x1 : List VLabel) (x5 : Int), ref_SameLabels_L4 N n x0 x1 x5 = some r → Ends (Y := TT) EE (w13G N) w13lv w13rs (fun u => u = w13enc r) (w13kL4 (bodyOf 0 Tryz.f13)) (w13sL4 x0 x1 x5)
  | 0, _, _, _, h => by cases h
  | n + 1, x0, x1, x5, h => tree_use (w13vL4 N n x0 x1 x5) (w13nL4 N n x0 x1 x5) h (show (w13TL4 (bodyOf 0 Tryz.f13) N n x0 x1 x5).all _ from ⟨fun _ => fun _ => ⟨retp (enc := w13enc) rfl, fun h => (w13oL4 n) _ _ _ h⟩, retp (enc := w13enc) rfl⟩)
def w13TE0 (c : Code) (N : Nat) (x0 : List VLabel) (x1 : List VLabel) : Tree (Lf EE.T × Option Bool) :=
  .cond ((x0.length : Int) != (x1.length : Int))
  (
    .leaf (.done (w13enc false), some false))
  (
    .leaf (.go (w13kL4 c) (w13sL4 x0 x1 0), ref_SameLabels_L4 N N x0 x1 0))
theorem w13vE0 (N : Nat) (x0 : List VLabel) (x1 : List VLabel) : evM TT EE (w13G N) w13lv w13rs 4000 true (w13kE0 (bodyOf 0 Tryz.f13)) (w13sE0 x0 x1) = (w13TE0 (bodyOf 0 Tryz.f13) N x0 x1).map1 := by kernel_rfl
theorem w13nE0 (N : Nat) (x0 : List VLabel) (x1 : List VLabel) : ref_SameLabels N x0 x1 = (w13TE0 (bodyOf 0 Tryz.f13) N x0 x1).run := by kernel_rfl
theorem w13oE0 {N : Nat} {r : Bool} (x0 : List VLabel) (x1 : List VLabel) (h : ref_SameLabels N x0 x1 = some r) : Ends (Y := TT) EE (w13G N) w13lv w13rs (fun u => u = w13enc r) (w13kE0 (bodyOf 0 Tryz.f13)) (w13sE0 x0 x1) :=
  tree_use (w13vE0 N x0 x1) (w13nE0 N x0 x1) h (show (w13TE0 (bodyOf 0 Tryz.f13) N x0 x1).all _ from ⟨retp (enc := w13enc) rfl, fun h => w13oL4 N _ _ _ h⟩)
theorem ref_SameLabels_ok {N : Nat} (x0 : List VLabel) (x1 : List VLabel) {r : Bool} (h : ref_SameLabels N x0 x1 = some r) (ρ : Nat → Nat) : ACalls Tryz.prog 13 (([.a (.d (.sl (.nam 2)) x0), .a (.d (.sl (.nam 2)) x1)] : List (TV EE.T)).map (TV.to EE.toEnc ρ)) [] (fun out H => out = .ret ((ref_SameLabels_u r).to EE.toEnc ρ) ∧ H = []) :=
  (fn_ok (bodyOf 0 Tryz.f13) 26 mixed (w13Gok N) Tryz.func13 (by kernel_rfl) rfl rfl rfl rfl (w13oE0 x0 x1 h) ρ).mono fun out H h => KPost.ret rfl h
def ref_SameLabels_h (N : Nat) : List (TV EE.T) → PV EE.T
  | [u0, u1] => match argD (.sl (.nam 2)) u0, argD (.sl (.nam 2)) u1 with
    | some x0, some x1 => .opt (ref_SameLabels N x0 x1) ref_SameLabels_u
    | _, _ => .bad
  | _ => .bad
theorem ref_SameLabels_hok (N : Nat) (us : List (TV EE.T)) : (ref_SameLabels_h N us).ok fun u => ∀ ρ, ACalls Tryz.prog 13 (us.map (TV.to EE.toEnc ρ)) [] (fun out H => out = .ret (u.to EE.toEnc ρ) ∧ H = []) := by
  unfold ref_SameLabels_h
  split
  · split
    · rename_i h0 h1
      intro z hz ρ; refine acalls_le ?_ (ref_SameLabels_ok _ _ hz ρ); exact ⟨argD_le h0 ρ, argD_le h1 ρ, trivial⟩
    · trivial
  · trivial
/-! ### gleaner/gleanerlaw.labelsAre -/
end Go.Proofs.YtgmlkhfjhogdbaaGreat

/- strings.NewReplacer, walked over abstract values. -/
namespace Go.Proofs.YtgmlkhfjhogdbaaGreat
open Go.RowKit P
set_option linter.unusedSimpArgs false
set_option linter.unusedVariables false
attribute [local irreducible] AS.nf OpV ARun Stk QSem QSemA ACalls EffOp AppOk SrcOk Awp Aops
set_option maxHeartbeats 1000000
def six : List (List AV) := [[.v (.string (mkB [92]))], [.v (.string (mkB [92, 92]))], [.v (.string (mkB [34]))], [.v (.string (mkB [92, 34]))], [.v (.string (mkB [10]))], [.v (.string (mkB [92, 110]))]]
theorem six_one : RowsOne six := fun r hr u hu => by
  simp only [six, List.mem_cons, List.not_mem_nil, or_false] at hr
  rcases hr with rfl | rfl | rfl | rfl | rfl | rfl <;> (simp at hu; subst hu; rfl)
/-- A replacer that has not been used. -/
def repBox : List AV := [.v (.int .u32 0), .v (.int .i32 0), .v (.int .u32 0), .v .nilIface, .sl false 1 six]
set_option maxRecDepth 100000 in
theorem newReplacer_a : ACalls Tryz.prog 36 [.sl false 1 six] [] (fun out H => ∃ B, out = .ret (.v (.pointer (some ⟨B, 0, none⟩))) ∧ H = [(B, repBox)]) := by
  refine acalls_enter _ 12 [.tmp 2] Tryz.func36 (by kernel_rfl) rfl rfl rfl rfl ?_
  dsimp only [slotsOf]
  repeat (first
    | ((first | apply ar_un); (next => (first | (simp only [go_sem, Nat.reduceBEq, Nat.reduceEqDiff, reduceIte, reduceCtorEq, String.reduceEq, Nat.reduceAdd, Int.reduceToNat]; exact rfl))))
    | (apply ar_op' rfl rfl rfl rfl; (next => (first
     | (refine evalE_ok (T := TT) rfl ?_; (first | exact trivial | omega))
     | (apply opk ⟨_, .binOp .eql _ _ _ _, _, _, _, _⟩; first | exact opv_bin rfl rfl rfl | fail)
     | (apply opk ⟨_, .call { callee := .builtin .len, args := _, argTypes := _ }, _, _, _, _⟩; first | exact opv_len_sl (T := TT) rfl rfl rfl | fail)
     | fail)))
    | (refine arO _ ?_; first | (refine arO ⟨_, .move _, _, _, _, _⟩ ?_; first | refine ar_move_sl rfl rfl rfl rfl ?_ | fail) | fail)
    | refine ar_seq ?_
    | (refine arE ?_; refine ar_endM [0, 2, 6] rfl ?_)
    | refine ar_region ?_
    | refine ar_skip ?_
    | (refine arC (.cond _ _ _) ?_; first | (refine ar_cond_false rfl ?_ ?_; (next => (first | rfl))) | fail)
    | fail)
  refine ar_eff rfl rfl (eff_append_nil (T := TT) (m := six) (sz := 1) rfl rfl rfl (.inr ⟨_, rfl⟩) rfl rfl (fun F X a hs => adds_rel six_one X a (opV_rel' hs rfl)) (by decide) rfl ?_)
  refine ar_subO rfl (fun F X tm hs => hs.lay (.s 9)) ?_
  refine ar_op' rfl rfl rfl rfl (opv_build (T := TT) rfl rfl rfl rfl rfl) ?_
  refine ar_eff rfl rfl (eff_boxB rfl rfl rfl rfl fun k hk => ?_)
  repeat (first | ((first | apply ar_un | apply stk_un); (next => (first | (simp only [go_sem, Nat.reduceBEq, Nat.reduceEqDiff, reduceIte, reduceCtorEq, String.reduceEq, Nat.reduceAdd, Int.reduceToNat]; exact rfl)))) | (apply ar_op' rfl rfl rfl rfl; (next => (first | (refine evalE_ok (T := TT) rfl ?_; (first | exact trivial)) | fail))) | (refine arE ?_; refine ar_endM [0, 2, 6] rfl ?_) | (refine arC .ret ?_; refine ar_retM [2] ?_) | refine stk_nil ?_ | fail)
  first | exact qret_mk rfl (⟨k, rfl, rfl⟩) | (trace_state; exact qret_mk rfl (⟨k, rfl, rfl⟩))
end Go.Proofs.YtgmlkhfjhogdbaaGreat

/- labels.Text of two labels, one of them the name: what the laws begin with. -/
namespace Go.Proofs.YtgmlkhfjhogdbaaGreat
open Go.RowKit P
set_option linter.unusedSimpArgs false
set_option linter.unusedVariables false
def nameB : List UInt8 := [95, 95, 110, 97, 109, 101, 95, 95]
def upB : List UInt8 := [117, 112]
def jobB : List UInt8 := [106, 111, 98]
def partB : List UInt8 := [106, 111, 98, 61, 34, 120, 34]
def twoL : List VLabel := [⟨nameB, upB⟩, ⟨jobB, [120]⟩]
def twoA : List (List AV) := [[.v (.string (mkB nameB)), .v (.string (mkB upB))], [.v (.string (mkB jobB)), .v (.string (mkB [120]))]]
set_option maxRecDepth 100000 in
theorem check_two : ACalls Tryz.prog 18 [.sl false 1 [[.sl false 2 twoA]]] [] (fun out H => out = .ret (.v (.int .i64 0)) ∧ H = []) := labels_check_ok (N := 400) [twoL] (r := (0 : Int)) (by kernel_rfl) id
set_option maxRecDepth 100000 in
theorem value_two : ACalls Tryz.prog 25 [.sl false 2 twoA, .v (.string (mkB nameB))] [] (fun out H => out = .ret (.v (.string (mkB upB))) ∧ H = []) := labels_Value_ok (N := 400) twoL nameB (r := upB) (by kernel_rfl) id
set_option maxRecDepth 100000 in
theorem join_run : evC TT EE ⟨[], EQT, [], []⟩ ⟨[], [], [], [], false, [], []⟩ [.tmp 4] 1000 [.c (bodyOf 0 Tryz.f38)] ⟨75, [(0, .a (.d (.sl .str) ([partB] : List (List UInt8)))), (1, .a (.d .str ([44] : List UInt8)))], [], []⟩ = some (.ret (.a (.d .str partB)) []) := by kernel_rfl
set_option maxRecDepth 100000 in
theorem join_one : ACalls Tryz.prog 38 [.sl false 1 [[.v (.string (mkB partB))]], .v (.string (mkB [44]))] [] (fun out H => out = .ret (.v (.string (mkB partB))) ∧ H = []) := by
  have h := fn_okH (Y := TT) (lv := ⟨[], [], [], [], false, [], []⟩) (rs := [.tmp 4]) (K := fun r => r = (.ret (.a (.d .str partB)) [])) (bodyOf 0 Tryz.f38) 75 mixed rep_Gok Tryz.func38 (by kernel_rfl) rfl rfl rfl (us := [.a (.d (.sl .str) ([partB] : List (List UInt8))), .a (.d .str ([44] : List UInt8))]) rfl (h0 := []) (evC_ok _ _ _ _ join_run rfl) id (fun p hp => by cases hp)
  exact h.mono fun out H hp => hp.ret rfl
section
variable {P : Program} {L : List Oper} {mN : Nat → Bool} {K : AS → Prop} {k d : Nat} {o : Oper} {rest : List Oper} {σ : AS} {u : AV}
theorem n_op (hm : mN k = true) (h1 : o.dst = some d) (h2 : o.guard = none) (h3 : Nat.ble (d + 1) σ.n = true) (h4 : OpV P o σ u) (h5 : Det L mN o u) (h : NSem P L mN K (k + 1) rest (σ.put d u)) : NSem P L mN K k (o :: rest) σ := by
  unfold NSem; rw [hm]; exact ⟨d, u, h1, h2, h3, h4, h5, h⟩
theorem n_skip (hm : mN k = false) (h : NSem P L mN K (k + 1) rest σ) : NSem P L mN K k (o :: rest) σ := by
  unfold NSem; rw [hm]; exact h
theorem c_op (h : EffOp P o σ (CSem P K rest)) : CSem P K (o :: rest) σ := h
theorem c_val (hdst : o.dst = some d) (hd : Nat.ble (d + 1) σ.n = true) (hv : OpV P o σ u) (h : CSem P K rest ((σ.free d).put d u)) : CSem P K (o :: rest) σ := eff_of_opv hdst hd hv h
theorem c_le {σ' : AS} (hl : Le σ σ') (h : CSem P K (o :: rest) σ') : CSem P K (o :: rest) σ := fun F X a hs => h F X a (hs.le hl)
theorem n_end (h : K σ) : NSem P L mN K k [] σ := h
theorem c_end (h : K σ) : CSem P K [] σ := h
theorem look_h {α : Type} (k : Nat) (a : α) (r : List (Nat × α)) : look ((k, a) :: r) k = some a := by rw [look_cons, if_pos rfl]
end
def sixth : Nat → AV
  | 2 => .sl false 1 [[.v (.string (mkB partB))]]
  | _ => .v (.slice none 0 0)
def nine : Nat → Int
  | 0 => 0
  | 1 => 1
  | _ => 2
attribute [local irreducible] AS.nf OpV ARun Stk QSem QSemA ACalls EffOp AppOk SrcOk Awp Aops NSem CSem
set_option maxHeartbeats 2000000
set_option maxRecDepth 100000 in
theorem text_two : ACalls Tryz.prog 23 [.sl false 2 twoA] [] (fun out H => out = .ret (.tu [.v (.string (mkB (upB ++ [123] ++ partB ++ [125]))), .v (.int .i64 0)]) ∧ H = []) := by
  have hck := check_two
  have hval := value_two
  have hjo := join_one
  have lu : upB.length = 2 := rfl
  have lp : partB.length = 7 := rfl
  have lj : jobB.length = 3 := rfl
  have hne : jobB ≠ [95, 95, 110, 97, 109, 101, 95, 95] := by decide
  unfold twoA at hck hval ⊢
  refine acalls_enter _ 54 [.tmp 2, .tmp 3] Tryz.func23 (by kernel_rfl) rfl rfl rfl rfl ?_
  dsimp only [slotsOf]
  repeat (first
    | ((first | apply ar_un); (next => (first | (simp only [go_sem, Nat.reduceBEq, Nat.reduceEqDiff, reduceIte, reduceCtorEq, String.reduceEq, Nat.reduceAdd, Int.reduceToNat]; exact rfl))))
    | (apply ar_op' rfl rfl rfl rfl; (next => (first
     | (refine evalE_ok (T := TT) rfl ?_; (first | exact trivial))
     | (apply opk ⟨_, .binOp .neq _ _ _ _, _, _, _, _⟩; first | (refine opv_cmp_f rfl rfl rfl ?_; (next => (first | (simp only [cmpP]; omega)))) | fail)
     | (apply opk ⟨_, .call { callee := .builtin .len, args := _, argTypes := _ }, _, _, _, _⟩; first | exact opv_len_sl (T := TT) rfl rfl rfl | fail)
     | (apply opk ⟨_, .buildSlice _ _ _, _, _, _, _⟩; first | exact opv_build_slice (T := TT) rfl rfl rfl rfl rfl rfl rfl | fail)
     | fail)))
    | (refine arO _ ?_; first
     | (refine arO ⟨_, .move _, _, _, _, _⟩ ?_; first | refine ar_move_sl rfl rfl rfl rfl ?_ | fail)
     | (refine arO ⟨_, .call { callee := .value _, args := _, argTypes := _ }, _, _, _, _⟩ ?_; first
      | (apply ar_callM0 rfl (hck) rfl rfl; (next => (repeat (first | exact PArgs.nil | (apply PArgs.cons; (next => (first | exact PArg.rd rfl (Le1.rd _ _ _) rfl)))))); (next => rfl); (next => rfl); rintro _ _ ⟨rfl, rfl⟩; refine ⟨_, rfl, ?_⟩)
      | (apply ar_callM0 rfl (hval) rfl rfl; (next => (repeat (first | exact PArgs.nil | (apply PArgs.cons; (next => (first | exact PArg.rd rfl (Le1.refl _) rfl)))))); (next => rfl); (next => rfl); rintro _ _ ⟨rfl, rfl⟩; refine ⟨_, rfl, ?_⟩)
      | fail)
     | fail)
    | refine ar_seq ?_
    | (refine arE ?_; refine ar_endM [0, 2, 3, 4, 5, 6, 8, 13, 17, 18, 19, 20, 25, 46] rfl ?_)
    | refine ar_region ?_
    | refine ar_block ?_
    | refine ar_skip ?_
    | (refine arC (.cond _ _ _) ?_; first | (refine ar_cond_false rfl ?_ ?_; (next => (first | rfl))) | fail)
    | fail)
  refine ar_loop (fun y : Nat => ⟨54, [(0, .sl false 2 [[.v (.string (mkB nameB)), .v (.string (mkB upB))], [.v (.string (mkB jobB)), .v (.string (mkB [120]))]]), (5, .v (.string (mkB upB))), (6, sixth y), (17, .sl false 2 [[.v (.string (mkB nameB)), .v (.string (mkB upB))], [.v (.string (mkB jobB)), .v (.string (mkB [120]))]]), (18, .v (.int .i64 2)), (19, .v (.int .i64 (nine y)))], [], []⟩) (fun y => y ≤ 2) (fun y => 2 - y) 0 ⟨rfl, ?_, ?_, rfl⟩ (by omega) ?_
  · (repeat' (first | exact trivial | exact .refl _ | refine ⟨⟨_, rfl, ?_⟩, ?_⟩))
  · (repeat' (first | exact trivial))
  intro y hy
  obtain rfl | rfl | rfl : y = 0 ∨ y = 1 ∨ y = 2 := by omega
  · simp only [sixth, nine]
    repeat (first
      | ((first | apply ar_un); (next => (first | (simp only [go_sem, Nat.reduceBEq, Nat.reduceEqDiff, reduceIte, reduceCtorEq, String.reduceEq, Nat.reduceAdd, Int.reduceToNat]; exact rfl))))
      | (apply ar_op' rfl rfl rfl rfl; (next => (first
       | (refine evalE_ok (T := TT) rfl ?_; (first | exact trivial | omega))
       | (apply opk ⟨_, .binOp .neq _ _ _ _, _, _, _, _⟩; first | (refine opv_sne_f rfl rfl rfl ?_; (next => (first | rfl))) | fail)
       | (apply opk ⟨_, .binOp .lss _ _ _ _, _, _, _, _⟩; first | (refine opv_cmp_t rfl rfl rfl ?_; (next => (first | (simp only [cmpP]; omega)))) | fail)
       | (apply opk ⟨_, .indexAddr _ _ _, _, _, _, _⟩; first
        | (refine opv_indexaddr (T := TT) rfl rfl rfl rfl ?_ ?_; (next => (first | omega)); (next => (first | (simp [NFL] <;> omega))))
        | fail)
       | (apply opk ⟨_, .fieldAddr _ _ _, _, _, _, _⟩; first | exact opv_field_box (T := TT) rfl rfl rfl rfl rfl | fail)
       | (apply opk ⟨_, .load _ _, _, _, _, _⟩; first | exact opv_load_els (T := TT) rfl rfl rfl rfl | fail)
       | fail)))
      | (refine arO _ ?_; first
       | (refine arO ⟨_, .load _ _, _, _, _, _⟩ ?_; first | refine ar_load_own (T := TT) rfl rfl rfl rfl look_hd rfl rfl rfl rfl ?_ | fail)
       | (refine arO ⟨_, .store _ _ _, _, _, _, _⟩ ?_; first
        | (apply ar_effM rfl rfl; (next => (first
         | (apply effTo_store (T := TT) rfl; (next => (first | exact look_hd | fail)); (next => rfl); (next => rfl); (next => rfl); (next => rfl); (next => rfl); (next => rfl); (next => rfl); (next => rfl))
         | fail)))
        | fail)
       | (refine arO ⟨_, .alloc _, _, _, _, _⟩ ?_; first
        | (refine ar_eff rfl rfl (eff_alloc (T := TT) rfl rfl ?_); intro kb hkb; (repeat (have hkn := (freshK_ne hkb).1; replace hkb := (freshK_ne hkb).2)); (try have hkl := freshK_look hkb); clear hkb; refine ar_nf ?_)
        | fail)
       | fail)
      | refine ar_seq ?_
      | (refine arE ?_; refine ar_endM [0, 2, 3, 4, 5, 6, 8, 13, 17, 18, 19, 20, 25, 46] rfl ?_)
      | refine ar_region ?_
      | refine ar_block ?_
      | refine ar_skip ?_
      | refine ar_blk ?_
      | refine ar_dedup rfl ?_
      | (refine arC (.cond _ _ _) ?_; first | (refine ar_cond_true rfl ?_ ?_; (next => (first | rfl))) | (refine ar_cond_false rfl ?_ ?_; (next => (first | rfl))) | fail)
      | fail)
    refine ar_back ⟨1, ⟨rfl, ?_, ?_, rfl⟩, by omega, by omega⟩
    · (repeat' (first | exact trivial | exact .refl _ | refine ⟨⟨_, rfl, ?_⟩, ?_⟩))
    · (repeat' (first | exact trivial))
  · simp only [sixth, nine]
    repeat (first
      | ((first | apply ar_un); (next => (first | (simp only [go_sem, Nat.reduceBEq, Nat.reduceEqDiff, reduceIte, reduceCtorEq, String.reduceEq, Nat.reduceAdd, Int.reduceToNat]; exact rfl))))
      | (apply ar_op' rfl rfl rfl rfl; (next => (first
       | (apply opk ⟨_, .binOp .neq _ _ _ _, _, _, _, _⟩; first | (refine opv_sne_t rfl rfl rfl ?_; (next => (first | assumption))) | fail)
       | (apply opk ⟨_, .binOp .lss _ _ _ _, _, _, _, _⟩; first | (refine opv_cmp_t rfl rfl rfl ?_; (next => (first | (simp only [cmpP]; omega)))) | fail)
       | (apply opk ⟨_, .indexAddr _ _ _, _, _, _, _⟩; first
        | (refine opv_indexaddr (T := TT) rfl rfl rfl rfl ?_ ?_; (next => (first | omega)); (next => (first | (simp [NFL] <;> omega))))
        | fail)
       | (apply opk ⟨_, .fieldAddr _ _ _, _, _, _, _⟩; first | exact opv_field_box (T := TT) rfl rfl rfl rfl rfl | fail)
       | (apply opk ⟨_, .load _ _, _, _, _, _⟩; first | exact opv_load_els (T := TT) rfl rfl rfl rfl | fail)
       | fail)))
      | (refine arO _ ?_; first
       | (refine arO ⟨_, .load _ _, _, _, _, _⟩ ?_; first | refine ar_load_own (T := TT) rfl rfl rfl rfl look_hd rfl rfl rfl rfl ?_ | fail)
       | (refine arO ⟨_, .store _ _ _, _, _, _, _⟩ ?_; first
        | (apply ar_effM rfl rfl; (next => (first
         | (apply effTo_store (T := TT) rfl; (next => (first | exact look_hd | fail)); (next => rfl); (next => rfl); (next => rfl); (next => rfl); (next => rfl); (next => rfl); (next => rfl); (next => rfl))
         | fail)))
        | fail)
       | (refine arO ⟨_, .alloc _, _, _, _, _⟩ ?_; first
        | (refine ar_eff rfl rfl (eff_alloc (T := TT) rfl rfl ?_); intro kb hkb; (repeat (have hkn := (freshK_ne hkb).1; replace hkb := (freshK_ne hkb).2)); (try have hkl := freshK_look hkb); clear hkb; refine ar_nf ?_)
        | fail)
       | fail)
      | refine ar_seq ?_
      | (refine arE ?_; refine ar_endM [0, 2, 3, 4, 5, 6, 8, 13, 17, 18, 19, 20, 25, 46] rfl ?_)
      | refine ar_region ?_
      | refine ar_block ?_
      | refine ar_skip ?_
      | refine ar_dedup rfl ?_
      | (refine arC (.cond _ _ _) ?_; first | (refine ar_cond_true rfl ?_ ?_; (next => (first | rfl))) | fail)
      | fail)
    refine ar_drawM (st := fun _ => true) (mN := fun i => [0, 1, 2, 3, 6, 7].contains i) (cs := [4, 5, 8, 9, 10, 11, 12, 13]) mixed (mixB_ok (by kernel_rfl)) rfl (fun k c hk => ?_) ?_
    · simp only [List.filter_cons, List.filter_nil, if_true, look_cons, look_nil] at hk
      split at hk
      · cases hk; rfl
      · cases hk
    refine n_op (d := 26) (u := .v (.slice none 0 0)) rfl rfl rfl rfl (opv_move_rd (u := .v (.slice none 0 0)) rfl (.inl rfl)) ⟨rfl, .inl ⟨_, rfl⟩⟩ ?_
    refine n_op (d := 27) (u := .v (.pointer (some ⟨kb, 0, none⟩))) rfl rfl rfl rfl (opv_eq (opv_field_box (T := TT) rfl rfl rfl rfl rfl) rfl) ⟨rfl, .inl ⟨_, rfl⟩⟩ ?_
    refine n_op (d := 28) (u := .v (.string (mkB jobB))) rfl rfl rfl rfl (opv_load_box (u := .v (.string (mkB jobB))) (T := TT) rfl (look_h _ _ _) rfl rfl rfl rfl) ⟨rfl, .inl ⟨_, rfl⟩⟩ ?_
    refine n_op (d := 29) (u := .v (.string (mkB [106, 111, 98, 61, 34]))) rfl rfl rfl rfl (opv_eq (opv_cat rfl rfl (Nat.le_of_ble_eq_true (by kernel_rfl))) (by kernel_rfl)) ⟨rfl, .inl ⟨_, rfl⟩⟩ ?_
    refine n_skip rfl (n_skip rfl ?_)
    refine n_op (d := 32) (u := .v (.pointer (some ⟨kb, 1, none⟩))) rfl rfl rfl rfl (opv_eq (opv_field_box (T := TT) rfl rfl rfl rfl rfl) rfl) ⟨rfl, .inl ⟨_, rfl⟩⟩ ?_
    refine n_op (d := 33) (u := .v (.string (mkB [120]))) rfl rfl rfl rfl (opv_load_box (u := .v (.string (mkB [120]))) (T := TT) rfl (look_h _ _ _) rfl rfl rfl rfl) ⟨rfl, .inl ⟨_, rfl⟩⟩ ?_
    refine n_skip rfl (n_skip rfl (n_skip rfl (n_skip rfl (n_skip rfl (n_skip rfl (n_end ?_))))))
    refine c_le (σ' := ⟨54, [(0, .sl false 2 [[.v (.string (mkB nameB)), .v (.string (mkB upB))], [.v (.string (mkB jobB)), .v (.string (mkB [120]))]]), (5, .v (.string (mkB upB))), (17, .sl false 2 [[.v (.string (mkB nameB)), .v (.string (mkB upB))], [.v (.string (mkB jobB)), .v (.string (mkB [120]))]]), (18, .v (.int .i64 2)), (19, .v (.int .i64 1)), (26, .v (.slice none 0 0)), (29, .v (.string (mkB [106, 111, 98, 61, 34]))), (33, .v (.string (mkB [120])))], [], []⟩) ⟨rfl, ?_, ?_, rfl⟩ ?_
    · (repeat' (first | exact trivial | exact .refl _ | refine ⟨⟨_, rfl, ?_⟩, ?_⟩))
    · (repeat' (first | exact trivial))
    refine c_val (d := 30) (u := .sl true 1 six) rfl rfl (opv_eq (opv_build_slice (T := TT) rfl rfl rfl rfl rfl rfl rfl) (by kernel_rfl)) ?_
    refine c_op (eff_call (Hp := []) (Hr := []) newReplacer_a (.cons (.rd rfl (Le1.rd _ _ _) rfl) .nil) (fun i j r hi hj => oneSome_spec (ρs := [none]) rfl i j r r hi hj) (fun _ _ _ => rfl) (fun k cs hk => by simp [look_nil] at hk) (fun k cs hk => by simp [look_nil] at hk) rfl ?_)
    rintro _ _ ⟨B, rfl, rfl⟩
    refine ⟨_, rfl, ?_⟩
    refine c_op (eff_call (Hp := [(B, repA)]) (Hr := []) (repl_a B [120] [120] repX_a) (.cons (.rd rfl (Le1.refl _) rfl) (.cons (.rd rfl (Le1.refl _) rfl) .nil)) (fun i j r hi hj => oneSome_spec (ρs := [none, none]) rfl i j r r hi hj) (fun _ _ hh => by simp at hh) (fun k cs hk => hk) (fun k cs hk => by simp [look_nil] at hk) rfl ?_)
    rintro _ _ ⟨rfl, rfl⟩
    refine ⟨_, rfl, ?_⟩
    refine c_le (σ' := ⟨54, [(0, .sl false 2 [[.v (.string (mkB nameB)), .v (.string (mkB upB))], [.v (.string (mkB jobB)), .v (.string (mkB [120]))]]), (5, .v (.string (mkB upB))), (17, .sl false 2 [[.v (.string (mkB nameB)), .v (.string (mkB upB))], [.v (.string (mkB jobB)), .v (.string (mkB [120]))]]), (18, .v (.int .i64 2)), (19, .v (.int .i64 1)), (26, .v (.slice none 0 0)), (29, .v (.string (mkB [106, 111, 98, 61, 34]))), (34, .v (.string (mkB [120])))], [], []⟩) ⟨rfl, ?_, ?_, rfl⟩ ?_
    · (repeat' (first | exact trivial | exact .refl _ | refine ⟨⟨_, rfl, ?_⟩, ?_⟩))
    · (repeat' (first | exact trivial))
    refine c_val (d := 35) (u := .v (.string (mkB [106, 111, 98, 61, 34, 120]))) rfl rfl (opv_eq (opv_cat rfl rfl (Nat.le_of_ble_eq_true (by kernel_rfl))) (by kernel_rfl)) ?_
    refine c_val (d := 36) (u := .v (.string (mkB partB))) rfl rfl (opv_eq (opv_cat rfl rfl (Nat.le_of_ble_eq_true (by kernel_rfl))) (by kernel_rfl)) ?_
    refine c_val (d := 37) (u := .sl true 1 [[.v (.string (mkB partB))]]) rfl rfl (opv_eq (opv_build_slice (T := TT) rfl rfl rfl rfl rfl rfl rfl) rfl) ?_
    refine c_op (eff_append_nil (T := TT) (m := [[.v (.string (mkB partB))]]) (sz := 1) rfl rfl rfl (.inr ⟨_, rfl⟩) rfl rfl (fun F X a hs => adds_rel (fun r hr u hu => by simp at hr; subst hr; simp at hu; subst hu; rfl) X a (Rel.own (o := true) (opV_rel' hs rfl))) (by decide) rfl ?_)
    refine c_le (σ' := ⟨54, [(0, .sl false 2 [[.v (.string (mkB nameB)), .v (.string (mkB upB))], [.v (.string (mkB jobB)), .v (.string (mkB [120]))]]), (5, .v (.string (mkB upB))), (17, .sl false 2 [[.v (.string (mkB nameB)), .v (.string (mkB upB))], [.v (.string (mkB jobB)), .v (.string (mkB [120]))]]), (18, .v (.int .i64 2)), (19, .v (.int .i64 1)), (38, .sl false 1 [[.v (.string (mkB partB))]])], [], []⟩) ⟨rfl, ?_, ?_, rfl⟩ ?_
    · (repeat' (first | exact trivial | exact .refl _ | refine ⟨⟨_, rfl, ?_⟩, ?_⟩ | exact .rd _ _ _))
    · (repeat' (first | exact trivial))
    refine c_val (d := 6) (u := .sl false 1 [[.v (.string (mkB partB))]]) rfl rfl (opv_move_rd (u := .sl false 1 [[.v (.string (mkB partB))]]) rfl (.inr rfl)) ?_
    refine c_end (ar_blk ?_)
    refine ar_le (σ' := ⟨54, [(0, .sl false 2 [[.v (.string (mkB nameB)), .v (.string (mkB upB))], [.v (.string (mkB jobB)), .v (.string (mkB [120]))]]), (5, .v (.string (mkB upB))), (17, .sl false 2 [[.v (.string (mkB nameB)), .v (.string (mkB upB))], [.v (.string (mkB jobB)), .v (.string (mkB [120]))]]), (18, .v (.int .i64 2)), (19, .v (.int .i64 1)), (6, .sl false 1 [[.v (.string (mkB partB))]])], [], []⟩) ⟨rfl, ?_, ?_, rfl⟩ ?_
    · (repeat' (first | exact trivial | exact .refl _ | refine ⟨⟨_, rfl, ?_⟩, ?_⟩))
    · (repeat' (first | exact trivial))
    repeat (first | ((first | apply ar_un); (next => (first | (simp only [go_sem, Nat.reduceBEq, Nat.reduceEqDiff, reduceIte, reduceCtorEq, String.reduceEq, Nat.reduceAdd, Int.reduceToNat]; exact rfl)))) | (apply ar_op' rfl rfl rfl rfl; (next => (first | (refine evalE_ok (T := TT) rfl ?_; (first | exact trivial | omega)) | fail))) | (refine arE ?_; refine ar_endM [0, 2, 3, 4, 5, 6, 8, 13, 17, 18, 19, 20, 25, 46] rfl ?_) | refine ar_region ?_ | fail)
    refine ar_back ⟨2, ⟨rfl, ?_, ?_, rfl⟩, by omega, by omega⟩
    · (repeat' (first | exact trivial | exact .refl _ | refine ⟨⟨_, rfl, ?_⟩, ?_⟩))
    · (repeat' (first | exact trivial))
  · simp only [sixth, nine]
    repeat (first
      | ((first | apply ar_un | apply stk_un); (next => (first | (simp only [go_sem, Nat.reduceBEq, Nat.reduceEqDiff, reduceIte, reduceCtorEq, String.reduceEq, Nat.reduceAdd, Int.reduceToNat]; exact rfl))))
      | (refine arC .ret ?_; refine ar_retM0 [2, 3] ?_)
      | (refine ar_op' rfl rfl rfl rfl (opv_cat rfl rfl (Nat.le_of_ble_eq_true (by kernel_rfl))) ?_)
      | (apply ar_op' rfl rfl rfl rfl; (next => (first
       | (refine evalE_ok (T := TT) rfl ?_; (first | exact trivial))
       | (apply opk ⟨_, .binOp .eql _ _ _ _, _, _, _, _⟩; first | (refine opv_cmp_f rfl rfl rfl ?_; (next => (first | (simp only [cmpP]; simp [NFL] <;> omega)))) | fail)
       | (apply opk ⟨_, .binOp .lss _ _ _ _, _, _, _, _⟩; first | (refine opv_cmp_f rfl rfl rfl ?_; (next => (first | (simp only [cmpP]; omega)))) | fail)
       | (apply opk ⟨_, .call { callee := .builtin .len, args := _, argTypes := _ }, _, _, _, _⟩; first | exact opv_len_sl (T := TT) rfl rfl rfl | fail)
       | (apply opk ⟨_, .pick _ _ _, _, _, _, _⟩; first | (refine opv_pickf rfl ?_ rfl; (next => (first | rfl))) | fail)
       | fail)))
      | (refine arO _ ?_; first
       | (refine arO ⟨_, .move _, _, _, _, _⟩ ?_; first | refine ar_move_sl rfl rfl rfl rfl ?_ | fail)
       | (refine arO ⟨_, .call { callee := .value _, args := _, argTypes := _ }, _, _, _, _⟩ ?_; first
        | (apply ar_callM0 rfl (hjo) rfl rfl; (next => (repeat (first | exact PArgs.nil | (apply PArgs.cons; (next => (first | exact PArg.rd rfl (Le1.refl _) rfl)))))); (next => rfl); (next => rfl); rintro _ _ ⟨rfl, rfl⟩; refine ⟨_, rfl, ?_⟩)
        | fail)
       | fail)
      | refine ar_unwanted' rfl rfl rfl rfl ?_
      | refine ar_seq ?_
      | (refine arE ?_; refine ar_endM [0, 2, 3, 4, 5, 6, 8, 13, 17, 18, 19, 20, 25, 46] rfl ?_)
      | refine ar_region ?_
      | refine ar_skip ?_
      | (refine arC (.cond _ _ _) ?_; first | (refine ar_cond_false rfl ?_ ?_; (next => (first | rfl))) | fail)
      | refine ar_exit ?_
      | refine stk_b_hit ?_
      | refine stk_c_exit ?_
      | refine stk_l_exit ?_
      | refine stk_nil ?_
      | fail)
    first | exact qret_mk rfl (⟨rfl, rfl⟩) | (trace_state; exact qret_mk rfl (⟨rfl, rfl⟩))
end Go.Proofs.YtgmlkhfjhogdbaaGreat

/- labels.Text, as a callee: of the two labels that the laws begin with. -/
namespace Go.Proofs.YtgmlkhfjhogdbaaGreat
open Go.RowKit P
set_option linter.unusedVariables false
def isTwo : List VLabel → Bool
  | [a, b] => decide (a.Name = nameB) && decide (a.Value = upB) && (decide (b.Name = jobB) && decide (b.Value = ([120] : List UInt8)))
  | _ => false
theorem isTwo_eq {l : List VLabel} (h : isTwo l = true) : l = twoL := by
  unfold isTwo at h
  split at h
  · rename_i a b
    simp only [Bool.and_eq_true, decide_eq_true_eq] at h
    obtain ⟨⟨h1, h2⟩, h3, h4⟩ := h
    obtain ⟨a1, a2⟩ := a
    obtain ⟨b1, b2⟩ := b
    simp only at h1 h2 h3 h4
    subst h1 h2 h3 h4
    rfl
  · cases h
def labels_Text (N : Nat) (l : List VLabel) : Option (List UInt8 × Int) := match isTwo l with
  | true => some (upB ++ [123] ++ partB ++ [125], 0)
  | false => none
def labels_Text_u (r : List UInt8 × Int) : TV EE.T := .tu [.a (.d .str r.1), .a (.d (.int .i64) r.2)]
def labels_Text_h (N : Nat) : List (TV EE.T) → PV EE.T
  | [u0] => match argD (.sl (.nam 2)) u0 with
    | some x0 => .opt (labels_Text N x0) labels_Text_u
    | _ => .bad
  | _ => .bad
theorem labels_Text_hok (N : Nat) (us : List (TV EE.T)) : (labels_Text_h N us).ok fun u => ∀ ρ, ACalls Tryz.prog 23 (us.map (TV.to EE.toEnc ρ)) [] (fun out H => out = .ret (u.to EE.toEnc ρ) ∧ H = []) := by
  unfold labels_Text_h
  split
  · split
    · rename_i u0 x0 h0
      intro z hz ρ
      unfold labels_Text at hz
      split at hz
      · rename_i hb
        have := isTwo_eq hb
        subst this
        cases hz
        refine acalls_le (us' := ([.a (.d (.sl (.nam 2)) twoL)] : List (TV EE.T))) ⟨argD_le h0 ρ, trivial⟩ ?_
        exact text_two
      · cases hz
    · trivial
  · trivial
end Go.Proofs.YtgmlkhfjhogdbaaGreat

/- Rows that are written in place as boxes, and then claimed: from there on they stay as they are. -/
namespace Go.Proofs.YtgmlkhfjhogdbaaGreat
open Go.RowKit P
set_option linter.unusedVariables false
set_option linter.unusedSimpArgs false
theorem ar_ghost {P : Program} {Q : Exit → AS → Prop} {c : Code} {ks : List It} {σ σ' : AS} (h : ARun P Q (.c c :: ks) σ') (hs : ∀ F X tm, SimE F X σ tm → ∃ X' : GW, X'.w = X.w ∧ SimE F X' σ' tm ∧ Ext F X X') : ARun P Q (.c c :: ks) σ := fun F X a hsim D hd => by
  obtain ⟨X', hw, h1, h2⟩ := hs F X _ hsim
  have h3 := h F X' a h1 D hd
  rw [hw] at h3
  exact wp_mono h3 fun _ _ _ hp => hp.ext h2
/-- The box k is claimed as the row that slot d holds. -/
def AS.claim (σ : AS) (k d sz : Nat) (L : List (List AV)) : AS := { n := σ.n, t := (d, .sl true sz L) :: σ.t, h := σ.h.filter fun p => !(p.1 == k), e := [] }
theorem look_filter_ne {α : Type} {k j : Nat} {u : α} : ∀ {l : List (Nat × α)}, look (l.filter fun p => !(p.1 == k)) j = some u → j ≠ k ∧ look l j = some u
  | [], h => by simp [look_nil] at h
  | (a, b) :: r, h => by
    rw [List.filter_cons] at h
    by_cases ha : a = k
    · rw [if_neg (by simp [ha])] at h
      obtain ⟨h1, h2⟩ := look_filter_ne h
      refine ⟨h1, ?_⟩
      rw [look_cons, if_neg (fun e => h1 (e.trans ha))]
      exact h2
    · rw [if_pos (by simp [ha]), look_cons] at h
      by_cases hj : j = a
      · rw [if_pos hj] at h
        refine ⟨fun e => ha (hj.symm.trans e), ?_⟩
        rw [look_cons, if_pos hj]; exact h
      · rw [if_neg hj] at h
        obtain ⟨h1, h2⟩ := look_filter_ne h
        refine ⟨h1, ?_⟩
        rw [look_cons, if_neg hj]; exact h2
theorem flat_get {sz : Nat} : ∀ {L : List (List AV)} (hsz : ∀ r ∈ L, r.length = sz) {i j : Nat} {r : List AV} {u : AV}, L[i]? = some r → r[j]? = some u → L.flatten[i * sz + j]? = some u
  | [], _, i, j, r, u, h, _ => by simp at h
  | x :: L, hsz, i, j, r, u, h, hu => by
    have hx := hsz x (by simp)
    cases i with
    | zero =>
      simp at h; subst h
      rw [List.flatten_cons, Nat.zero_mul, Nat.zero_add, List.getElem?_append_left (List.getElem?_eq_some_iff.1 hu).1]
      exact hu
    | succ i =>
      have ih := flat_get (L := L) (fun r hr => hsz r (by simp [hr])) (i := i) (j := j) (by simpa using h) hu
      rw [List.flatten_cons, List.getElem?_append_right (by rw [Nat.succ_mul, hx]; omega), hx, show (i + 1) * sz + j - sz = i * sz + j by rw [Nat.succ_mul]; omega]
      exact ih
theorem flat_len {sz : Nat} : ∀ {L : List (List AV)}, (∀ r ∈ L, r.length = sz) → L.flatten.length = L.length * sz
  | [], _ => by simp
  | x :: L, h => by
    rw [List.flatten_cons, List.length_append, flat_len fun r hr => h r (by simp [hr]), h x (by simp), List.length_cons, Nat.succ_mul]; omega
theorem SimE.claim {F : Nat → Prop} {X : GW} {σ : AS} {tm : Array Value} {k d n c sz : Nat} {cs : List AV} {L : List (List AV)} {sp : List AV} (h : SimE F X σ tm) (hd : look σ.t d = some (.v (.slice (some ⟨k, 0, none⟩) n c))) (hb : look σ.h k = some cs) (hm : isMpB cs = false) (hL : L.length = n) (hsz : ∀ r ∈ L, r.length = sz) (hcs : cs = L.flatten ++ sp) (hc : cs.length = c * sz) (hnc : n ≤ c) :
    ∃ X' : GW, X'.w = X.w ∧ SimE F X' (σ.claim k d sz L) tm ∧ Ext F X X' := by
  subst hL
  obtain ⟨b1, b2, arr, el, fr, b3, b4, b5, b6⟩ := (h.box k cs hb).cells hm
  have hkl : k < X.w.heap.size := (Array.getElem?_eq_some_iff.1 b3).1
  have hfl := flat_len hsz
  have hpres : Pres X ⟨X.w, fun b => if b = k then some (L.length * sz) else X.g b⟩ := fun b m hbm => by
    have hbk : b ≠ k := fun e => by rw [e, b1] at hbm; cases hbm
    exact ⟨m, Nat.le_refl _, by show (if b = k then _ else _) = _; rw [if_neg hbk]; exact hbm, fun _ _ => rfl⟩
  have hcell : ∀ (i j : Nat) (r : List AV) (u : AV), L[i]? = some r → r[j]? = some u → ∃ x, arr[i * sz + j]? = some x ∧ Rel X u x := fun i j r u hi hj => by
    have h1 := flat_get hsz hi hj
    have h2 : cs[i * sz + j]? = some u := by rw [hcs, List.getElem?_append_left (List.getElem?_eq_some_iff.1 h1).1]; exact h1
    have h3 : i * sz + j < arr.size := by rw [b4]; exact (List.getElem?_eq_some_iff.1 h2).1
    exact ⟨arr[i * sz + j], Array.getElem?_eq_getElem h3, b6 _ _ _ h2 (Array.getElem?_eq_getElem h3)⟩
  have hv := rel_v (h.slot d _ hd)
  have hrel : ∀ o : Bool, Rel ⟨X.w, fun b => if b = k then some (L.length * sz) else X.g b⟩ (.sl o sz L) (tm.getD d undef) := fun o => by
    rw [hv]
    refine .sl o sz L k 0 c (L.length * sz) (fun i j => arr.getD (i * sz + j) undef) (by show (if k = k then _ else _) = _; rw [if_pos rfl]) (by omega) hnc (fun i r hi => hsz r (List.mem_of_getElem? hi)) (fun i j r u hi hj => ?_) (fun i j r u hi hj => ?_)
    · obtain ⟨x, h1, h2⟩ := hcell i j r u hi hj
      show X.w.cell? ⟨k, 0 + i * sz + j, none⟩ = _
      simp only [World.cell?, b3, Nat.zero_add, Array.getD_eq_getD_getElem?, h1]; rfl
    · obtain ⟨x, h1, h2⟩ := hcell i j r u hi hj
      rw [Array.getD_eq_getD_getElem?, h1]
      exact h2.mono hpres
  have hgne : ∀ {r : Root} {sz' : Nat} {l' : List (List AV)} {x : Value}, OwnOk F X sz' l' x → ∀ {a : Addr} {n' c' : Nat}, x = .slice (some a) n' c' → a.block ≠ k := fun {r sz' l' x} ho {a n' c'} hx e => by
    rcases ho with ⟨h1, _⟩ | ⟨b, cap, cs', e', fr', h1, h2, _⟩
    · rw [h1] at hx; cases hx
    · rw [h1] at hx; cases hx; rw [show b = k from e, b1] at h2; cases h2
  have hown : ∀ {sz' : Nat} {l' : List (List AV)} {x : Value}, OwnOk F X sz' l' x → OwnOk F ⟨X.w, fun b => if b = k then some (L.length * sz) else X.g b⟩ sz' l' x := fun {sz' l' x} ho => by
    rcases ho with h1 | ⟨b, cap, cs', e', fr', h1, h2, h3, h4, h5, h6⟩
    · exact .inl h1
    · have hbk : b ≠ k := fun e => by rw [e, b1] at h2; cases h2
      exact .inr ⟨b, cap, cs', e', fr', h1, by show (if b = k then _ else _) = _; rw [if_neg hbk]; exact h2, h3, h4, h5, h6⟩
  have hnew : OwnOk F ⟨X.w, fun b => if b = k then some (L.length * sz) else X.g b⟩ sz L (tm.getD d undef) := by
    refine .inr ⟨k, c, arr, el, fr, by rw [hv], by show (if k = k then _ else _) = _; rw [if_pos rfl], b3, by rw [b4, hc], fun j _ _ => b5 j, b2⟩
  have owns : ∀ r sz' l', (σ.claim k d sz L).own r = some (sz', l') → (r = .s d ∧ sz' = sz ∧ l' = L) ∨ (r ≠ .s d ∧ σ.own r = some (sz', l') ∧ ∀ k' o, r = .c k' o → k' ≠ k) := fun r sz' l' ho => by
    cases r with
    | s t =>
      simp only [AS.claim, AS.own, look_cons] at ho
      by_cases ht : t = d
      · subst ht
        rw [if_pos rfl] at ho
        simp only [own1, Option.some.injEq, Prod.mk.injEq] at ho
        exact .inl ⟨rfl, ho.1.symm, ho.2.symm⟩
      · rw [if_neg ht] at ho
        exact .inr ⟨fun e => ht (by cases e; rfl), ho, fun k' o e => by cases e⟩
    | c k' o =>
      simp only [AS.claim, AS.own] at ho
      cases hq : look (σ.h.filter fun p => !(p.1 == k)) k' with
      | none => rw [hq] at ho; cases ho
      | some cs' =>
        obtain ⟨q1, q2⟩ := look_filter_ne hq
        rw [hq] at ho
        refine .inr ⟨fun e => (by cases e), ?_, fun k2 o2 e => by cases e; exact q1⟩
        simp only [AS.own, q2]; exact ho
  refine ⟨⟨X.w, fun b => if b = k then some (L.length * sz) else X.g b⟩, rfl, ⟨⟨h.size, fun b m hbm => ?_, h.fb, fun t u hu => ?_, fun k' cs' hk' => ?_, fun x r hx => by simp [AS.claim, look_nil] at hx, fun r sz' l' ho => ?_, fun r r' s1 l1 s2 l2 a n1 c1 a' n2 c2 hne ho ho' hr hr' => ?_⟩, fun p hp => by cases hp⟩, rfl, rfl, rfl, Nat.le_refl _, fun b hF => ⟨rfl, ?_⟩, hpres⟩
  · simp only at hbm
    split at hbm
    · rename_i e; rw [e]; exact hkl
    · exact h.gb b m hbm
  · simp only [AS.claim, look_cons] at hu
    by_cases ht : t = d
    · rw [if_pos ht] at hu; cases hu; rw [ht]; exact hrel true
    · rw [if_neg ht] at hu; exact (h.slot t u hu).mono hpres
  · obtain ⟨q1, q2⟩ := look_filter_ne hk'
    exact (h.box k' cs' q2).keep ⟨rfl, by show (if k' = k then _ else _) = _; rw [if_neg q1], (h.box k' cs' q2).nF⟩ hpres
  · rcases owns r sz' l' ho with ⟨rfl, rfl, rfl⟩ | ⟨_, q2, _⟩
    · exact ⟨_, rfl, hnew⟩
    · obtain ⟨x, k1, k2⟩ := h.own r sz' l' q2
      exact ⟨x, k1, hown k2⟩
  · rcases owns r s1 l1 ho with ⟨rfl, rfl, rfl⟩ | ⟨p1, p2, _⟩
    · rcases owns r' s2 l2 ho' with ⟨rfl, _, _⟩ | ⟨q1, q2, _⟩
      · exact absurd rfl hne
      · obtain ⟨x, k1, k2⟩ := h.own r' s2 l2 q2
        rw [show rootV tm X.w r' = some x from k1] at hr'
        cases hr'
        have hk := hgne (r := r') k2 rfl
        simp only [rootV, hv, Option.some.injEq, Value.slice.injEq] at hr
        rw [← hr.1]; exact fun e => hk e.symm
    · obtain ⟨x, k1, k2⟩ := h.own r s1 l1 p2
      rcases owns r' s2 l2 ho' with ⟨rfl, _, _⟩ | ⟨q1, q2, _⟩
      · rw [show rootV tm X.w r = some x from k1] at hr
        cases hr
        have hk := hgne (r := r) k2 rfl
        simp only [rootV, hv, Option.some.injEq, Value.slice.injEq] at hr'
        rw [← hr'.1]; exact hk
      · exact h.disj r r' s1 l1 s2 l2 a n1 c1 a' n2 c2 hne p2 q2 hr hr'
  · show (if b = k then _ else _) = _
    rw [if_neg (fun e => b2 (by rw [← e]; exact hF))]
end Go.Proofs.YtgmlkhfjhogdbaaGreat

/- Rows of elements of several cells, written in place: what is copied into a box, appended to it, cleared. -/
namespace Go.Proofs.YtgmlkhfjhogdbaaGreat
open Go.RowKit P
set_option linter.unusedVariables false
set_option linter.unusedSimpArgs false
/-- The first q elements of what is added or copied: their cells. -/
structure SrcA (P : Program) (X : GW) (sz N q : Nat) (us : List AV) (x : Value) (vs : List Value) : Prop where
  len : (Builtin.lenOf x).run P X.w = .ok N X.w
  first : ∀ w', w'.heap = X.w.heap → (Builtin.firstCells sz q x).run P w' = .ok vs.toArray w'
  lv : vs.length = q * sz
  lu : us.length = q * sz
  rel : ∀ (i : Nat) u v, us[i]? = some u → vs[i]? = some v → Rel X u v
  one : ∀ v ∈ vs, v.oneCell' = true
theorem rel_app {X : GW} {u1 u2 : List AV} {v1 v2 : List Value} (hl : u1.length = v1.length) (h1 : ∀ (i : Nat) u v, u1[i]? = some u → v1[i]? = some v → Rel X u v) (h2 : ∀ (i : Nat) u v, u2[i]? = some u → v2[i]? = some v → Rel X u v) : ∀ (i : Nat) u v, (u1 ++ u2)[i]? = some u → (v1 ++ v2)[i]? = some v → Rel X u v := fun i u v hu hv => by
  by_cases hi : i < u1.length
  · rw [List.getElem?_append_left hi] at hu
    rw [List.getElem?_append_left (by omega)] at hv
    exact h1 i u v hu hv
  · rw [List.getElem?_append_right (by omega)] at hu
    rw [List.getElem?_append_right (by omega), ← hl] at hv
    exact h2 _ u v hu hv
theorem flat_inv {sz : Nat} (h0 : 0 < sz) : ∀ {L : List (List AV)}, (∀ r ∈ L, r.length = sz) → ∀ {i : Nat} {u : AV}, L.flatten[i]? = some u → ∃ r, L[i / sz]? = some r ∧ r[i % sz]? = some u
  | [], _, i, u, h => by simp at h
  | x :: L, hsz, i, u, h => by
    have hx := hsz x (by simp)
    rw [List.flatten_cons] at h
    by_cases hi : i < sz
    · rw [List.getElem?_append_left (by omega)] at h
      rw [Nat.div_eq_of_lt hi, Nat.mod_eq_of_lt hi]
      exact ⟨x, rfl, h⟩
    · rw [List.getElem?_append_right (by omega), hx] at h
      obtain ⟨r, h1, h2⟩ := flat_inv h0 (L := L) (fun r hr => hsz r (by simp [hr])) h
      have e1 : i / sz = (i - sz) / sz + 1 := by
        have := Nat.add_div_right (i - sz) h0
        rw [show i - sz + sz = i by omega] at this
        exact this
      have e2 : i % sz = (i - sz) % sz := by rw [Nat.mod_eq_sub_mod (by omega)]
      rw [e1, e2]
      exact ⟨r, by simpa using h1, h2⟩
section
variable {P : Program} {T : Tys P} {σ : AS} {X : GW}
theorem srcA_sl {o : Bool} {sz : Nat} (h0 : 0 < sz) {m : List (List AV)} {v : Value} (h : Rel X (.sl o sz m) v) (h1 : ∀ r ∈ m, ∀ u ∈ r, u.one = true) : ∃ vs, SrcA P X sz m.length m.length m.flatten v vs := by
  have hrows := rel_rows h
  obtain ⟨c, hc⟩ := addsA_sl (P := P) h fun r hr => ⟨hrows r hr, h1 r hr⟩
  refine ⟨rowCells sz m.length c, hc.len, hc.first, rowCells_length _ _ _, flat_len hrows, fun i u v hu hv => ?_, hc.one⟩
  obtain ⟨r, k1, k2⟩ := flat_inv h0 hrows hu
  have h3 := rowCells_get (sz := sz) (n := m.length) (c := c) (List.getElem?_eq_some_iff.1 k1).1 (Nat.mod_lt i h0)
  rw [show i / sz * sz + i % sz = i by rw [Nat.mul_comm]; exact Nat.div_add_mod i sz, hv] at h3
  cases h3
  exact hc.rel _ _ _ _ k1 k2
theorem srcA_box {F : Nat → Prop} {tm : Array Value} (h : SimE F X σ tm) {k off sz n c q : Nat} {cs : List AV} (hb : look σ.h k = some cs) (hm : isMpB cs = false) (hl : off + q * sz ≤ cs.length) (h1 : ∀ u ∈ (cs.drop off).take (q * sz), u.one = true) : ∃ vs, SrcA P X sz n q ((cs.drop off).take (q * sz)) (.slice (some ⟨k, off, none⟩) n c) vs := by
  obtain ⟨b1, b2, arr, el, fr, b3, b4, b5, b6⟩ := (h.box k cs hb).cells hm
  have hll : ((arr.toList.drop off).take (q * sz)).length = q * sz := by rw [List.length_take, List.length_drop, Array.length_toList, b4]; omega
  refine ⟨(arr.toList.drop off).take (q * sz), rfl, fun w' hw => ?_, hll, by rw [List.length_take, List.length_drop]; omega, fun i u v hu hv => ?_, fun v hv => ?_⟩
  · refine run_firstCells_some (P := P) w' sz q ⟨k, off, none⟩ n c _ hll (fun j v hv => ?_)
    rw [add_off]
    rw [List.getElem?_take] at hv
    split at hv
    · rw [List.getElem?_drop, Array.getElem?_toList] at hv
      simp only [World.cell?, hw, b3]; exact hv
    · cases hv
  · rw [List.getElem?_take] at hu hv
    split at hu
    · rename_i hi
      rw [if_pos hi] at hv
      rw [List.getElem?_drop] at hu hv
      exact b6 _ _ _ hu (by simpa using hv)
    · cases hu
  · obtain ⟨i, hi⟩ := List.getElem?_of_mem hv
    rw [List.getElem?_take] at hi
    split at hi
    · rename_i hiq
      rw [List.getElem?_drop, Array.getElem?_toList] at hi
      have hlt := (Array.getElem?_eq_some_iff.1 hi).1
      have hc : cs[off + i]? = some (cs[off + i]'(by omega)) := List.getElem?_eq_getElem (by omega)
      exact AV.one_rel (b6 _ _ _ hc hi) (h1 _ (List.mem_of_getElem? (i := i) (by rw [List.getElem?_take, if_pos hiq, List.getElem?_drop]; exact hc)))
    · cases hi
variable {t u ty e : TypeId} {x y : Operand} {pos : String} {af : Array Edge} {g : Option (Nat × Bool)}
theorem run_copyN {w : World} {ds ss tt elem : TypeId} {b o dLen dCap N q sz : Nat} {src : Value} {cs : List Value} {i : TypeInfo} (hu : P.underlying ds = some (.slice elem)) (hi : P.info? elem = some i) (hs : i.size = sz) (hlen : (Builtin.lenOf src).run P w = .ok N w) (hfirst : (Builtin.firstCells sz q src).run P w = .ok cs.toArray w) (hq : q = Nat.min N dLen)
    (hc : ∀ j, j < cs.length → (w.cell? ⟨b, o + j, none⟩).isSome = true) (hf : ∀ j, j < cs.length → w.frozen? ⟨b, o + j, none⟩ = false) (h1 : ∀ v ∈ cs, v.oneCell' = true) :
    (Builtin.copy_ #[ds, ss] tt #[.slice (some ⟨b, o, none⟩) dLen dCap, src]).run P w = .ok (goInt q) (w.setCells b o cs) := by
  have hst := run_storeCells_cells (P := P) b o cs 0 w (by simpa using hc) (by simpa using hf) h1
  subst hs
  simp [Builtin.copy_, run_underlying hu, hlen, sizeOf, typeInfo, hi, ← hq, hfirst, hst]
theorem run_builtin_copyN {a : Act} {w w' : World} {v1 v2 v : Value} {d : Nat} (h1 : a.eval x = v1) (h2 : a.eval y = v2) (h : (Builtin.copy_ #[t, u] ty #[v1, v2]).run P w = .ok v w') :
    (execOp a.eval ⟨some d, .call { callee := .builtin .copy, args := #[x, y], argTypes := #[t, u] }, ty, pos, af, g⟩).run P w = .ok (.value v) w' := by
  subst h1 h2
  simp [execOp, resolve, invoke, builtin, h]
/-- copy into a box. -/
theorem eff_copyN {d k off n c by_ sz N q : Nat} {cs us : List AV} (hx : opV σ x = some (.v (.slice (some ⟨k, off, none⟩) n c))) (hb : look σ.h k = some cs) (hmp : isMpB cs = false) (ht : look T.ty t = some (.slice e)) (hz : look T.sz e = some (sz, by_))
    (hsrc : ∀ F X (a : Act), SimE F X σ a.tmps → ∃ vs, SrcA P X sz N q us (a.eval y) vs) (hq : q = Nat.min N n) (hl : off + q * sz ≤ cs.length) (hpl : Plain1 us) (hd : Nat.ble (d + 1) σ.n = true)
    {R : AS → Prop} (hR : R ((σ.setc k (splice cs off us)).put d (.v (.int .i64 q)))) : EffOp P ⟨some d, .call { callee := .builtin .copy, args := #[x, y], argTypes := #[t, u] }, ty, pos, af, g⟩ σ R := by
  intro F X a hs
  have e1 := rel_v (opV_rel' hs hx)
  obtain ⟨vs, hv⟩ := hsrc F X a hs
  obtain ⟨i, hi1, hi2, hi3, zv, hi4, hi5⟩ := T.szOk _ _ _ hz
  obtain ⟨b1, b2, arr, el, fr, b3, b4, b5, b6⟩ := (hs.box k cs hb).cells hmp
  have hrun := run_copyN (P := P) (ss := u) (tt := ty) (b := k) (o := off) (dCap := c) (T.tyOk _ _ ht) hi1 hi2 hv.len (hv.first X.w rfl) hq (fun j hj => by
    rw [hv.lv] at hj
    have : off + j < arr.size := by rw [b4]; omega
    simp [World.cell?, b3, this]) (fun j _ => b5 _) hv.one
  obtain ⟨s1, s2⟩ := SimE.setc (cs := cs) (us := us) (vs := vs) hs hb (by rw [hv.lu]; exact hl) (by rw [hv.lv, hv.lu]) hv.rel (fun j sz' l v ho => by
    cases hi : us[j]? with
    | none => rw [hi] at ho; cases ho
    | some u0 => rw [hi, hpl u0 (List.mem_of_getElem? hi)] at ho; cases ho) (fun j j' p q ho => by
    cases hi : us[j]? with
    | none => rw [hi] at ho; cases ho
    | some u0 => rw [hi, hpl u0 (List.mem_of_getElem? hi)] at ho; cases ho) hmp
  refine runs_value (x := .int .i64 (q : Int)) (w' := X.w.setCells k off vs) (run_builtin_copyN e1 rfl hrun) ⟨_, _, rfl, hR, ?_, s2⟩
  exact s1.put' (by show d < σ.n; exact lt_of_ble hd) (.v _) (fun sz l h => by cases h) (fun r sz l sz' l' q n c q' n' c' h1 h2 => by cases h2)
/-- append to a slice over a box that has room. -/
theorem eff_append_in {d k n c by_ sz N : Nat} {cs us : List AV} {du : TypeDesc} (hx : opV σ x = some (.v (.slice (some ⟨k, 0, none⟩) n c))) (hb : look σ.h k = some cs) (hmp : isMpB cs = false) (ht : look T.ty t = some (.slice e)) (hu : look T.ty u = some du) (hnz : du = .string ∨ ∃ e', du = .slice e') (hz : look T.sz e = some (sz, by_))
    (hsrc : ∀ F X (a : Act), SimE F X σ a.tmps → ∃ vs, SrcA P X sz N N us (a.eval y) vs) (hroom : n + N ≤ c) (hl : n * sz + N * sz ≤ cs.length) (hpl : Plain1 us) (hd : Nat.ble (d + 1) σ.n = true)
    {R : AS → Prop} (hR : R ((σ.setc k (splice cs (n * sz) us)).put d (.v (.slice (some ⟨k, 0, none⟩) (n + N) c)))) : EffOp P ⟨some d, .call { callee := .builtin .append, args := #[x, y], argTypes := #[t, u] }, ty, pos, af, g⟩ σ R := by
  intro F X a hs
  have e1 := rel_v (opV_rel' hs hx)
  obtain ⟨vs, hv⟩ := hsrc F X a hs
  obtain ⟨i, hi1, hi2, hi3, zv, hi4, hi5⟩ := T.szOk _ _ _ hz
  obtain ⟨b1, b2, arr, el, fr, b3, b4, b5, b6⟩ := (hs.box k cs hb).cells hmp
  have hrun := run_append_in (P := P) (ty := ty) (b := k) (sLen := n) (sCap := c) (T.tyOk _ _ ht) (T.tyOk _ _ hu) hnz hi1 (x := a.eval y) (m := N) (news := vs) ⟨hv.len, by rw [hi2]; exact hv.first, by rw [hi2]; exact hv.lv⟩ hv.one hroom (fun j hj => by
    rw [hv.lv] at hj
    have : n * i.size + j < arr.size := by rw [hi2, b4]; omega
    simp [World.cell?, b3, this]) (fun j _ => b5 _)
  rw [hi2] at hrun
  obtain ⟨s1, s2⟩ := SimE.setc (cs := cs) (us := us) (vs := vs) hs hb (by rw [hv.lu]; exact hl) (by rw [hv.lv, hv.lu]) hv.rel (fun j sz' l v ho => by
    cases hi : us[j]? with
    | none => rw [hi] at ho; cases ho
    | some u0 => rw [hi, hpl u0 (List.mem_of_getElem? hi)] at ho; cases ho) (fun j j' p q ho => by
    cases hi : us[j]? with
    | none => rw [hi] at ho; cases ho
    | some u0 => rw [hi, hpl u0 (List.mem_of_getElem? hi)] at ho; cases ho) hmp
  refine runs_value (x := .slice (some ⟨k, 0, none⟩) (n + N) c) (w' := X.w.setCells k (n * sz) vs) (run_builtin_append e1 rfl hrun) ⟨_, _, rfl, hR, ?_, s2⟩
  exact s1.put' (by show d < σ.n; exact lt_of_ble hd) (.v _) (fun sz l h => by cases h) (fun r sz l sz' l' q n c q' n' c' h1 h2 => by cases h2)
/-- A new box behind a draw: a slice over its first cells, the rest spare. -/
theorem eff_newboxD {o : Oper} {d nn : Nat} {us0 : List AV} {Fact : Nat → List AV → Prop} (hdst : o.dst = some d) (hd : Nat.ble (d + 1) σ.n = true) (hp : ∀ cap sp, Fact cap sp → Plain1 (us0 ++ sp))
    (hrun : ∀ F X (a : Act), SimE F X σ a.tmps → ∃ (arr : Array Value) (el : TypeId) (cap : Nat) (sp : List AV), Fact cap sp ∧ (execOp a.eval o).run P X.w = .ok (.value (.slice (some ⟨X.w.heap.size, 0, none⟩) nn cap)) (X.w.drew.alloc (.cells arr el)) ∧ arr.size = (us0 ++ sp).length ∧ ∀ (i : Nat) u x, (us0 ++ sp)[i]? = some u → arr[i]? = some x → Rel X u x)
    {R : AS → Prop} (hR : ∀ k cap sp, FreshK k σ.h → Fact cap sp → R ((σ.box k (us0 ++ sp)).put d (.v (.slice (some ⟨k, 0, none⟩) nn cap)))) : EffOp P o σ R := by
  intro F X a hs
  obtain ⟨arr, el, cap, sp, hF, h1, h2, h3⟩ := hrun F X a hs
  have hn : New X ⟨X.w.drew.alloc (.cells arr el), X.g⟩ := ⟨rfl, rfl, rfl, by show X.w.heap.size ≤ (X.w.heap.push _).size; simp, fun b hb => ⟨by show (X.w.heap.push _)[b]? = _; rw [Array.getElem?_push, if_neg (by omega)], rfl⟩⟩
  have hgb : ∀ b n, X.g b = some n → b < (X.w.drew.alloc (.cells arr el)).heap.size := fun b n hb => by have := hs.gb b n hb; show b < (X.w.heap.push _).size; simp; omega
  have hnew := hs.new hn hgb
  have hgk : X.g X.w.heap.size = none := by
    cases hg : X.g X.w.heap.size with
    | none => rfl
    | some n => have := hs.gb _ _ hg; omega
  have hhk : (X.w.drew.alloc (.cells arr el)).heap[X.w.heap.size]? = some (.cells arr el) := by show (X.w.heap.push _)[_]? = _; simp
  have hb : BoxOk F ⟨X.w.drew.alloc (.cells arr el), X.g⟩ X.w.heap.size (us0 ++ sp) := by
    refine CellsOk.box ⟨hgk, fun hF => Nat.lt_irrefl _ (hs.fb _ hF), arr, el, (0, 0), hhk, h2, fun o => ?_, fun i u x hu hx => (h3 i u x hu hx).mono (hn.pres hs.gb)⟩
    show (X.w.drew.alloc (.cells arr el)).frozen? ⟨X.w.heap.size, o, none⟩ = false
    simp only [World.frozen?, hhk]; simp
  refine runs_value h1 ⟨⟨X.w.drew.alloc (.cells arr el), X.g⟩, _, rfl, hR X.w.heap.size cap sp (fun q hq e1 => ?_) hF, ?_, hn.ext hs.gb hs.fb⟩
  · obtain ⟨k, cs'⟩ := q
    simp only at e1
    subst e1
    have : ∀ {l : List (Nat × List AV)} {k : Nat} {c : List AV}, (k, c) ∈ l → ∃ c', look l k = some c' := by
      intro l
      induction l with
      | nil => intro k c h; cases h
      | cons p l ih =>
        intro k c h
        obtain ⟨k0, c0⟩ := p
        by_cases e2 : k = k0
        · exact ⟨c0, by rw [look_cons, if_pos e2]⟩
        · rcases List.mem_cons.1 h with h | h
          · cases h; exact absurd rfl e2
          · obtain ⟨c', h'⟩ := ih h
            exact ⟨c', by rw [look_cons, if_neg e2]; exact h'⟩
    obtain ⟨c', h'⟩ := this hq
    exact Nat.lt_irrefl _ (hs.box _ _ h').lt
  · rw [hdst]
    exact (hnew.box1 hb (hp cap sp hF)).put_new (lt_of_ble hd) (New.refl _) hgb (.v _) (FreshOk.plain rfl)
/-- append to a slice over a box that has no room: a new box. -/
theorem eff_append_new {d k n c by_ sz N : Nat} {cs us : List AV} {du : TypeDesc} (hx : opV σ x = some (.v (.slice (some ⟨k, 0, none⟩) n c))) (hb : look σ.h k = some cs) (hmp : isMpB cs = false) (ht : look T.ty t = some (.slice e)) (hu : look T.ty u = some du) (hnz : du = .string ∨ ∃ e', du = .slice e') (hz : look T.sz e = some (sz, by_)) (hb1 : 1 ≤ by_)
    (hsrc : ∀ F X (a : Act), SimE F X σ a.tmps → ∃ vs, SrcA P X sz N N us (a.eval y) vs) (hroom : c < n + N) (hl : n * sz ≤ cs.length) (ho : ∀ u ∈ cs.take (n * sz), u.one = true) (hfit : (n + N) * by_ ≤ 140737488355328) (hpl : Plain1 us) (hpc : Plain1 (cs.take (n * sz))) (hd : Nat.ble (d + 1) σ.n = true)
    {R : AS → Prop} (hR : ∀ k' cap sp, FreshK k' σ.h → (n + N ≤ cap ∧ (cs.take (n * sz) ++ us ++ sp).length = cap * sz ∧ Plain1 sp) → R ((σ.box k' (cs.take (n * sz) ++ us ++ sp)).put d (.v (.slice (some ⟨k', 0, none⟩) (n + N) cap)))) : EffOp P ⟨some d, .call { callee := .builtin .append, args := #[x, y], argTypes := #[t, u] }, ty, pos, af, g⟩ σ R := by
  refine eff_newboxD (Fact := fun cap sp => n + N ≤ cap ∧ (cs.take (n * sz) ++ us ++ sp).length = cap * sz ∧ Plain1 sp) rfl hd (fun cap sp h v hv => ?_) (fun F X a hs => ?_) hR
  · rcases List.mem_append.1 hv with hv | hv
    · rcases List.mem_append.1 hv with hv | hv
      · exact hpc v hv
      · exact hpl v hv
    · exact h.2.2 v hv
  · have e1 := rel_v (opV_rel' hs hx)
    obtain ⟨vs, hv⟩ := hsrc F X a hs
    obtain ⟨i, hi1, hi2, hi3, zv, hi4, hi5⟩ := T.szOk _ _ _ hz
    obtain ⟨os, hos⟩ := srcA_box (P := P) (sz := sz) (off := 0) (n := n) (c := c) (q := n) hs hb hmp (by omega) (by rw [List.drop_zero]; exact ho)
    rw [List.drop_zero] at hos
    have hcge := grownCap_ge X.w (n + N) c e
    have hrun := run_append_out (P := P) (ty := ty) (sLen := n) (sCap := c) (a := some ⟨k, 0, none⟩) (m := N) (olds := os) (news := vs) (x := a.eval y) (T.tyOk _ _ ht) (T.tyOk _ _ hu) hnz hi1 hi4 ⟨hv.len, by rw [hi2]; exact hv.first, by rw [hi2]; exact hv.lv⟩ (fun w' hw => by rw [hi2]; exact hos.first w' hw) hroom (by rw [hi3]; exact hfit) (by rw [hi3]; exact hb1)
    refine ⟨_, e, grownCap X.w (n + N) c e, (Builtin.zeroCells zv.cells (grownCap X.w (n + N) c e - (n + N))).toList.map .v, ⟨hcge, ?_, fun v hv => ?_⟩, run_builtin_append e1 rfl hrun, ?_, fun j u0 v hu0 hv0 => ?_⟩
    · rw [List.length_append, List.length_append, hv.lu, hos.lu, List.length_map, Array.length_toList]
      have : (Builtin.zeroCells zv.cells (grownCap X.w (n + N) c e - (n + N))).size = (grownCap X.w (n + N) c e - (n + N)) * sz := by simp [Builtin.zeroCells, hi5]
      rw [this, ← Nat.add_mul, ← Nat.add_mul]; congr 1; omega
    · obtain ⟨z, _, rfl⟩ := List.mem_map.1 hv; rfl
    · simp only [Array.size_append, List.size_toArray, List.length_append, hv.lu, hos.lu, hv.lv, hos.lv, List.length_map, Array.length_toList]
    · have hl0 : (os.toArray ++ vs.toArray ++ Builtin.zeroCells zv.cells (grownCap X.w (n + N) c e - (n + N)))[j]? = (os ++ vs ++ (Builtin.zeroCells zv.cells (grownCap X.w (n + N) c e - (n + N))).toList)[j]? := by
        rw [← Array.getElem?_toList]; simp
      rw [hl0] at hv0
      refine rel_app (by rw [List.length_append, List.length_append, hv.lu, hos.lu, hv.lv, hos.lv]) (rel_app (by rw [hos.lu, hos.lv]) hos.rel hv.rel) (fun i u v hu hv => ?_) j u0 v hu0 hv0
      rw [List.getElem?_map, hv] at hu
      cases hu
      exact .v _
end
end Go.Proofs.YtgmlkhfjhogdbaaGreat

/- Rows in boxes: cut, cleared. -/
namespace Go.Proofs.YtgmlkhfjhogdbaaGreat
open Go.RowKit P
set_option linter.unusedVariables false
set_option linter.unusedSimpArgs false
/-- Where a slice that is cut at i begins. -/
def offS (off c i sz : Nat) : Nat := if c = i then off else off + i * sz
section
variable {P : Program} {T : Tys P} {σ : AS} {t u ty e : TypeId} {x y : Operand} {pos : String} {af : Array Edge} {g : Option (Nat × Bool)}
theorem opv_slice_bx {dd : Option Tmp} {lo hi : Option Operand} {k o n c i j sz by_ : Nat} (hx : opV σ x = some (.v (.slice (some ⟨k, o, none⟩) n c))) (ht : look T.ty t = some (.slice e)) (hz : look T.sz e = some (sz, by_)) (hl : optIs σ lo .i64 (i : Int) 0) (hh : optIs σ hi .i64 (j : Int) (n : Int)) (h1 : i ≤ j) (h2 : j ≤ c) :
    OpV P ⟨dd, .slice t x lo hi none, ty, pos, af, g⟩ σ (.v (.slice (some ⟨k, offS o c i sz, none⟩) (j - i) (c - i))) := by
  refine opv_same rfl fun F X a hs => ?_
  obtain ⟨it, hi1, hi2, hi3, _⟩ := T.szOk _ _ _ hz
  have e1 := opV_val hs (by simp [Op.operands]) hx
  have hlo := opt_val (q := lo) hs (fun p hp => by subst hp; simp [Op.operands]) hl
  have hhi := opt_val (q := hi) hs (fun p hp => by subst hp; simp [Op.operands]) hh
  refine ⟨_, ?_, .v _⟩
  have hu := T.tyOk _ _ ht
  have hb := run_bounds (P := P) (isS := true) (w := X.w) hlo hhi (by omega) (by omega) (cap := c) (by omega)
  simp only [execOp, e1]
  refine run_val ?_
  simp only [Option.map_none, Instr.sliceAt, Sem.run_bind, run_underlying hu, Result.andThen_ok]
  simp only [Instr.slice, Sem.run_bind, run_underlying hu, Result.andThen_ok, hb]
  by_cases hci : c = i
  · simp [sizeOf, typeInfo, hi1, hi2, offS, hci]
  · simp [sizeOf, typeInfo, hi1, hi2, offS, hci, add_off]
theorem opv_slice3_bx {dd : Option Tmp} {lo : Option Operand} {hi mx : Operand} {k o n c i j m sz by_ : Nat} (hx : opV σ x = some (.v (.slice (some ⟨k, o, none⟩) n c))) (ht : look T.ty t = some (.slice e)) (hz : look T.sz e = some (sz, by_)) (hl : optIs σ lo .i64 (i : Int) 0) (hh : opV σ hi = some (.v (.int .i64 (j : Nat)))) (hm : opV σ mx = some (.v (.int .i64 (m : Nat)))) (h1 : i ≤ j) (h2 : j ≤ m) (h3 : m ≤ c) :
    OpV P ⟨dd, .slice t x lo (some hi) (some mx), ty, pos, af, g⟩ σ (.v (.slice (some ⟨k, offS o m i sz, none⟩) (j - i) (m - i))) := by
  refine opv_same rfl fun F X a hs => ?_
  obtain ⟨it, hi1, hi2, hi3, _⟩ := T.szOk _ _ _ hz
  have e1 := opV_val hs (by simp [Op.operands]) hx
  have e2 := opV_val hs (by cases lo <;> simp [Op.operands]) hh
  have e3 := opV_val hs (by cases lo <;> simp [Op.operands]) hm
  have hlo := opt_val (q := lo) hs (fun p hp => by subst hp; simp [Op.operands]) hl
  refine ⟨_, ?_, .v _⟩
  have hu := T.tyOk _ _ ht
  have hb := run_bounds3 (P := P) (w := X.w) (len := n) (cap := c) (lo := lo.map a.eval) (j := (j : Int)) (m := (m : Int)) (k1 := .i64) (k2 := .i64) hlo (by omega) (by omega) (by omega) (by omega)
  simp only [execOp, e1]
  refine run_val ?_
  simp only [Option.map_some, e2, e3, Instr.sliceAt, Sem.run_bind, run_underlying hu, Result.andThen_ok]
  simp only [Instr.slice, Sem.run_bind, run_underlying hu, Result.andThen_ok, hb]
  by_cases hci : m = i
  · simp [sizeOf, typeInfo, hi1, hi2, offS, hci]
  · simp [sizeOf, typeInfo, hi1, hi2, offS, hci, add_off]
theorem opv_cap_bx {dd : Option Tmp} {k o n c : Nat} (hx : opV σ x = some (.v (.slice (some ⟨k, o, none⟩) n c))) (h0 : look T.ty t = some (.slice e)) : OpV P ⟨dd, .call { callee := .builtin .cap, args := #[x], argTypes := #[t] }, ty, pos, af, g⟩ σ (.v (.int .i64 c)) := by
  refine opv_same rfl fun F X a hs => ⟨_, ?_, .v _⟩
  have h1 := opV_val hs (by simp [Op.operands, Call.operands]) hx
  have hu := T.tyOk _ _ h0
  simp [execOp, resolve, invoke, builtin, Builtin.cap_, h1, run_underlying hu, goInt]
/-- clear of a slice over a box. -/
theorem eff_clear {k off n c : Nat} {cs : List AV} {zv : Value} (hx : opV σ x = some (.v (.slice (some ⟨k, off, none⟩) n c))) (hb : look σ.h k = some cs) (hmp : isMpB cs = false) (ht : look T.ty t = some (.slice e)) (hz : look T.zr e = some zv) (hl : off + n * zv.cells.size ≤ cs.length) (hone : ∀ v ∈ (Builtin.zeroCells zv.cells n).toList, v.oneCell' = true)
    {R : AS → Prop} (hR : R (σ.setc k (splice cs off ((Builtin.zeroCells zv.cells n).toList.map .v)))) : EffOp P ⟨none, .call { callee := .builtin .clear, args := #[x], argTypes := #[t] }, ty, pos, af, g⟩ σ R := by
  intro F X a hs
  have e1 := rel_v (opV_rel' hs hx)
  obtain ⟨i, hi1, hi2⟩ := T.zrOk _ _ hz
  obtain ⟨b1, b2, arr, el, fr, b3, b4, b5, b6⟩ := (hs.box k cs hb).cells hmp
  have hzs : (Builtin.zeroCells zv.cells n).size = n * zv.cells.size := by simp [Builtin.zeroCells]
  have hst := run_storeCells_cells (P := P) k off (Builtin.zeroCells zv.cells n).toList 0 X.w (fun j hj => by
    rw [Array.length_toList, hzs] at hj
    have : off + j < arr.size := by rw [b4]; omega
    simp [World.cell?, b3, this]) (fun j hj => b5 _) hone
  simp only [Nat.add_zero] at hst
  obtain ⟨s1, s2⟩ := SimE.setc (cs := cs) (us := (Builtin.zeroCells zv.cells n).toList.map .v) (vs := (Builtin.zeroCells zv.cells n).toList) hs hb (by rw [List.length_map, Array.length_toList, hzs]; exact hl) (by simp) (fun j u v hu hv => by
    rw [List.getElem?_map, hv] at hu; cases hu; exact .v _) (fun j sz' l v ho => by
    rw [List.getElem?_map] at ho
    cases hq : (Builtin.zeroCells zv.cells n).toList[j]? with
    | none => rw [hq] at ho; cases ho
    | some u0 => rw [hq] at ho; cases ho) (fun j j' p q ho => by
    rw [List.getElem?_map] at ho
    cases hq : (Builtin.zeroCells zv.cells n).toList[j]? with
    | none => rw [hq] at ho; cases ho
    | some u0 => rw [hq] at ho; cases ho) hmp
  have hrun : (Builtin.clear_ #[t] ty #[.slice (some ⟨k, off, none⟩) n c]).run P X.w = .ok (.tuple #[]) (X.w.setCells k off (Builtin.zeroCells zv.cells n).toList) := by
    cases n with
    | zero =>
      have : (Builtin.zeroCells zv.cells 0).toList = [] := by simp [Builtin.zeroCells]
      rw [this]
      simp [Builtin.clear_, run_underlying (T.tyOk _ _ ht), World.setCells]
    | succ m =>
      simp [Builtin.clear_, run_underlying (T.tyOk _ _ ht), zeroValue, typeInfo, hi1, hi2, hst]
  refine runs_value (x := .tuple #[]) (w' := X.w.setCells k off (Builtin.zeroCells zv.cells n).toList) (by simp [execOp, resolve, invoke, builtin, e1, hrun]) ⟨_, _, rfl, hR, ?_, s2⟩
  exact s1
theorem run_append_zeros {w : World} {i : TypeInfo} {zv : Value} {sLen sCap n : Nat} {a : Option Addr} {olds : List Value} {kn kk : IntKind} {tn : TypeId} (ht : P.underlying t = some (.slice e)) (htn : P.underlying tn = some (.int kn)) (hi : P.info? e = some i) (hz : i.zero = some zv) (h0 : 0 < n) (hs : 0 < i.size)
    (hold : ∀ w', w'.heap = w.heap → (Builtin.firstCells i.size sLen (.slice a sLen sCap)).run P w' = .ok olds.toArray w') (hg : sCap < sLen + n) (hfit : (sLen + n) * i.bytes ≤ 140737488355328) (hb : 1 ≤ i.bytes) :
    (Builtin.append_ #[t, tn] ty #[.slice a sLen sCap, .int kk n]).run P w = .ok (.slice (some ⟨w.heap.size, 0, none⟩) (sLen + n) (grownCap w (sLen + n) sCap e))
      (w.drew.alloc (.cells (olds.toArray ++ Builtin.zeroCells zv.cells n ++ Builtin.zeroCells zv.cells (grownCap w (sLen + n) sCap e - (sLen + n))) e)) := by
  have hol := hold w.drew rfl
  have hn : ¬ (sLen + n ≤ sCap) := by omega
  have hle : (sLen + n) * 1 ≤ (sLen + n) * i.bytes := Nat.mul_le_mul_left _ hb
  have hle2 : n * i.bytes ≤ (sLen + n) * i.bytes := Nat.mul_le_mul_right _ (by omega)
  have h63 : ¬ (9223372036854775807 < ((sLen : Int) + (n : Int))) := by omega
  have h48 := growslice_fits hg hfit
  have h48' : ¬ (281474976710656 < Builtin.nextslicecap (sLen + n) sCap * i.bytes) := by omega
  have hw : IntKind.i64.wrap (n : Int) = n := by rw [IntKind.wrap_i64]; omega
  have h48i : ¬ (281474976710656 < (n : Int) * (i.bytes : Int)) := by rw [← Int.natCast_mul]; omega
  have hneg : ¬ ((n : Int) < 0) := by omega
  have hns : ¬ (n * i.size = 0) := Nat.mul_ne_zero (by omega) (by omega)
  simp [Builtin.append_, run_underlying ht, run_underlying htn, sizeOf, typeInfo, zeroValue, hi, hz, asInt, asIntOf, hw, hn, hneg, hns, h63, h48', h48i, Question.forced, hol, newRow, grownCap]
/-- append(s, make(S, n)...) that has no room: a new box. -/
theorem eff_append_zeros {d k n c by_ sz N : Nat} {cs : List AV} {zv : Value} {tn : TypeId} {kn kk : IntKind} (hx : opV σ x = some (.v (.slice (some ⟨k, 0, none⟩) n c))) (hb : look σ.h k = some cs) (hmp : isMpB cs = false) (hy : opV σ y = some (.v (.int kk (N : Nat)))) (ht : look T.ty t = some (.slice e)) (htn : look T.ty tn = some (.int kn)) (hz : look T.sz e = some (sz, by_)) (hzr : look T.zr e = some zv) (hb1 : 1 ≤ by_) (hN : 0 < N) (hsz : 0 < sz)
    (hroom : c < n + N) (hl : n * sz ≤ cs.length) (ho : ∀ u ∈ cs.take (n * sz), u.one = true) (hfit : (n + N) * by_ ≤ 140737488355328) (hpc : Plain1 (cs.take (n * sz))) (hd : Nat.ble (d + 1) σ.n = true)
    {R : AS → Prop} (hR : ∀ k' cap sp, FreshK k' σ.h → (n + N ≤ cap ∧ (cs.take (n * sz) ++ (Builtin.zeroCells zv.cells N).toList.map AV.v ++ sp).length = cap * sz ∧ Plain1 sp) → R ((σ.box k' (cs.take (n * sz) ++ (Builtin.zeroCells zv.cells N).toList.map AV.v ++ sp)).put d (.v (.slice (some ⟨k', 0, none⟩) (n + N) cap)))) : EffOp P ⟨some d, .call { callee := .builtin .append, args := #[x, y], argTypes := #[t, tn] }, ty, pos, af, g⟩ σ R := by
  have hplz : Plain1 ((Builtin.zeroCells zv.cells N).toList.map AV.v) := fun v hv => by obtain ⟨z, _, rfl⟩ := List.mem_map.1 hv; rfl
  refine eff_newboxD (Fact := fun cap sp => n + N ≤ cap ∧ (cs.take (n * sz) ++ (Builtin.zeroCells zv.cells N).toList.map AV.v ++ sp).length = cap * sz ∧ Plain1 sp) rfl hd (fun cap sp h v hv => ?_) (fun F X a hs => ?_) hR
  · rcases List.mem_append.1 hv with hv | hv
    · rcases List.mem_append.1 hv with hv | hv
      · exact hpc v hv
      · exact hplz v hv
    · exact h.2.2 v hv
  · have e1 := rel_v (opV_rel' hs hx)
    have e2 := rel_v (opV_rel' hs hy)
    obtain ⟨i, hi1, hi2, hi3, zv', hi4, hi5⟩ := T.szOk _ _ _ hz
    obtain ⟨i', hj1, hj2⟩ := T.zrOk _ _ hzr
    rw [hi1] at hj1; cases hj1
    rw [hi4] at hj2; cases hj2
    obtain ⟨os, hos⟩ := srcA_box (P := P) (sz := sz) (off := 0) (n := n) (c := c) (q := n) hs hb hmp (by omega) (by rw [List.drop_zero]; exact ho)
    rw [List.drop_zero] at hos
    have hcge := grownCap_ge X.w (n + N) c e
    have hzs : ∀ m, (Builtin.zeroCells zv.cells m).size = m * sz := fun m => by simp [Builtin.zeroCells, hi5]
    have hrun := run_append_zeros (P := P) (ty := ty) (sLen := n) (sCap := c) (a := some ⟨k, 0, none⟩) (n := N) (olds := os) (w := X.w) (kk := kk) (T.tyOk _ _ ht) (T.tyOk _ _ htn) hi1 hi4 hN (by rw [hi2]; exact hsz) (fun w' hw => by rw [hi2]; exact hos.first w' hw) hroom (by rw [hi3]; exact hfit) (by rw [hi3]; exact hb1)
    refine ⟨_, e, grownCap X.w (n + N) c e, (Builtin.zeroCells zv.cells (grownCap X.w (n + N) c e - (n + N))).toList.map AV.v, ⟨hcge, ?_, fun v hv => ?_⟩, run_builtin_append e1 e2 hrun, ?_, fun j u0 v hu0 hv0 => ?_⟩
    · rw [List.length_append, List.length_append, hos.lu, List.length_map, Array.length_toList, List.length_map, Array.length_toList, hzs, hzs, ← Nat.add_mul, ← Nat.add_mul]; congr 1; omega
    · obtain ⟨z, _, rfl⟩ := List.mem_map.1 hv; rfl
    · simp only [Array.size_append, List.size_toArray, List.length_append, hos.lu, hos.lv, List.length_map, Array.length_toList]
    · have hl0 : (os.toArray ++ Builtin.zeroCells zv.cells N ++ Builtin.zeroCells zv.cells (grownCap X.w (n + N) c e - (n + N)))[j]? = (os ++ (Builtin.zeroCells zv.cells N).toList ++ (Builtin.zeroCells zv.cells (grownCap X.w (n + N) c e - (n + N))).toList)[j]? := by
        rw [← Array.getElem?_toList]; simp
      rw [hl0] at hv0
      have vv : ∀ (l : List Value) (i : Nat) (u : AV) (v : Value), (l.map AV.v)[i]? = some u → l[i]? = some v → Rel X u v := fun l i u v hu hv => by
        rw [List.getElem?_map, hv] at hu
        cases hu
        exact .v _
      exact rel_app (by rw [List.length_append, List.length_append, hos.lu, hos.lv, List.length_map]) (rel_app (by rw [hos.lu, hos.lv]) hos.rel (vv _)) (vv _) j u0 v hu0 hv0
end
end Go.Proofs.YtgmlkhfjhogdbaaGreat

/- slices.Delete of labels, over a box. -/
namespace Go.Proofs.YtgmlkhfjhogdbaaGreat
open Go.RowKit P
set_option linter.unusedSimpArgs false
set_option linter.unusedVariables false
section
variable {P : Program} {L : List Oper} {mN : Nat → Bool} {K : AS → Prop} {k d : Nat} {o : Oper} {rest : List Oper} {σ : AS} {u : AV}
end
theorem isMpB_even {cs : List AV} {c : Nat} (h : cs.length = c * 2) : isMpB cs = false := by
  cases hb : isMpB cs with
  | false => rfl
  | true => obtain ⟨l, rfl⟩ := isMpB_true hb; simp at h; omega
theorem zc_len (n : Nat) : (Builtin.zeroCells (Value.agg #[.string ⟨#[]⟩, .string ⟨#[]⟩]).cells n).size = n * 2 := by simp [Builtin.zeroCells, Value.cells]
theorem zc_mem {n : Nat} {v : Value} (h : v ∈ (Builtin.zeroCells (Value.agg #[.string ⟨#[]⟩, .string ⟨#[]⟩]).cells n).toList) : v = .string ⟨#[]⟩ := by
  obtain ⟨i, hi⟩ := List.getElem?_of_mem h
  rw [Array.getElem?_toList] at hi
  simp only [Builtin.zeroCells, Value.cells, Array.getElem?_map, Option.map_eq_some_iff] at hi
  obtain ⟨q, h1, rfl⟩ := hi
  have h2 : q % 2 = 0 ∨ q % 2 = 1 := by omega
  rcases h2 with h2 | h2 <;> simp [h2]
theorem stk_o_ret {P : Program} {Q : Exit → AS → Prop} {l : List Oper} {k : Nat} {r : List Oper} {ks : List It} {σ : AS} (h : Stk P Q ks .ret σ) : Stk P Q (.o l k r :: ks) .ret σ := h
/-- Cells that may be copied. -/
def CellOk (u : AV) : Prop := u.one = true ∧ own1 (some u) = none
/-- What is left of the cells when the elements from i to j are taken out. -/
def delC (cs : List AV) (n i j : Nat) : List AV := splice (splice cs (i * 2) ((cs.drop (j * 2)).take ((n - j) * 2))) ((n - (j - i)) * 2) ((Builtin.zeroCells (Value.agg #[.string ⟨#[]⟩, .string ⟨#[]⟩]).cells (j - i)).toList.map AV.v)
attribute [local irreducible] AS.nf OpV ARun Stk QSem QSemA ACalls EffOp AppOk SrcOk Awp Aops NSem CSem
set_option maxHeartbeats 2000000
set_option maxRecDepth 100000 in
theorem delete_a (k n c i j : Nat) (cs : List AV) (hcs : cs.length = c * 2) (hnc : n ≤ c) (hij : i < j) (hj : j ≤ n) (hc : n ≤ 1000000) (hok : ∀ u ∈ cs.take (n * 2), CellOk u) :
    ACalls Tryz.prog 34 [.v (.slice (some ⟨k, 0, none⟩) n c), .v (.int .i64 (i : Nat)), .v (.int .i64 (j : Nat))] [(k, cs)] (fun out H => out = .ret (.v (.slice (some ⟨k, 0, none⟩) (n - (j - i)) c)) ∧ look H k = some (delC cs n i j)) := by
  have hmp := isMpB_even hcs
  refine acalls_enter _ 33 [.tmp 6] Tryz.func34 (by kernel_rfl) rfl rfl rfl rfl ?_
  dsimp only [slotsOf]
  repeat (first
    | ((first | apply ar_un); (next => (first | (simp only [go_sem, Nat.reduceBEq, Nat.reduceEqDiff, reduceIte, reduceCtorEq, String.reduceEq, Nat.reduceAdd, Int.reduceToNat]; exact rfl))))
    | ((first | apply ar_op' rfl rfl rfl rfl); (next => exact opv_eq (opv_slice3_bx (T := TT) (sz := 2) (i := i) (j := j) (m := n) rfl rfl rfl rfl rfl rfl (by omega) hj hnc) rfl))
    | (apply ar_op' rfl rfl rfl rfl; (next => (first
     | (refine evalE_ok (T := TT) rfl ?_; (first | exact trivial))
     | (apply opk ⟨_, .binOp .eql _ _ _ _, _, _, _, _⟩; first | (refine opv_cmp_f rfl rfl rfl ?_; (next => (first | (simp only [cmpP]; omega)))) | fail)
     | (apply opk ⟨_, .call { callee := .builtin .len, args := _, argTypes := _ }, _, _, _, _⟩; first | exact opv_len_nil (T := TT) rfl rfl rfl | fail)
     | fail)))
    | refine ar_seq ?_
    | (refine arE ?_; refine ar_endM [0, 1, 2, 6, 7, 16] rfl ?_)
    | refine ar_region ?_
    | refine ar_skip ?_
    | (refine arC (.cond _ _ _) ?_; first | (refine ar_cond_false rfl ?_ ?_; (next => (first | rfl))) | fail)
    | fail)
  refine ar_drawM (st := fun _ => false) (mN := fun i => [0, 1, 2, 3, 4, 5].contains i) (cs := [6, 7]) mixed (mixB_ok (by kernel_rfl)) rfl (fun k c hk => ?_) ?_
  · simp [look_nil] at hk
  refine n_op (d := 20) (u := .v (.slice (some ⟨k, 0, none⟩) n c)) rfl rfl rfl rfl (opv_move rfl rfl) ⟨rfl, .inl ⟨_, rfl⟩⟩ ?_
  refine n_op (d := 21) (u := .v (.int .i64 (i : Nat))) rfl rfl rfl rfl (opv_move rfl rfl) ⟨rfl, .inl ⟨_, rfl⟩⟩ ?_
  refine n_op (d := 22) (u := .v (.slice (some ⟨k, 0, none⟩) i c)) rfl rfl rfl rfl (opv_eq (opv_slice_bx (T := TT) (sz := 2) (i := 0) (j := i) rfl rfl rfl (by rfl) (by rfl) (by omega) (by omega)) (by simp [offS])) ⟨rfl, .inl ⟨_, rfl⟩⟩ ?_
  refine n_op (d := 23) (u := .v (.slice (some ⟨k, 0, none⟩) n c)) rfl rfl rfl rfl (opv_move rfl rfl) ⟨rfl, .inl ⟨_, rfl⟩⟩ ?_
  refine n_op (d := 24) (u := .v (.int .i64 (j : Nat))) rfl rfl rfl rfl (opv_move rfl rfl) ⟨rfl, .inl ⟨_, rfl⟩⟩ ?_
  refine n_op (d := 25) (u := .v (.slice (some ⟨k, offS 0 c j 2, none⟩) (n - j) (c - j))) rfl rfl rfl rfl (opv_slice_bx (T := TT) (sz := 2) (i := j) (j := n) rfl rfl rfl (by rfl) (by rfl) hj hnc) ⟨rfl, .inl ⟨_, rfl⟩⟩ ?_
  refine n_skip rfl (n_skip rfl (n_end ?_))
  have hoff : offS 0 c j 2 + (n - j) * 2 ≤ cs.length := by unfold offS; split <;> omega
  have hsrc : (cs.drop (offS 0 c j 2)).take ((n - j) * 2) = (cs.drop (j * 2)).take ((n - j) * 2) := by
    unfold offS; split
    · have : n - j = 0 := by omega
      rw [this]; simp
    · rw [Nat.zero_add]
  have hmem : ∀ u ∈ (cs.drop (j * 2)).take ((n - j) * 2), u ∈ cs.take (n * 2) := fun u hu => by
    obtain ⟨x, hx⟩ := List.getElem?_of_mem hu
    rw [List.getElem?_take] at hx
    split at hx
    · rw [List.getElem?_drop] at hx
      exact List.mem_of_getElem? (i := j * 2 + x) (by rw [List.getElem?_take, if_pos (by omega)]; exact hx)
    · cases hx
  refine c_op (eff_append_in (T := TT) (sz := 2) (N := n - j) (n := i) (us := (cs.drop (j * 2)).take ((n - j) * 2)) rfl (look_h _ _ _) hmp rfl rfl (.inr ⟨_, rfl⟩) rfl (fun F X a hs => ?_) (by omega) (by omega) (fun u hu => (hok u (hmem u hu)).2) rfl ?_)
  · have := srcA_box (P := Tryz.prog) (sz := 2) (off := offS 0 c j 2) (n := n - j) (c := c - j) (q := n - j) hs (look_h _ _ _) hmp hoff (by rw [hsrc]; exact fun u hu => (hok u (hmem u hu)).1)
    rw [hsrc] at this
    rw [rel_v (opV_rel' (x := .tmp 25) hs (u := .v (.slice (some ⟨k, offS 0 c j 2, none⟩) (n - j) (c - j))) rfl)]
    exact this
  refine c_val (d := 0) (u := .v (.slice (some ⟨k, 0, none⟩) (i + (n - j)) c)) rfl rfl (opv_assign rfl rfl) (c_end ?_)
  refine ar_nop (ar_le (σ' := ⟨33, [(0, .v (.slice (some ⟨k, 0, none⟩) (i + (n - j)) c)), (7, .v (.int .i64 (n : Nat)))], [(k, splice cs (i * 2) ((cs.drop (j * 2)).take ((n - j) * 2)))], []⟩) ⟨rfl, ?_, ?_, rfl⟩ ?_)
  · (repeat' (first | exact trivial | exact .refl _ | refine ⟨⟨_, rfl, ?_⟩, ?_⟩))
  · (repeat' (first | exact trivial | exact LeL.refl _ | refine ⟨⟨_, look_hd, ?_⟩, ?_⟩))
  repeat (first | ((first | apply ar_op' rfl rfl rfl rfl); (next => exact opv_eq (opv_slice_bx (T := TT) (sz := 2) (i := i + (n - j)) (j := n) rfl rfl rfl (by rfl) (by rfl) (by omega) hnc) rfl)) | (apply ar_op' rfl rfl rfl rfl; (next => (first | (refine evalE_ok (T := TT) rfl ?_; (first | exact trivial)) | (apply opk ⟨_, .call { callee := .builtin .len, args := _, argTypes := _ }, _, _, _, _⟩; first | exact opv_len_nil (T := TT) rfl rfl rfl | fail) | fail))) | refine ar_seq ?_ | refine ar_region ?_ | fail)
  have hsp : (splice cs (i * 2) ((cs.drop (j * 2)).take ((n - j) * 2))).length = c * 2 := by
    rw [splice_len (by rw [List.length_take, List.length_drop]; omega), hcs]
  refine ar_eff rfl rfl (eff_clear (T := TT) (zv := .agg #[.string ⟨#[]⟩, .string ⟨#[]⟩]) rfl (look_h _ _ _) ?_ rfl rfl ?_ ?_ ?_)
  · exact isMpB_even hsp
  · rw [hsp]; unfold offS; split <;> simp [Value.cells] <;> omega
  · intro v hv
    rw [zc_mem hv]; rfl
  repeat (first | ((first | apply ar_un | apply stk_un); (next => (first | (simp only [go_sem, Nat.reduceBEq, Nat.reduceEqDiff, reduceIte, reduceCtorEq, String.reduceEq, Nat.reduceAdd, Int.reduceToNat]; exact rfl)))) | (apply ar_op' rfl rfl rfl rfl; (next => (first | (refine evalE_ok (T := TT) rfl ?_; (first | exact trivial)) | fail))) | refine ar_seq ?_ | (refine arE ?_; refine ar_endM [0, 1, 2, 6, 7, 16] rfl ?_) | refine ar_region ?_ | refine ar_dedup rfl ?_ | (refine arC .ret ?_; refine ar_retM [6] ?_) | fail)
  refine stk_o_ret (stk_nil ⟨_, rfl, ?_, ?_⟩)
  · rw [show i + (n - j) = n - (j - i) by omega]
  · rw [look_h]
    have e1 : offS 0 c (i + (n - j)) 2 = (n - (j - i)) * 2 := by unfold offS; split <;> omega
    have e2 : n - (i + (n - j)) = j - i := by omega
    simp only [delC, splice, e1, e2, Value.cells]
end Go.Proofs.YtgmlkhfjhogdbaaGreat

/- slices.overlaps of a row and a box: never. -/
namespace Go.Proofs.YtgmlkhfjhogdbaaGreat
open Go.RowKit P
set_option linter.unusedSimpArgs false
set_option linter.unusedVariables false
theorem run_overlaps_box {P : Program} (w : World) (tS tR e : TypeId) (ht : P.underlying tS = some (.slice e)) (size : Nat) (hz : ∀ w, (Go.sizeOf e).run P w = .ok size w)
    (a b : Addr) (la ca lb cb : Nat) (hne : a.block ≠ b.block) (tA tB : TypeId) (kA kB : Nat) (hsa : w.shape? a.block = some (tA, kA)) (hsb : w.shape? b.block = some (tB, kB)) (hkA : kA ≠ 0)
    (hfb : w.frozen? b = false) (hfe : w.frozen? { block := b.block, off := kB } = false) :
    (Extern.SlicesOverlaps.overlaps #[tS, tS] #[tR] #[.slice (some a) la ca, .slice (some b) lb cb]).run P w = .ok (.bool false) w := by
  have hnb : (a.block != b.block) = true := by simpa using hne
  have hnb' : (a.block == b.block) = false := by simpa using hne
  change Sem.run P (α := Value) (do
    let some t := (#[tS, tS] : Array TypeId)[0]? | stuck "slices.overlaps: no parameter types"
    let .slice elem ← underlying t | stuck "slices.overlaps: slice type expected"
    let size ← sizeOf elem
    match (some a : Option Addr), (some b : Option Addr) with
    | some a, some b =>
      if la = 0 ∨ lb = 0 ∨ size = 0 then pure (Value.bool false)
      else if a.block != b.block && (← frozen a) && (← frozen b) then unsupported .addressObserved
      else do
        if a.block != b.block then do
          noView a; noView b
          if ← mayBeOne a b then return Value.bool ((← choose (.extern "sameAddr.stringBytes" 2)) == 1)
        pure (Value.bool (a.block == b.block && a.off < b.off + lb * size && b.off < a.off + la * size))
    | _, _ => pure (Value.bool false)) w = _
  by_cases h0 : la = 0 ∨ lb = 0 ∨ size = 0
  · simp [run_underlying ht, hz, h0]
  · cases kA with
    | zero => exact absurd rfl hkA
    | succ kA =>
      cases h1 : w.frozen? a <;> cases h2 : w.frozen? { block := a.block, off := kA + 1 } <;>
      simp [run_underlying ht, hz, h0, hnb, hnb', frozen, noView, viewAt, mayBeOne, stringish, shape, Sem.run, hsa, hsb, hfb, hfe, h1, h2]
set_option maxRecDepth 100000 in
theorem opv_overlaps {σ : AS} {d : Option Nat} {ats : Array TypeId} {ty : TypeId} {pos : String} {af : Array Edge} {g : Option (Nat × Bool)} {x y : Operand} {o : Bool} {r : List AV} {L : List (List AV)} {k off n c : Nat} {cs : List AV} (hx : opV σ x = some (.sl o 2 (r :: L))) (hr : r.length = 2) (hy : opV σ y = some (.v (.slice (some ⟨k, off, none⟩) n c))) (hb : look σ.h k = some cs) (hm : isMpB cs = false) :
    OpV Tryz.prog ⟨d, .call { callee := .value (.func 46), args := #[x, y], argTypes := ats }, ty, pos, af, g⟩ σ (.v (.bool false)) := by
  refine opv_same rfl fun F X a hs => ⟨_, ?_, .v _⟩
  have e2 := opV_val hs (by simp [Op.operands, Call.operands]) hy
  have e1 := opV_rel hs (by simp [Op.operands, Call.operands]) hx
  obtain ⟨b1, b2, arr, el, fr, b3, b4, b5, b6⟩ := (hs.box k cs hb).cells hm
  rcases rel_sl e1 with ⟨_, h⟩ | ⟨b, o', cap, n', h1, h2, h3, h4, h5⟩
  · cases h
  · have hne : b ≠ k := fun e => by rw [e, b1] at h2; cases h2
    obtain ⟨cc, _, h6, _⟩ := h5
    have h7 := h6 0 0 r (r[0]'(by omega)) rfl (List.getElem?_eq_getElem (by omega))
    have h8 : ∃ arr2 el2 fr2, X.w.heap[b]? = some (Obj.cells arr2 el2 fr2) ∧ arr2.size ≠ 0 := by
      simp only [World.cell?] at h7
      split at h7
      · rename_i arr2 el2 fr2 hh
        refine ⟨arr2, el2, fr2, hh, fun e => ?_⟩
        simp only [Option.isSome_none, Bool.false_eq_true, if_false] at h7
        have := (Array.getElem?_eq_some_iff.1 h7).1
        omega
      · cases h7
    obtain ⟨arr2, el2, fr2, h9, h10⟩ := h8
    obtain ⟨it, i1, i2, _⟩ := TT.szOk 42 2 32 rfl
    have hrun : (callFunc 46 #[.slice (some ⟨b, o', none⟩) (L.length + 1) cap, .slice (some ⟨k, off, none⟩) n c]).run Tryz.prog X.w = .ok (.value (.bool false)) X.w := by
      rw [run_callFunc_extern Tryz.func46 (by kernel_rfl) (by kernel_rfl) (by kernel_rfl) (e := Extern.SlicesOverlaps.overlaps #[22, 22] #[4]) (by kernel_rfl)]
      rw [run_overlaps_box X.w 22 4 42 (TT.tyOk 22 (.slice 42) rfl) 2 (fun w => by simp [sizeOf, typeInfo, i1, i2]) ⟨b, o', none⟩ ⟨k, off, none⟩ (L.length + 1) cap n c hne el2 el arr2.size arr.size (by simp only [World.shape?, h9]) (by simp only [World.shape?, b3]) h10 (b5 _) (b5 _)]
      rfl
    simp only [List.length_cons] at h1
    rw [execOp_call_go]
    simp [e2, h1, hrun]
end Go.Proofs.YtgmlkhfjhogdbaaGreat
