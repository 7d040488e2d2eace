import Derived.Test.YtmjpdbbjiipnfaaGreatBk05
import Derived.Test.YtmjpdbbjiipnfaaGreatProg
import Derived.Test.YtmjpdbbjiipnfaaGreatRows
import Derived.Tactics
import Derived.Tactics2
import Derived.Defers
import Derived.Laws.Pointers
import Derived.Laws.LoneSync
import Derived.RegionTactic
import Derived.RegionCalls
import Derived.ChangeAlike
import Derived.WalkKit
import Derived.WalkSpells
import Derived.WalkLawsBesides
import Derived.Lib.VarintBits
import Derived.Lib.BufferRead
import Derived.Lib.Hide
import Derived.Laws.BytesString
import Derived.LoopTactic
import Derived.Laws.RangeAny
set_option linter.unusedSimpArgs false
set_option linter.unusedVariables false
namespace Go.Proofs.YtmjpdbbjiipnfaaGreat
open Go.RowKit P
def TTy : List (Nat × TypeDesc) := [(1, (.func #[] #[] false)), (2, (.int .i64)), (3, (.int .i64)), (4, .bool), (5, (.int .u8)), (6, (.int .u8)), (9, .string), (10, .string), (11, .string), (12, (.int .u64)), (15, (.pointer 216)), (16, (.pointer 219)), (17, (.pointer 227)), (20, (.interface #[])), (21, (.int .i32)), (22, (.slice 40)), (23, (.int .i64)), (25, (.func #[22] #[22, 23] false)), (26, (.func #[22, 4] #[23] false)), (27, (.func #[22] #[22] false)), (28, (.func #[] #[4] false)), (29, (.func #[22, 23, 23, 22] #[4] false)), (30, (.func #[22] #[4] false)), (31, (.slice 55)), (32, (.struct #[{ name := "Err", type := 23, offset := 0, embedded := false, tag := "", pkgPath := "", byteOffset := 0 }, { name := "At", type := 3, offset := 1, embedded := false, tag := "", pkgPath := "", byteOffset := 8 }])), (33, (.struct #[{ name := "Err", type := 23, offset := 0, embedded := false, tag := "", pkgPath := "", byteOffset := 0 }, { name := "At", type := 3, offset := 1, embedded := false, tag := "", pkgPath := "", byteOffset := 8 }])), (35, (.func #[9] #[31, 33] false)), (36, (.func #[31, 31] #[4] false)), (37, (.func #[9] #[4] false)), (38, (.func #[22, 41] #[22] false)), (39, (.struct #[{ name := "Name", type := 9, offset := 0, embedded := false, tag := "", pkgPath := "", byteOffset := 0 }, { name := "Value", type := 9, offset := 1, embedded := false, tag := "", pkgPath := "", byteOffset := 16 }])), (40, (.struct #[{ name := "Name", type := 9, offset := 0, embedded := false, tag := "", pkgPath := "", byteOffset := 0 }, { name := "Value", type := 9, offset := 1, embedded := false, tag := "", pkgPath := "", byteOffset := 16 }])), (41, (.func #[40] #[4] false)), (42, (.func #[22, 43] #[] false)), (43, (.func #[40, 40] #[3] false)), (44, (.func #[22, 9, 9] #[22] false)), (46, (.func #[22] #[9, 23] false)), (47, (.int .u64)), (49, (.func #[22] #[47, 23] false)), (50, (.func #[22, 22] #[4] false)), (51, (.func #[9, 60] #[33] false)), (52, (.pointer 89)), (53, (.func #[5] #[22] false)), (54, (.struct #[{ name := "Labels", type := 22, offset := 0, embedded := false, tag := "", pkgPath := "", byteOffset := 0 }])), (55, (.struct #[{ name := "Labels", type := 22, offset := 0, embedded := false, tag := "", pkgPath := "", byteOffset := 0 }])), (56, (.func #[23] #[] false)), (57, (.func #[31, 59] #[4] false)), (58, (.func #[55, 55] #[3] false)), (59, (.func #[55] #[4] false)), (60, (.func #[52] #[] false)), (61, (.slice 64)), (62, (.func #[9] #[61] false)), (63, (.pointer 66)), (64, (.slice 3)), (65, (.struct #[{ name := "S", type := 9, offset := 0, embedded := false, tag := "", pkgPath := "", byteOffset := 0 }, { name := "At", type := 3, offset := 1, embedded := false, tag := "", pkgPath := "", byteOffset := 16 }, { name := "Begun", type := 3, offset := 2, embedded := false, tag := "", pkgPath := "", byteOffset := 24 }, { name := "F", type := 33, offset := 3, embedded := false, tag := "", pkgPath := "", byteOffset := 32 }])), (66, (.struct #[{ name := "S", type := 9, offset := 0, embedded := false, tag := "", pkgPath := "", byteOffset := 0 }, { name := "At", type := 3, offset := 1, embedded := false, tag := "", pkgPath := "", byteOffset := 16 }, { name := "Begun", type := 3, offset := 2, embedded := false, tag := "", pkgPath := "", byteOffset := 24 }, { name := "F", type := 33, offset := 3, embedded := false, tag := "", pkgPath := "", byteOffset := 32 }])), (67, (.func #[] #[5] false)), (68, (.func #[23, 3] #[] false)), (70, (.func #[31, 31] #[31, 31, 31, 23] false)), (71, (.map 9 4)), (72, (.func #[22, 41] #[3] false)), (73, (.func #[22, 3, 3, 3, 43] #[] false)), (74, (.func #[75] #[3] false)), (75, (.int .u64)), (76, (.func #[9, 9] #[3] false)), (77, (.func #[5] #[4] false)), (78, (.func #[110] #[23] true)), (79, (.func #[22, 9] #[9] false)), (80, (.slice 9)), (81, (.pointer 126)), (82, (.func #[80] #[81] true)), (83, (.func #[9] #[9] false)), (84, (.func #[80, 9] #[9] false)), (85, (.func #[22] #[47] false)), (87, (.func #[9, 5] #[3] false)), (88, (.struct #[{ name := "s", type := 9, offset := 0, embedded := false, tag := "", pkgPath := "gleaner/expo", byteOffset := 0 }, { name := "at", type := 3, offset := 1, embedded := false, tag := "", pkgPath := "gleaner/expo", byteOffset := 16 }, { name := "begun", type := 3, offset := 2, embedded := false, tag := "", pkgPath := "gleaner/expo", byteOffset := 24 }])), (89, (.struct #[{ name := "s", type := 9, offset := 0, embedded := false, tag := "", pkgPath := "gleaner/expo", byteOffset := 0 }, { name := "at", type := 3, offset := 1, embedded := false, tag := "", pkgPath := "gleaner/expo", byteOffset := 16 }, { name := "begun", type := 3, offset := 2, embedded := false, tag := "", pkgPath := "gleaner/expo", byteOffset := 24 }])), (90, (.func #[] #[9] false)), (91, (.func #[5] #[] false)), (92, (.func #[31, 59] #[3] false)), (93, (.func #[22, 22] #[3] false)), (94, (.func #[141] #[31] true)), (95, (.func #[22] #[23] false)), (97, (.func #[31] #[31, 4] false)), (98, (.func #[55] #[55] false)), (99, (.func #[22, 3, 3, 43] #[] false)), (100, (.int .i64)), (102, (.func #[22, 3, 3, 43] #[3, 100] false)), (103, (.func #[22, 3, 3, 43] #[4] false)), (104, (.func #[22, 3, 3, 3, 43] #[3] false)), (106, (.func #[22, 3, 3, 3, 43] #[3, 4] false)), (107, (.func #[108] #[3] false)), (108, (.int .u32)), (109, (.func #[47] #[3] false)), (110, (.slice 22)), (111, (.func #[22, 9] #[3, 4] false)), (112, (.struct #[])), (113, (.struct #[])), (114, (.struct #[])), (115, (.struct #[{ name := "_", type := 114, offset := 0, embedded := false, tag := "", pkgPath := "sync/atomic", byteOffset := 0 }, { name := "v", type := 108, offset := 0, embedded := false, tag := "", pkgPath := "sync/atomic", byteOffset := 0 }])), (116, (.struct #[{ name := "_", type := 114, offset := 0, embedded := false, tag := "", pkgPath := "sync/atomic", byteOffset := 0 }, { name := "v", type := 108, offset := 0, embedded := false, tag := "", pkgPath := "sync/atomic", byteOffset := 0 }])), (119, (.struct #[{ name := "_", type := 113, offset := 0, embedded := false, tag := "", pkgPath := "sync", byteOffset := 0 }, { name := "mu", type := 118, offset := 0, embedded := false, tag := "", pkgPath := "sync", byteOffset := 0 }])), (120, (.struct #[{ name := "_", type := 113, offset := 0, embedded := false, tag := "", pkgPath := "sync", byteOffset := 0 }, { name := "mu", type := 118, offset := 0, embedded := false, tag := "", pkgPath := "sync", byteOffset := 0 }])), (121, (.struct #[{ name := "_", type := 113, offset := 0, embedded := false, tag := "", pkgPath := "sync", byteOffset := 0 }, { name := "done", type := 116, offset := 0, embedded := false, tag := "", pkgPath := "sync", byteOffset := 0 }, { name := "m", type := 120, offset := 1, embedded := false, tag := "", pkgPath := "sync", byteOffset := 4 }])), (122, (.struct #[{ name := "_", type := 113, offset := 0, embedded := false, tag := "", pkgPath := "sync", byteOffset := 0 }, { name := "done", type := 116, offset := 0, embedded := false, tag := "", pkgPath := "sync", byteOffset := 0 }, { name := "m", type := 120, offset := 1, embedded := false, tag := "", pkgPath := "sync", byteOffset := 4 }])), (123, (.interface #[("Replace", 83), ("WriteString", 228)])), (124, (.interface #[("Replace", 83), ("WriteString", 228)])), (125, (.struct #[{ name := "once", type := 122, offset := 0, embedded := false, tag := "", pkgPath := "strings", byteOffset := 0 }, { name := "r", type := 124, offset := 3, embedded := false, tag := "", pkgPath := "strings", byteOffset := 16 }, { name := "oldnew", type := 80, offset := 4, embedded := false, tag := "", pkgPath := "strings", byteOffset := 32 }])), (126, (.struct #[{ name := "once", type := 122, offset := 0, embedded := false, tag := "", pkgPath := "strings", byteOffset := 0 }, { name := "r", type := 124, offset := 3, embedded := false, tag := "", pkgPath := "strings", byteOffset := 16 }, { name := "oldnew", type := 80, offset := 4, embedded := false, tag := "", pkgPath := "strings", byteOffset := 32 }])), (127, (.func #[1] #[] false)), (128, (.pointer 131)), (129, (.slice 5)), (130, (.struct #[{ name := "addr", type := 128, offset := 0, embedded := false, tag := "", pkgPath := "strings", byteOffset := 0 }, { name := "buf", type := 129, offset := 1, embedded := false, tag := "", pkgPath := "strings", byteOffset := 8 }])), (131, (.struct #[{ name := "addr", type := 128, offset := 0, embedded := false, tag := "", pkgPath := "strings", byteOffset := 0 }, { name := "buf", type := 129, offset := 1, embedded := false, tag := "", pkgPath := "strings", byteOffset := 8 }])), (132, (.func #[3] #[] false)), (133, (.interface #[("Error", 90)])), (134, (.interface #[("Error", 90)])), (136, (.func #[9] #[3, 134] false)), (137, (.func #[47, 9] #[47] false)), (138, (.func #[5] #[134] false)), (139, (.func #[22, 22, 43] #[3] false)), (140, (.func #[64] #[3] true)), (141, (.slice 31)), (142, (.func #[31, 3] #[31] false)), (143, (.func #[22, 43] #[4] false)), (144, (.func #[31] #[31] false)), (145, (.func #[31, 58] #[] false)), (146, (.int .u64)), (147, (.func #[3] #[75] false)), (148, (.func #[] #[47] false)), (149, (.func #[22, 3, 150, 43] #[3] false)), (150, (.pointer 3)), (151, (.func #[22, 3, 3, 3, 150, 43] #[3] false)), (152, (.func #[22, 9, 153] #[3, 4] false)), (153, (.func #[40, 9] #[3] false)), (154, (.pointer 122)), (155, (.func #[] #[124] false)), (156, (.pointer 5)), (157, (.func #[31, 3, 3, 3, 58] #[] false)), (158, (.pointer 146)), (160, (.func #[22, 3, 3, 150, 43] #[3, 3] false)), (161, (.pointer 116)), (162, (.func #[163] #[108] false)), (163, (.pointer 108)), (164, (.func #[4] #[] false)), (165, (.pointer 190)), (166, (.func #[9, 9] #[165] false)), (167, (.pointer 196)), (168, (.func #[80] #[167] false)), (169, (.array 256 5)), (170, (.array 256 5)), (171, (.pointer 170)), (172, (.array 256 129)), (173, (.struct #[{ name := "replacements", type := 172, offset := 0, embedded := false, tag := "", pkgPath := "strings", byteOffset := 0 }, { name := "toReplace", type := 80, offset := 256, embedded := false, tag := "", pkgPath := "strings", byteOffset := 6144 }])), (174, (.struct #[{ name := "replacements", type := 172, offset := 0, embedded := false, tag := "", pkgPath := "strings", byteOffset := 0 }, { name := "toReplace", type := 80, offset := 256, embedded := false, tag := "", pkgPath := "strings", byteOffset := 6144 }])), (175, (.pointer 174)), (177, (.func #[176] #[176] false)), (178, (.func #[3] #[129] false)), (179, (.func #[31, 3, 3, 58] #[] false)), (180, (.func #[31, 3, 3, 58] #[3, 100] false)), (181, (.func #[31, 3, 3, 58] #[4] false)), (182, (.func #[31, 3, 3, 3, 58] #[3] false)), (183, (.func #[31, 3, 3, 3, 58] #[3, 4] false)), (184, (.pointer 120)), (185, (.func #[163, 108] #[] false)), (186, (.func #[4] #[108] false)), (187, (.pointer 208)), (188, (.func #[9] #[187] false)), (189, (.struct #[{ name := "finder", type := 187, offset := 0, embedded := false, tag := "", pkgPath := "strings", byteOffset := 0 }, { name := "value", type := 9, offset := 1, embedded := false, tag := "", pkgPath := "strings", byteOffset := 8 }])), (190, (.struct #[{ name := "finder", type := 187, offset := 0, embedded := false, tag := "", pkgPath := "strings", byteOffset := 0 }, { name := "value", type := 9, offset := 1, embedded := false, tag := "", pkgPath := "strings", byteOffset := 8 }])), (191, (.pointer 194)), (192, (.slice 191)), (193, (.struct #[{ name := "value", type := 9, offset := 0, embedded := false, tag := "", pkgPath := "strings", byteOffset := 0 }, { name := "priority", type := 3, offset := 1, embedded := false, tag := "", pkgPath := "strings", byteOffset := 16 }, { name := "prefix", type := 9, offset := 2, embedded := false, tag := "", pkgPath := "strings", byteOffset := 24 }, { name := "next", type := 191, offset := 3, embedded := false, tag := "", pkgPath := "strings", byteOffset := 40 }, { name := "table", type := 192, offset := 4, embedded := false, tag := "", pkgPath := "strings", byteOffset := 48 }])), (194, (.struct #[{ name := "value", type := 9, offset := 0, embedded := false, tag := "", pkgPath := "strings", byteOffset := 0 }, { name := "priority", type := 3, offset := 1, embedded := false, tag := "", pkgPath := "strings", byteOffset := 16 }, { name := "prefix", type := 9, offset := 2, embedded := false, tag := "", pkgPath := "strings", byteOffset := 24 }, { name := "next", type := 191, offset := 3, embedded := false, tag := "", pkgPath := "strings", byteOffset := 40 }, { name := "table", type := 192, offset := 4, embedded := false, tag := "", pkgPath := "strings", byteOffset := 48 }])), (195, (.struct #[{ name := "root", type := 194, offset := 0, embedded := false, tag := "", pkgPath := "strings", byteOffset := 0 }, { name := "tableSize", type := 3, offset := 5, embedded := false, tag := "", pkgPath := "strings", byteOffset := 72 }, { name := "mapping", type := 169, offset := 6, embedded := false, tag := "", pkgPath := "strings", byteOffset := 80 }])), (196, (.struct #[{ name := "root", type := 194, offset := 0, embedded := false, tag := "", pkgPath := "strings", byteOffset := 0 }, { name := "tableSize", type := 3, offset := 5, embedded := false, tag := "", pkgPath := "strings", byteOffset := 72 }, { name := "mapping", type := 169, offset := 6, embedded := false, tag := "", pkgPath := "strings", byteOffset := 80 }])), (197, (.func #[9, 9, 3, 167] #[] false)), (198, (.func #[31, 3, 150, 58] #[3] false)), (199, (.func #[31, 3, 3, 3, 150, 58] #[3] false)), (200, (.pointer 118)), (201, (.func #[202, 21, 21] #[4] false)), (202, (.pointer 21)), (203, (.func #[176] #[] false)), (204, (.func #[202, 21] #[21] false)), (205, (.func #[21] #[] false)), (206, (.array 256 3)), (207, (.struct #[{ name := "pattern", type := 9, offset := 0, embedded := false, tag := "", pkgPath := "strings", byteOffset := 0 }, { name := "badCharSkip", type := 206, offset := 1, embedded := false, tag := "", pkgPath := "strings", byteOffset := 16 }, { name := "goodSuffixSkip", type := 64, offset := 257, embedded := false, tag := "", pkgPath := "strings", byteOffset := 2064 }])), (208, (.struct #[{ name := "pattern", type := 9, offset := 0, embedded := false, tag := "", pkgPath := "strings", byteOffset := 0 }, { name := "badCharSkip", type := 206, offset := 1, embedded := false, tag := "", pkgPath := "strings", byteOffset := 16 }, { name := "goodSuffixSkip", type := 64, offset := 257, embedded := false, tag := "", pkgPath := "strings", byteOffset := 2064 }])), (209, (.func #[9, 9] #[4] false)), (210, (.func #[31, 3, 3, 150, 58] #[3, 3] false)), (211, (.func #[3] #[4] false)), (212, (.func #[9] #[] false)), (213, (.func #[] #[2] false)), (214, (.func #[163, 4, 3] #[] false)), (217, (.array 0 16)), (220, (.func #[] #[3] false)), (221, (.int .u8)), (222, (.int .u8)), (223, (.func #[176, 176] #[4] false)), (224, (.int .i32)), (225, (.int .i32)), (226, (.struct #[{ name := "Size_", type := 12, offset := 0, embedded := false, tag := "", pkgPath := "", byteOffset := 0 }, { name := "PtrBytes", type := 12, offset := 1, embedded := false, tag := "", pkgPath := "", byteOffset := 8 }, { name := "Hash", type := 108, offset := 2, embedded := false, tag := "", pkgPath := "", byteOffset := 16 }, { name := "TFlag", type := 221, offset := 3, embedded := false, tag := "", pkgPath := "", byteOffset := 20 }, { name := "Align_", type := 5, offset := 4, embedded := false, tag := "", pkgPath := "", byteOffset := 21 }, { name := "FieldAlign_", type := 5, offset := 5, embedded := false, tag := "", pkgPath := "", byteOffset := 22 }, { name := "Kind_", type := 222, offset := 6, embedded := false, tag := "", pkgPath := "", byteOffset := 23 }, { name := "Equal", type := 223, offset := 7, embedded := false, tag := "", pkgPath := "", byteOffset := 24 }, { name := "GCData", type := 156, offset := 8, embedded := false, tag := "", pkgPath := "", byteOffset := 32 }, { name := "Str", type := 224, offset := 9, embedded := false, tag := "", pkgPath := "", byteOffset := 40 }, { name := "PtrToThis", type := 225, offset := 10, embedded := false, tag := "", pkgPath := "", byteOffset := 44 }])), (227, (.struct #[{ name := "Size_", type := 12, offset := 0, embedded := false, tag := "", pkgPath := "", byteOffset := 0 }, { name := "PtrBytes", type := 12, offset := 1, embedded := false, tag := "", pkgPath := "", byteOffset := 8 }, { name := "Hash", type := 108, offset := 2, embedded := false, tag := "", pkgPath := "", byteOffset := 16 }, { name := "TFlag", type := 221, offset := 3, embedded := false, tag := "", pkgPath := "", byteOffset := 20 }, { name := "Align_", type := 5, offset := 4, embedded := false, tag := "", pkgPath := "", byteOffset := 21 }, { name := "FieldAlign_", type := 5, offset := 5, embedded := false, tag := "", pkgPath := "", byteOffset := 22 }, { name := "Kind_", type := 222, offset := 6, embedded := false, tag := "", pkgPath := "", byteOffset := 23 }, { name := "Equal", type := 223, offset := 7, embedded := false, tag := "", pkgPath := "", byteOffset := 24 }, { name := "GCData", type := 156, offset := 8, embedded := false, tag := "", pkgPath := "", byteOffset := 32 }, { name := "Str", type := 224, offset := 9, embedded := false, tag := "", pkgPath := "", byteOffset := 40 }, { name := "PtrToThis", type := 225, offset := 10, embedded := false, tag := "", pkgPath := "", byteOffset := 44 }])), (228, (.func #[233, 9] #[3, 134] false)), (229, (.func #[9] #[3] false)), (230, (.slice 5)), (231, (.pointer 230)), (232, (.interface #[("Write", 242)])), (233, (.interface #[("Write", 242)])), (234, (.interface #[("WriteString", 136)])), (235, (.interface #[("WriteString", 136)])), (236, (.func #[233] #[235] false)), (238, (.func #[9, 4] #[9, 3, 4] false)), (240, (.struct #[{ name := "w", type := 233, offset := 0, embedded := false, tag := "", pkgPath := "strings", byteOffset := 0 }])), (241, (.struct #[{ name := "w", type := 233, offset := 0, embedded := false, tag := "", pkgPath := "strings", byteOffset := 0 }])), (242, (.func #[129] #[3, 134] false)), (243, (.func #[3] #[3] false)), (245, (.func #[9] #[108, 108] false))]
def TSz : List (Nat × (Nat × Nat)) := [(1, (1, 8)), (2, (1, 8)), (3, (1, 8)), (4, (1, 1)), (5, (1, 1)), (6, (1, 1)), (9, (1, 16)), (10, (1, 16)), (11, (1, 16)), (12, (1, 8)), (15, (1, 8)), (16, (1, 8)), (17, (1, 8)), (20, (1, 16)), (21, (1, 4)), (22, (1, 24)), (23, (1, 8)), (25, (1, 8)), (26, (1, 8)), (27, (1, 8)), (28, (1, 8)), (29, (1, 8)), (30, (1, 8)), (31, (1, 24)), (32, (2, 16)), (33, (2, 16)), (35, (1, 8)), (36, (1, 8)), (37, (1, 8)), (38, (1, 8)), (39, (2, 32)), (40, (2, 32)), (41, (1, 8)), (42, (1, 8)), (43, (1, 8)), (44, (1, 8)), (46, (1, 8)), (47, (1, 8)), (49, (1, 8)), (50, (1, 8)), (51, (1, 8)), (52, (1, 8)), (53, (1, 8)), (54, (1, 24)), (55, (1, 24)), (56, (1, 8)), (57, (1, 8)), (58, (1, 8)), (59, (1, 8)), (60, (1, 8)), (61, (1, 24)), (62, (1, 8)), (63, (1, 8)), (64, (1, 24)), (65, (5, 48)), (66, (5, 48)), (67, (1, 8)), (68, (1, 8)), (70, (1, 8)), (71, (1, 8)), (72, (1, 8)), (73, (1, 8)), (74, (1, 8)), (75, (1, 8)), (76, (1, 8)), (77, (1, 8)), (78, (1, 8)), (79, (1, 8)), (80, (1, 24)), (81, (1, 8)), (82, (1, 8)), (83, (1, 8)), (84, (1, 8)), (85, (1, 8)), (87, (1, 8)), (88, (3, 32)), (89, (3, 32)), (90, (1, 8)), (91, (1, 8)), (92, (1, 8)), (93, (1, 8)), (94, (1, 8)), (95, (1, 8)), (97, (1, 8)), (98, (1, 8)), (99, (1, 8)), (100, (1, 8)), (102, (1, 8)), (103, (1, 8)), (104, (1, 8)), (106, (1, 8)), (107, (1, 8)), (108, (1, 4)), (109, (1, 8)), (110, (1, 24)), (111, (1, 8)), (112, (0, 0)), (113, (0, 0)), (114, (0, 0)), (115, (1, 4)), (116, (1, 4)), (119, (2, 8)), (120, (2, 8)), (121, (3, 12)), (122, (3, 12)), (123, (1, 16)), (124, (1, 16)), (125, (5, 56)), (126, (5, 56)), (127, (1, 8)), (128, (1, 8)), (129, (1, 24)), (130, (2, 32)), (131, (2, 32)), (132, (1, 8)), (133, (1, 16)), (134, (1, 16)), (136, (1, 8)), (137, (1, 8)), (138, (1, 8)), (139, (1, 8)), (140, (1, 8)), (141, (1, 24)), (142, (1, 8)), (143, (1, 8)), (144, (1, 8)), (145, (1, 8)), (146, (1, 8)), (147, (1, 8)), (148, (1, 8)), (149, (1, 8)), (150, (1, 8)), (151, (1, 8)), (152, (1, 8)), (153, (1, 8)), (154, (1, 8)), (155, (1, 8)), (156, (1, 8)), (157, (1, 8)), (158, (1, 8)), (160, (1, 8)), (161, (1, 8)), (162, (1, 8)), (163, (1, 8)), (164, (1, 8)), (165, (1, 8)), (166, (1, 8)), (167, (1, 8)), (168, (1, 8)), (169, (256, 256)), (170, (256, 256)), (171, (1, 8)), (172, (256, 6144)), (173, (257, 6168)), (174, (257, 6168)), (175, (1, 8)), (177, (1, 8)), (178, (1, 8)), (179, (1, 8)), (180, (1, 8)), (181, (1, 8)), (182, (1, 8)), (183, (1, 8)), (184, (1, 8)), (185, (1, 8)), (186, (1, 8)), (187, (1, 8)), (188, (1, 8)), (189, (2, 24)), (190, (2, 24)), (191, (1, 8)), (192, (1, 24)), (193, (5, 72)), (194, (5, 72)), (195, (262, 336)), (196, (262, 336)), (197, (1, 8)), (198, (1, 8)), (199, (1, 8)), (200, (1, 8)), (201, (1, 8)), (202, (1, 8)), (203, (1, 8)), (204, (1, 8)), (205, (1, 8)), (206, (256, 2048)), (207, (258, 2088)), (208, (258, 2088)), (209, (1, 8)), (210, (1, 8)), (211, (1, 8)), (212, (1, 8)), (213, (1, 8)), (214, (1, 8)), (217, (0, 0)), (220, (1, 8)), (221, (1, 1)), (222, (1, 1)), (223, (1, 8)), (224, (1, 4)), (225, (1, 4)), (226, (11, 48)), (227, (11, 48)), (228, (1, 8)), (229, (1, 8)), (230, (1, 24)), (231, (1, 8)), (232, (1, 16)), (233, (1, 16)), (234, (1, 16)), (235, (1, 16)), (236, (1, 8)), (238, (1, 8)), (240, (1, 16)), (241, (1, 16)), (242, (1, 8)), (243, (1, 8)), (245, (1, 8))]
def wm : Value := .agg #[.int .u8 0, .int .u8 0, .int .u8 0, .int .u8 0, .int .u8 0, .int .u8 0, .int .u8 0, .int .u8 0, .int .u8 0, .int .u8 0, .int .u8 0, .int .u8 0, .int .u8 0, .int .u8 0, .int .u8 0, .int .u8 0, .int .u8 0, .int .u8 0, .int .u8 0, .int .u8 0, .int .u8 0, .int .u8 0, .int .u8 0, .int .u8 0, .int .u8 0, .int .u8 0, .int .u8 0, .int .u8 0, .int .u8 0, .int .u8 0, .int .u8 0, .int .u8 0, .int .u8 0, .int .u8 0, .int .u8 0, .int .u8 0, .int .u8 0, .int .u8 0, .int .u8 0, .int .u8 0, .int .u8 0, .int .u8 0, .int .u8 0, .int .u8 0, .int .u8 0, .int .u8 0, .int .u8 0, .int .u8 0, .int .u8 0, .int .u8 0, .int .u8 0, .int .u8 0, .int .u8 0, .int .u8 0, .int .u8 0, .int .u8 0, .int .u8 0, .int .u8 0, .int .u8 0, .int .u8 0, .int .u8 0, .int .u8 0, .int .u8 0, .int .u8 0, .int .u8 0, .int .u8 0, .int .u8 0, .int .u8 0, .int .u8 0, .int .u8 0, .int .u8 0, .int .u8 0, .int .u8 0, .int .u8 0, .int .u8 0, .int .u8 0, .int .u8 0, .int .u8 0, .int .u8 0, .int .u8 0, .int .u8 0, .int .u8 0, .int .u8 0, .int .u8 0, .int .u8 0, .int .u8 0, .int .u8 0, .int .u8 0, .int .u8 0, .int .u8 0, .int .u8 0, .int .u8 0, .int .u8 0, .int .u8 0, .int .u8 0, .int .u8 0, .int .u8 0, .int .u8 0, .int .u8 0, .int .u8 0, .int .u8 0, .int .u8 0, .int .u8 0, .int .u8 0, .int .u8 0, .int .u8 0, .int .u8 0, .int .u8 0, .int .u8 0, .int .u8 0, .int .u8 0, .int .u8 0, .int .u8 0, .int .u8 0, .int .u8 0, .int .u8 0, .int .u8 0, .int .u8 0, .int .u8 0, .int .u8 0, .int .u8 0, .int .u8 0, .int .u8 0, .int .u8 0, .int .u8 0, .int .u8 0, .int .u8 0, .int .u8 0, .int .u8 0, .int .u8 0, .int .u8 0, .int .u8 0, .int .u8 0, .int .u8 0, .int .u8 0, .int .u8 0, .int .u8 0, .int .u8 0, .int .u8 0, .int .u8 0, .int .u8 0, .int .u8 0, .int .u8 0, .int .u8 0, .int .u8 0, .int .u8 0, .int .u8 0, .int .u8 0, .int .u8 0, .int .u8 0, .int .u8 0, .int .u8 0, .int .u8 0, .int .u8 0, .int .u8 0, .int .u8 0, .int .u8 0, .int .u8 0, .int .u8 0, .int .u8 0, .int .u8 0, .int .u8 0, .int .u8 0, .int .u8 0, .int .u8 0, .int .u8 0, .int .u8 0, .int .u8 0, .int .u8 0, .int .u8 0, .int .u8 0, .int .u8 0, .int .u8 0, .int .u8 0, .int .u8 0, .int .u8 0, .int .u8 0, .int .u8 0, .int .u8 0, .int .u8 0, .int .u8 0, .int .u8 0, .int .u8 0, .int .u8 0, .int .u8 0, .int .u8 0, .int .u8 0, .int .u8 0, .int .u8 0, .int .u8 0, .int .u8 0, .int .u8 0, .int .u8 0, .int .u8 0, .int .u8 0, .int .u8 0, .int .u8 0, .int .u8 0, .int .u8 0, .int .u8 0, .int .u8 0, .int .u8 0, .int .u8 0, .int .u8 0, .int .u8 0, .int .u8 0, .int .u8 0, .int .u8 0, .int .u8 0, .int .u8 0, .int .u8 0, .int .u8 0, .int .u8 0, .int .u8 0, .int .u8 0, .int .u8 0, .int .u8 0, .int .u8 0, .int .u8 0, .int .u8 0, .int .u8 0, .int .u8 0, .int .u8 0, .int .u8 0, .int .u8 0, .int .u8 0, .int .u8 0, .int .u8 0, .int .u8 0, .int .u8 0, .int .u8 0, .int .u8 0, .int .u8 0, .int .u8 0, .int .u8 0, .int .u8 0, .int .u8 0, .int .u8 0, .int .u8 0, .int .u8 0, .int .u8 0, .int .u8 0, .int .u8 0, .int .u8 0, .int .u8 0, .int .u8 0, .int .u8 0, .int .u8 0, .int .u8 0, .int .u8 0, .int .u8 0, .int .u8 0, .int .u8 0, .int .u8 0, .int .u8 0, .int .u8 0]
def BI : Value := wm
def A6 : Value := .agg #[.slice none 0 0, .slice none 0 0, .slice none 0 0, .slice none 0 0, .slice none 0 0, .slice none 0 0, .slice none 0 0, .slice none 0 0, .slice none 0 0, .slice none 0 0, .slice none 0 0, .slice none 0 0, .slice none 0 0, .slice none 0 0, .slice none 0 0, .slice none 0 0, .slice none 0 0, .slice none 0 0, .slice none 0 0, .slice none 0 0, .slice none 0 0, .slice none 0 0, .slice none 0 0, .slice none 0 0, .slice none 0 0, .slice none 0 0, .slice none 0 0, .slice none 0 0, .slice none 0 0, .slice none 0 0, .slice none 0 0, .slice none 0 0, .slice none 0 0, .slice none 0 0, .slice none 0 0, .slice none 0 0, .slice none 0 0, .slice none 0 0, .slice none 0 0, .slice none 0 0, .slice none 0 0, .slice none 0 0, .slice none 0 0, .slice none 0 0, .slice none 0 0, .slice none 0 0, .slice none 0 0, .slice none 0 0, .slice none 0 0, .slice none 0 0, .slice none 0 0, .slice none 0 0, .slice none 0 0, .slice none 0 0, .slice none 0 0, .slice none 0 0, .slice none 0 0, .slice none 0 0, .slice none 0 0, .slice none 0 0, .slice none 0 0, .slice none 0 0, .slice none 0 0, .slice none 0 0, .slice none 0 0, .slice none 0 0, .slice none 0 0, .slice none 0 0, .slice none 0 0, .slice none 0 0, .slice none 0 0, .slice none 0 0, .slice none 0 0, .slice none 0 0, .slice none 0 0, .slice none 0 0, .slice none 0 0, .slice none 0 0, .slice none 0 0, .slice none 0 0, .slice none 0 0, .slice none 0 0, .slice none 0 0, .slice none 0 0, .slice none 0 0, .slice none 0 0, .slice none 0 0, .slice none 0 0, .slice none 0 0, .slice none 0 0, .slice none 0 0, .slice none 0 0, .slice none 0 0, .slice none 0 0, .slice none 0 0, .slice none 0 0, .slice none 0 0, .slice none 0 0, .slice none 0 0, .slice none 0 0, .slice none 0 0, .slice none 0 0, .slice none 0 0, .slice none 0 0, .slice none 0 0, .slice none 0 0, .slice none 0 0, .slice none 0 0, .slice none 0 0, .slice none 0 0, .slice none 0 0, .slice none 0 0, .slice none 0 0, .slice none 0 0, .slice none 0 0, .slice none 0 0, .slice none 0 0, .slice none 0 0, .slice none 0 0, .slice none 0 0, .slice none 0 0, .slice none 0 0, .slice none 0 0, .slice none 0 0, .slice none 0 0, .slice none 0 0, .slice none 0 0, .slice none 0 0, .slice none 0 0, .slice none 0 0, .slice none 0 0, .slice none 0 0, .slice none 0 0, .slice none 0 0, .slice none 0 0, .slice none 0 0, .slice none 0 0, .slice none 0 0, .slice none 0 0, .slice none 0 0, .slice none 0 0, .slice none 0 0, .slice none 0 0, .slice none 0 0, .slice none 0 0, .slice none 0 0, .slice none 0 0, .slice none 0 0, .slice none 0 0, .slice none 0 0, .slice none 0 0, .slice none 0 0, .slice none 0 0, .slice none 0 0, .slice none 0 0, .slice none 0 0, .slice none 0 0, .slice none 0 0, .slice none 0 0, .slice none 0 0, .slice none 0 0, .slice none 0 0, .slice none 0 0, .slice none 0 0, .slice none 0 0, .slice none 0 0, .slice none 0 0, .slice none 0 0, .slice none 0 0, .slice none 0 0, .slice none 0 0, .slice none 0 0, .slice none 0 0, .slice none 0 0, .slice none 0 0, .slice none 0 0, .slice none 0 0, .slice none 0 0, .slice none 0 0, .slice none 0 0, .slice none 0 0, .slice none 0 0, .slice none 0 0, .slice none 0 0, .slice none 0 0, .slice none 0 0, .slice none 0 0, .slice none 0 0, .slice none 0 0, .slice none 0 0, .slice none 0 0, .slice none 0 0, .slice none 0 0, .slice none 0 0, .slice none 0 0, .slice none 0 0, .slice none 0 0, .slice none 0 0, .slice none 0 0, .slice none 0 0, .slice none 0 0, .slice none 0 0, .slice none 0 0, .slice none 0 0, .slice none 0 0, .slice none 0 0, .slice none 0 0, .slice none 0 0, .slice none 0 0, .slice none 0 0, .slice none 0 0, .slice none 0 0, .slice none 0 0, .slice none 0 0, .slice none 0 0, .slice none 0 0, .slice none 0 0, .slice none 0 0, .slice none 0 0, .slice none 0 0, .slice none 0 0, .slice none 0 0, .slice none 0 0, .slice none 0 0, .slice none 0 0, .slice none 0 0, .slice none 0 0, .slice none 0 0, .slice none 0 0, .slice none 0 0, .slice none 0 0, .slice none 0 0, .slice none 0 0, .slice none 0 0, .slice none 0 0, .slice none 0 0, .slice none 0 0, .slice none 0 0, .slice none 0 0, .slice none 0 0, .slice none 0 0, .slice none 0 0, .slice none 0 0, .slice none 0 0, .slice none 0 0, .slice none 0 0, .slice none 0 0, .slice none 0 0, .slice none 0 0, .slice none 0 0, .slice none 0 0, .slice none 0 0, .slice none 0 0, .slice none 0 0, .slice none 0 0, .slice none 0 0]
def uQ : Value := .agg #[.slice none 0 0, .slice none 0 0, .slice none 0 0, .slice none 0 0, .slice none 0 0, .slice none 0 0, .slice none 0 0, .slice none 0 0, .slice none 0 0, .slice none 0 0, .slice none 0 0, .slice none 0 0, .slice none 0 0, .slice none 0 0, .slice none 0 0, .slice none 0 0, .slice none 0 0, .slice none 0 0, .slice none 0 0, .slice none 0 0, .slice none 0 0, .slice none 0 0, .slice none 0 0, .slice none 0 0, .slice none 0 0, .slice none 0 0, .slice none 0 0, .slice none 0 0, .slice none 0 0, .slice none 0 0, .slice none 0 0, .slice none 0 0, .slice none 0 0, .slice none 0 0, .slice none 0 0, .slice none 0 0, .slice none 0 0, .slice none 0 0, .slice none 0 0, .slice none 0 0, .slice none 0 0, .slice none 0 0, .slice none 0 0, .slice none 0 0, .slice none 0 0, .slice none 0 0, .slice none 0 0, .slice none 0 0, .slice none 0 0, .slice none 0 0, .slice none 0 0, .slice none 0 0, .slice none 0 0, .slice none 0 0, .slice none 0 0, .slice none 0 0, .slice none 0 0, .slice none 0 0, .slice none 0 0, .slice none 0 0, .slice none 0 0, .slice none 0 0, .slice none 0 0, .slice none 0 0, .slice none 0 0, .slice none 0 0, .slice none 0 0, .slice none 0 0, .slice none 0 0, .slice none 0 0, .slice none 0 0, .slice none 0 0, .slice none 0 0, .slice none 0 0, .slice none 0 0, .slice none 0 0, .slice none 0 0, .slice none 0 0, .slice none 0 0, .slice none 0 0, .slice none 0 0, .slice none 0 0, .slice none 0 0, .slice none 0 0, .slice none 0 0, .slice none 0 0, .slice none 0 0, .slice none 0 0, .slice none 0 0, .slice none 0 0, .slice none 0 0, .slice none 0 0, .slice none 0 0, .slice none 0 0, .slice none 0 0, .slice none 0 0, .slice none 0 0, .slice none 0 0, .slice none 0 0, .slice none 0 0, .slice none 0 0, .slice none 0 0, .slice none 0 0, .slice none 0 0, .slice none 0 0, .slice none 0 0, .slice none 0 0, .slice none 0 0, .slice none 0 0, .slice none 0 0, .slice none 0 0, .slice none 0 0, .slice none 0 0, .slice none 0 0, .slice none 0 0, .slice none 0 0, .slice none 0 0, .slice none 0 0, .slice none 0 0, .slice none 0 0, .slice none 0 0, .slice none 0 0, .slice none 0 0, .slice none 0 0, .slice none 0 0, .slice none 0 0, .slice none 0 0, .slice none 0 0, .slice none 0 0, .slice none 0 0, .slice none 0 0, .slice none 0 0, .slice none 0 0, .slice none 0 0, .slice none 0 0, .slice none 0 0, .slice none 0 0, .slice none 0 0, .slice none 0 0, .slice none 0 0, .slice none 0 0, .slice none 0 0, .slice none 0 0, .slice none 0 0, .slice none 0 0, .slice none 0 0, .slice none 0 0, .slice none 0 0, .slice none 0 0, .slice none 0 0, .slice none 0 0, .slice none 0 0, .slice none 0 0, .slice none 0 0, .slice none 0 0, .slice none 0 0, .slice none 0 0, .slice none 0 0, .slice none 0 0, .slice none 0 0, .slice none 0 0, .slice none 0 0, .slice none 0 0, .slice none 0 0, .slice none 0 0, .slice none 0 0, .slice none 0 0, .slice none 0 0, .slice none 0 0, .slice none 0 0, .slice none 0 0, .slice none 0 0, .slice none 0 0, .slice none 0 0, .slice none 0 0, .slice none 0 0, .slice none 0 0, .slice none 0 0, .slice none 0 0, .slice none 0 0, .slice none 0 0, .slice none 0 0, .slice none 0 0, .slice none 0 0, .slice none 0 0, .slice none 0 0, .slice none 0 0, .slice none 0 0, .slice none 0 0, .slice none 0 0, .slice none 0 0, .slice none 0 0, .slice none 0 0, .slice none 0 0, .slice none 0 0, .slice none 0 0, .slice none 0 0, .slice none 0 0, .slice none 0 0, .slice none 0 0, .slice none 0 0, .slice none 0 0, .slice none 0 0, .slice none 0 0, .slice none 0 0, .slice none 0 0, .slice none 0 0, .slice none 0 0, .slice none 0 0, .slice none 0 0, .slice none 0 0, .slice none 0 0, .slice none 0 0, .slice none 0 0, .slice none 0 0, .slice none 0 0, .slice none 0 0, .slice none 0 0, .slice none 0 0, .slice none 0 0, .slice none 0 0, .slice none 0 0, .slice none 0 0, .slice none 0 0, .slice none 0 0, .slice none 0 0, .slice none 0 0, .slice none 0 0, .slice none 0 0, .slice none 0 0, .slice none 0 0, .slice none 0 0, .slice none 0 0, .slice none 0 0, .slice none 0 0, .slice none 0 0, .slice none 0 0, .slice none 0 0, .slice none 0 0, .slice none 0 0, .slice none 0 0, .slice none 0 0, .slice none 0 0, .slice none 0 0, .slice none 0 0, .slice none 0 0, .slice none 0 0, .slice none 0 0, .slice none 0 0, .slice none 0 0, .slice none 0 0, .slice none 0 0, .slice none 0 0, .slice none 0 0, .slice none 0 0, .slice none 0 0, .slice none 0 0]
def Aw : Value := uQ
def vi : Value := .agg #[.string ByteArray.empty, .int .i64 0, .string ByteArray.empty, .pointer none, .slice none 0 0, .int .i64 0, .int .u8 0, .int .u8 0, .int .u8 0, .int .u8 0, .int .u8 0, .int .u8 0, .int .u8 0, .int .u8 0, .int .u8 0, .int .u8 0, .int .u8 0, .int .u8 0, .int .u8 0, .int .u8 0, .int .u8 0, .int .u8 0, .int .u8 0, .int .u8 0, .int .u8 0, .int .u8 0, .int .u8 0, .int .u8 0, .int .u8 0, .int .u8 0, .int .u8 0, .int .u8 0, .int .u8 0, .int .u8 0, .int .u8 0, .int .u8 0, .int .u8 0, .int .u8 0, .int .u8 0, .int .u8 0, .int .u8 0, .int .u8 0, .int .u8 0, .int .u8 0, .int .u8 0, .int .u8 0, .int .u8 0, .int .u8 0, .int .u8 0, .int .u8 0, .int .u8 0, .int .u8 0, .int .u8 0, .int .u8 0, .int .u8 0, .int .u8 0, .int .u8 0, .int .u8 0, .int .u8 0, .int .u8 0, .int .u8 0, .int .u8 0, .int .u8 0, .int .u8 0, .int .u8 0, .int .u8 0, .int .u8 0, .int .u8 0, .int .u8 0, .int .u8 0, .int .u8 0, .int .u8 0, .int .u8 0, .int .u8 0, .int .u8 0, .int .u8 0, .int .u8 0, .int .u8 0, .int .u8 0, .int .u8 0, .int .u8 0, .int .u8 0, .int .u8 0, .int .u8 0, .int .u8 0, .int .u8 0, .int .u8 0, .int .u8 0, .int .u8 0, .int .u8 0, .int .u8 0, .int .u8 0, .int .u8 0, .int .u8 0, .int .u8 0, .int .u8 0, .int .u8 0, .int .u8 0, .int .u8 0, .int .u8 0, .int .u8 0, .int .u8 0, .int .u8 0, .int .u8 0, .int .u8 0, .int .u8 0, .int .u8 0, .int .u8 0, .int .u8 0, .int .u8 0, .int .u8 0, .int .u8 0, .int .u8 0, .int .u8 0, .int .u8 0, .int .u8 0, .int .u8 0, .int .u8 0, .int .u8 0, .int .u8 0, .int .u8 0, .int .u8 0, .int .u8 0, .int .u8 0, .int .u8 0, .int .u8 0, .int .u8 0, .int .u8 0, .int .u8 0, .int .u8 0, .int .u8 0, .int .u8 0, .int .u8 0, .int .u8 0, .int .u8 0, .int .u8 0, .int .u8 0, .int .u8 0, .int .u8 0, .int .u8 0, .int .u8 0, .int .u8 0, .int .u8 0, .int .u8 0, .int .u8 0, .int .u8 0, .int .u8 0, .int .u8 0, .int .u8 0, .int .u8 0, .int .u8 0, .int .u8 0, .int .u8 0, .int .u8 0, .int .u8 0, .int .u8 0, .int .u8 0, .int .u8 0, .int .u8 0, .int .u8 0, .int .u8 0, .int .u8 0, .int .u8 0, .int .u8 0, .int .u8 0, .int .u8 0, .int .u8 0, .int .u8 0, .int .u8 0, .int .u8 0, .int .u8 0, .int .u8 0, .int .u8 0, .int .u8 0, .int .u8 0, .int .u8 0, .int .u8 0, .int .u8 0, .int .u8 0, .int .u8 0, .int .u8 0, .int .u8 0, .int .u8 0, .int .u8 0, .int .u8 0, .int .u8 0, .int .u8 0, .int .u8 0, .int .u8 0, .int .u8 0, .int .u8 0, .int .u8 0, .int .u8 0, .int .u8 0, .int .u8 0, .int .u8 0, .int .u8 0, .int .u8 0, .int .u8 0, .int .u8 0, .int .u8 0, .int .u8 0, .int .u8 0, .int .u8 0, .int .u8 0, .int .u8 0, .int .u8 0, .int .u8 0, .int .u8 0, .int .u8 0, .int .u8 0, .int .u8 0, .int .u8 0, .int .u8 0, .int .u8 0, .int .u8 0, .int .u8 0, .int .u8 0, .int .u8 0, .int .u8 0, .int .u8 0, .int .u8 0, .int .u8 0, .int .u8 0, .int .u8 0, .int .u8 0, .int .u8 0, .int .u8 0, .int .u8 0, .int .u8 0, .int .u8 0, .int .u8 0, .int .u8 0, .int .u8 0, .int .u8 0, .int .u8 0, .int .u8 0, .int .u8 0, .int .u8 0, .int .u8 0, .int .u8 0, .int .u8 0, .int .u8 0, .int .u8 0, .int .u8 0, .int .u8 0, .int .u8 0, .int .u8 0, .int .u8 0, .int .u8 0, .int .u8 0, .int .u8 0, .int .u8 0, .int .u8 0, .int .u8 0, .int .u8 0, .int .u8 0, .int .u8 0, .int .u8 0, .int .u8 0, .int .u8 0, .int .u8 0]
def AD : Value := vi
def BE : Value := .agg #[.int .i64 0, .int .i64 0, .int .i64 0, .int .i64 0, .int .i64 0, .int .i64 0, .int .i64 0, .int .i64 0, .int .i64 0, .int .i64 0, .int .i64 0, .int .i64 0, .int .i64 0, .int .i64 0, .int .i64 0, .int .i64 0, .int .i64 0, .int .i64 0, .int .i64 0, .int .i64 0, .int .i64 0, .int .i64 0, .int .i64 0, .int .i64 0, .int .i64 0, .int .i64 0, .int .i64 0, .int .i64 0, .int .i64 0, .int .i64 0, .int .i64 0, .int .i64 0, .int .i64 0, .int .i64 0, .int .i64 0, .int .i64 0, .int .i64 0, .int .i64 0, .int .i64 0, .int .i64 0, .int .i64 0, .int .i64 0, .int .i64 0, .int .i64 0, .int .i64 0, .int .i64 0, .int .i64 0, .int .i64 0, .int .i64 0, .int .i64 0, .int .i64 0, .int .i64 0, .int .i64 0, .int .i64 0, .int .i64 0, .int .i64 0, .int .i64 0, .int .i64 0, .int .i64 0, .int .i64 0, .int .i64 0, .int .i64 0, .int .i64 0, .int .i64 0, .int .i64 0, .int .i64 0, .int .i64 0, .int .i64 0, .int .i64 0, .int .i64 0, .int .i64 0, .int .i64 0, .int .i64 0, .int .i64 0, .int .i64 0, .int .i64 0, .int .i64 0, .int .i64 0, .int .i64 0, .int .i64 0, .int .i64 0, .int .i64 0, .int .i64 0, .int .i64 0, .int .i64 0, .int .i64 0, .int .i64 0, .int .i64 0, .int .i64 0, .int .i64 0, .int .i64 0, .int .i64 0, .int .i64 0, .int .i64 0, .int .i64 0, .int .i64 0, .int .i64 0, .int .i64 0, .int .i64 0, .int .i64 0, .int .i64 0, .int .i64 0, .int .i64 0, .int .i64 0, .int .i64 0, .int .i64 0, .int .i64 0, .int .i64 0, .int .i64 0, .int .i64 0, .int .i64 0, .int .i64 0, .int .i64 0, .int .i64 0, .int .i64 0, .int .i64 0, .int .i64 0, .int .i64 0, .int .i64 0, .int .i64 0, .int .i64 0, .int .i64 0, .int .i64 0, .int .i64 0, .int .i64 0, .int .i64 0, .int .i64 0, .int .i64 0, .int .i64 0, .int .i64 0, .int .i64 0, .int .i64 0, .int .i64 0, .int .i64 0, .int .i64 0, .int .i64 0, .int .i64 0, .int .i64 0, .int .i64 0, .int .i64 0, .int .i64 0, .int .i64 0, .int .i64 0, .int .i64 0, .int .i64 0, .int .i64 0, .int .i64 0, .int .i64 0, .int .i64 0, .int .i64 0, .int .i64 0, .int .i64 0, .int .i64 0, .int .i64 0, .int .i64 0, .int .i64 0, .int .i64 0, .int .i64 0, .int .i64 0, .int .i64 0, .int .i64 0, .int .i64 0, .int .i64 0, .int .i64 0, .int .i64 0, .int .i64 0, .int .i64 0, .int .i64 0, .int .i64 0, .int .i64 0, .int .i64 0, .int .i64 0, .int .i64 0, .int .i64 0, .int .i64 0, .int .i64 0, .int .i64 0, .int .i64 0, .int .i64 0, .int .i64 0, .int .i64 0, .int .i64 0, .int .i64 0, .int .i64 0, .int .i64 0, .int .i64 0, .int .i64 0, .int .i64 0, .int .i64 0, .int .i64 0, .int .i64 0, .int .i64 0, .int .i64 0, .int .i64 0, .int .i64 0, .int .i64 0, .int .i64 0, .int .i64 0, .int .i64 0, .int .i64 0, .int .i64 0, .int .i64 0, .int .i64 0, .int .i64 0, .int .i64 0, .int .i64 0, .int .i64 0, .int .i64 0, .int .i64 0, .int .i64 0, .int .i64 0, .int .i64 0, .int .i64 0, .int .i64 0, .int .i64 0, .int .i64 0, .int .i64 0, .int .i64 0, .int .i64 0, .int .i64 0, .int .i64 0, .int .i64 0, .int .i64 0, .int .i64 0, .int .i64 0, .int .i64 0, .int .i64 0, .int .i64 0, .int .i64 0, .int .i64 0, .int .i64 0, .int .i64 0, .int .i64 0, .int .i64 0, .int .i64 0, .int .i64 0, .int .i64 0, .int .i64 0, .int .i64 0, .int .i64 0, .int .i64 0, .int .i64 0, .int .i64 0, .int .i64 0, .int .i64 0, .int .i64 0, .int .i64 0, .int .i64 0, .int .i64 0, .int .i64 0, .int .i64 0, .int .i64 0, .int .i64 0, .int .i64 0, .int .i64 0, .int .i64 0]
def uW : Value := .agg #[.string ByteArray.empty, .int .i64 0, .int .i64 0, .int .i64 0, .int .i64 0, .int .i64 0, .int .i64 0, .int .i64 0, .int .i64 0, .int .i64 0, .int .i64 0, .int .i64 0, .int .i64 0, .int .i64 0, .int .i64 0, .int .i64 0, .int .i64 0, .int .i64 0, .int .i64 0, .int .i64 0, .int .i64 0, .int .i64 0, .int .i64 0, .int .i64 0, .int .i64 0, .int .i64 0, .int .i64 0, .int .i64 0, .int .i64 0, .int .i64 0, .int .i64 0, .int .i64 0, .int .i64 0, .int .i64 0, .int .i64 0, .int .i64 0, .int .i64 0, .int .i64 0, .int .i64 0, .int .i64 0, .int .i64 0, .int .i64 0, .int .i64 0, .int .i64 0, .int .i64 0, .int .i64 0, .int .i64 0, .int .i64 0, .int .i64 0, .int .i64 0, .int .i64 0, .int .i64 0, .int .i64 0, .int .i64 0, .int .i64 0, .int .i64 0, .int .i64 0, .int .i64 0, .int .i64 0, .int .i64 0, .int .i64 0, .int .i64 0, .int .i64 0, .int .i64 0, .int .i64 0, .int .i64 0, .int .i64 0, .int .i64 0, .int .i64 0, .int .i64 0, .int .i64 0, .int .i64 0, .int .i64 0, .int .i64 0, .int .i64 0, .int .i64 0, .int .i64 0, .int .i64 0, .int .i64 0, .int .i64 0, .int .i64 0, .int .i64 0, .int .i64 0, .int .i64 0, .int .i64 0, .int .i64 0, .int .i64 0, .int .i64 0, .int .i64 0, .int .i64 0, .int .i64 0, .int .i64 0, .int .i64 0, .int .i64 0, .int .i64 0, .int .i64 0, .int .i64 0, .int .i64 0, .int .i64 0, .int .i64 0, .int .i64 0, .int .i64 0, .int .i64 0, .int .i64 0, .int .i64 0, .int .i64 0, .int .i64 0, .int .i64 0, .int .i64 0, .int .i64 0, .int .i64 0, .int .i64 0, .int .i64 0, .int .i64 0, .int .i64 0, .int .i64 0, .int .i64 0, .int .i64 0, .int .i64 0, .int .i64 0, .int .i64 0, .int .i64 0, .int .i64 0, .int .i64 0, .int .i64 0, .int .i64 0, .int .i64 0, .int .i64 0, .int .i64 0, .int .i64 0, .int .i64 0, .int .i64 0, .int .i64 0, .int .i64 0, .int .i64 0, .int .i64 0, .int .i64 0, .int .i64 0, .int .i64 0, .int .i64 0, .int .i64 0, .int .i64 0, .int .i64 0, .int .i64 0, .int .i64 0, .int .i64 0, .int .i64 0, .int .i64 0, .int .i64 0, .int .i64 0, .int .i64 0, .int .i64 0, .int .i64 0, .int .i64 0, .int .i64 0, .int .i64 0, .int .i64 0, .int .i64 0, .int .i64 0, .int .i64 0, .int .i64 0, .int .i64 0, .int .i64 0, .int .i64 0, .int .i64 0, .int .i64 0, .int .i64 0, .int .i64 0, .int .i64 0, .int .i64 0, .int .i64 0, .int .i64 0, .int .i64 0, .int .i64 0, .int .i64 0, .int .i64 0, .int .i64 0, .int .i64 0, .int .i64 0, .int .i64 0, .int .i64 0, .int .i64 0, .int .i64 0, .int .i64 0, .int .i64 0, .int .i64 0, .int .i64 0, .int .i64 0, .int .i64 0, .int .i64 0, .int .i64 0, .int .i64 0, .int .i64 0, .int .i64 0, .int .i64 0, .int .i64 0, .int .i64 0, .int .i64 0, .int .i64 0, .int .i64 0, .int .i64 0, .int .i64 0, .int .i64 0, .int .i64 0, .int .i64 0, .int .i64 0, .int .i64 0, .int .i64 0, .int .i64 0, .int .i64 0, .int .i64 0, .int .i64 0, .int .i64 0, .int .i64 0, .int .i64 0, .int .i64 0, .int .i64 0, .int .i64 0, .int .i64 0, .int .i64 0, .int .i64 0, .int .i64 0, .int .i64 0, .int .i64 0, .int .i64 0, .int .i64 0, .int .i64 0, .int .i64 0, .int .i64 0, .int .i64 0, .int .i64 0, .int .i64 0, .int .i64 0, .int .i64 0, .int .i64 0, .int .i64 0, .int .i64 0, .int .i64 0, .int .i64 0, .int .i64 0, .int .i64 0, .int .i64 0, .int .i64 0, .int .i64 0, .int .i64 0, .int .i64 0, .int .i64 0, .int .i64 0, .int .i64 0, .int .i64 0, .int .i64 0, .int .i64 0, .int .i64 0, .int .i64 0, .int .i64 0, .int .i64 0, .int .i64 0, .slice none 0 0]
def Bj : Value := uW
def TZr : List (Nat × Value) := [(1, .nilFunc), (2, .int .i64 0), (3, .int .i64 0), (4, .bool false), (5, .int .u8 0), (6, .int .u8 0), (9, .string ByteArray.empty), (10, .string ByteArray.empty), (11, .string ByteArray.empty), (12, .int .u64 0), (15, .pointer none), (16, .pointer none), (17, .pointer none), (20, .nilIface), (21, .int .i32 0), (22, .slice none 0 0), (23, .int .i64 0), (25, .nilFunc), (26, .nilFunc), (27, .nilFunc), (28, .nilFunc), (29, .nilFunc), (30, .nilFunc), (31, .slice none 0 0), (32, .agg #[.int .i64 0, .int .i64 0]), (33, .agg #[.int .i64 0, .int .i64 0]), (35, .nilFunc), (36, .nilFunc), (37, .nilFunc), (38, .nilFunc), (39, .agg #[.string ByteArray.empty, .string ByteArray.empty]), (40, .agg #[.string ByteArray.empty, .string ByteArray.empty]), (41, .nilFunc), (42, .nilFunc), (43, .nilFunc), (44, .nilFunc), (46, .nilFunc), (47, .int .u64 0), (49, .nilFunc), (50, .nilFunc), (51, .nilFunc), (52, .pointer none), (53, .nilFunc), (54, .agg #[.slice none 0 0]), (55, .agg #[.slice none 0 0]), (56, .nilFunc), (57, .nilFunc), (58, .nilFunc), (59, .nilFunc), (60, .nilFunc), (61, .slice none 0 0), (62, .nilFunc), (63, .pointer none), (64, .slice none 0 0), (65, .agg #[.string ByteArray.empty, .int .i64 0, .int .i64 0, .int .i64 0, .int .i64 0]), (66, .agg #[.string ByteArray.empty, .int .i64 0, .int .i64 0, .int .i64 0, .int .i64 0]), (67, .nilFunc), (68, .nilFunc), (70, .nilFunc), (71, .map none), (72, .nilFunc), (73, .nilFunc), (74, .nilFunc), (75, .int .u64 0), (76, .nilFunc), (77, .nilFunc), (78, .nilFunc), (79, .nilFunc), (80, .slice none 0 0), (81, .pointer none), (82, .nilFunc), (83, .nilFunc), (84, .nilFunc), (85, .nilFunc), (87, .nilFunc), (88, .agg #[.string ByteArray.empty, .int .i64 0, .int .i64 0]), (89, .agg #[.string ByteArray.empty, .int .i64 0, .int .i64 0]), (90, .nilFunc), (91, .nilFunc), (92, .nilFunc), (93, .nilFunc), (94, .nilFunc), (95, .nilFunc), (97, .nilFunc), (98, .nilFunc), (99, .nilFunc), (100, .int .i64 0), (102, .nilFunc), (103, .nilFunc), (104, .nilFunc), (106, .nilFunc), (107, .nilFunc), (108, .int .u32 0), (109, .nilFunc), (110, .slice none 0 0), (111, .nilFunc), (112, .agg #[]), (113, .agg #[]), (114, .agg #[]), (115, .agg #[.int .u32 0]), (116, .agg #[.int .u32 0]), (119, .agg #[.int .i32 0, .int .u32 0]), (120, .agg #[.int .i32 0, .int .u32 0]), (121, .agg #[.int .u32 0, .int .i32 0, .int .u32 0]), (122, .agg #[.int .u32 0, .int .i32 0, .int .u32 0]), (123, .nilIface), (124, .nilIface), (125, .agg #[.int .u32 0, .int .i32 0, .int .u32 0, .nilIface, .slice none 0 0]), (126, .agg #[.int .u32 0, .int .i32 0, .int .u32 0, .nilIface, .slice none 0 0]), (127, .nilFunc), (128, .pointer none), (129, .slice none 0 0), (130, .agg #[.pointer none, .slice none 0 0]), (131, .agg #[.pointer none, .slice none 0 0]), (132, .nilFunc), (133, .nilIface), (134, .nilIface), (136, .nilFunc), (137, .nilFunc), (138, .nilFunc), (139, .nilFunc), (140, .nilFunc), (141, .slice none 0 0), (142, .nilFunc), (143, .nilFunc), (144, .nilFunc), (145, .nilFunc), (146, .int .u64 0), (147, .nilFunc), (148, .nilFunc), (149, .nilFunc), (150, .pointer none), (151, .nilFunc), (152, .nilFunc), (153, .nilFunc), (154, .pointer none), (155, .nilFunc), (156, .pointer none), (157, .nilFunc), (158, .pointer none), (160, .nilFunc), (161, .pointer none), (162, .nilFunc), (163, .pointer none), (164, .nilFunc), (165, .pointer none), (166, .nilFunc), (167, .pointer none), (168, .nilFunc), (169, wm), (170, BI), (171, .pointer none), (172, A6), (173, uQ), (174, Aw), (175, .pointer none), (177, .nilFunc), (178, .nilFunc), (179, .nilFunc), (180, .nilFunc), (181, .nilFunc), (182, .nilFunc), (183, .nilFunc), (184, .pointer none), (185, .nilFunc), (186, .nilFunc), (187, .pointer none), (188, .nilFunc), (189, .agg #[.pointer none, .string ByteArray.empty]), (190, .agg #[.pointer none, .string ByteArray.empty]), (191, .pointer none), (192, .slice none 0 0), (193, .agg #[.string ByteArray.empty, .int .i64 0, .string ByteArray.empty, .pointer none, .slice none 0 0]), (194, .agg #[.string ByteArray.empty, .int .i64 0, .string ByteArray.empty, .pointer none, .slice none 0 0]), (195, vi), (196, AD), (197, .nilFunc), (198, .nilFunc), (199, .nilFunc), (200, .pointer none), (201, .nilFunc), (202, .pointer none), (203, .nilFunc), (204, .nilFunc), (205, .nilFunc), (206, BE), (207, uW), (208, Bj), (209, .nilFunc), (210, .nilFunc), (211, .nilFunc), (212, .nilFunc), (213, .nilFunc), (214, .nilFunc), (217, .agg #[]), (220, .nilFunc), (221, .int .u8 0), (222, .int .u8 0), (223, .nilFunc), (224, .int .i32 0), (225, .int .i32 0), (226, .agg #[.int .u64 0, .int .u64 0, .int .u32 0, .int .u8 0, .int .u8 0, .int .u8 0, .int .u8 0, .nilFunc, .pointer none, .int .i32 0, .int .i32 0]), (227, .agg #[.int .u64 0, .int .u64 0, .int .u32 0, .int .u8 0, .int .u8 0, .int .u8 0, .int .u8 0, .nilFunc, .pointer none, .int .i32 0, .int .i32 0]), (228, .nilFunc), (229, .nilFunc), (230, .slice none 0 0), (231, .pointer none), (232, .nilIface), (233, .nilIface), (234, .nilIface), (235, .nilIface), (236, .nilFunc), (238, .nilFunc), (240, .agg #[.nilIface]), (241, .agg #[.nilIface]), (242, .nilFunc), (243, .nilFunc), (245, .nilFunc)]
set_option maxRecDepth 100000 in
theorem KY : ∀ p ∈ TTy, Tryz.prog.underlying p.1 = some p.2 := by
 simp only [TTy, List.forall_mem_cons]
 exact ⟨Tryz.underlying1, Tryz.underlying2, Tryz.underlying3, Tryz.underlying4, Tryz.underlying5, Tryz.underlying6, Tryz.underlying9, Tryz.underlying10, Tryz.underlying11, Tryz.underlying12, Tryz.underlying15, Tryz.underlying16, Tryz.underlying17, Tryz.underlying20, Tryz.underlying21, Tryz.underlying22, Tryz.underlying23, Tryz.underlying25, Tryz.underlying26, Tryz.underlying27, Tryz.underlying28, Tryz.underlying29, Tryz.underlying30, Tryz.underlying31, Tryz.underlying32, Tryz.underlying33, Tryz.underlying35, Tryz.underlying36, Tryz.underlying37, Tryz.underlying38, Tryz.underlying39, Tryz.underlying40, Tryz.underlying41, Tryz.underlying42, Tryz.underlying43, Tryz.underlying44, Tryz.underlying46, Tryz.underlying47, Tryz.underlying49, Tryz.underlying50, Tryz.underlying51, Tryz.underlying52, Tryz.underlying53, Tryz.underlying54, Tryz.underlying55, Tryz.underlying56, Tryz.underlying57, Tryz.underlying58, Tryz.underlying59, Tryz.underlying60, Tryz.underlying61, Tryz.underlying62, Tryz.underlying63, Tryz.underlying64, Tryz.underlying65, Tryz.underlying66, Tryz.underlying67, Tryz.underlying68, Tryz.underlying70, Tryz.underlying71, Tryz.underlying72, Tryz.underlying73, Tryz.underlying74, Tryz.underlying75, Tryz.underlying76, Tryz.underlying77, Tryz.underlying78, Tryz.underlying79, Tryz.underlying80, Tryz.underlying81, Tryz.underlying82, Tryz.underlying83, Tryz.underlying84, Tryz.underlying85, Tryz.underlying87, Tryz.underlying88, Tryz.underlying89, Tryz.underlying90, Tryz.underlying91, Tryz.underlying92, Tryz.underlying93, Tryz.underlying94, Tryz.underlying95, Tryz.underlying97, Tryz.underlying98, Tryz.underlying99, Tryz.underlying100, Tryz.underlying102, Tryz.underlying103, Tryz.underlying104, Tryz.underlying106, Tryz.underlying107, Tryz.underlying108, Tryz.underlying109, Tryz.underlying110, Tryz.underlying111, Tryz.underlying112, Tryz.underlying113, Tryz.underlying114, Tryz.underlying115, Tryz.underlying116, Tryz.underlying119, Tryz.underlying120, Tryz.underlying121, Tryz.underlying122, Tryz.underlying123, Tryz.underlying124, Tryz.underlying125, Tryz.underlying126, Tryz.underlying127, Tryz.underlying128, Tryz.underlying129, Tryz.underlying130, Tryz.underlying131, Tryz.underlying132, Tryz.underlying133, Tryz.underlying134, Tryz.underlying136, Tryz.underlying137, Tryz.underlying138, Tryz.underlying139, Tryz.underlying140, Tryz.underlying141, Tryz.underlying142, Tryz.underlying143, Tryz.underlying144, Tryz.underlying145, Tryz.underlying146, Tryz.underlying147, Tryz.underlying148, Tryz.underlying149, Tryz.underlying150, Tryz.underlying151, Tryz.underlying152, Tryz.underlying153, Tryz.underlying154, Tryz.underlying155, Tryz.underlying156, Tryz.underlying157, Tryz.underlying158, Tryz.underlying160, Tryz.underlying161, Tryz.underlying162, Tryz.underlying163, Tryz.underlying164, Tryz.underlying165, Tryz.underlying166, Tryz.underlying167, Tryz.underlying168, Tryz.underlying169, Tryz.underlying170, Tryz.underlying171, Tryz.underlying172, Tryz.underlying173, Tryz.underlying174, Tryz.underlying175, Tryz.underlying177, Tryz.underlying178, Tryz.underlying179, Tryz.underlying180, Tryz.underlying181, Tryz.underlying182, Tryz.underlying183, Tryz.underlying184, Tryz.underlying185, Tryz.underlying186, Tryz.underlying187, Tryz.underlying188, Tryz.underlying189, Tryz.underlying190, Tryz.underlying191, Tryz.underlying192, Tryz.underlying193, Tryz.underlying194, Tryz.underlying195, Tryz.underlying196, Tryz.underlying197, Tryz.underlying198, Tryz.underlying199, Tryz.underlying200, Tryz.underlying201, Tryz.underlying202, Tryz.underlying203, Tryz.underlying204, Tryz.underlying205, Tryz.underlying206, Tryz.underlying207, Tryz.underlying208, Tryz.underlying209, Tryz.underlying210, Tryz.underlying211, Tryz.underlying212, Tryz.underlying213, Tryz.underlying214, Tryz.underlying217, Tryz.underlying220, Tryz.underlying221, Tryz.underlying222, Tryz.underlying223, Tryz.underlying224, Tryz.underlying225, Tryz.underlying226, Tryz.underlying227, Tryz.underlying228, Tryz.underlying229, Tryz.underlying230, Tryz.underlying231, Tryz.underlying232, Tryz.underlying233, Tryz.underlying234, Tryz.underlying235, Tryz.underlying236, Tryz.underlying238, Tryz.underlying240, Tryz.underlying241, Tryz.underlying242, Tryz.underlying243, Tryz.underlying245, by simp⟩
set_option maxRecDepth 100000 in
theorem OI : (TSz.all fun p => (Tryz.prog.info? p.1).any fun i => i.size == p.2.1 && i.bytes == p.2.2 && i.zero.any (fun z => z.cells.size == p.2.1)) = true := by kernel_rfl
set_option maxRecDepth 100000 in
theorem PB : (Tryz.prog.info? 1).bind (·.zero) = some (.nilFunc) := by kernel_rfl
set_option maxRecDepth 100000 in
theorem PL : (Tryz.prog.info? 2).bind (·.zero) = some (.int .i64 0) := by kernel_rfl
set_option maxRecDepth 100000 in
theorem P1 : (Tryz.prog.info? 3).bind (·.zero) = some (.int .i64 0) := by kernel_rfl
set_option maxRecDepth 100000 in
theorem Pm : (Tryz.prog.info? 4).bind (·.zero) = some (.bool false) := by kernel_rfl
set_option maxRecDepth 100000 in
theorem Ph : (Tryz.prog.info? 5).bind (·.zero) = some (.int .u8 0) := by kernel_rfl
set_option maxRecDepth 100000 in
theorem Px : (Tryz.prog.info? 6).bind (·.zero) = some (.int .u8 0) := by kernel_rfl
set_option maxRecDepth 100000 in
theorem Pj : (Tryz.prog.info? 9).bind (·.zero) = some (.string ByteArray.empty) := by kernel_rfl
set_option maxRecDepth 100000 in
theorem L8 : (Tryz.prog.info? 10).bind (·.zero) = some (.string ByteArray.empty) := by kernel_rfl
set_option maxRecDepth 100000 in
theorem KZ : (Tryz.prog.info? 11).bind (·.zero) = some (.string ByteArray.empty) := by kernel_rfl
set_option maxRecDepth 100000 in
theorem No : (Tryz.prog.info? 12).bind (·.zero) = some (.int .u64 0) := by kernel_rfl
set_option maxRecDepth 100000 in
theorem MD : (Tryz.prog.info? 15).bind (·.zero) = some (.pointer none) := by kernel_rfl
set_option maxRecDepth 100000 in
theorem MA : (Tryz.prog.info? 16).bind (·.zero) = some (.pointer none) := by kernel_rfl
set_option maxRecDepth 100000 in
theorem Oh : (Tryz.prog.info? 17).bind (·.zero) = some (.pointer none) := by kernel_rfl
set_option maxRecDepth 100000 in
theorem KX : (Tryz.prog.info? 20).bind (·.zero) = some (.nilIface) := by kernel_rfl
set_option maxRecDepth 100000 in
theorem NC : (Tryz.prog.info? 21).bind (·.zero) = some (.int .i32 0) := by kernel_rfl
set_option maxRecDepth 100000 in
theorem L4 : (Tryz.prog.info? 22).bind (·.zero) = some (.slice none 0 0) := by kernel_rfl
set_option maxRecDepth 100000 in
theorem Me : (Tryz.prog.info? 23).bind (·.zero) = some (.int .i64 0) := by kernel_rfl
set_option maxRecDepth 100000 in
theorem ME : (Tryz.prog.info? 25).bind (·.zero) = some (.nilFunc) := by kernel_rfl
set_option maxRecDepth 100000 in
theorem Ox : (Tryz.prog.info? 26).bind (·.zero) = some (.nilFunc) := by kernel_rfl
set_option maxRecDepth 100000 in
theorem NI : (Tryz.prog.info? 27).bind (·.zero) = some (.nilFunc) := by kernel_rfl
set_option maxRecDepth 100000 in
theorem NY : (Tryz.prog.info? 28).bind (·.zero) = some (.nilFunc) := by kernel_rfl
set_option maxRecDepth 100000 in
theorem N5 : (Tryz.prog.info? 29).bind (·.zero) = some (.nilFunc) := by kernel_rfl
set_option maxRecDepth 100000 in
theorem Mu : (Tryz.prog.info? 30).bind (·.zero) = some (.nilFunc) := by kernel_rfl
set_option maxRecDepth 100000 in
theorem La : (Tryz.prog.info? 31).bind (·.zero) = some (.slice none 0 0) := by kernel_rfl
set_option maxRecDepth 100000 in
theorem LJ : (Tryz.prog.info? 32).bind (·.zero) = some (.agg #[.int .i64 0, .int .i64 0]) := by kernel_rfl
set_option maxRecDepth 100000 in
theorem Mn : (Tryz.prog.info? 33).bind (·.zero) = some (.agg #[.int .i64 0, .int .i64 0]) := by kernel_rfl
set_option maxRecDepth 100000 in
theorem Oq : (Tryz.prog.info? 35).bind (·.zero) = some (.nilFunc) := by kernel_rfl
set_option maxRecDepth 100000 in
theorem MR : (Tryz.prog.info? 36).bind (·.zero) = some (.nilFunc) := by kernel_rfl
set_option maxRecDepth 100000 in
theorem K2 : (Tryz.prog.info? 37).bind (·.zero) = some (.nilFunc) := by kernel_rfl
set_option maxRecDepth 100000 in
theorem OR : (Tryz.prog.info? 38).bind (·.zero) = some (.nilFunc) := by kernel_rfl
set_option maxRecDepth 100000 in
theorem LG : (Tryz.prog.info? 39).bind (·.zero) = some (.agg #[.string ByteArray.empty, .string ByteArray.empty]) := by kernel_rfl
set_option maxRecDepth 100000 in
theorem L2 : (Tryz.prog.info? 40).bind (·.zero) = some (.agg #[.string ByteArray.empty, .string ByteArray.empty]) := by kernel_rfl
set_option maxRecDepth 100000 in
theorem OT : (Tryz.prog.info? 41).bind (·.zero) = some (.nilFunc) := by kernel_rfl
set_option maxRecDepth 100000 in
theorem Ld : (Tryz.prog.info? 42).bind (·.zero) = some (.nilFunc) := by kernel_rfl
set_option maxRecDepth 100000 in
theorem MS : (Tryz.prog.info? 43).bind (·.zero) = some (.nilFunc) := by kernel_rfl
set_option maxRecDepth 100000 in
theorem MM : (Tryz.prog.info? 44).bind (·.zero) = some (.nilFunc) := by kernel_rfl
set_option maxRecDepth 100000 in
theorem KV : (Tryz.prog.info? 46).bind (·.zero) = some (.nilFunc) := by kernel_rfl
set_option maxRecDepth 100000 in
theorem Lb : (Tryz.prog.info? 47).bind (·.zero) = some (.int .u64 0) := by kernel_rfl
set_option maxRecDepth 100000 in
theorem MQ : (Tryz.prog.info? 49).bind (·.zero) = some (.nilFunc) := by kernel_rfl
set_option maxRecDepth 100000 in
theorem OH : (Tryz.prog.info? 50).bind (·.zero) = some (.nilFunc) := by kernel_rfl
set_option maxRecDepth 100000 in
theorem K5 : (Tryz.prog.info? 51).bind (·.zero) = some (.nilFunc) := by kernel_rfl
set_option maxRecDepth 100000 in
theorem Nb : (Tryz.prog.info? 52).bind (·.zero) = some (.pointer none) := by kernel_rfl
set_option maxRecDepth 100000 in
theorem Ny : (Tryz.prog.info? 53).bind (·.zero) = some (.nilFunc) := by kernel_rfl
set_option maxRecDepth 100000 in
theorem M3 : (Tryz.prog.info? 54).bind (·.zero) = some (.agg #[.slice none 0 0]) := by kernel_rfl
set_option maxRecDepth 100000 in
theorem OJ : (Tryz.prog.info? 55).bind (·.zero) = some (.agg #[.slice none 0 0]) := by kernel_rfl
set_option maxRecDepth 100000 in
theorem OF : (Tryz.prog.info? 56).bind (·.zero) = some (.nilFunc) := by kernel_rfl
set_option maxRecDepth 100000 in
theorem OC : (Tryz.prog.info? 57).bind (·.zero) = some (.nilFunc) := by kernel_rfl
set_option maxRecDepth 100000 in
theorem Lq : (Tryz.prog.info? 58).bind (·.zero) = some (.nilFunc) := by kernel_rfl
set_option maxRecDepth 100000 in
theorem Nk : (Tryz.prog.info? 59).bind (·.zero) = some (.nilFunc) := by kernel_rfl
set_option maxRecDepth 100000 in
theorem M5 : (Tryz.prog.info? 60).bind (·.zero) = some (.nilFunc) := by kernel_rfl
set_option maxRecDepth 100000 in
theorem NP : (Tryz.prog.info? 61).bind (·.zero) = some (.slice none 0 0) := by kernel_rfl
set_option maxRecDepth 100000 in
theorem Lk : (Tryz.prog.info? 62).bind (·.zero) = some (.nilFunc) := by kernel_rfl
set_option maxRecDepth 100000 in
theorem K1 : (Tryz.prog.info? 63).bind (·.zero) = some (.pointer none) := by kernel_rfl
set_option maxRecDepth 100000 in
theorem MC : (Tryz.prog.info? 64).bind (·.zero) = some (.slice none 0 0) := by kernel_rfl
set_option maxRecDepth 100000 in
theorem NT : (Tryz.prog.info? 65).bind (·.zero) = some (.agg #[.string ByteArray.empty, .int .i64 0, .int .i64 0, .int .i64 0, .int .i64 0]) := by kernel_rfl
set_option maxRecDepth 100000 in
theorem LT : (Tryz.prog.info? 66).bind (·.zero) = some (.agg #[.string ByteArray.empty, .int .i64 0, .int .i64 0, .int .i64 0, .int .i64 0]) := by kernel_rfl
set_option maxRecDepth 100000 in
theorem Oj : (Tryz.prog.info? 67).bind (·.zero) = some (.nilFunc) := by kernel_rfl
set_option maxRecDepth 100000 in
theorem K9 : (Tryz.prog.info? 68).bind (·.zero) = some (.nilFunc) := by kernel_rfl
set_option maxRecDepth 100000 in
theorem Mq : (Tryz.prog.info? 70).bind (·.zero) = some (.nilFunc) := by kernel_rfl
set_option maxRecDepth 100000 in
theorem LS : (Tryz.prog.info? 71).bind (·.zero) = some (.map none) := by kernel_rfl
set_option maxRecDepth 100000 in
theorem ON : (Tryz.prog.info? 72).bind (·.zero) = some (.nilFunc) := by kernel_rfl
set_option maxRecDepth 100000 in
theorem MN : (Tryz.prog.info? 73).bind (·.zero) = some (.nilFunc) := by kernel_rfl
set_option maxRecDepth 100000 in
theorem MB : (Tryz.prog.info? 74).bind (·.zero) = some (.nilFunc) := by kernel_rfl
set_option maxRecDepth 100000 in
theorem Mc : (Tryz.prog.info? 75).bind (·.zero) = some (.int .u64 0) := by kernel_rfl
set_option maxRecDepth 100000 in
theorem OP : (Tryz.prog.info? 76).bind (·.zero) = some (.nilFunc) := by kernel_rfl
set_option maxRecDepth 100000 in
theorem Nj : (Tryz.prog.info? 77).bind (·.zero) = some (.nilFunc) := by kernel_rfl
set_option maxRecDepth 100000 in
theorem K8 : (Tryz.prog.info? 78).bind (·.zero) = some (.nilFunc) := by kernel_rfl
set_option maxRecDepth 100000 in
theorem LL : (Tryz.prog.info? 79).bind (·.zero) = some (.nilFunc) := by kernel_rfl
set_option maxRecDepth 100000 in
theorem ML : (Tryz.prog.info? 80).bind (·.zero) = some (.slice none 0 0) := by kernel_rfl
set_option maxRecDepth 100000 in
theorem Nm : (Tryz.prog.info? 81).bind (·.zero) = some (.pointer none) := by kernel_rfl
set_option maxRecDepth 100000 in
theorem Mf : (Tryz.prog.info? 82).bind (·.zero) = some (.nilFunc) := by kernel_rfl
set_option maxRecDepth 100000 in
theorem NS : (Tryz.prog.info? 83).bind (·.zero) = some (.nilFunc) := by kernel_rfl
set_option maxRecDepth 100000 in
theorem Mr : (Tryz.prog.info? 84).bind (·.zero) = some (.nilFunc) := by kernel_rfl
set_option maxRecDepth 100000 in
theorem Ns : (Tryz.prog.info? 85).bind (·.zero) = some (.nilFunc) := by kernel_rfl
set_option maxRecDepth 100000 in
theorem Oo : (Tryz.prog.info? 87).bind (·.zero) = some (.nilFunc) := by kernel_rfl
set_option maxRecDepth 100000 in
theorem NZ : (Tryz.prog.info? 88).bind (·.zero) = some (.agg #[.string ByteArray.empty, .int .i64 0, .int .i64 0]) := by kernel_rfl
set_option maxRecDepth 100000 in
theorem LR : (Tryz.prog.info? 89).bind (·.zero) = some (.agg #[.string ByteArray.empty, .int .i64 0, .int .i64 0]) := by kernel_rfl
set_option maxRecDepth 100000 in
theorem Mb : (Tryz.prog.info? 90).bind (·.zero) = some (.nilFunc) := by kernel_rfl
set_option maxRecDepth 100000 in
theorem Mt : (Tryz.prog.info? 91).bind (·.zero) = some (.nilFunc) := by kernel_rfl
set_option maxRecDepth 100000 in
theorem NB : (Tryz.prog.info? 92).bind (·.zero) = some (.nilFunc) := by kernel_rfl
set_option maxRecDepth 100000 in
theorem L0 : (Tryz.prog.info? 93).bind (·.zero) = some (.nilFunc) := by kernel_rfl
set_option maxRecDepth 100000 in
theorem Lv : (Tryz.prog.info? 94).bind (·.zero) = some (.nilFunc) := by kernel_rfl
set_option maxRecDepth 100000 in
theorem L9 : (Tryz.prog.info? 95).bind (·.zero) = some (.nilFunc) := by kernel_rfl
set_option maxRecDepth 100000 in
theorem MZ : (Tryz.prog.info? 97).bind (·.zero) = some (.nilFunc) := by kernel_rfl
set_option maxRecDepth 100000 in
theorem Lr : (Tryz.prog.info? 98).bind (·.zero) = some (.nilFunc) := by kernel_rfl
set_option maxRecDepth 100000 in
theorem LE : (Tryz.prog.info? 99).bind (·.zero) = some (.nilFunc) := by kernel_rfl
set_option maxRecDepth 100000 in
theorem Ii : (Tryz.prog.info? 100).bind (·.zero) = some (.int .i64 0) := by kernel_rfl
set_option maxRecDepth 100000 in
theorem Ha : (Tryz.prog.info? 102).bind (·.zero) = some (.nilFunc) := by kernel_rfl
set_option maxRecDepth 100000 in
theorem IW : (Tryz.prog.info? 103).bind (·.zero) = some (.nilFunc) := by kernel_rfl
set_option maxRecDepth 100000 in
theorem G9 : (Tryz.prog.info? 104).bind (·.zero) = some (.nilFunc) := by kernel_rfl
set_option maxRecDepth 100000 in
theorem GN : (Tryz.prog.info? 106).bind (·.zero) = some (.nilFunc) := by kernel_rfl
set_option maxRecDepth 100000 in
theorem IJ : (Tryz.prog.info? 107).bind (·.zero) = some (.nilFunc) := by kernel_rfl
set_option maxRecDepth 100000 in
theorem IR : (Tryz.prog.info? 108).bind (·.zero) = some (.int .u32 0) := by kernel_rfl
set_option maxRecDepth 100000 in
theorem GL : (Tryz.prog.info? 109).bind (·.zero) = some (.nilFunc) := by kernel_rfl
set_option maxRecDepth 100000 in
theorem Jb : (Tryz.prog.info? 110).bind (·.zero) = some (.slice none 0 0) := by kernel_rfl
set_option maxRecDepth 100000 in
theorem Hk : (Tryz.prog.info? 111).bind (·.zero) = some (.nilFunc) := by kernel_rfl
set_option maxRecDepth 100000 in
theorem I6 : (Tryz.prog.info? 112).bind (·.zero) = some (.agg #[]) := by kernel_rfl
set_option maxRecDepth 100000 in
theorem HG : (Tryz.prog.info? 113).bind (·.zero) = some (.agg #[]) := by kernel_rfl
set_option maxRecDepth 100000 in
theorem qIO : (Tryz.prog.info? 114).bind (·.zero) = some (.agg #[]) := by kernel_rfl
set_option maxRecDepth 100000 in
theorem Je : (Tryz.prog.info? 115).bind (·.zero) = some (.agg #[.int .u32 0]) := by kernel_rfl
set_option maxRecDepth 100000 in
theorem Hh : (Tryz.prog.info? 116).bind (·.zero) = some (.agg #[.int .u32 0]) := by kernel_rfl
set_option maxRecDepth 100000 in
theorem HQ : (Tryz.prog.info? 119).bind (·.zero) = some (.agg #[.int .i32 0, .int .u32 0]) := by kernel_rfl
set_option maxRecDepth 100000 in
theorem IY : (Tryz.prog.info? 120).bind (·.zero) = some (.agg #[.int .i32 0, .int .u32 0]) := by kernel_rfl
set_option maxRecDepth 100000 in
theorem JI : (Tryz.prog.info? 121).bind (·.zero) = some (.agg #[.int .u32 0, .int .i32 0, .int .u32 0]) := by kernel_rfl
set_option maxRecDepth 100000 in
theorem IA : (Tryz.prog.info? 122).bind (·.zero) = some (.agg #[.int .u32 0, .int .i32 0, .int .u32 0]) := by kernel_rfl
set_option maxRecDepth 100000 in
theorem Gt : (Tryz.prog.info? 123).bind (·.zero) = some (.nilIface) := by kernel_rfl
set_option maxRecDepth 100000 in
theorem GX : (Tryz.prog.info? 124).bind (·.zero) = some (.nilIface) := by kernel_rfl
set_option maxRecDepth 100000 in
theorem HP : (Tryz.prog.info? 125).bind (·.zero) = some (.agg #[.int .u32 0, .int .i32 0, .int .u32 0, .nilIface, .slice none 0 0]) := by kernel_rfl
set_option maxRecDepth 100000 in
theorem H5 : (Tryz.prog.info? 126).bind (·.zero) = some (.agg #[.int .u32 0, .int .i32 0, .int .u32 0, .nilIface, .slice none 0 0]) := by kernel_rfl
set_option maxRecDepth 100000 in
theorem GV : (Tryz.prog.info? 127).bind (·.zero) = some (.nilFunc) := by kernel_rfl
set_option maxRecDepth 100000 in
theorem Ho : (Tryz.prog.info? 128).bind (·.zero) = some (.pointer none) := by kernel_rfl
set_option maxRecDepth 100000 in
theorem G3 : (Tryz.prog.info? 129).bind (·.zero) = some (.slice none 0 0) := by kernel_rfl
set_option maxRecDepth 100000 in
theorem Hb : (Tryz.prog.info? 130).bind (·.zero) = some (.agg #[.pointer none, .slice none 0 0]) := by kernel_rfl
set_option maxRecDepth 100000 in
theorem GF : (Tryz.prog.info? 131).bind (·.zero) = some (.agg #[.pointer none, .slice none 0 0]) := by kernel_rfl
set_option maxRecDepth 100000 in
theorem IV : (Tryz.prog.info? 132).bind (·.zero) = some (.nilFunc) := by kernel_rfl
set_option maxRecDepth 100000 in
theorem G0 : (Tryz.prog.info? 133).bind (·.zero) = some (.nilIface) := by kernel_rfl
set_option maxRecDepth 100000 in
theorem HS : (Tryz.prog.info? 134).bind (·.zero) = some (.nilIface) := by kernel_rfl
set_option maxRecDepth 100000 in
theorem H7 : (Tryz.prog.info? 136).bind (·.zero) = some (.nilFunc) := by kernel_rfl
set_option maxRecDepth 100000 in
theorem Gz : (Tryz.prog.info? 137).bind (·.zero) = some (.nilFunc) := by kernel_rfl
set_option maxRecDepth 100000 in
theorem IK : (Tryz.prog.info? 138).bind (·.zero) = some (.nilFunc) := by kernel_rfl
set_option maxRecDepth 100000 in
theorem Jh : (Tryz.prog.info? 139).bind (·.zero) = some (.nilFunc) := by kernel_rfl
set_option maxRecDepth 100000 in
theorem HF : (Tryz.prog.info? 140).bind (·.zero) = some (.nilFunc) := by kernel_rfl
set_option maxRecDepth 100000 in
theorem HU : (Tryz.prog.info? 141).bind (·.zero) = some (.slice none 0 0) := by kernel_rfl
set_option maxRecDepth 100000 in
theorem GU : (Tryz.prog.info? 142).bind (·.zero) = some (.nilFunc) := by kernel_rfl
set_option maxRecDepth 100000 in
theorem Ig : (Tryz.prog.info? 143).bind (·.zero) = some (.nilFunc) := by kernel_rfl
set_option maxRecDepth 100000 in
theorem Jc : (Tryz.prog.info? 144).bind (·.zero) = some (.nilFunc) := by kernel_rfl
set_option maxRecDepth 100000 in
theorem H9 : (Tryz.prog.info? 145).bind (·.zero) = some (.nilFunc) := by kernel_rfl
set_option maxRecDepth 100000 in
theorem JG : (Tryz.prog.info? 146).bind (·.zero) = some (.int .u64 0) := by kernel_rfl
set_option maxRecDepth 100000 in
theorem H8 : (Tryz.prog.info? 147).bind (·.zero) = some (.nilFunc) := by kernel_rfl
set_option maxRecDepth 100000 in
theorem G4 : (Tryz.prog.info? 148).bind (·.zero) = some (.nilFunc) := by kernel_rfl
set_option maxRecDepth 100000 in
theorem G6 : (Tryz.prog.info? 149).bind (·.zero) = some (.nilFunc) := by kernel_rfl
set_option maxRecDepth 100000 in
theorem I3 : (Tryz.prog.info? 150).bind (·.zero) = some (.pointer none) := by kernel_rfl
set_option maxRecDepth 100000 in
theorem Jq : (Tryz.prog.info? 151).bind (·.zero) = some (.nilFunc) := by kernel_rfl
set_option maxRecDepth 100000 in
theorem IC : (Tryz.prog.info? 152).bind (·.zero) = some (.nilFunc) := by kernel_rfl
set_option maxRecDepth 100000 in
theorem Iw : (Tryz.prog.info? 153).bind (·.zero) = some (.nilFunc) := by kernel_rfl
set_option maxRecDepth 100000 in
theorem Iv : (Tryz.prog.info? 154).bind (·.zero) = some (.pointer none) := by kernel_rfl
set_option maxRecDepth 100000 in
theorem I1 : (Tryz.prog.info? 155).bind (·.zero) = some (.nilFunc) := by kernel_rfl
set_option maxRecDepth 100000 in
theorem HC : (Tryz.prog.info? 156).bind (·.zero) = some (.pointer none) := by kernel_rfl
set_option maxRecDepth 100000 in
theorem JR : (Tryz.prog.info? 157).bind (·.zero) = some (.nilFunc) := by kernel_rfl
set_option maxRecDepth 100000 in
theorem Jl : (Tryz.prog.info? 158).bind (·.zero) = some (.pointer none) := by kernel_rfl
set_option maxRecDepth 100000 in
theorem GM : (Tryz.prog.info? 160).bind (·.zero) = some (.nilFunc) := by kernel_rfl
set_option maxRecDepth 100000 in
theorem HW : (Tryz.prog.info? 161).bind (·.zero) = some (.pointer none) := by kernel_rfl
set_option maxRecDepth 100000 in
theorem H4 : (Tryz.prog.info? 162).bind (·.zero) = some (.nilFunc) := by kernel_rfl
set_option maxRecDepth 100000 in
theorem JU : (Tryz.prog.info? 163).bind (·.zero) = some (.pointer none) := by kernel_rfl
set_option maxRecDepth 100000 in
theorem G8 : (Tryz.prog.info? 164).bind (·.zero) = some (.nilFunc) := by kernel_rfl
set_option maxRecDepth 100000 in
theorem IU : (Tryz.prog.info? 165).bind (·.zero) = some (.pointer none) := by kernel_rfl
set_option maxRecDepth 100000 in
theorem Hi : (Tryz.prog.info? 166).bind (·.zero) = some (.nilFunc) := by kernel_rfl
set_option maxRecDepth 100000 in
theorem HN : (Tryz.prog.info? 167).bind (·.zero) = some (.pointer none) := by kernel_rfl
set_option maxRecDepth 100000 in
theorem Gx : (Tryz.prog.info? 168).bind (·.zero) = some (.nilFunc) := by kernel_rfl
set_option maxRecDepth 100000 in
theorem JD : (Tryz.prog.info? 169).bind (·.zero) = some (wm) := by kernel_rfl
set_option maxRecDepth 100000 in
theorem Ie : (Tryz.prog.info? 170).bind (·.zero) = some (BI) := by kernel_rfl
set_option maxRecDepth 100000 in
theorem G5 : (Tryz.prog.info? 171).bind (·.zero) = some (.pointer none) := by kernel_rfl
set_option maxRecDepth 100000 in
theorem HH : (Tryz.prog.info? 172).bind (·.zero) = some (A6) := by kernel_rfl
set_option maxRecDepth 100000 in
theorem IN : (Tryz.prog.info? 173).bind (·.zero) = some (uQ) := by kernel_rfl
set_option maxRecDepth 100000 in
theorem Gy : (Tryz.prog.info? 174).bind (·.zero) = some (Aw) := by kernel_rfl
set_option maxRecDepth 100000 in
theorem I8 : (Tryz.prog.info? 175).bind (·.zero) = some (.pointer none) := by kernel_rfl
set_option maxRecDepth 100000 in
theorem IG : (Tryz.prog.info? 177).bind (·.zero) = some (.nilFunc) := by kernel_rfl
set_option maxRecDepth 100000 in
theorem IF : (Tryz.prog.info? 178).bind (·.zero) = some (.nilFunc) := by kernel_rfl
set_option maxRecDepth 100000 in
theorem G7 : (Tryz.prog.info? 179).bind (·.zero) = some (.nilFunc) := by kernel_rfl
set_option maxRecDepth 100000 in
theorem JL : (Tryz.prog.info? 180).bind (·.zero) = some (.nilFunc) := by kernel_rfl
set_option maxRecDepth 100000 in
theorem JC : (Tryz.prog.info? 181).bind (·.zero) = some (.nilFunc) := by kernel_rfl
set_option maxRecDepth 100000 in
theorem JE : (Tryz.prog.info? 182).bind (·.zero) = some (.nilFunc) := by kernel_rfl
set_option maxRecDepth 100000 in
theorem JY : (Tryz.prog.info? 183).bind (·.zero) = some (.nilFunc) := by kernel_rfl
set_option maxRecDepth 100000 in
theorem HT : (Tryz.prog.info? 184).bind (·.zero) = some (.pointer none) := by kernel_rfl
set_option maxRecDepth 100000 in
theorem Gp : (Tryz.prog.info? 185).bind (·.zero) = some (.nilFunc) := by kernel_rfl
set_option maxRecDepth 100000 in
theorem HM : (Tryz.prog.info? 186).bind (·.zero) = some (.nilFunc) := by kernel_rfl
set_option maxRecDepth 100000 in
theorem Hm : (Tryz.prog.info? 187).bind (·.zero) = some (.pointer none) := by kernel_rfl
set_option maxRecDepth 100000 in
theorem I9 : (Tryz.prog.info? 188).bind (·.zero) = some (.nilFunc) := by kernel_rfl
set_option maxRecDepth 100000 in
theorem Ix : (Tryz.prog.info? 189).bind (·.zero) = some (.agg #[.pointer none, .string ByteArray.empty]) := by kernel_rfl
set_option maxRecDepth 100000 in
theorem IM : (Tryz.prog.info? 190).bind (·.zero) = some (.agg #[.pointer none, .string ByteArray.empty]) := by kernel_rfl
set_option maxRecDepth 100000 in
theorem JM : (Tryz.prog.info? 191).bind (·.zero) = some (.pointer none) := by kernel_rfl
set_option maxRecDepth 100000 in
theorem Jp : (Tryz.prog.info? 192).bind (·.zero) = some (.slice none 0 0) := by kernel_rfl
set_option maxRecDepth 100000 in
theorem Id : (Tryz.prog.info? 193).bind (·.zero) = some (.agg #[.string ByteArray.empty, .int .i64 0, .string ByteArray.empty, .pointer none, .slice none 0 0]) := by kernel_rfl
set_option maxRecDepth 100000 in
theorem GS : (Tryz.prog.info? 194).bind (·.zero) = some (.agg #[.string ByteArray.empty, .int .i64 0, .string ByteArray.empty, .pointer none, .slice none 0 0]) := by kernel_rfl
set_option maxRecDepth 100000 in
theorem G1 : (Tryz.prog.info? 195).bind (·.zero) = some (vi) := by kernel_rfl
set_option maxRecDepth 100000 in
theorem HB : (Tryz.prog.info? 196).bind (·.zero) = some (AD) := by kernel_rfl
set_option maxRecDepth 100000 in
theorem Gs : (Tryz.prog.info? 197).bind (·.zero) = some (.nilFunc) := by kernel_rfl
set_option maxRecDepth 100000 in
theorem Jn : (Tryz.prog.info? 198).bind (·.zero) = some (.nilFunc) := by kernel_rfl
set_option maxRecDepth 100000 in
theorem Hu : (Tryz.prog.info? 199).bind (·.zero) = some (.nilFunc) := by kernel_rfl
set_option maxRecDepth 100000 in
theorem JZ : (Tryz.prog.info? 200).bind (·.zero) = some (.pointer none) := by kernel_rfl
set_option maxRecDepth 100000 in
theorem JS : (Tryz.prog.info? 201).bind (·.zero) = some (.nilFunc) := by kernel_rfl
set_option maxRecDepth 100000 in
theorem Gw : (Tryz.prog.info? 202).bind (·.zero) = some (.pointer none) := by kernel_rfl
set_option maxRecDepth 100000 in
theorem Ic : (Tryz.prog.info? 203).bind (·.zero) = some (.nilFunc) := by kernel_rfl
set_option maxRecDepth 100000 in
theorem IQ : (Tryz.prog.info? 204).bind (·.zero) = some (.nilFunc) := by kernel_rfl
set_option maxRecDepth 100000 in
theorem Ja : (Tryz.prog.info? 205).bind (·.zero) = some (.nilFunc) := by kernel_rfl
set_option maxRecDepth 100000 in
theorem I2 : (Tryz.prog.info? 206).bind (·.zero) = some (BE) := by kernel_rfl
set_option maxRecDepth 100000 in
theorem HI : (Tryz.prog.info? 207).bind (·.zero) = some (uW) := by kernel_rfl
set_option maxRecDepth 100000 in
theorem IB : (Tryz.prog.info? 208).bind (·.zero) = some (Bj) := by kernel_rfl
set_option maxRecDepth 100000 in
theorem I4 : (Tryz.prog.info? 209).bind (·.zero) = some (.nilFunc) := by kernel_rfl
set_option maxRecDepth 100000 in
theorem GR : (Tryz.prog.info? 210).bind (·.zero) = some (.nilFunc) := by kernel_rfl
set_option maxRecDepth 100000 in
theorem JW : (Tryz.prog.info? 211).bind (·.zero) = some (.nilFunc) := by kernel_rfl
set_option maxRecDepth 100000 in
theorem Iu : (Tryz.prog.info? 212).bind (·.zero) = some (.nilFunc) := by kernel_rfl
set_option maxRecDepth 100000 in
theorem IX : (Tryz.prog.info? 213).bind (·.zero) = some (.nilFunc) := by kernel_rfl
set_option maxRecDepth 100000 in
theorem HK : (Tryz.prog.info? 214).bind (·.zero) = some (.nilFunc) := by kernel_rfl
set_option maxRecDepth 100000 in
theorem IZ : (Tryz.prog.info? 217).bind (·.zero) = some (.agg #[]) := by kernel_rfl
set_option maxRecDepth 100000 in
theorem JF : (Tryz.prog.info? 220).bind (·.zero) = some (.nilFunc) := by kernel_rfl
set_option maxRecDepth 100000 in
theorem Jf : (Tryz.prog.info? 221).bind (·.zero) = some (.int .u8 0) := by kernel_rfl
set_option maxRecDepth 100000 in
theorem GB : (Tryz.prog.info? 222).bind (·.zero) = some (.int .u8 0) := by kernel_rfl
set_option maxRecDepth 100000 in
theorem GC : (Tryz.prog.info? 223).bind (·.zero) = some (.nilFunc) := by kernel_rfl
set_option maxRecDepth 100000 in
theorem HV : (Tryz.prog.info? 224).bind (·.zero) = some (.int .i32 0) := by kernel_rfl
set_option maxRecDepth 100000 in
theorem Jz : (Tryz.prog.info? 225).bind (·.zero) = some (.int .i32 0) := by kernel_rfl
set_option maxRecDepth 100000 in
theorem Hz : (Tryz.prog.info? 226).bind (·.zero) = some (.agg #[.int .u64 0, .int .u64 0, .int .u32 0, .int .u8 0, .int .u8 0, .int .u8 0, .int .u8 0, .nilFunc, .pointer none, .int .i32 0, .int .i32 0]) := by kernel_rfl
set_option maxRecDepth 100000 in
theorem I7 : (Tryz.prog.info? 227).bind (·.zero) = some (.agg #[.int .u64 0, .int .u64 0, .int .u32 0, .int .u8 0, .int .u8 0, .int .u8 0, .int .u8 0, .nilFunc, .pointer none, .int .i32 0, .int .i32 0]) := by kernel_rfl
set_option maxRecDepth 100000 in
theorem Hy : (Tryz.prog.info? 228).bind (·.zero) = some (.nilFunc) := by kernel_rfl
set_option maxRecDepth 100000 in
theorem Hd : (Tryz.prog.info? 229).bind (·.zero) = some (.nilFunc) := by kernel_rfl
set_option maxRecDepth 100000 in
theorem JX : (Tryz.prog.info? 230).bind (·.zero) = some (.slice none 0 0) := by kernel_rfl
set_option maxRecDepth 100000 in
theorem Jm : (Tryz.prog.info? 231).bind (·.zero) = some (.pointer none) := by kernel_rfl
set_option maxRecDepth 100000 in
theorem Il : (Tryz.prog.info? 232).bind (·.zero) = some (.nilIface) := by kernel_rfl
set_option maxRecDepth 100000 in
theorem IS : (Tryz.prog.info? 233).bind (·.zero) = some (.nilIface) := by kernel_rfl
set_option maxRecDepth 100000 in
theorem Hf : (Tryz.prog.info? 234).bind (·.zero) = some (.nilIface) := by kernel_rfl
set_option maxRecDepth 100000 in
theorem HY : (Tryz.prog.info? 235).bind (·.zero) = some (.nilIface) := by kernel_rfl
set_option maxRecDepth 100000 in
theorem Ip : (Tryz.prog.info? 236).bind (·.zero) = some (.nilFunc) := by kernel_rfl
set_option maxRecDepth 100000 in
theorem I5 : (Tryz.prog.info? 238).bind (·.zero) = some (.nilFunc) := by kernel_rfl
set_option maxRecDepth 100000 in
theorem Jr : (Tryz.prog.info? 240).bind (·.zero) = some (.agg #[.nilIface]) := by kernel_rfl
set_option maxRecDepth 100000 in
theorem IH : (Tryz.prog.info? 241).bind (·.zero) = some (.agg #[.nilIface]) := by kernel_rfl
set_option maxRecDepth 100000 in
theorem G2 : (Tryz.prog.info? 242).bind (·.zero) = some (.nilFunc) := by kernel_rfl
set_option maxRecDepth 100000 in
theorem Gr : (Tryz.prog.info? 243).bind (·.zero) = some (.nilFunc) := by kernel_rfl
set_option maxRecDepth 100000 in
theorem Js : (Tryz.prog.info? 245).bind (·.zero) = some (.nilFunc) := by kernel_rfl
set_option maxRecDepth 100000 in
theorem Om : ∀ p ∈ TZr, (Tryz.prog.info? p.1).bind (·.zero) = some p.2 := by
 simp only [TZr, List.forall_mem_cons]
 exact ⟨PB, PL, P1, Pm, Ph, Px, Pj, L8, KZ, No, MD, MA, Oh, KX, NC, L4, Me, ME, Ox, NI, NY, N5, Mu, La, LJ, Mn, Oq, MR, K2, OR, LG, L2, OT, Ld, MS, MM, KV, Lb, MQ, OH, K5, Nb, Ny, M3, OJ, OF, OC, Lq, Nk, M5, NP, Lk, K1, MC, NT, LT, Oj, K9, Mq, LS, ON, MN, MB, Mc, OP, Nj, K8, LL, ML, Nm, Mf, NS, Mr, Ns, Oo, NZ, LR, Mb, Mt, NB, L0, Lv, L9, MZ, Lr, LE, Ii, Ha, IW, G9, GN, IJ, IR, GL, Jb, Hk, I6, HG, qIO, Je, Hh, HQ, IY, JI, IA, Gt, GX, HP, H5, GV, Ho, G3, Hb, GF, IV, G0, HS, H7, Gz, IK, Jh, HF, HU, GU, Ig, Jc, H9, JG, H8, G4, G6, I3, Jq, IC, Iw, Iv, I1, HC, JR, Jl, GM, HW, H4, JU, G8, IU, Hi, HN, Gx, JD, Ie, G5, HH, IN, Gy, I8, IG, IF, G7, JL, JC, JE, JY, HT, Gp, HM, Hm, I9, Ix, IM, JM, Jp, Id, GS, G1, HB, Gs, Jn, Hu, JZ, JS, Gw, Ic, IQ, Ja, I2, HI, IB, I4, GR, JW, Iu, IX, HK, IZ, JF, Jf, GB, GC, HV, Jz, Hz, I7, Hy, Hd, JX, Jm, Il, IS, Hf, HY, Ip, I5, Jr, IH, G2, Gr, Js, by simp⟩
set_option maxRecDepth 100000 in
def TT : Tys Tryz.prog where
 ty := TTy
 sz := TSz
 zr := TZr
 tyOk := fun t d h => KY _ (bl h)
 szOk := fun t s b h => by
  have h1 := List.all_eq_true.1 OI _ (bl h)
  simp only [Option.any_eq_true_iff_get, Bool.and_eq_true, beq_iff_eq] at h1
  obtain ⟨hs, ⟨h2, h3⟩, hz, h4⟩ := h1
  exact ⟨_, (Option.some_get hs).symm, h2, h3, _, (Option.some_get hz).symm, h4⟩
 zrOk := fun t z h => by
  have h1 := Om _ (bl h)
  simp only [Option.bind_eq_some_iff] at h1
  exact h1
theorem mixed : Tryz.prog.follows .mixedOrders = true := by kernel_rfl
end Go.Proofs.YtmjpdbbjiipnfaaGreat
namespace Go.Proofs.YtmjpdbbjiipnfaaGreat
open Go.RowKit P
set_option linter.unusedVariables false
set_option linter.unusedSimpArgs false
structure VboundsError where
 x : Int
 y : Int
 signed : Bool
 code : UInt8
structure VerrorAddressString where
 msg : List UInt8
 addr : Int
structure VLabel where
 Name : List UInt8
 Value : List UInt8
structure VTarget where
 Labels : List VLabel
structure VFault where
 Err : Int
 At : Int
structure VLine where
 S : List UInt8
 At : Int
 Begun : Int
 F : VFault
structure VScanner where
 s : List UInt8
 at_ : Int
 begun : Int
structure VMutex where
 state : Int
 sema : Int
def Ex (n : Nat) (x : Option (List Bool)) : AV := match x with
 | none => .v (.pointer none)
 | some l => .el ((List.range n).map fun i => .v (.bool (List.getD l i false)))
theorem fO (n : Nat) (x : Option (List Bool)) : (Ex n x).one = true ∧ (Ex n x).rd = Ex n x := by cases x <;> exact ⟨rfl, rfl⟩
def ET : Nat → Type
 | 0 => VboundsError
 | 1 => VerrorAddressString
 | 2 => VLabel
 | 3 => VTarget
 | 4 => VFault
 | 5 => VLine
 | 6 => VScanner
 | 7 => VMutex
 | _ => Unit
def bz (z : VboundsError) : List AV := [.v (.int .i64 z.x)] ++ [.v (.int .i64 z.y)] ++ [.v (.bool z.signed)] ++ [.v (.int .u8 (UInt8.toNat z.code))]
def aO (z : VerrorAddressString) : List AV := [.v (.string (mkB z.msg))] ++ [.v (.int .u64 z.addr)]
def bR (z : VLabel) : List AV := [.v (.string (mkB z.Name))] ++ [.v (.string (mkB z.Value))]
def dm (z : VTarget) : List AV := [.sl false 2 (List.map (fun x => bR x) z.Labels)]
def dp (z : VFault) : List AV := [.v (.int .i64 z.Err)] ++ [.v (.int .i64 z.At)]
def eA (z : VLine) : List AV := [.v (.string (mkB z.S))] ++ [.v (.int .i64 z.At)] ++ [.v (.int .i64 z.Begun)] ++ dp z.F
def cP (z : VScanner) : List AV := [.v (.string (mkB z.s))] ++ [.v (.int .i64 z.at_)] ++ [.v (.int .i64 z.begun)]
def dR (z : VMutex) : List AV := [.v (.int .i32 z.state)] ++ [.v (.int .u32 z.sema)]
def wn : ∀ i, ET i → List AV
 | 0, z => bz z
 | 1, z => aO z
 | 2, z => bR z
 | 3, z => dm z
 | 4, z => dp z
 | 5, z => eA z
 | 6, z => cP z
 | 7, z => dR z
 | _ + 8, _ => []
def szE : Nat → Nat
 | 0 => 4
 | 1 => 2
 | 2 => 2
 | 3 => 1
 | 4 => 2
 | 5 => 5
 | 6 => 3
 | 7 => 2
 | _ => 0
def ECC : Enc where
 T := ET
 enc := wn
 sz := szE
 len := fun i z => match i, z with
  | 0, z => rfl
  | 1, z => rfl
  | 2, z => rfl
  | 3, z => rfl
  | 4, z => rfl
  | 5, z => rfl
  | 6, z => rfl
  | 7, z => rfl
  | _ + 8, _ => rfl
 one := fun i z => match i, z with
  | 0, z => by intro u hu; simp only [wn, bz, aO, bR, dm, dp, eA, cP, dR, List.cons_append, List.nil_append, List.mem_cons, List.not_mem_nil, or_false] at hu; rcases hu with rfl | rfl | rfl | rfl <;> first | exact ⟨rfl, rfl⟩ | exact fO _ _
  | 1, z => by intro u hu; simp only [wn, bz, aO, bR, dm, dp, eA, cP, dR, List.cons_append, List.nil_append, List.mem_cons, List.not_mem_nil, or_false] at hu; rcases hu with rfl | rfl <;> first | exact ⟨rfl, rfl⟩ | exact fO _ _
  | 2, z => by intro u hu; simp only [wn, bz, aO, bR, dm, dp, eA, cP, dR, List.cons_append, List.nil_append, List.mem_cons, List.not_mem_nil, or_false] at hu; rcases hu with rfl | rfl <;> first | exact ⟨rfl, rfl⟩ | exact fO _ _
  | 3, z => by intro u hu; simp only [wn, bz, aO, bR, dm, dp, eA, cP, dR, List.cons_append, List.nil_append, List.mem_cons, List.not_mem_nil, or_false] at hu; rcases hu with rfl <;> first | exact ⟨rfl, rfl⟩ | exact fO _ _
  | 4, z => by intro u hu; simp only [wn, bz, aO, bR, dm, dp, eA, cP, dR, List.cons_append, List.nil_append, List.mem_cons, List.not_mem_nil, or_false] at hu; rcases hu with rfl | rfl <;> first | exact ⟨rfl, rfl⟩ | exact fO _ _
  | 5, z => by intro u hu; simp only [wn, bz, aO, bR, dm, dp, eA, cP, dR, List.cons_append, List.nil_append, List.mem_cons, List.not_mem_nil, or_false] at hu; rcases hu with rfl | rfl | rfl | rfl | rfl <;> first | exact ⟨rfl, rfl⟩ | exact fO _ _
  | 6, z => by intro u hu; simp only [wn, bz, aO, bR, dm, dp, eA, cP, dR, List.cons_append, List.nil_append, List.mem_cons, List.not_mem_nil, or_false] at hu; rcases hu with rfl | rfl | rfl <;> first | exact ⟨rfl, rfl⟩ | exact fO _ _
  | 7, z => by intro u hu; simp only [wn, bz, aO, bR, dm, dp, eA, cP, dR, List.cons_append, List.nil_append, List.mem_cons, List.not_mem_nil, or_false] at hu; rcases hu with rfl | rfl <;> first | exact ⟨rfl, rfl⟩ | exact fO _ _
  | _ + 8, _ => by intro u hu; cases hu
def Qf : ∀ i, ET i → List (TA ET)
 | 0, z => [.d (.int .i64) z.x, .d (.int .i64) z.y, .d .bool z.signed, .d .byte z.code]
 | 1, z => [.d .str z.msg, .d (.int .u64) z.addr]
 | 2, z => [.d .str z.Name, .d .str z.Value]
 | 3, z => [.d (.sl (.nam 2)) z.Labels]
 | 4, z => [.d (.int .i64) z.Err, .d (.int .i64) z.At]
 | 5, z => [.d .str z.S, .d (.int .i64) z.At, .d (.int .i64) z.Begun, .d (.int .i64) z.F.Err, .d (.int .i64) z.F.At]
 | 6, z => [.d .str z.s, .d (.int .i64) z.at_, .d (.int .i64) z.begun]
 | 7, z => [.d (.int .i32) z.state, .d (.int .u32) z.sema]
 | _ + 8, _ => []
def ik (l : List (TA ET)) : Option (VboundsError × List (TA ET)) :=
 match pkL (.int .i64) l with
 | none => none
 | some (a0, l) =>
   match pkL (.int .i64) l with
   | none => none
   | some (a1, l) =>
     match pkL .bool l with
     | none => none
     | some (a2, l) =>
       match pkL .byte l with
       | none => none
       | some (a3, l) =>
         some (⟨a0, a1, a2, a3⟩, l)
theorem m7 (l : List (TA ET)) (z : VboundsError) (r : List (TA ET)) (ρ : Rn) (h : ik l = some (z, r)) : LeL (l.map fun a => (a.rd.to ECC ρ)) (bz z ++ r.map fun a => (a.rd.to ECC ρ)) := by
 unfold ik at h
 split at h
 ·cases h
 ·rename_i a0 l0 h0
  split at h
  ·cases h
  ·rename_i a1 l1 h1
   split at h
   ·cases h
   ·rename_i a2 l2 h2
    split at h
    ·cases h
    ·rename_i a3 l3 h3
     cases h
     have hh := (d3 ECC ρ rfl h0).trans ((LeL.refl _).append ((d3 ECC ρ rfl h1).trans ((LeL.refl _).append ((d3 ECC ρ rfl h2).trans ((LeL.refl _).append (d3 ECC ρ rfl h3))))))
     exact hh
def en (l : List (TA ET)) : Option (VerrorAddressString × List (TA ET)) :=
 match pkL .str l with
 | none => none
 | some (a0, l) =>
   match pkL (.int .u64) l with
   | none => none
   | some (a1, l) =>
     some (⟨a0, a1⟩, l)
theorem ja (l : List (TA ET)) (z : VerrorAddressString) (r : List (TA ET)) (ρ : Rn) (h : en l = some (z, r)) : LeL (l.map fun a => (a.rd.to ECC ρ)) (aO z ++ r.map fun a => (a.rd.to ECC ρ)) := by
 unfold en at h
 split at h
 ·cases h
 ·rename_i a0 l0 h0
  split at h
  ·cases h
  ·rename_i a1 l1 h1
   cases h
   have hh := (d3 ECC ρ rfl h0).trans ((LeL.refl _).append (d3 ECC ρ rfl h1))
   exact hh
def pU (l : List (TA ET)) : Option (VLabel × List (TA ET)) :=
 match pkL .str l with
 | none => none
 | some (a0, l) =>
   match pkL .str l with
   | none => none
   | some (a1, l) =>
     some (⟨a0, a1⟩, l)
theorem uX (l : List (TA ET)) (z : VLabel) (r : List (TA ET)) (ρ : Rn) (h : pU l = some (z, r)) : LeL (l.map fun a => (a.rd.to ECC ρ)) (bR z ++ r.map fun a => (a.rd.to ECC ρ)) := by
 unfold pU at h
 split at h
 ·cases h
 ·rename_i a0 l0 h0
  split at h
  ·cases h
  ·rename_i a1 l1 h1
   cases h
   have hh := (d3 ECC ρ rfl h0).trans ((LeL.refl _).append (d3 ECC ρ rfl h1))
   exact hh
def mW (l : List (TA ET)) : Option (VTarget × List (TA ET)) :=
 match pkL (.sl (.nam 2)) l with
 | none => none
 | some (a0, l) =>
   some (⟨a0⟩, l)
theorem tY (l : List (TA ET)) (z : VTarget) (r : List (TA ET)) (ρ : Rn) (h : mW l = some (z, r)) : LeL (l.map fun a => (a.rd.to ECC ρ)) (dm z ++ r.map fun a => (a.rd.to ECC ρ)) := by
 unfold mW at h
 split at h
 ·cases h
 ·rename_i a0 l0 h0
  cases h
  have hh := d3 ECC ρ rfl h0
  exact hh
def mj (l : List (TA ET)) : Option (VFault × List (TA ET)) :=
 match pkL (.int .i64) l with
 | none => none
 | some (a0, l) =>
   match pkL (.int .i64) l with
   | none => none
   | some (a1, l) =>
     some (⟨a0, a1⟩, l)
theorem nS (l : List (TA ET)) (z : VFault) (r : List (TA ET)) (ρ : Rn) (h : mj l = some (z, r)) : LeL (l.map fun a => (a.rd.to ECC ρ)) (dp z ++ r.map fun a => (a.rd.to ECC ρ)) := by
 unfold mj at h
 split at h
 ·cases h
 ·rename_i a0 l0 h0
  split at h
  ·cases h
  ·rename_i a1 l1 h1
   cases h
   have hh := (d3 ECC ρ rfl h0).trans ((LeL.refl _).append (d3 ECC ρ rfl h1))
   exact hh
def rI (l : List (TA ET)) : Option (VLine × List (TA ET)) :=
 match pkL .str l with
 | none => none
 | some (a0, l) =>
   match pkL (.int .i64) l with
   | none => none
   | some (a1, l) =>
     match pkL (.int .i64) l with
     | none => none
     | some (a2, l) =>
       match mj l with
       | none => none
       | some (a3, l) =>
         some (⟨a0, a1, a2, a3⟩, l)
theorem yf (l : List (TA ET)) (z : VLine) (r : List (TA ET)) (ρ : Rn) (h : rI l = some (z, r)) : LeL (l.map fun a => (a.rd.to ECC ρ)) (eA z ++ r.map fun a => (a.rd.to ECC ρ)) := by
 unfold rI at h
 split at h
 ·cases h
 ·rename_i a0 l0 h0
  split at h
  ·cases h
  ·rename_i a1 l1 h1
   split at h
   ·cases h
   ·rename_i a2 l2 h2
    split at h
    ·cases h
    ·rename_i a3 l3 h3
     cases h
     have hh := (d3 ECC ρ rfl h0).trans ((LeL.refl _).append ((d3 ECC ρ rfl h1).trans ((LeL.refl _).append ((d3 ECC ρ rfl h2).trans ((LeL.refl _).append (nS _ _ _ ρ h3))))))
     exact hh
def lK (l : List (TA ET)) : Option (VScanner × List (TA ET)) :=
 match pkL .str l with
 | none => none
 | some (a0, l) =>
   match pkL (.int .i64) l with
   | none => none
   | some (a1, l) =>
     match pkL (.int .i64) l with
     | none => none
     | some (a2, l) =>
       some (⟨a0, a1, a2⟩, l)
theorem rY (l : List (TA ET)) (z : VScanner) (r : List (TA ET)) (ρ : Rn) (h : lK l = some (z, r)) : LeL (l.map fun a => (a.rd.to ECC ρ)) (cP z ++ r.map fun a => (a.rd.to ECC ρ)) := by
 unfold lK at h
 split at h
 ·cases h
 ·rename_i a0 l0 h0
  split at h
  ·cases h
  ·rename_i a1 l1 h1
   split at h
   ·cases h
   ·rename_i a2 l2 h2
    cases h
    have hh := (d3 ECC ρ rfl h0).trans ((LeL.refl _).append ((d3 ECC ρ rfl h1).trans ((LeL.refl _).append (d3 ECC ρ rfl h2))))
    exact hh
def pb (l : List (TA ET)) : Option (VMutex × List (TA ET)) :=
 match pkL (.int .i32) l with
 | none => none
 | some (a0, l) =>
   match pkL (.int .u32) l with
   | none => none
   | some (a1, l) =>
     some (⟨a0, a1⟩, l)
theorem vK (l : List (TA ET)) (z : VMutex) (r : List (TA ET)) (ρ : Rn) (h : pb l = some (z, r)) : LeL (l.map fun a => (a.rd.to ECC ρ)) (dR z ++ r.map fun a => (a.rd.to ECC ρ)) := by
 unfold pb at h
 split at h
 ·cases h
 ·rename_i a0 l0 h0
  split at h
  ·cases h
  ·rename_i a1 l1 h1
   cases h
   have hh := (d3 ECC ρ rfl h0).trans ((LeL.refl _).append (d3 ECC ρ rfl h1))
   exact hh
def EE : Env where
 toEnc := ECC
 unp := Qf
 unp_to := fun i z ρ => match i, z with
  | 0, z => rfl
  | 1, z => rfl
  | 2, z => rfl
  | 3, z => rfl
  | 4, z => rfl
  | 5, z => rfl
  | 6, z => rfl
  | 7, z => rfl
  | _ + 8, _ => rfl
 pk := fun i l => match i with
  | 0 => ik l
  | 1 => en l
  | 2 => pU l
  | 3 => mW l
  | 4 => mj l
  | 5 => rI l
  | 6 => lK l
  | 7 => pb l
  | _ => none
 pk_to := fun i l z r ρ h => match i, z, h with
  | 0, z, h => m7 l z r ρ h
  | 1, z, h => ja l z r ρ h
  | 2, z, h => uX l z r ρ h
  | 3, z, h => tY l z r ρ h
  | 4, z, h => nS l z r ρ h
  | 5, z, h => yf l z r ρ h
  | 6, z, h => rY l z r ρ h
  | 7, z, h => vK l z r ρ h
  | _ + 8, z, h => by cases h
 et := [(22, (.sl (.nam 2))), (31, (.sl (.nam 3))), (61, (.sl (.sl (.int .i64)))), (64, (.sl (.int .i64))), (80, (.sl .str)), (110, (.sl (.sl (.nam 2)))), (129, (.sl .byte)), (141, (.sl (.sl (.nam 3)))), (230, (.sl .byte))]
 ct := [(22, [(.sl (.nam 2))]), (31, [(.sl (.nam 3))]), (54, [(.sl (.nam 2))]), (55, [(.sl (.nam 2))]), (61, [(.sl (.sl (.int .i64)))]), (64, [(.sl (.int .i64))]), (80, [(.sl .str)]), (110, [(.sl (.sl (.nam 2)))]), (125, [(.int .u32), (.int .i32), (.int .u32), .bool, (.sl .str)]), (126, [(.int .u32), (.int .i32), (.int .u32), .bool, (.sl .str)]), (129, [(.sl .byte)]), (130, [.bool, (.sl .byte)]), (131, [.bool, (.sl .byte)]), (141, [(.sl (.sl (.nam 3)))]), (230, [(.sl .byte)])]
 nf := []
def EQT : List (Nat × List Ty) := [(33, [(.int .i64), (.int .i64)]), (40, [.str, .str]), (89, [.str, (.int .i64), (.int .i64)])]
theorem Hw : EqOk Tryz.prog TT 33 [(.int .i64), (.int .i64)] := ⟨by kernel_rfl, by kernel_rfl, by kernel_rfl, by kernel_rfl⟩
theorem IL : EqOk Tryz.prog TT 40 [.str, .str] := ⟨by kernel_rfl, by kernel_rfl, by kernel_rfl, by kernel_rfl⟩
theorem Hq : EqOk Tryz.prog TT 89 [.str, (.int .i64), (.int .i64)] := ⟨by kernel_rfl, by kernel_rfl, by kernel_rfl, by kernel_rfl⟩
theorem cn : ∀ p ∈ EQT, EqOk Tryz.prog TT p.1 p.2 := by
 simp only [EQT, List.forall_mem_cons]
 exact ⟨Hw, IL, Hq, by simp⟩
end Go.Proofs.YtmjpdbbjiipnfaaGreat
namespace Go.Proofs.YtmjpdbbjiipnfaaGreat
open Go.RowKit P
set_option linter.unusedSimpArgs false
set_option linter.unusedVariables false
def Tree.go {L : Type} : Tree L → Option L
 | .leaf x => some x
 | .cond true s _ => go s
 | .cond false _ t => go t
 | .bnd (some z) k => go (k z)
 | .bnd none _ => none
 | .sm (.ok z) k _ => go (k z)
 | .sm (.pan v) _ q => go (q v)
 | .nl [] _ _ => none
 | .nl (_ :: _) _ t => go t
 | .fail => none
theorem Tree.go_holds {L : Type} {K : L → Prop} : ∀ {t : Tree L} {x : L}, t.go = some x → K x → t.holds K
 | .leaf _, _, h, hk => by cases h; exact hk
 | .cond true s t, _, h, hk => ⟨fun _ => go_holds (t := s) h hk, fun e => by cases e⟩
 | .cond false s t, _, h, hk => ⟨(fun e => by cases e), fun _ => go_holds (t := t) h hk⟩
 | .bnd (some z) k, _, h, hk => ⟨z, rfl, go_holds (t := k z) h hk⟩
 | .bnd none _, _, h, hk => by cases h
 | .sm (.ok z) k q, _, h, hk => ⟨fun z' e => (by cases e; exact go_holds (t := k z) h hk), fun v e => by cases e⟩
 | .sm (.pan v) k q, _, h, hk => ⟨(fun z' e => by cases e), fun v' e => by cases e; exact go_holds (t := q v) h hk⟩
 | .nl [] s t, _, h, hk => by cases h
 | .nl (_ :: _) s t, _, h, hk => ⟨(fun e => by cases e), go_holds (t := t) h hk⟩
 | .fail, _, h, hk => by cases h
section
variable {P : Program} (Y : Tys P) (E : Env) (G : Gam E) (lv : Lvs) (rs : List ResultVar)
def evC : Nat → List It2 → TS E.T → Option (RL E.T)
 | 0, _, _ => none
 | m + 1, ks, σ => match (stp Y E G lv rs ks σ).go with
   | some (.go ks' σ') => evC m ks' σ'
   | some (.done r) => some r
   | none => none
end
theorem vC {P : Program} {Y : Tys P} {E : Env} {G : Gam E} {lv : Lvs} {rs : List ResultVar} {K : RL E.T → Prop} : ∀ (m : Nat) (ks : List It2) (σ : TS E.T) (r : RL E.T), evC Y E G lv rs m ks σ = some r → K r → bP Y E G lv rs K ks σ
 | 0, _, _, _, h, _ => by cases h
 | m + 1, ks, σ, r, h, hk => by
   simp only [evC] at h
   split at h
   ·rename_i ks' σ' hg
    exact po (Tree.go_holds hg (vC m ks' σ' r h hk))
   ·rename_i r' hg
    cases h
    exact po (Tree.go_holds hg hk)
   ·cases h
end Go.Proofs.YtmjpdbbjiipnfaaGreat
namespace Go.Proofs.YtmjpdbbjiipnfaaGreat
open Go.RowKit P
set_option linter.unusedVariables false
set_option linter.unusedSimpArgs false
set_option maxRecDepth 100000
def Hl : List (List UInt8) := [[92], [92, 92], [34], [92, 34], [10], [92, 110]]
def Iy : List (TA EE.T) := [.d (.int .u32) (0 : Int), .d (.int .i32) (1 : Int), .d (.int .u32) (0 : Int), .raw .nilIface, .d (.sl .str) Hl]
def qk (n : Nat) : List (TA EE.T) := List.replicate n (.raw (.slice none 0 0))
def LV : List (TA EE.T) := qk 10 ++ [.own .byte ([92, 110] : List UInt8)] ++ qk 23 ++ [.own .byte ([92, 34] : List UInt8)] ++ qk 57 ++ [.own .byte ([92, 92] : List UInt8)] ++ qk 163 ++ [.bsl 94 0 3 3]
theorem CK : GOk Tryz.prog TT EE ⟨[], EQT, [], [94]⟩ := GOk.nil cn
theorem Ce : evC TT EE ⟨[], EQT, [], [94]⟩ ⟨[], [], [], [], false, [], [100000, 11, 94], [], []⟩ [.tmp 2] 3000 [.c (aa 0 Tryz.f111)] ⟨132, [(0, .a (.box 100000 0))], [(100000, .cs Iy)], []⟩ =
  some (.ret (.ifc 175 (.a (.box 11 0))) [(100000, .cs Iy), (11, .cs LV), (94, .row .str ([[10], [34], [92]] : List (List UInt8)))]) := by kernel_rfl
def xF : List AV := [.v (.int .u32 0), .v (.int .i32 1), .v (.int .u32 0), .v .nilIface, .sl false 1 (Hl.map (cells EE.toEnc .str))]
def u6 : List AV := [.v (.string (mkB [10])), .v (.string (mkB [34])), .v (.string (mkB [92]))]
def vU (r : Nat) : List AV := LV.map (TA.to EE.toEnc ⟨fun _ => ⟨r, false, []⟩⟩)
theorem GQ (B : Nat) : ak Tryz.prog 111 [.v (.pointer (some ⟨B, 0, none⟩))] [(B, xF)] (fun out H => ∃ k r, k ≠ r ∧ k ≠ B ∧ r ≠ B ∧ out = .ret (.ifc 175 (.v (.pointer (some ⟨k, 0, none⟩)))) ∧ H = [(B, xF), (k, vU r), (r, u6)]) := by
 have h := jB (Y := TT) (lv := ⟨[], [], [], [], false, [], [100000, 11, 94], [], []⟩) (rs := [.tmp 2]) (K := fun r => r = (.ret (.ifc 175 (.a (.box 11 0))) [(100000, .cs Iy), (11, .cs LV), (94, .row .str ([[10], [34], [92]] : List (List UInt8)))])) (aa 0 Tryz.f111) 132 mixed CK Tryz.func111 (by kernel_rfl) rfl rfl rfl (us := [.a (.box 100000 0)]) rfl (h0 := [(100000, .cs Iy)]) (vC _ _ _ _ Ce rfl) ⟨fun _ => ⟨B, false, []⟩⟩ Inj.one
 refine h.mono ?_
 rintro out H ⟨r, ρ', rfl, ha, h1, h2, h3⟩
 have hB : ρ' 100000 = B := (ha.b (i := 100000) rfl)
 have m0 : ∀ {x y z : Nat × TB EE.T}, x ∈ [x, y, z] ∧ y ∈ [x, y, z] ∧ z ∈ [x, y, z] := ⟨List.mem_cons_self, List.mem_cons_of_mem _ List.mem_cons_self, List.mem_cons_of_mem _ (List.mem_cons_of_mem _ List.mem_cons_self)⟩
 refine ⟨ρ' 11, ρ' 94, h3.ne m0.2.1 m0.2.2 rfl rfl (by decide), fun e => h3.ne m0.2.1 m0.1 rfl rfl (by decide) (e.trans hB.symm), fun e => h3.ne m0.2.2 m0.1 rfl rfl (by decide) (e.trans hB.symm), h1, ?_⟩
 rw [h2]
 show [(ρ' 100000, _), (ρ' 11, _), (ρ' 94, _)] = _
 rw [hB]
 rfl
def J4 : List (TA EE.T) := qk 10 ++ [.own .byte ([92, 110] : List UInt8)] ++ qk 23 ++ [.own .byte ([92, 34] : List UInt8)] ++ qk 57 ++ [.own .byte ([92, 92] : List UInt8)] ++ qk 163 ++ [.bsl 100001 0 3 3]
theorem Bb : GOk Tryz.prog TT EE ⟨[], EQT, [], []⟩ := GOk.nil cn
theorem DN : evC TT EE ⟨[], EQT, [], []⟩ ⟨[], [], [], [], false, [], [], [], []⟩ [.tmp 4] 3000 [.c (aa 0 Tryz.f186)] ⟨122, [(0, .a (.box 100000 0)), (1, .a (.d .str ([120] : List UInt8)))], [(100000, .cs J4), (100001, .row .str ([[10], [34], [92]] : List (List UInt8)))], []⟩ =
  some (.ret (.a (.d .str ([120] : List UInt8))) []) := by kernel_rfl
theorem K3 (k r : Nat) (hkr : k ≠ r) : ak Tryz.prog 186 [.v (.pointer (some ⟨k, 0, none⟩)), .v (.string (mkB [120]))] [(k, vU r), (r, u6)] (fun out H => out = .ret (.v (.string (mkB [120]))) ∧ H = []) := by
 have h := jB (Y := TT) (lv := ⟨[], [], [], [], false, [], [], [], []⟩) (rs := [.tmp 4]) (K := fun r => r = (.ret (.a (.d .str ([120] : List UInt8))) [])) (aa 0 Tryz.f186) 122 mixed Bb Tryz.func186 (by kernel_rfl) rfl rfl rfl (us := [.a (.box 100000 0), .a (.d .str ([120] : List UInt8))]) rfl (h0 := [(100000, .cs J4), (100001, .row .str ([[10], [34], [92]] : List (List UInt8)))]) (vC _ _ _ _ DN rfl) ⟨fun i => ⟨if i = 100000 then k else r, false, []⟩⟩ (Inj.two (by decide) hkr)
 exact h.mono fun out H hp => hp.ret rfl
end Go.Proofs.YtmjpdbbjiipnfaaGreat
namespace Go.Proofs.YtmjpdbbjiipnfaaGreat
open Go.RowKit P
set_option linter.unusedSimpArgs false
set_option linter.unusedVariables false
attribute [local irreducible] AS.nf OpV aA Stk jJ xi ak bB xK wR Awp EI vU u6
set_option maxHeartbeats 1000000
def mQ (k : Nat) : List AV := [.v (.int .u32 0), .v (.int .i32 1), .v (.int .u32 0), .ifc 175 (.v (.pointer (some ⟨k, 0, none⟩))), .v (.slice none 0 0)]
set_option maxRecDepth 100000 in
theorem ya (B : Nat) : ak Tryz.prog 86 [.v (.pointer (some ⟨B, 0, none⟩))] [(B, xF)] (fun out H => ∃ k r, k ≠ r ∧ k ≠ B ∧ r ≠ B ∧ out = .ret (.tu []) ∧ ∀ q cs, look [(B, mQ k), (k, vU r), (r, u6)] q = some cs → look H q = some cs) := by
 have h := GQ B
 unfold xF at h ⊢
 generalize hsix : (Hl.map (cells EE.toEnc .str)) = six' at h ⊢
 refine gm _ 10 [] Tryz.func86 (by kernel_rfl) rfl rfl rfl rfl ?_
 dsimp only [slotsOf]
 repeat (first
  | ((first | apply i5); (next => (first | (simp only [go_sem, Nat.reduceBEq, Nat.reduceEqDiff, reduceIte, reduceCtorEq, String.reduceEq, Nat.reduceAdd, Int.reduceToNat]; exact rfl))))
  | (apply d8 rfl rfl rfl rfl; (next => (first
   | (refine dt (T := TT) rfl ?_; (first | exact trivial))
   | (apply opk ⟨_, .fieldAddr _ _ _, _, _, _, _⟩; first | exact cq (T := TT) rfl rfl rfl rfl rfl | fail)
   | fail)))
  | (refine arO _ ?_; first
   | (refine arO ⟨_, .store _ _ _, _, _, _, _⟩ ?_; first
    | (apply dx rfl rfl; (next => (first
     | (apply cT (T := TT) rfl; (next => (first | exact ah | fail)); (next => rfl); (next => rfl); (next => rfl); (next => rfl); (next => rfl); (next => rfl); (next => rfl); (next => rfl))
     | fail)))
    | fail)
   | (refine arO ⟨_, .call { callee := .value _, args := _, argTypes := _ }, _, _, _, _⟩ ?_; first
    | (apply BW rfl (h) rfl rfl; (next => (repeat (first | exact PArgs.nil | (apply PArgs.cons; (next => (first | exact PArg.rd rfl (Le1.refl _) rfl)))))); (next => rfl); (next => rfl); (next => rfl); rintro _ _ ⟨k, r, hkr, hkB, hrB, rfl, rfl⟩; refine ⟨_, rfl, ?_⟩)
    | fail)
   | fail)
  | refine fE ?_
  | (refine arE ?_; refine ek [0] rfl ?_)
  | refine cH ?_
  | fail)
 refine OQ ⟨.tu [], rfl, k, r, hkr, hkB, hrB, rfl, fun q cs hq => ?_⟩
 simp only [ab, av] at hq ⊢
 by_cases e : q = B
 ·rw [if_pos e] at hq ⊢; exact hq
 ·rw [if_neg e] at hq
  rw [if_neg e, if_neg e, if_neg e]; exact hq
end Go.Proofs.YtmjpdbbjiipnfaaGreat
namespace Go.Proofs.YtmjpdbbjiipnfaaGreat
theorem w7 (w : World) : (callFunc 142 #[]).run Tryz.prog w = .ok (.value (.tuple #[])) w := run_call_mark0 Tryz.func142 (by kernel_rfl) (by kernel_rfl) (by kernel_rfl) .disable (by kernel_rfl) w
theorem AA (w : World) : (callFunc 144 #[]).run Tryz.prog w = .ok (.value (.tuple #[])) w := run_call_mark0 Tryz.func144 (by kernel_rfl) (by kernel_rfl) (by kernel_rfl) .enable (by kernel_rfl) w
theorem vn (a : Addr) (w : World) : (callFunc 145 #[.pointer (some a)]).run Tryz.prog w = .ok (.value (.tuple #[])) w := run_call_marked Tryz.func145 (by kernel_rfl) (by kernel_rfl) (by kernel_rfl) .acquire (by kernel_rfl) a w
theorem wq (a : Addr) (w : World) : (callFunc 147 #[.pointer (some a)]).run Tryz.prog w = .ok (.value (.tuple #[])) w := run_call_marked Tryz.func147 (by kernel_rfl) (by kernel_rfl) (by kernel_rfl) .releaseMerge (by kernel_rfl) a w
set_option maxRecDepth 100000 in
set_option maxHeartbeats 1600000 in
theorem sy (a : Addr) (x : Value) (u : FrameMode) (w : World) (hc : w.cell? a = some x) (hz : w.frozen? a = false) :
  CallsD Tryz.prog 120 #[.pointer (some a), .bool true] u w fun e u' w' => u' = u ∧ (e = .returned (.tuple #[]) ∧ w' = w.drew.setCell a (.int .u32 1)) := by
 have hc' : w.drew.cell? a = some x := by go_simp
 have hz' : w.drew.frozen? a = false := by go_simp
 have hst := run_call_store (P := Tryz.prog) Tryz.func135 (by kernel_rfl) (by kernel_rfl) (by kernel_rfl) (by kernel_rfl) (k := .u32) (y := 1) hc' hz'
 go_enter_d Tryz.func120, Tryz.ntmps120
 go_wp2
 go_region_calls
 all_goals (go_end0; exact ⟨rfl, rfl⟩)
set_option maxRecDepth 100000 in
set_option maxHeartbeats 1600000 in
theorem qD (a : Addr) (u : FrameMode) (w : World) (hc : w.cell? a = some (.int .i32 1)) (hz : w.frozen? a = false) :
  CallsD Tryz.prog 119 #[.pointer (some a)] u w fun e u' w' => u' = u ∧ (e = .returned (.tuple #[]) ∧ w' = w.setCell a (.int .i32 0)) := by
 have hd := w7
 have he := AA
 have hr := wq
 have hadd := run_call_add (P := Tryz.prog) Tryz.func148 (by kernel_rfl) (by kernel_rfl) (by kernel_rfl) .i32 (by kernel_rfl) (y := -1) (s := 0) hc hz (by simp [go_sem]; rfl)
 have hcv := run_convert_to_unsafe (P := Tryz.prog) (src := 200) (dst := 176) Tryz.underlying200 Tryz.underlying176 (by kernel_rfl) hc
 go_enter_d Tryz.func119, Tryz.ntmps119
 go_wp2
 go_end0
 go_wp2
 go_end0
 exact ⟨rfl, rfl⟩
set_option maxRecDepth 100000 in
set_option maxHeartbeats 1600000 in
theorem B3 (a : Addr) (w : World) (hc : w.cell? a = some (.int .i32 0)) (hz : w.frozen? a = false) :
  Calls Tryz.prog 118 #[.pointer (some a)] w fun e w' => e = .returned (.tuple #[]) ∧ w' = w.setCell a (.int .i32 1) := by
 have hd := w7
 have he := AA
 have ha := vn
 have hcas := run_call_cas_hit (P := Tryz.prog) Tryz.func143 (by kernel_rfl) (by kernel_rfl) (by kernel_rfl) .i32 (by kernel_rfl) (y := 1) hc hz
 have hc' : (w.setCell a (.int .i32 1)).cell? a = some (.int .i32 1) := World.cell?_setCell_same w a _ hc
 have hcv := run_convert_to_unsafe (P := Tryz.prog) (src := 200) (dst := 176) Tryz.underlying200 Tryz.underlying176 (by kernel_rfl) hc'
 go_enter Tryz.func118, Tryz.ntmps118
 go_wp2
 first | go_end0 | (simp only [Exit.inBlock, Exit.then]; refine bodyPost_ret (results_none rfl _ _ _) rfl ?_) | refine bodyPost_ret (results_none rfl _ _ _) rfl ?_
 go_wp2
 go_end0
 exact ⟨rfl, rfl⟩
end Go.Proofs.YtmjpdbbjiipnfaaGreat
namespace Go.Proofs.YtmjpdbbjiipnfaaGreat
def oH (b off : Nat) (w : World) : Prop := w.cell? ⟨b, off, none⟩ = some (.int .u32 0) ∧ w.frozen? ⟨b, off, none⟩ = false ∧ w.cell? ⟨b, off + 1, none⟩ = some (.int .i32 1) ∧ w.frozen? ⟨b, off + 1, none⟩ = false
set_option maxRecDepth 100000 in
set_option maxHeartbeats 1600000 in
theorem Gf (b off : Nat) (p : Addr) (w : World) (R : World → Prop)
  (h0 : w.cell? ⟨b, off, none⟩ = some (.int .u32 0)) (h1 : w.cell? ⟨b, off + 1, none⟩ = some (.int .i32 0)) (f1 : w.frozen? ⟨b, off + 1, none⟩ = false)
  (hf : Calls Tryz.prog 86 #[.pointer (some p)] (w.setCell ⟨b, off + 1, none⟩ (.int .i32 1)) fun e w' => e = .returned (.tuple #[]) ∧ oH b off w' ∧ R w') :
  Calls Tryz.prog 110 #[.pointer (some ⟨b, off, none⟩), .func (.func 86) #[.pointer (some p)] #[]] w fun e w' => e = .returned (.tuple #[]) ∧
   ∃ w1, R w1 ∧ oH b off w1 ∧ w' = (w1.drew.setCell ⟨b, off, none⟩ (.int .u32 1)).setCell ⟨b, off + 1, none⟩ (.int .i32 0) := by
 have hl := run_call_load (P := Tryz.prog) Tryz.func117 (by kernel_rfl) (by kernel_rfl) (by kernel_rfl) .u32 (by kernel_rfl) (w := w.setCell ⟨b, off + 1, none⟩ (.int .i32 1)) (a := ⟨b, off, none⟩) (x := 0) ((World.cell?_setCell_other _ ⟨b, off + 1, none⟩ ⟨b, off, none⟩ _ (by simp)).trans h0)
 have hnot : ∀ (x : Bool) (w : World), (Op.unary .not (.bool x)).run Tryz.prog w = .ok (.bool (!x)) w := fun _ _ => rfl
 go_enter_defers Tryz.func110, Tryz.ntmps110
 go_wp2_with (go_at_call 118; refine (B3 ⟨b, off + 1, none⟩ _ (by go_simp) (by go_simp)).mono ?_; rintro e w' ⟨rfl, rfl⟩)
 go_wp2_with (first | (go_at_call 86; refine hf.mono ?_; rintro e w' ⟨rfl, ⟨l0, l1, l2, l3⟩, hR⟩) | (go_at_call 109; go_in))
 refine leaves_cons (f := 120) (args := #[.pointer (some ⟨b, off, none⟩), .bool true]) (by simp) (by simp [go_sem]) ?_
 refine (sy ⟨b, off, none⟩ (.int .u32 0) .returning _ l0 l1).mono ?_
 rintro e u' w'' ⟨rfl, rfl, rfl⟩
 refine leaves_cons (f := 119) (args := #[.pointer (some ⟨b, off + 1, none⟩)]) (by simp [settle]) (by simp [go_sem]) ?_
 refine (qD ⟨b, off + 1, none⟩ _ _ ?_ (by simp [l3])).mono ?_
 ·refine (World.cell?_setCell_other _ ⟨b, off, none⟩ ⟨b, off + 1, none⟩ _ (by simp)).trans ?_
  rw [World.cell?_drew]
  exact l2
 rintro e u' w'' ⟨rfl, rfl, rfl⟩
 simp [Leaves, settle, results, Tryz.results110]
 exact ⟨_, hR, ⟨l0, l1, l2, l3⟩, rfl⟩
set_option maxRecDepth 100000 in
set_option maxHeartbeats 1600000 in
theorem DH (b off : Nat) (p : Addr) (w : World) (R : World → Prop)
  (h0 : w.cell? ⟨b, off, none⟩ = some (.int .u32 0)) (h1 : w.cell? ⟨b, off + 1, none⟩ = some (.int .i32 0)) (f1 : w.frozen? ⟨b, off + 1, none⟩ = false)
  (hf : Calls Tryz.prog 86 #[.pointer (some p)] (w.setCell ⟨b, off + 1, none⟩ (.int .i32 1)) fun e w' => e = .returned (.tuple #[]) ∧ oH b off w' ∧ R w') :
  Calls Tryz.prog 85 #[.pointer (some ⟨b, off, none⟩), .func (.func 86) #[.pointer (some p)] #[]] w fun e w' => e = .returned (.tuple #[]) ∧
   ∃ w1, R w1 ∧ oH b off w1 ∧ w' = (w1.drew.setCell ⟨b, off, none⟩ (.int .u32 1)).setCell ⟨b, off + 1, none⟩ (.int .i32 0) := by
 have hl := run_call_load (P := Tryz.prog) Tryz.func117 (by kernel_rfl) (by kernel_rfl) (by kernel_rfl) .u32 (by kernel_rfl) h0
 have hnot : ∀ (x : Bool) (w : World), (Op.unary .not (.bool x)).run Tryz.prog w = .ok (.bool (!x)) w := fun _ _ => rfl
 go_enter Tryz.func85, Tryz.ntmps85
 go_wp2_with (first | (go_at_call 110; refine (Gf b off p _ R h0 h1 f1 hf).mono ?_; rintro e w' ⟨rfl, hR⟩) | (go_at_call 109; go_in))
 go_end0
 exact ⟨rfl, hR⟩
end Go.Proofs.YtmjpdbbjiipnfaaGreat
namespace Go.Proofs.YtmjpdbbjiipnfaaGreat
open Go.RowKit P
set_option linter.unusedSimpArgs false
set_option linter.unusedVariables false
theorem t1 {F : Nat → Prop} {X : GW} {σ : AS} {tm : Array Value} (h : SimE F X σ tm) (us : List Value) (H : List (Nat × List AV)) (hH : ∀ q cs, look H q = some cs → look σ.h q = some cs) : SimE F X ⟨us.length, slotsOf 0 (us.map .v), H, []⟩ us.toArray := by
 refine h.other (by simp) h.fb (fun t u hu => ?_) (fun k cs hk => ⟨hH k cs hk, (h.box k cs (hH k cs hk)).nF⟩) rfl id (fun r sz l ho => ?_) (fun _ _ _ _ _ _ _ _ hne _ _ _ _ => hne)
 ·obtain ⟨_, h2⟩ := b9 _ _ _ _ hu
  simp only [Nat.sub_zero, List.getElem?_map, Option.map_eq_some_iff] at h2
  obtain ⟨v, hv, rfl⟩ := h2
  have : us.toArray.getD t undef = v := by simp [Array.getD_eq_getD_getElem?, hv]
  rw [this]
  exact .v v
 ·cases r with
  | s t =>
    exfalso
    simp only [AS.own] at ho
    cases hl : look (slotsOf 0 (us.map AV.v)) t with
    | none => rw [hl] at ho; cases ho
    | some u =>
      obtain ⟨_, h2⟩ := b9 _ _ _ _ hl
      simp only [Nat.sub_zero, List.getElem?_map, Option.map_eq_some_iff] at h2
      obtain ⟨v, hv, rfl⟩ := h2
      rw [hl] at ho; cases ho
  | c k o =>
    right
    have ho' : σ.own (.c k o) = some (sz, l) := by
     simp only [AS.own] at ho ⊢
     cases hl : look H k with
     | none => rw [hl] at ho; cases ho
     | some cs => rw [hl] at ho; rw [hH k cs hl]; exact ho
    exact ⟨ho', rfl, fun a n c hr => (h.own_nF ho' hr).1⟩
def Jt : List AV := [.v (.int .u32 0), .v (.int .i32 0), .v (.int .u32 0), .v .nilIface, .sl false 1 (Hl.map (cells EE.toEnc .str))]
theorem wP {F : Nat → Prop} {X : GW} {σ : AS} {tm : Array Value} (h : SimE F X σ tm) {B o : Nat} {cs : List AV} (hb : look σ.h B = some cs) (hm : cE cs = false) {u : AV} (hu : cs[o]? = some u) : ∃ v, X.w.cell? ⟨B, o, none⟩ = some v ∧ Rel X u v ∧ X.w.frozen? ⟨B, o, none⟩ = false := by
 obtain ⟨b1, b2, arr, el, fr, b3, b4, b5, b6⟩ := (h.box B cs hb).cells hm
 have hlt : o < arr.size := by rw [b4]; exact (List.getElem?_eq_some_iff.1 hu).1
 refine ⟨arr[o], ?_, b6 o u _ hu (Array.getElem?_eq_getElem hlt), b5 o⟩
 simp [World.cell?, b3, hlt]
theorem rb {F : Nat → Prop} {X : GW} {σ : AS} {tm : Array Value} (h : SimE F X σ tm) {B o : Nat} {cs : List AV} (hb : look σ.h B = some cs) (hm : cE cs = false) {v : Value} (hu : cs[o]? = some (.v v)) : X.w.cell? ⟨B, o, none⟩ = some v ∧ X.w.frozen? ⟨B, o, none⟩ = false := by
 obtain ⟨v', h1, h2, h3⟩ := wP h hb hm hu
 rw [bj h2] at h1
 exact ⟨h1, h3⟩
theorem pH {F : Nat → Prop} {X : GW} {σ : AS} {tm : Array Value} (h : SimE F X σ tm) {B o : Nat} {cs : List AV} (hb : look σ.h B = some cs) (hm : cE cs = false) (ho : o + 1 ≤ cs.length) (v : Value) : SimE F ⟨X.w.setCell ⟨B, o, none⟩ v, X.g⟩ (σ.setc B (aS cs o [.v v])) tm ∧ Ext F X ⟨X.w.setCell ⟨B, o, none⟩ v, X.g⟩ :=
 SimE.setc (us := [.v v]) (vs := [v]) h hb ho rfl (fun i u x hu hx => by
  cases i with
  | zero => simp at hu hx; subst hu hx; exact .v _
  | succ i => simp at hu) (fun i sz l x hu hx => by
  cases i with
  | zero => simp [bw] at hu
  | succ i => simp [bw] at hu) (fun i j p q hu => by
  cases i with
  | zero => simp [bw] at hu
  | succ i => simp [bw] at hu) hm
theorem Gn (B : Nat) (F : Nat → Prop) (X : GW) (σ : AS) (tm : Array Value) (hs : SimE F X σ tm) (hb : look σ.h B = some Jt) : Calls Tryz.prog 85 #[.pointer (some ⟨B, 0, none⟩), .func (.func 86) #[.pointer (some ⟨B, 0, none⟩)] #[]] X.w fun e w' => e = .returned (.tuple #[]) ∧
   ∃ (X2 : GW) (k r : Nat) (v : Value), X2.w = w' ∧ k ≠ r ∧ w'.cell? ⟨B, 3, none⟩ = some (.iface 175 (.pointer (some ⟨k, 0, none⟩))) ∧ SimE F X2 ⟨1, [], [(k, vU r), (r, u6)], []⟩ #[v] ∧ Ext F X X2 := by
 have hm : cE Jt = false := rfl
 obtain ⟨c0, f0⟩ := rb (o := 0) hs hb hm (v := .int .u32 0) rfl
 obtain ⟨c1, f1⟩ := rb (o := 1) hs hb hm (v := .int .i32 0) rfl
 obtain ⟨s1, x1⟩ := pH (o := 1) hs hb hm (by decide) (.int .i32 1)
 have s1' := t1 s1 [.pointer (some ⟨B, 0, none⟩)] [(B, xF)] (fun q cs hq => by
  simp only [ab, av, AS.setc] at hq ⊢
  split at hq
  ·rename_i e; rw [if_pos e]; exact hq
  ·cases hq)
 have hbo := (ya B).2 F _ _ s1'
 have hdo := DH B 0 ⟨B, 0, none⟩ X.w (fun w' => ∃ (X1 : GW) (k r : Nat) (v : Value), X1.w = w' ∧ k ≠ r ∧ k ≠ B ∧ r ≠ B ∧ SimE F X1 ⟨1, [], [(B, mQ k), (k, vU r), (r, u6)], []⟩ #[v] ∧ Ext F X X1) c0 c1 f1 (hbo.mono fun e w' ⟨X1, out, H', h1, ⟨k, r, hkr, hkB, hrB, h2, h3⟩, h4, h5⟩ => by
  subst h1 h2
  obtain ⟨v, k1, k2⟩ := h4
  have k3 : SimE F X1 ⟨1, [], [(B, mQ k), (k, vU r), (r, u6)], []⟩ #[v] := k2.sub rfl (fun t u hu => by simp [av] at hu) h3 (fun p hp => by cases hp)
  have hv : v = .tuple #[] := by
   have := k2.slot 0 (.tu []) rfl
   cases this with
   | tu us xs hl hr =>
     have : xs = #[] := by apply Array.eq_empty_of_size_eq_zero; simpa using hl.symm
     subst this
     simp_all
  have hmd : cE (mQ k) = false := rfl
  obtain ⟨d0, e0⟩ := rb (o := 0) k3 (B := B) (cs := mQ k) (by simp [ab]) hmd (v := .int .u32 0) rfl
  obtain ⟨d1, e1⟩ := rb (o := 1) k3 (B := B) (cs := mQ k) (by simp [ab]) hmd (v := .int .i32 1) rfl
  exact ⟨by rw [k1, hv], ⟨d0, e0, d1, e1⟩, X1, k, r, v, rfl, hkr, hkB, hrB, k3, x1.trans h5⟩)
 refine hdo.mono fun e w' ⟨h1, w1, ⟨X1, k, r, v, hw1, hkr, hkB, hrB, k3, k4⟩, _, h2⟩ => ⟨h1, ?_⟩
 subst hw1 h2
 have hmd : cE (mQ k) = false := rfl
 have hXd : New X1 ⟨X1.w.drew, X1.g⟩ := ⟨rfl, rfl, rfl, Nat.le_refl _, fun _ _ => ⟨rfl, rfl⟩⟩
 have k5 := k3.new hXd k3.gb
 obtain ⟨k6, x6⟩ := pH (B := B) (o := 0) (cs := mQ k) k5 (by simp [ab]) hmd (Nat.le_of_ble_eq_true rfl) (.int .u32 1)
 obtain ⟨k7, x7⟩ := pH (B := B) (o := 1) (cs := aS (mQ k) 0 [.v (.int .u32 1)]) k6 (by simp [AS.setc, ab]) rfl (Nat.le_of_ble_eq_true rfl) (.int .i32 0)
 obtain ⟨v3, q1, q2, _⟩ := wP (B := B) (o := 3) (cs := aS (aS (mQ k) 0 [.v (.int .u32 1)]) 1 [.v (.int .i32 0)]) k7 (by simp [AS.setc, ab]) rfl (u := .ifc 175 (.v (.pointer (some ⟨k, 0, none⟩)))) rfl
 refine ⟨_, k, r, v, rfl, hkr, ?_, k7.sub rfl (fun t u hu => by simp [av] at hu) (fun q cs hq => ?_) (fun p hp => by cases hp), ((k4.trans (hXd.ext k3.gb k3.fb)).trans x6).trans x7⟩
 ·cases q2 with
  | ifc t u x hr =>
    rw [bj hr] at q1
    exact q1
 ·simp only [ab, av, AS.setc] at hq ⊢
  have hqB : q ≠ B := by
   rintro rfl
   rw [if_neg (fun e => hkB e.symm), if_neg (fun e => hrB e.symm)] at hq
   cases hq
  rw [if_neg hqB, if_neg hqB, if_neg hqB]
  exact hq
theorem FW {F : Nat → Prop} {X : GW} {vs : Array Value} {a b : Value} {H : List (Nat × List AV)} (hs : SimE F X ⟨2, slotsOf 0 [.v a, .v b], H, []⟩ vs) : vs = #[a, b] := by
 have h2 : vs.size = 2 := hs.size
 have h0 := bj (hs.slot 0 (.v a) rfl)
 have h1 := bj (hs.slot 1 (.v b) rfl)
 apply Array.ext
 ·simp [h2]
 ·intro i hi _
  have : i = 0 ∨ i = 1 := by omega
  rcases this with rfl | rfl
  ·simpa [Array.getD_eq_getD_getElem?, hi] using h0
  ·simpa [Array.getD_eq_getD_getElem?, hi] using h1
set_option maxRecDepth 100000 in
set_option maxHeartbeats 1600000 in
theorem Mi (B : Nat) (s out : List UInt8) (hrep : ∀ k r, k ≠ r → ak Tryz.prog 186 [.v (.pointer (some ⟨k, 0, none⟩)), .v (.string (mkB s))] [(k, vU r), (r, u6)] (fun o H => o = .ret (.v (.string (mkB out))) ∧ H = [])) :
  ak Tryz.prog 51 [.v (.pointer (some ⟨B, 0, none⟩)), .v (.string (mkB s))] [(B, Jt)] (fun o H => o = .ret (.v (.string (mkB out))) ∧ H = []) := by
 refine ⟨⟨_, Tryz.func51, by kernel_rfl, by kernel_rfl⟩, fun F X vs hs => ?_⟩
 obtain rfl := FW hs
 have hdo := Gn B F X _ _ hs (by simp [ab])
 have hmeth : ∀ (k : Nat) (w : World), (method 346 175 (.pointer (some ⟨k, 0, none⟩)) "Replace").run Tryz.prog w = .ok (186, .pointer (some ⟨k, 0, none⟩)) w := fun k w => by kernel_rfl
 go_enter Tryz.func51, Tryz.ntmps51
 go_wp2_with (first | (go_at_call 85; refine hdo.mono ?_; rintro e w' ⟨rfl, X2, k, r, v, hw, hkr, hc3, hs2, hx2⟩; subst hw) | (go_at_call 186; refine ((hrep k r hkr).2 F X2 _ (t1 hs2 [.pointer (some ⟨k, 0, none⟩), .string (mkB s)] [(k, vU r), (r, u6)] (fun _ _ h => h))).mono ?_; rintro e w' ⟨X3, o3, H3, hw3, ⟨ho3, hH3⟩, he3, hx3⟩; subst hw3 ho3 hH3; obtain ⟨v3, rfl, hs3⟩ := he3))
 go_ret
 exact ⟨X3, .ret (.v (.string (mkB out))), [], rfl, ⟨rfl, rfl⟩, ⟨v3, rfl, hs3⟩, hx2.trans hx3⟩
end Go.Proofs.YtmjpdbbjiipnfaaGreat
namespace Go.Proofs.YtmjpdbbjiipnfaaGreat
open Go.RowKit P
section
variable {Pr : Program}
end
def Km (n : Nat) : Prop := n ≤ 140737488351232
theorem Km.le {n : Nat} (h : Km n) : n ≤ 140737488351232 := h
end Go.Proofs.YtmjpdbbjiipnfaaGreat
namespace Go.Proofs.YtmjpdbbjiipnfaaGreat
open Go.RowKit P
set_option linter.unusedSimpArgs false
set_option linter.unusedVariables false
def nmC (i : Nat) (c : Nat) : Bool := (decide (97 ≤ c) && decide (c ≤ 122) || decide (65 ≤ c) && decide (c ≤ 90) || decide (c = 95)) || (decide (i ≠ 0) && (decide (48 ≤ c) && decide (c ≤ 57)))
def oZ (s : ByteArray) : Nat → Nat → Bool
 | 0, _ => true
 | b + 1, i => if h : i < s.size then nmC i (s[i]'h).toNat && oZ s b (i + 1) else true
def nmB (s : ByteArray) : Bool := oZ s s.size 0 && decide (0 < s.size) && decide (s.size ≤ 40)
theorem xm {s : ByteArray} {b i : Nat} (h : ¬ i < s.size) : oZ s b i = true := by
 cases b with
 | zero => rfl
 | succ b => simp [oZ, h]
theorem zj (s : ByteArray) (pos : Nat) (h : pos < s.size) : 1 ≤ (Utf8.decode s pos).2 := by
 by_cases ha : (s[pos]'h).toNat < 128
 ·rw [decode_ascii s pos h ha]
  exact Nat.le_refl _
 ·exact (decode_high s pos h (by omega)).2
theorem ID (s : ByteArray) (pos : Nat) (h : pos < s.size) : nmC pos (s[pos]'h).toNat = nmC pos (Utf8.decode s pos).1 := by
 by_cases ha : (s[pos]'h).toNat < 128
 ·rw [decode_ascii s pos h ha]
 ·have h1 := (decode_high s pos h (by omega)).1
  have h2 : ∀ c, 128 ≤ c → nmC pos c = false := fun c hc => by
   unfold nmC
   simp only [decide_eq_true_eq, Bool.or_eq_false_iff, Bool.and_eq_false_iff, decide_eq_false_iff_not]
   omega
  rw [h2 _ h1, h2 _ (by omega)]
theorem vq (s : ByteArray) : s.toList.length = s.size := by rw [ByteArray.toList_eq]; rfl
theorem l8 {s : ByteArray} {b pos r : Nat} (hp : pos < s.size) (hb : s.size ≤ pos + b) (hnm : nmC pos (s[pos]'hp).toNat = nmC pos r) (hq : nmC pos r = true) : oZ s (b - 1) (pos + 1) = oZ s b pos := by
 cases b with
 | zero => omega
 | succ b =>
   show oZ s b (pos + 1) = if h : pos < s.size then nmC pos (s[pos]'h).toNat && oZ s b (pos + 1) else true
   rw [dif_pos hp, hnm, hq, Bool.true_and]
theorem d7 {s : ByteArray} {b pos r : Nat} (hp : pos < s.size) (hb : s.size ≤ pos + b) (hnm : nmC pos (s[pos]'hp).toNat = nmC pos r) (hq : nmC pos r = false) : oZ s b pos = false := by
 cases b with
 | zero => omega
 | succ b =>
   show (if h : pos < s.size then nmC pos (s[pos]'h).toNat && oZ s b (pos + 1) else true) = false
   rw [dif_pos hp, hnm, hq, Bool.false_and]
theorem zU (s : ByteArray) (pos : Nat) (h : pos < s.size) (h1 : (Utf8.decode s pos).1 < 128) : (Utf8.decode s pos).2 = 1 := by
 by_cases ha : (s[pos]'h).toNat < 128
 ·rw [decode_ascii s pos h ha]
 ·have := (decode_high s pos h (by omega)).1; omega
set_option maxHeartbeats 4000000 in
set_option maxRecDepth 1000000 in
theorem xQ (s : ByteArray) (hs : s.size < 9223372036854775808) (w : World) : Calls Tryz.prog 41 #[.string s] w fun e w' => e = .returned (.bool (nmB s)) ∧ ∃ pos, w' = w.iter s pos := by
 go_enter Tryz.func41, Tryz.ntmps41
 go_wp2
 go_loopw [2] (fun v w' => ∃ pos b : Nat, w' = w.iter s pos ∧ v = .bool false ∧ oZ s b pos = oZ s s.size 0 ∧ s.size ≤ pos + b) (fun _ w' => s.size - w'.iterPos w.heap.size)
 case atStart => exact ⟨0, s.size, rfl, rfl, rfl, by omega⟩
 case round =>
  obtain ⟨pos, b, rfl, rfl, hc, hb⟩ := hrel
  by_cases hp : pos < s.size
  ·have hnx : ∀ ty, (Instr.next (.pointer (some ⟨w.heap.size, 0, none⟩)) true ty).run Tryz.prog (w.iter s pos) = _ := fun ty => run_next_any w s pos ty hp
   have hwd := zj s pos hp
   have hnm := ID s pos hp
   have hr1 := zU s pos hp
   generalize (Utf8.decode s pos).1 = r at hnx hnm hr1
   generalize (Utf8.decode s pos).2 = n at hnx hwd hr1
   have hcase : (97 ≤ r ∧ r ≤ 122) ∨ (65 ≤ r ∧ r ≤ 90) ∨ (r = 95) ∨ (48 ≤ r ∧ r ≤ 57 ∧ pos ≠ 0) ∨ (48 ≤ r ∧ r ≤ 57 ∧ pos = 0) ∨ (r < 48 ∧ pos ≠ 0) ∨ (r < 48 ∧ pos = 0) ∨ (58 ≤ r ∧ r ≤ 64 ∧ pos ≠ 0) ∨ (58 ≤ r ∧ r ≤ 64 ∧ pos = 0) ∨ (91 ≤ r ∧ r ≤ 94 ∧ pos ≠ 0) ∨ (91 ≤ r ∧ r ≤ 94 ∧ pos = 0) ∨ (r = 96 ∧ pos ≠ 0) ∨ (r = 96 ∧ pos = 0) ∨ (123 ≤ r ∧ pos ≠ 0) ∨ (123 ≤ r ∧ pos = 0) := by omega
   rcases hcase with hh | hh | hh | hh | hh | hh | hh | hh | hh | hh | hh | hh | hh | hh | hh
   ·
    have f0 : (97 : Int) ≤ (r : Int) := by omega
    have f1 : (r : Int) ≤ 122 := by omega
    go_wp2
    have hn1 := hr1 (by omega)
    subst hn1
    have hq : nmC pos r = true := by unfold nmC; simp; omega
    refine ⟨⟨pos + 1, b - 1, rfl, rfl, (l8 hp hb hnm hq).trans hc, by omega⟩, ?_⟩
    simp
    omega
   ·
    have f0 : ¬ (97 : Int) ≤ (r : Int) := by omega
    have f1 : (65 : Int) ≤ (r : Int) := by omega
    have f2 : (r : Int) ≤ 90 := by omega
    go_wp2
    have hn1 := hr1 (by omega)
    subst hn1
    have hq : nmC pos r = true := by unfold nmC; simp; omega
    refine ⟨⟨pos + 1, b - 1, rfl, rfl, (l8 hp hb hnm hq).trans hc, by omega⟩, ?_⟩
    simp
    omega
   ·
    have f0 : ¬ (97 : Int) ≤ (r : Int) := by omega
    have f1 : (65 : Int) ≤ (r : Int) := by omega
    have f2 : ¬ (r : Int) ≤ 90 := by omega
    have f3 : ((r : Int) == 95) = true := by simp; omega
    go_wp2
    have hn1 := hr1 (by omega)
    subst hn1
    have hq : nmC pos r = true := by unfold nmC; simp; omega
    refine ⟨⟨pos + 1, b - 1, rfl, rfl, (l8 hp hb hnm hq).trans hc, by omega⟩, ?_⟩
    simp
    omega
   ·
    have f0 : ¬ (97 : Int) ≤ (r : Int) := by omega
    have f1 : ¬ (65 : Int) ≤ (r : Int) := by omega
    have f2 : ((r : Int) == 95) = false := by simp; omega
    have f3 : ((pos : Int) == 0) = false := by simp; omega
    have f4 : ¬ (r : Int) < 48 := by omega
    have f5 : ¬ (57 : Int) < (r : Int) := by omega
    go_wp2
    have hn1 := hr1 (by omega)
    subst hn1
    have hq : nmC pos r = true := by unfold nmC; simp; omega
    refine ⟨⟨pos + 1, b - 1, rfl, rfl, (l8 hp hb hnm hq).trans hc, by omega⟩, ?_⟩
    simp
    omega
   ·
    have f0 : ¬ (97 : Int) ≤ (r : Int) := by omega
    have f1 : ¬ (65 : Int) ≤ (r : Int) := by omega
    have f2 : ((r : Int) == 95) = false := by simp; omega
    obtain rfl : pos = 0 := by omega
    have hnx' : ∀ ty, (Instr.next (.pointer (some ⟨w.heap.size, 0, none⟩)) true ty).run Tryz.prog (w.iter s 0) = .ok (.tuple #[.bool true, .int .i64 0, .int .i32 r]) (w.iter s (0 + n)) := fun ty => by simpa using hnx ty
    clear hnx
    go_wp2
    have hq : nmC 0 r = false := by unfold nmC; simp; omega
    have hz := d7 hp hb hnm hq
    rw [hc] at hz
    go_ret
    exact ⟨by simp [nmB, hz], _, rfl⟩
   ·
    have f0 : ¬ (97 : Int) ≤ (r : Int) := by omega
    have f1 : ¬ (65 : Int) ≤ (r : Int) := by omega
    have f2 : ((r : Int) == 95) = false := by simp; omega
    have f3 : ((pos : Int) == 0) = false := by simp; omega
    have f4 : (r : Int) < 48 := by omega
    go_wp2
    have hq : nmC pos r = false := by unfold nmC; simp; omega
    have hz := d7 hp hb hnm hq
    rw [hc] at hz
    go_ret
    exact ⟨by simp [nmB, hz], _, rfl⟩
   ·
    have f0 : ¬ (97 : Int) ≤ (r : Int) := by omega
    have f1 : ¬ (65 : Int) ≤ (r : Int) := by omega
    have f2 : ((r : Int) == 95) = false := by simp; omega
    obtain rfl : pos = 0 := by omega
    have hnx' : ∀ ty, (Instr.next (.pointer (some ⟨w.heap.size, 0, none⟩)) true ty).run Tryz.prog (w.iter s 0) = .ok (.tuple #[.bool true, .int .i64 0, .int .i32 r]) (w.iter s (0 + n)) := fun ty => by simpa using hnx ty
    clear hnx
    go_wp2
    have hq : nmC 0 r = false := by unfold nmC; simp; omega
    have hz := d7 hp hb hnm hq
    rw [hc] at hz
    go_ret
    exact ⟨by simp [nmB, hz], _, rfl⟩
   ·
    have f0 : ¬ (97 : Int) ≤ (r : Int) := by omega
    have f1 : ¬ (65 : Int) ≤ (r : Int) := by omega
    have f2 : ((r : Int) == 95) = false := by simp; omega
    have f3 : ((pos : Int) == 0) = false := by simp; omega
    have f4 : ¬ (r : Int) < 48 := by omega
    have f5 : (57 : Int) < (r : Int) := by omega
    go_wp2
    have hq : nmC pos r = false := by unfold nmC; simp; omega
    have hz := d7 hp hb hnm hq
    rw [hc] at hz
    go_ret
    exact ⟨by simp [nmB, hz], _, rfl⟩
   ·
    have f0 : ¬ (97 : Int) ≤ (r : Int) := by omega
    have f1 : ¬ (65 : Int) ≤ (r : Int) := by omega
    have f2 : ((r : Int) == 95) = false := by simp; omega
    obtain rfl : pos = 0 := by omega
    have hnx' : ∀ ty, (Instr.next (.pointer (some ⟨w.heap.size, 0, none⟩)) true ty).run Tryz.prog (w.iter s 0) = .ok (.tuple #[.bool true, .int .i64 0, .int .i32 r]) (w.iter s (0 + n)) := fun ty => by simpa using hnx ty
    clear hnx
    go_wp2
    have hq : nmC 0 r = false := by unfold nmC; simp; omega
    have hz := d7 hp hb hnm hq
    rw [hc] at hz
    go_ret
    exact ⟨by simp [nmB, hz], _, rfl⟩
   ·
    have f0 : ¬ (97 : Int) ≤ (r : Int) := by omega
    have f1 : (65 : Int) ≤ (r : Int) := by omega
    have f2 : ¬ (r : Int) ≤ 90 := by omega
    have f3 : ((r : Int) == 95) = false := by simp; omega
    have f4 : ((pos : Int) == 0) = false := by simp; omega
    have f5 : ¬ (r : Int) < 48 := by omega
    have f6 : (57 : Int) < (r : Int) := by omega
    go_wp2
    have hq : nmC pos r = false := by unfold nmC; simp; omega
    have hz := d7 hp hb hnm hq
    rw [hc] at hz
    go_ret
    exact ⟨by simp [nmB, hz], _, rfl⟩
   ·
    have f0 : ¬ (97 : Int) ≤ (r : Int) := by omega
    have f1 : (65 : Int) ≤ (r : Int) := by omega
    have f2 : ¬ (r : Int) ≤ 90 := by omega
    have f3 : ((r : Int) == 95) = false := by simp; omega
    obtain rfl : pos = 0 := by omega
    have hnx' : ∀ ty, (Instr.next (.pointer (some ⟨w.heap.size, 0, none⟩)) true ty).run Tryz.prog (w.iter s 0) = .ok (.tuple #[.bool true, .int .i64 0, .int .i32 r]) (w.iter s (0 + n)) := fun ty => by simpa using hnx ty
    clear hnx
    go_wp2
    have hq : nmC 0 r = false := by unfold nmC; simp; omega
    have hz := d7 hp hb hnm hq
    rw [hc] at hz
    go_ret
    exact ⟨by simp [nmB, hz], _, rfl⟩
   ·
    have f0 : ¬ (97 : Int) ≤ (r : Int) := by omega
    have f1 : (65 : Int) ≤ (r : Int) := by omega
    have f2 : ¬ (r : Int) ≤ 90 := by omega
    have f3 : ((r : Int) == 95) = false := by simp; omega
    have f4 : ((pos : Int) == 0) = false := by simp; omega
    have f5 : ¬ (r : Int) < 48 := by omega
    have f6 : (57 : Int) < (r : Int) := by omega
    go_wp2
    have hq : nmC pos r = false := by unfold nmC; simp; omega
    have hz := d7 hp hb hnm hq
    rw [hc] at hz
    go_ret
    exact ⟨by simp [nmB, hz], _, rfl⟩
   ·
    have f0 : ¬ (97 : Int) ≤ (r : Int) := by omega
    have f1 : (65 : Int) ≤ (r : Int) := by omega
    have f2 : ¬ (r : Int) ≤ 90 := by omega
    have f3 : ((r : Int) == 95) = false := by simp; omega
    obtain rfl : pos = 0 := by omega
    have hnx' : ∀ ty, (Instr.next (.pointer (some ⟨w.heap.size, 0, none⟩)) true ty).run Tryz.prog (w.iter s 0) = .ok (.tuple #[.bool true, .int .i64 0, .int .i32 r]) (w.iter s (0 + n)) := fun ty => by simpa using hnx ty
    clear hnx
    go_wp2
    have hq : nmC 0 r = false := by unfold nmC; simp; omega
    have hz := d7 hp hb hnm hq
    rw [hc] at hz
    go_ret
    exact ⟨by simp [nmB, hz], _, rfl⟩
   ·
    have f0 : (97 : Int) ≤ (r : Int) := by omega
    have f1 : ¬ (r : Int) ≤ 122 := by omega
    have f2 : (65 : Int) ≤ (r : Int) := by omega
    have f3 : ¬ (r : Int) ≤ 90 := by omega
    have f4 : ((r : Int) == 95) = false := by simp; omega
    have f5 : ((pos : Int) == 0) = false := by simp; omega
    have f6 : ¬ (r : Int) < 48 := by omega
    have f7 : (57 : Int) < (r : Int) := by omega
    go_wp2
    have hq : nmC pos r = false := by unfold nmC; simp; omega
    have hz := d7 hp hb hnm hq
    rw [hc] at hz
    go_ret
    exact ⟨by simp [nmB, hz], _, rfl⟩
   ·
    have f0 : (97 : Int) ≤ (r : Int) := by omega
    have f1 : ¬ (r : Int) ≤ 122 := by omega
    have f2 : (65 : Int) ≤ (r : Int) := by omega
    have f3 : ¬ (r : Int) ≤ 90 := by omega
    have f4 : ((r : Int) == 95) = false := by simp; omega
    obtain rfl : pos = 0 := by omega
    have hnx' : ∀ ty, (Instr.next (.pointer (some ⟨w.heap.size, 0, none⟩)) true ty).run Tryz.prog (w.iter s 0) = .ok (.tuple #[.bool true, .int .i64 0, .int .i32 r]) (w.iter s (0 + n)) := fun ty => by simpa using hnx ty
    clear hnx
    go_wp2
    have hq : nmC 0 r = false := by unfold nmC; simp; omega
    have hz := d7 hp hb hnm hq
    rw [hc] at hz
    go_ret
    exact ⟨by simp [nmB, hz], _, rfl⟩
  ·have hnx : ∀ ty, (Instr.next (.pointer (some ⟨w.heap.size, 0, none⟩)) true ty).run Tryz.prog (w.iter s pos) = _ := fun ty => run_next_end w s pos ty hp
   rw [xm hp] at hc
   have hB : nmB s = (decide (0 < s.size) && decide (s.size ≤ 40)) := by unfold nmB; rw [← hc, Bool.true_and]
   clear hc
   by_cases h0 : s.size = 0
   ·have hs0 : s = ⟨#[]⟩ := by
     rcases s with ⟨⟨l⟩⟩
     cases l with
     | nil => rfl
     | cons x l => exact absurd h0 (by simp [ByteArray.size])
    subst hs0
    go_wp2
    go_ret
    exact ⟨rfl, _, rfl⟩
   ·have hne : s ≠ ⟨#[]⟩ := fun e => h0 (by rw [e]; rfl)
    have hl : ¬ s.toList = [] := fun e => hne (by
     have h1 : (s == (⟨#[]⟩ : ByteArray)) = true := by
      have := vq s
      rw [e] at this
      exact absurd this.symm h0
     exact (MapKept.bytes_beq _ _).1 h1)
    have hle : s.toList.isEmpty = false := by cases hq : s.toList with
     | nil => exact absurd hq hl
     | cons => rfl
    have hnb : nmB s = decide (s.size ≤ 40) := by rw [hB]; simp; omega
    clear hB
    by_cases h40 : s.size ≤ 40
    ·have hi : ((s.size : Nat) : Int) ≤ 40 := by omega
     go_wp2
     go_ret
     exact ⟨by simp [hle, hnb, h40], _, rfl⟩
    ·have hi : ¬ ((s.size : Nat) : Int) ≤ 40 := by omega
     go_wp2
     go_ret
     exact ⟨by simp [hnb, h40], _, rfl⟩
end Go.Proofs.YtmjpdbbjiipnfaaGreat
namespace Go.Proofs.YtmjpdbbjiipnfaaGreat
open Go.RowKit P
set_option linter.unusedVariables false
def nmL : Nat → List UInt8 → Bool
 | _, [] => true
 | i, c :: r => nmC i c.toNat && nmL (i + 1) r
def fA (s : List UInt8) : Bool := nmL 0 s && decide (0 < s.length) && decide (s.length ≤ 40)
theorem Ds (s : List UInt8) : ∀ (b i : Nat), s.length ≤ i + b → oZ (mkB s) b i = nmL i (s.drop i)
 | 0, i, h => by rw [List.drop_of_length_le (by omega)]; rfl
 | b + 1, i, h => by
   by_cases hi : i < s.length
   ·have h1 : i < (mkB s).size := by rw [lZ]; exact hi
    rw [List.drop_eq_getElem_cons hi]
    show (if h : i < (mkB s).size then nmC i ((mkB s)[i]'h).toNat && oZ (mkB s) b (i + 1) else true) = (nmC i s[i].toNat && nmL (i + 1) (s.drop (i + 1)))
    rw [dif_pos h1, Ds s b (i + 1) (by omega)]
    rfl
   ·have h1 : ¬ i < (mkB s).size := by rw [lZ]; exact hi
    rw [xm h1, List.drop_of_length_le (by omega)]; rfl
theorem Py (s : List UInt8) : nmB (mkB s) = fA s := by
 unfold nmB fA
 rw [Ds s _ 0 (by rw [lZ]; omega), lZ]; rfl
def eq (N : Nat) (s : List UInt8) : Option Bool := if s.length < 140737488355328 then some (fA s) else none
theorem qP (s : List UInt8) (hs : s.length < 140737488355328) : ak Tryz.prog 41 [.v (.string (mkB s))] [] (fun out H => out = .ret (.v (.bool (fA s))) ∧ H = []) := by
 refine qB (vs := [.string (mkB s)]) ⟨_, Tryz.func41, by kernel_rfl, rfl⟩ fun w => ?_
 refine (xQ (mkB s) (by rw [lZ]; omega) w).mono fun e w' ⟨he, pos, hw⟩ => ⟨by rw [he, Py], ?_⟩
 subst hw
 exact (Below.refl _ _).alloc (Nat.le_refl _) _
def qy (r : Bool) : TV EE.T := .a (.d .bool r)
def hY (N : Nat) : List (TV EE.T) → PV EE.T
 | [u0] => match fj .str u0 with
   | some x0 => .opt (eq N x0) qy
   | _ => .bad
 | _ => .bad
theorem oV (N : Nat) (us : List (TV EE.T)) : (hY N us).ok fun u => ∀ ρ, ak Tryz.prog 41 (us.map (TV.to EE.toEnc ρ)) [] (fun out H => out = .ret (u.to EE.toEnc ρ) ∧ H = []) := by
 unfold hY
 split
 ·split
  ·rename_i u0 x0 h0
   intro z hz ρ
   unfold eq at hz
   split at hz
   ·rename_i hl
    cases hz
    refine br (us' := [.a (.d .str x0)]) ?_ (qP x0 hl)
    exact ⟨bm h0 ρ, trivial⟩
   ·cases hz
  ·trivial
 ·trivial
end Go.Proofs.YtmjpdbbjiipnfaaGreat
namespace Go.Proofs.YtmjpdbbjiipnfaaGreat
open Go.RowKit P
set_option linter.unusedVariables false
set_option linter.unusedSimpArgs false
set_option maxRecDepth 100000
def dq (N : Nat) (k4 : (List VLabel) → Bool → (List VLabel) → Int → Int → Option Int) (n : Nat) (x0 : List VLabel) (x1 : Bool) (x13 : List VLabel) (x14 : Int) (x15 : Int) (b6 : VLabel) : Option Int :=
 bif decide ((b6.Value.length : Int) > 100) then
  some 2
 else
  k4 x0 x1 x13 x14 (w64 (x15 + 1))
def cb (N : Nat) : Nat → (List VLabel) → Int → Int → (List (List UInt8 × Bool)) → Option Int
 | 0, _, _, _, _ => none
 | n + 1, x38, x39, x40, b37 =>
   bif decide (x40 < x39) then
    (cx x38 x40).bind fun z3 =>
    bif (lQ b37 z3.Name).getD false then
     some 6
    else
     cb N n x38 x39 (w64 (x40 + 1)) (ry b37 z3.Name true)
   else
    some 0
def bI (N : Nat) : Nat → (List VLabel) → Bool → (List VLabel) → Int → Int → Option Int
 | 0, _, _, _, _, _ => none
 | n + 1, x0, x1, x13, x14, x15 =>
   bif decide (x15 < x14) then
    (cx x13 x15).bind fun z1 =>
    (eq N z1.Name).bind fun z2 =>
    bif !z2 then
     some 1
    else
     bif decide (z1.Value = ([] : List UInt8)) then
      bif !x1 then
       some 1
      else
       dq N (bI N n) n x0 x1 x13 x14 x15 z1
     else
      dq N (bI N n) n x0 x1 x13 x14 x15 z1
   else
    cb N n x0 (x0.length : Int) 0 ([] : List (List UInt8 × Bool))
def cS (N : Nat) (x0 : List VLabel) (x1 : Bool) : Option Int :=
 bif decide ((x0.length : Int) > 20) then
  some 2
 else
  bI N N x0 x1 x0 (x0.length : Int) 0
def bU (N : Nat) (x0 : List UInt8) : Option Bool :=
 some (!decide (x0 = x0))
def bA (N : Nat) (x0 : List UInt8) (x1 : List UInt8) : Option Int :=
 (bU N x0).bind fun z1 =>
 (bU N x1).bind fun z2 =>
 bif z1 then
  bif z2 then
   some 0
  else
   some (-1)
 else
  bif z2 then
   some 1
  else
   bif Op.bytesLess x0 x1 then
    some (-1)
   else
    bif !(Op.bytesLess x0 x1 || decide (x0 = x1)) then
     some 1
    else
     some 0
def eB (N : Nat) (x0 : VLabel) (x1 : VLabel) : Option Int :=
 (bA N x0.Name x1.Name).bind fun z1 =>
 some z1
def az (N : Nat) : Nat → (List VLabel) → Int → Option Bool
 | 0, _, _ => none
 | n + 1, x0, x5 =>
   bif decide (x5 > 0) then
    (cx x0 x5).bind fun z1 =>
    (cx x0 (w64 (x5 - 1))).bind fun z2 =>
    (eB N z1 z2).bind fun z3 =>
    bif decide (z3 < 0) then
     some false
    else
     az N n x0 (w64 (x5 - 1))
   else
    some true
def aI (N : Nat) (x0 : List VLabel) : Option Bool :=
 az N N x0 (w64 ((x0.length : Int) - 1))
def fc (N : Nat) (x0 : List VLabel) : Option Int :=
 (cS N x0 false).bind fun z1 =>
 bif z1 != 0 then
  some z1
 else
  (aI N x0).bind fun z2 =>
  bif !z2 then
   some 4
  else
   some 0
def dB (N : Nat) : Nat → (List (List VLabel)) → Int → Int → Option Int
 | 0, _, _, _ => none
 | n + 1, x6, x7, x8 =>
   bif decide (x8 < x7) then
    (cx x6 x8).bind fun z1 =>
    (fc N z1).bind fun z2 =>
    bif z2 != 0 then
     some z2
    else
     dB N n x6 x7 (w64 (x8 + 1))
   else
    some 0
def eX (N : Nat) (x0 : List (List VLabel)) : Option Int :=
 dB N N x0 (x0.length : Int) 0
def dl (N : Nat) (x0 : VLabel) (x1 : List UInt8) : Option Int :=
 (bA N x0.Name x1).bind fun z1 =>
 some z1
def al (N : Nat) : Nat → (List VLabel) → (List UInt8) → Int → Int → Int → Option (Int × Bool)
 | 0, _, _, _, _, _ => none
 | n + 1, x0, x1, x8, x9, x10 =>
   bif decide (x9 < x10) then
    (Cv .u64 (IntKind.wrap .u64 (w64 (x9 + x10))) 1).bind fun z1 =>
    (cx x0 (w64 z1)).bind fun z2 =>
    (dl N z2 x1).bind fun z3 =>
    bif decide (z3 < 0) then
     al N n x0 x1 x8 (w64 ((w64 z1) + 1)) x10
    else
     al N n x0 x1 x8 x9 (w64 z1)
   else
    bif decide (x9 < x8) then
     (cx x0 x9).bind fun z4 =>
     (dl N z4 x1).bind fun z5 =>
     some (x9, z5 == 0)
    else
     some (x9, false)
def au (N : Nat) (x0 : List VLabel) (x1 : List UInt8) : Option (Int × Bool) :=
 al N N x0 x1 (x0.length : Int) 0 (x0.length : Int)
def fS (N : Nat) (x0 : List VLabel) (x1 : List UInt8) : Option (Int × Bool) :=
 (au N x0 x1).bind fun z1 =>
 some (z1.1, z1.2)
def kP (N : Nat) (x0 : List VLabel) (x1 : List UInt8) : Option (List UInt8) :=
 (fS N x0 x1).bind fun z1 =>
 bif z1.2 then
  (cx x0 z1.1).bind fun z2 =>
  some z2.Value
 else
  some ([] : List UInt8)
end Go.Proofs.YtmjpdbbjiipnfaaGreat
namespace Go.Proofs.YtmjpdbbjiipnfaaGreat
open Go.RowKit P
set_option linter.unusedVariables false
set_option linter.unusedSimpArgs false
set_option maxRecDepth 100000
def jq (r : Int) : TV EE.T := .a (.d (.int .i64) r)
def eG (r : Int) : RL EE.T := .ret (jq r) []
def nT : Lvs := ⟨[(9, ⟨[(0, false), (1, false), (6, false), (13, false), (14, false), (15, false)], [], [(6, (some 2, []))], []⟩)], [(4, ⟨[(0, false), (1, false), (13, false), (14, false), (15, false)], [], [], []⟩), (14, ⟨[(7, false), (38, false), (39, false), (40, false)], [], [(37, (none, []))], []⟩)], [9], [], false, [], [], [], []⟩
def oO : List ResultVar := [.tmp 4]
def tL (N : Nat) : Gam EE := ⟨[⟨41, hY N⟩], EQT, [], []⟩
theorem L1 (N : Nat) : GOk Tryz.prog TT EE (tL N) := GOk.cons (oV N) (GOk.nil cn)
def wD (c : Code) : List It2 := atR 9 c
def vM (x0 : List VLabel) (x1 : Bool) (x13 : List VLabel) (x14 : Int) (x15 : Int) (b6 : VLabel) : TS EE.T := ⟨52, [(0, .a (.d (.sl (.nam 2)) x0)), (1, .a (.d .bool x1)), (6, .a (.box 6 0)), (13, .a (.d (.sl (.nam 2)) x13)), (14, .a (.d (.int .i64) x14)), (15, .a (.d (.int .i64) x15))], [(6, .cs (lb EE (.nam 2) b6))], []⟩
def rf (c : Code) : List It2 := atL 14 c
def rg (x38 : List VLabel) (x39 : Int) (x40 : Int) (b37 : List (List UInt8 × Bool)) : TS EE.T := ⟨52, [(7, .a (.mpr 37)), (38, .a (.d (.sl (.nam 2)) x38)), (39, .a (.d (.int .i64) x39)), (40, .a (.d (.int .i64) x40))], [(37, .smap .bool b37)], []⟩
def sx (c : Code) : List It2 := atL 4 c
def sq (x0 : List VLabel) (x1 : Bool) (x13 : List VLabel) (x14 : Int) (x15 : Int) : TS EE.T := ⟨52, [(0, .a (.d (.sl (.nam 2)) x0)), (1, .a (.d .bool x1)), (13, .a (.d (.sl (.nam 2)) x13)), (14, .a (.d (.int .i64) x14)), (15, .a (.d (.int .i64) x15))], [], []⟩
def Fv (c : Code) : List It2 := [.c c]
def Eg (x0 : List VLabel) (x1 : Bool) : TS EE.T := ⟨52, [(0, .a (.d (.sl (.nam 2)) x0)), (1, .a (.d .bool x1))], [], []⟩
def zq (c : Code) (N : Nat) (k4 : (List VLabel) → Bool → (List VLabel) → Int → Int → Option Int) (n : Nat) (x0 : List VLabel) (x1 : Bool) (x13 : List VLabel) (x14 : Int) (x15 : Int) (b6 : VLabel) : Tree (Lf EE.T × Option Int) :=
 .cond (decide ((b6.Value.length : Int) > 100))
 (
  .leaf (.done (eG 2), some 2))
 (
  .leaf (.go (sx c) (sq x0 x1 x13 x14 (w64 (x15 + 1))), k4 x0 x1 x13 x14 (w64 (x15 + 1))))
theorem Nl (N : Nat) (k4 : (List VLabel) → Bool → (List VLabel) → Int → Int → Option Int) (n : Nat) (x0 : List VLabel) (x1 : Bool) (x13 : List VLabel) (x14 : Int) (x15 : Int) (b6 : VLabel) : evM TT EE (tL N) nT oO 4000 true (wD (aa 0 Tryz.f14)) (vM x0 x1 x13 x14 x15 b6) = (zq (aa 0 Tryz.f14) N k4 n x0 x1 x13 x14 x15 b6).map1 := by kernel_rfl
theorem NJ (N : Nat) (k4 : (List VLabel) → Bool → (List VLabel) → Int → Int → Option Int) (n : Nat) (x0 : List VLabel) (x1 : Bool) (x13 : List VLabel) (x14 : Int) (x15 : Int) (b6 : VLabel) : dq N k4 n x0 x1 x13 x14 x15 b6 = (zq (aa 0 Tryz.f14) N k4 n x0 x1 x13 x14 x15 b6).run := by kernel_rfl
theorem Er {N : Nat} {r : Int} {k4 : (List VLabel) → Bool → (List VLabel) → Int → Int → Option Int} (hk4 : ∀ x0 x1 x13 x14 x15, k4 x0 x1 x13 x14 x15 = some r → bP (Y := TT) EE (tL N) nT oO (fun u => u = eG r) (sx (aa 0 Tryz.f14)) (sq x0 x1 x13 x14 x15)) (n : Nat) (x0 : List VLabel) (x1 : Bool) (x13 : List VLabel) (x14 : Int) (x15 : Int) (b6 : VLabel) (h : dq N k4 n x0 x1 x13 x14 x15 b6 = some r) : bP (Y := TT) EE (tL N) nT oO (fun u => u = eG r) (wD (aa 0 Tryz.f14)) (vM x0 x1 x13 x14 x15 b6) :=
 ay (Nl N k4 n x0 x1 x13 x14 x15 b6) (NJ N k4 n x0 x1 x13 x14 x15 b6) h (show (zq (aa 0 Tryz.f14) N k4 n x0 x1 x13 x14 x15 b6).all _ from ⟨bx (enc := eG) rfl, fun h => hk4 _ _ _ _ _ h⟩)
def vZ (c : Code) (N : Nat) (n : Nat) (x38 : List VLabel) (x39 : Int) (x40 : Int) (b37 : List (List UInt8 × Bool)) : Tree (Lf EE.T × Option Int) :=
 .cond (decide (x40 < x39))
 (
  .bnd (cx x38 x40) fun z3 =>
  .cond ((lQ b37 z3.Name).getD false)
  (
   .leaf (.done (eG 6), some 6))
  (
   .leaf (.go (rf c) (rg x38 x39 (w64 (x40 + 1)) (ry b37 z3.Name true)), cb N n x38 x39 (w64 (x40 + 1)) (ry b37 z3.Name true))))
 (
  .leaf (.done (eG 0), some 0))
theorem Jv (N : Nat) (n : Nat) (x38 : List VLabel) (x39 : Int) (x40 : Int) (b37 : List (List UInt8 × Bool)) : evM TT EE (tL N) nT oO 4000 true (rf (aa 0 Tryz.f14)) (rg x38 x39 x40 b37) = (vZ (aa 0 Tryz.f14) N n x38 x39 x40 b37).map1 := by kernel_rfl
theorem GT (N : Nat) (n : Nat) (x38 : List VLabel) (x39 : Int) (x40 : Int) (b37 : List (List UInt8 × Bool)) : cb N (n + 1) x38 x39 x40 b37 = (vZ (aa 0 Tryz.f14) N n x38 x39 x40 b37).run := by kernel_rfl
theorem Az {N : Nat} {r : Int} : ∀ (n : Nat) (x38 : List VLabel) (x39 : Int) (x40 : Int) (b37 : List (List UInt8 × Bool)), cb N n x38 x39 x40 b37 = some r → bP (Y := TT) EE (tL N) nT oO (fun u => u = eG r) (rf (aa 0 Tryz.f14)) (rg x38 x39 x40 b37)
 | 0, _, _, _, _, h => by cases h
 | n + 1, x38, x39, x40, b37, h => ay (Jv N n x38 x39 x40 b37) (GT N n x38 x39 x40 b37) h (show (vZ (aa 0 Tryz.f14) N n x38 x39 x40 b37).all _ from ⟨fun _ => ⟨bx (enc := eG) rfl, fun h => (Az n) _ _ _ _ h⟩, bx (enc := eG) rfl⟩)
def zt (c : Code) (N : Nat) (n : Nat) (x0 : List VLabel) (x1 : Bool) (x13 : List VLabel) (x14 : Int) (x15 : Int) : Tree (Lf EE.T × Option Int) :=
 .cond (decide (x15 < x14))
 (
  .bnd (cx x13 x15) fun z1 =>
  .bnd (eq N z1.Name) fun z2 =>
  .cond (!z2)
  (
   .leaf (.done (eG 1), some 1))
  (
   .cond (decide (z1.Value = ([] : List UInt8)))
   (
    .cond (!x1)
    (
     .leaf (.done (eG 1), some 1))
    (
     .leaf (.go (wD c) (vM x0 x1 x13 x14 x15 z1), dq N (bI N n) n x0 x1 x13 x14 x15 z1)))
   (
    .leaf (.go (wD c) (vM x0 x1 x13 x14 x15 z1), dq N (bI N n) n x0 x1 x13 x14 x15 z1))))
 (
  .leaf (.go (rf c) (rg x0 (x0.length : Int) 0 ([] : List (List UInt8 × Bool))), cb N n x0 (x0.length : Int) 0 ([] : List (List UInt8 × Bool))))
theorem Ll (N : Nat) (n : Nat) (x0 : List VLabel) (x1 : Bool) (x13 : List VLabel) (x14 : Int) (x15 : Int) : evM TT EE (tL N) nT oO 4000 true (sx (aa 0 Tryz.f14)) (sq x0 x1 x13 x14 x15) = (zt (aa 0 Tryz.f14) N n x0 x1 x13 x14 x15).map1 := by kernel_rfl
theorem Lh (N : Nat) (n : Nat) (x0 : List VLabel) (x1 : Bool) (x13 : List VLabel) (x14 : Int) (x15 : Int) : bI N (n + 1) x0 x1 x13 x14 x15 = (zt (aa 0 Tryz.f14) N n x0 x1 x13 x14 x15).run := by kernel_rfl
theorem zf {N : Nat} {r : Int} : ∀ (n : Nat) (x0 : List VLabel) (x1 : Bool) (x13 : List VLabel) (x14 : Int) (x15 : Int), bI N n x0 x1 x13 x14 x15 = some r → bP (Y := TT) EE (tL N) nT oO (fun u => u = eG r) (sx (aa 0 Tryz.f14)) (sq x0 x1 x13 x14 x15)
 | 0, _, _, _, _, _, h => by cases h
 | n + 1, x0, x1, x13, x14, x15, h => ay (Ll N n x0 x1 x13 x14 x15) (Lh N n x0 x1 x13 x14 x15) h (show (zt (aa 0 Tryz.f14) N n x0 x1 x13 x14 x15).all _ from ⟨fun _ => fun _ => ⟨bx (enc := eG) rfl, ⟨⟨bx (enc := eG) rfl, fun h => Er (zf n) n _ _ _ _ _ _ h⟩, fun h => Er (zf n) n _ _ _ _ _ _ h⟩⟩, fun h => Az n _ _ _ _ h⟩)
def zY (c : Code) (N : Nat) (x0 : List VLabel) (x1 : Bool) : Tree (Lf EE.T × Option Int) :=
 .cond (decide ((x0.length : Int) > 20))
 (
  .leaf (.done (eG 2), some 2))
 (
  .leaf (.go (sx c) (sq x0 x1 x0 (x0.length : Int) 0), bI N N x0 x1 x0 (x0.length : Int) 0))
theorem LB (N : Nat) (x0 : List VLabel) (x1 : Bool) : evM TT EE (tL N) nT oO 4000 true (Fv (aa 0 Tryz.f14)) (Eg x0 x1) = (zY (aa 0 Tryz.f14) N x0 x1).map1 := by kernel_rfl
theorem M9 (N : Nat) (x0 : List VLabel) (x1 : Bool) : cS N x0 x1 = (zY (aa 0 Tryz.f14) N x0 x1).run := by kernel_rfl
theorem Oc {N : Nat} {r : Int} (x0 : List VLabel) (x1 : Bool) (h : cS N x0 x1 = some r) : bP (Y := TT) EE (tL N) nT oO (fun u => u = eG r) (Fv (aa 0 Tryz.f14)) (Eg x0 x1) :=
 ay (LB N x0 x1) (M9 N x0 x1) h (show (zY (aa 0 Tryz.f14) N x0 x1).all _ from ⟨bx (enc := eG) rfl, fun h => zf N _ _ _ _ _ h⟩)
theorem rz {N : Nat} (x0 : List VLabel) (x1 : Bool) {r : Int} (h : cS N x0 x1 = some r) (ρ : Rn) : ak Tryz.prog 14 (([.a (.d (.sl (.nam 2)) x0), .a (.d .bool x1)] : List (TV EE.T)).map (TV.to EE.toEnc ρ)) [] (fun out H => out = .ret ((jq r).to EE.toEnc ρ) ∧ H = []) :=
 (fk (aa 0 Tryz.f14) 52 mixed (L1 N) Tryz.func14 (by kernel_rfl) rfl rfl rfl rfl (Oc x0 x1 h) ρ).mono fun out H h => bO.ret rfl h
def gR (N : Nat) : List (TV EE.T) → PV EE.T
 | [u0, u1] => match fj (.sl (.nam 2)) u0, fj .bool u1 with
   | some x0, some x1 => .opt (cS N x0 x1) jq
   | _, _ => .bad
 | _ => .bad
theorem kR (N : Nat) (us : List (TV EE.T)) : (gR N us).ok fun u => ∀ ρ, ak Tryz.prog 14 (us.map (TV.to EE.toEnc ρ)) [] (fun out H => out = .ret (u.to EE.toEnc ρ) ∧ H = []) := by
 unfold gR
 split
 ·split
  ·rename_i h0 h1
   intro z hz ρ; refine br ?_ (rz _ _ hz ρ); exact ⟨bm h0 ρ, bm h1 ρ, trivial⟩
  ·trivial
 ·trivial
def fm (r : Bool) : TV EE.T := .a (.d .bool r)
def y4 (r : Bool) : RL EE.T := .ret (fm r) []
def J8 : Lvs := ⟨[], [], [], [], false, [], [], [], []⟩
def KQ : List ResultVar := [.tmp 2]
def Ol (N : Nat) : Gam EE := ⟨[], EQT, [], []⟩
theorem NO (N : Nat) : GOk Tryz.prog TT EE (Ol N) := GOk.nil cn
def qFS (c : Code) : List It2 := [.c c]
def Ep (x0 : List UInt8) : TS EE.T := ⟨6, [(0, .a (.d .str x0))], [], []⟩
def Ap (c : Code) (N : Nat) (x0 : List UInt8) : Tree (Lf EE.T × Option Bool) :=
 .leaf (.done (y4 (!decide (x0 = x0))), some (!decide (x0 = x0)))
theorem LY (N : Nat) (x0 : List UInt8) : evM TT EE (Ol N) J8 KQ 4000 true (qFS (aa 0 Tryz.f83)) (Ep x0) = (Ap (aa 0 Tryz.f83) N x0).map1 := by kernel_rfl
theorem LH (N : Nat) (x0 : List UInt8) : bU N x0 = (Ap (aa 0 Tryz.f83) N x0).run := by kernel_rfl
theorem Ou {N : Nat} {r : Bool} (x0 : List UInt8) (h : bU N x0 = some r) : bP (Y := TT) EE (Ol N) J8 KQ (fun u => u = y4 r) (qFS (aa 0 Tryz.f83)) (Ep x0) :=
 ay (LY N x0) (LH N x0) h (show (Ap (aa 0 Tryz.f83) N x0).all _ from bx (enc := y4) rfl)
theorem lA {N : Nat} (x0 : List UInt8) {r : Bool} (h : bU N x0 = some r) (ρ : Rn) : ak Tryz.prog 83 (([.a (.d .str x0)] : List (TV EE.T)).map (TV.to EE.toEnc ρ)) [] (fun out H => out = .ret ((fm r).to EE.toEnc ρ) ∧ H = []) :=
 (fk (aa 0 Tryz.f83) 6 mixed (NO N) Tryz.func83 (by kernel_rfl) rfl rfl rfl rfl (Ou x0 h) ρ).mono fun out H h => bO.ret rfl h
def fp (N : Nat) : List (TV EE.T) → PV EE.T
 | [u0] => match fj .str u0 with
   | some x0 => .opt (bU N x0) fm
   | _ => .bad
 | _ => .bad
theorem lc (N : Nat) (us : List (TV EE.T)) : (fp N us).ok fun u => ∀ ρ, ak Tryz.prog 83 (us.map (TV.to EE.toEnc ρ)) [] (fun out H => out = .ret (u.to EE.toEnc ρ) ∧ H = []) := by
 unfold fp
 split
 ·split
  ·rename_i h0
   intro z hz ρ; refine br ?_ (lA _ hz ρ); exact ⟨bm h0 ρ, trivial⟩
  ·trivial
 ·trivial
def eD (r : Int) : TV EE.T := .a (.d (.int .i64) r)
def gA (r : Int) : RL EE.T := .ret (eD r) []
def Kb : Lvs := ⟨[], [], [], [], false, [], [], [], []⟩
def KR : List ResultVar := [.tmp 4]
def Mw (N : Nat) : Gam EE := ⟨[⟨83, fp N⟩], EQT, [], []⟩
theorem MJ (N : Nat) : GOk Tryz.prog TT EE (Mw N) := GOk.cons (lc N) (GOk.nil cn)
def C6 (c : Code) : List It2 := [.c c]
def FP (x0 : List UInt8) (x1 : List UInt8) : TS EE.T := ⟨20, [(0, .a (.d .str x0)), (1, .a (.d .str x1))], [], []⟩
def zI (c : Code) (N : Nat) (x0 : List UInt8) (x1 : List UInt8) : Tree (Lf EE.T × Option Int) :=
 .bnd (bU N x0) fun z1 =>
 .bnd (bU N x1) fun z2 =>
 .cond (z1)
 (
  .cond (z2)
  (
   .leaf (.done (gA 0), some 0))
  (
   .leaf (.done (gA (-1)), some (-1))))
 (
  .cond (z2)
  (
   .leaf (.done (gA 1), some 1))
  (
   .cond (Op.bytesLess x0 x1)
   (
    .leaf (.done (gA (-1)), some (-1)))
   (
    .cond (!(Op.bytesLess x0 x1 || decide (x0 = x1)))
    (
     .leaf (.done (gA 1), some 1))
    (
     .leaf (.done (gA 0), some 0)))))
theorem Nr (N : Nat) (x0 : List UInt8) (x1 : List UInt8) : evM TT EE (Mw N) Kb KR 4000 true (C6 (aa 0 Tryz.f45)) (FP x0 x1) = (zI (aa 0 Tryz.f45) N x0 x1).map1 := by kernel_rfl
theorem Mm (N : Nat) (x0 : List UInt8) (x1 : List UInt8) : bA N x0 x1 = (zI (aa 0 Tryz.f45) N x0 x1).run := by kernel_rfl
theorem OO {N : Nat} {r : Int} (x0 : List UInt8) (x1 : List UInt8) (h : bA N x0 x1 = some r) : bP (Y := TT) EE (Mw N) Kb KR (fun u => u = gA r) (C6 (aa 0 Tryz.f45)) (FP x0 x1) :=
 ay (Nr N x0 x1) (Mm N x0 x1) h (show (zI (aa 0 Tryz.f45) N x0 x1).all _ from fun _ => fun _ => ⟨⟨bx (enc := gA) rfl, bx (enc := gA) rfl⟩, ⟨bx (enc := gA) rfl, ⟨bx (enc := gA) rfl, ⟨bx (enc := gA) rfl, bx (enc := gA) rfl⟩⟩⟩⟩)
theorem kN {N : Nat} (x0 : List UInt8) (x1 : List UInt8) {r : Int} (h : bA N x0 x1 = some r) (ρ : Rn) : ak Tryz.prog 45 (([.a (.d .str x0), .a (.d .str x1)] : List (TV EE.T)).map (TV.to EE.toEnc ρ)) [] (fun out H => out = .ret ((eD r).to EE.toEnc ρ) ∧ H = []) :=
 (fk (aa 0 Tryz.f45) 20 mixed (MJ N) Tryz.func45 (by kernel_rfl) rfl rfl rfl rfl (OO x0 x1 h) ρ).mono fun out H h => bO.ret rfl h
def dw (N : Nat) : List (TV EE.T) → PV EE.T
 | [u0, u1] => match fj .str u0, fj .str u1 with
   | some x0, some x1 => .opt (bA N x0 x1) eD
   | _, _ => .bad
 | _ => .bad
theorem fT (N : Nat) (us : List (TV EE.T)) : (dw N us).ok fun u => ∀ ρ, ak Tryz.prog 45 (us.map (TV.to EE.toEnc ρ)) [] (fun out H => out = .ret (u.to EE.toEnc ρ) ∧ H = []) := by
 unfold dw
 split
 ·split
  ·rename_i h0 h1
   intro z hz ρ; refine br ?_ (kN _ _ hz ρ); exact ⟨bm h0 ρ, bm h1 ρ, trivial⟩
  ·trivial
 ·trivial
def il (r : Int) : TV EE.T := .a (.d (.int .i64) r)
def yQ (r : Int) : RL EE.T := .ret (il r) []
def Ki : Lvs := ⟨[], [], [], [], false, [], [], [], []⟩
def KN : List ResultVar := [.tmp 4]
def LF (N : Nat) : Gam EE := ⟨[⟨45, dw N⟩], EQT, [], []⟩
theorem LP (N : Nat) : GOk Tryz.prog TT EE (LF N) := GOk.cons (fT N) (GOk.nil cn)
def F9 (c : Code) : List It2 := [.c c]
def F8 (x0 : VLabel) (x1 : VLabel) : TS EE.T := ⟨10, [(0, .ag (lb EE (.nam 2) x0)), (1, .ag (lb EE (.nam 2) x1))], [], []⟩
def Aq (c : Code) (N : Nat) (x0 : VLabel) (x1 : VLabel) : Tree (Lf EE.T × Option Int) :=
 .bnd (bA N x0.Name x1.Name) fun z1 =>
 .leaf (.done (yQ z1), some z1)
theorem M1 (N : Nat) (x0 : VLabel) (x1 : VLabel) : evM TT EE (LF N) Ki KN 4000 true (F9 (aa 0 Tryz.f19)) (F8 x0 x1) = (Aq (aa 0 Tryz.f19) N x0 x1).map1 := by kernel_rfl
theorem NU (N : Nat) (x0 : VLabel) (x1 : VLabel) : eB N x0 x1 = (Aq (aa 0 Tryz.f19) N x0 x1).run := by kernel_rfl
theorem Mj {N : Nat} {r : Int} (x0 : VLabel) (x1 : VLabel) (h : eB N x0 x1 = some r) : bP (Y := TT) EE (LF N) Ki KN (fun u => u = yQ r) (F9 (aa 0 Tryz.f19)) (F8 x0 x1) :=
 ay (M1 N x0 x1) (NU N x0 x1) h (show (Aq (aa 0 Tryz.f19) N x0 x1).all _ from fun _ => bx (enc := yQ) rfl)
theorem pO {N : Nat} (x0 : VLabel) (x1 : VLabel) {r : Int} (h : eB N x0 x1 = some r) (ρ : Rn) : ak Tryz.prog 19 (([.ag (lb EE (.nam 2) x0), .ag (lb EE (.nam 2) x1)] : List (TV EE.T)).map (TV.to EE.toEnc ρ)) [] (fun out H => out = .ret ((il r).to EE.toEnc ρ) ∧ H = []) :=
 (fk (aa 0 Tryz.f19) 10 mixed (LP N) Tryz.func19 (by kernel_rfl) rfl rfl rfl rfl (Mj x0 x1 h) ρ).mono fun out H h => bO.ret rfl h
def hZ (N : Nat) : List (TV EE.T) → PV EE.T
 | [u0, u1] => match Cn EE 2 u0, Cn EE 2 u1 with
   | some x0, some x1 => .opt (eB N x0 x1) il
   | _, _ => .bad
 | _ => .bad
theorem ob (N : Nat) (us : List (TV EE.T)) : (hZ N us).ok fun u => ∀ ρ, ak Tryz.prog 19 (us.map (TV.to EE.toEnc ρ)) [] (fun out H => out = .ret (u.to EE.toEnc ρ) ∧ H = []) := by
 unfold hZ
 split
 ·split
  ·rename_i h0 h1
   intro z hz ρ; refine br ?_ (pO _ _ hz ρ); exact ⟨rp h0 ρ, rp h1 ρ, trivial⟩
  ·trivial
 ·trivial
def bi (r : Bool) : TV EE.T := .a (.d .bool r)
def vj (r : Bool) : List (Nat × TB EE.T) := []
def jX (r : Bool) : RL EE.T := .ret (bi r) (vj r)
def qV : Lvs := ⟨[(4, ⟨[(0, false), (1, false), (5, false)], [], [], []⟩)], [(2, ⟨[(0, false), (1, false), (5, false)], [], [], []⟩)], [], [], false, [], [], [], []⟩
def q7 : List ResultVar := [.tmp 4]
def si (N : Nat) : Gam EE := ⟨[⟨19, hZ N⟩], EQT, [], []⟩
theorem DT (N : Nat) : GOk Tryz.prog TT EE (si N) := GOk.cons (ob N) (GOk.nil cn)
def od (c : Code) : List It2 := atL 2 c
def ou (x0 : List VLabel) (x5 : Int) : TS EE.T := ⟨25, [(0, .a (.d (.sl (.nam 2)) x0)), (1, .fn 19 []), (5, .a (.d (.int .i64) x5))], [], []⟩
def wS (c : Code) : List It2 := [.c c]
def yb (x0 : List VLabel) : TS EE.T := ⟨25, [(0, .a (.d (.sl (.nam 2)) x0)), (1, .fn 19 [])], [], []⟩
def sI (c : Code) (N : Nat) (n : Nat) (x0 : List VLabel) (x5 : Int) : Tree (Lf EE.T × Option Bool) :=
 .cond (decide (x5 > 0))
 (
  .bnd (cx x0 x5) fun z1 =>
  .bnd (cx x0 (w64 (x5 - 1))) fun z2 =>
  .bnd (eB N z1 z2) fun z3 =>
  .cond (decide (z3 < 0))
  (
   .leaf (.done (jX false), some false))
  (
   .leaf (.go (od c) (ou x0 (w64 (x5 - 1))), az N n x0 (w64 (x5 - 1)))))
 (
  .leaf (.done (jX true), some true))
theorem E0 (N : Nat) (n : Nat) (x0 : List VLabel) (x5 : Int) : evM TT EE (si N) qV q7 4000 true (od (aa 0 Tryz.f99)) (ou x0 x5) = (sI (aa 0 Tryz.f99) N n x0 x5).map1 := by kernel_rfl
theorem FA (N : Nat) (n : Nat) (x0 : List VLabel) (x5 : Int) : az N (n + 1) x0 x5 = (sI (aa 0 Tryz.f99) N n x0 x5).run := by kernel_rfl
theorem xw {N : Nat} {r : Bool} : ∀ (n : Nat) (x0 : List VLabel) (x5 : Int), az N n x0 x5 = some r → bP (Y := TT) EE (si N) qV q7 (fun u => u = jX r) (od (aa 0 Tryz.f99)) (ou x0 x5)
 | 0, _, _, h => by cases h
 | n + 1, x0, x5, h => ay (E0 N n x0 x5) (FA N n x0 x5) h (show (sI (aa 0 Tryz.f99) N n x0 x5).all _ from ⟨fun _ => fun _ => fun _ => ⟨bx (enc := jX) rfl, fun h => (xw n) _ _ h⟩, bx (enc := jX) rfl⟩)
def sk (c : Code) (N : Nat) (x0 : List VLabel) : Tree (Lf EE.T × Option Bool) :=
 .leaf (.go (od c) (ou x0 (w64 ((x0.length : Int) - 1))), az N N x0 (w64 ((x0.length : Int) - 1)))
theorem EA (N : Nat) (x0 : List VLabel) : evM TT EE (si N) qV q7 4000 true (wS (aa 0 Tryz.f99)) (yb x0) = (sk (aa 0 Tryz.f99) N x0).map1 := by kernel_rfl
theorem Dm (N : Nat) (x0 : List VLabel) : aI N x0 = (sk (aa 0 Tryz.f99) N x0).run := by kernel_rfl
theorem FV {N : Nat} {r : Bool} (x0 : List VLabel) (h : aI N x0 = some r) : bP (Y := TT) EE (si N) qV q7 (fun u => u = jX r) (wS (aa 0 Tryz.f99)) (yb x0) :=
 ay (EA N x0) (Dm N x0) h (show (sk (aa 0 Tryz.f99) N x0).all _ from fun h => xw N _ _ h)
def Br (x0 : List VLabel) : List (TV EE.T) := [.a (.d (.sl (.nam 2)) x0), .fn 19 []]
def uT (x0 : List VLabel) : List (Nat × TB EE.T) := []
theorem dS {N : Nat} (x0 : List VLabel) {r : Bool} (h : aI N x0 = some r) (ρ : Rn) (hi : Inj ρ (uT x0)) : ak Tryz.prog 99 ((Br x0).map (TV.to EE.toEnc ρ)) (hTo EE.toEnc ρ (uT x0)) (fun out H => out = .ret ((bi r).to EE.toEnc ρ) ∧ H = hTo EE.toEnc ρ (vj r)) :=
 (jB (aa 0 Tryz.f99) 25 mixed (DT N) Tryz.func99 (by kernel_rfl) rfl rfl rfl rfl (FV x0 h) ρ hi).mono fun out H h => bO.retH rfl rfl h
def ce (N : Nat) (us : List (TV EE.T)) (hs : List (Nat × TB EE.T)) : XR EE.T :=
 gdX (pN us 2) <|
 bnX (aD (.sl (.nam 2)) us 0) fun x0 =>
 bnX (aF 19 us 1) fun c1 =>
 bnX (cbs c1) fun s1 =>
 gdX (pN s1 0) <|
 gdX (cA hs []) <|
 .ret (aI N x0) [] bi (vj)
theorem dM (N : Nat) : XOk Tryz.prog EE 99 (ce N) := fun us hs =>
 dr fun h1 => cZ fun x0 h2 => cZ fun c1 h3 => cZ fun s1 h4 => dr fun h5 => dr fun h6 => fun z hz => ⟨rfl, fun ρ hi => zy (us' := Br x0) (h0 := uT x0) (ρ' := zP ρ []) hi h6 (by kernel_rfl) ⟨xT h2, yz (js := []) h3 h4 (by rw [Fy (fC h5)];  kernel_rfl), fC h1⟩ trivial (fun hj => dS x0 hz _ hj) (fun out H h => ⟨h.1.trans (by kernel_rfl), h.2.trans (by kernel_rfl)⟩)⟩
def iU (r : Int) : TV EE.T := .a (.d (.int .i64) r)
def ns (r : Int) : RL EE.T := .ret (iU r) []
def KI : Lvs := ⟨[], [], [], [], false, [], [], [], []⟩
def KE : List ResultVar := [.tmp 2]
def Mp (N : Nat) : Gam EE := ⟨[⟨14, gR N⟩], EQT, [⟨99, ce N⟩], []⟩
theorem Nh (N : Nat) : GOk Tryz.prog TT EE (Mp N) := GOk.cons (kR N) (GOk.consx (dM N) (GOk.nil cn))
def Dd (c : Code) : List It2 := [.c c]
def ER (x0 : List VLabel) : TS EE.T := ⟨12, [(0, .a (.d (.sl (.nam 2)) x0))], [], []⟩
def yO (c : Code) (N : Nat) (x0 : List VLabel) : Tree (Lf EE.T × Option Int) :=
 .bnd (cS N x0 false) fun z1 =>
 .cond (z1 != 0)
 (
  .leaf (.done (ns z1), some z1))
 (
  .bnd (aI N x0) fun z2 =>
  .cond (!z2)
  (
   .leaf (.done (ns 4), some 4))
  (
   .leaf (.done (ns 0), some 0)))
theorem M8 (N : Nat) (x0 : List VLabel) : evM TT EE (Mp N) KI KE 4000 true (Dd (aa 0 Tryz.f70)) (ER x0) = (yO (aa 0 Tryz.f70) N x0).map1 := by kernel_rfl
theorem NQ (N : Nat) (x0 : List VLabel) : fc N x0 = (yO (aa 0 Tryz.f70) N x0).run := by kernel_rfl
theorem LD {N : Nat} {r : Int} (x0 : List VLabel) (h : fc N x0 = some r) : bP (Y := TT) EE (Mp N) KI KE (fun u => u = ns r) (Dd (aa 0 Tryz.f70)) (ER x0) :=
 ay (M8 N x0) (NQ N x0) h (show (yO (aa 0 Tryz.f70) N x0).all _ from fun _ => ⟨bx (enc := ns) rfl, fun _ => ⟨bx (enc := ns) rfl, bx (enc := ns) rfl⟩⟩)
theorem qA {N : Nat} (x0 : List VLabel) {r : Int} (h : fc N x0 = some r) (ρ : Rn) : ak Tryz.prog 70 (([.a (.d (.sl (.nam 2)) x0)] : List (TV EE.T)).map (TV.to EE.toEnc ρ)) [] (fun out H => out = .ret ((iU r).to EE.toEnc ρ) ∧ H = []) :=
 (fk (aa 0 Tryz.f70) 12 mixed (Nh N) Tryz.func70 (by kernel_rfl) rfl rfl rfl rfl (LD x0 h) ρ).mono fun out H h => bO.ret rfl h
def i7 (N : Nat) : List (TV EE.T) → PV EE.T
 | [u0] => match fj (.sl (.nam 2)) u0 with
   | some x0 => .opt (fc N x0) iU
   | _ => .bad
 | _ => .bad
theorem pu (N : Nat) (us : List (TV EE.T)) : (i7 N us).ok fun u => ∀ ρ, ak Tryz.prog 70 (us.map (TV.to EE.toEnc ρ)) [] (fun out H => out = .ret (u.to EE.toEnc ρ) ∧ H = []) := by
 unfold i7
 split
 ·split
  ·rename_i h0
   intro z hz ρ; refine br ?_ (qA _ hz ρ); exact ⟨bm h0 ρ, trivial⟩
  ·trivial
 ·trivial
def i3 (r : Int) : TV EE.T := .a (.d (.int .i64) r)
def pX (r : Int) : RL EE.T := .ret (i3 r) []
def BH : Lvs := ⟨[], [(2, ⟨[(6, false), (7, false), (8, false)], [], [], []⟩)], [], [], false, [], [], [], []⟩
def AN : List ResultVar := [.tmp 2]
def Da (N : Nat) : Gam EE := ⟨[⟨70, i7 N⟩], EQT, [], []⟩
theorem NF (N : Nat) : GOk Tryz.prog TT EE (Da N) := GOk.cons (pu N) (GOk.nil cn)
def vN (c : Code) : List It2 := atL 2 c
def vD (x6 : List (List VLabel)) (x7 : Int) (x8 : Int) : TS EE.T := ⟨18, [(6, .a (.d (.sl (.sl (.nam 2))) x6)), (7, .a (.d (.int .i64) x7)), (8, .a (.d (.int .i64) x8))], [], []⟩
def Ei (c : Code) : List It2 := [.c c]
def D7 (x0 : List (List VLabel)) : TS EE.T := ⟨18, [(0, .a (.d (.sl (.sl (.nam 2))) x0))], [], []⟩
def y9 (c : Code) (N : Nat) (n : Nat) (x6 : List (List VLabel)) (x7 : Int) (x8 : Int) : Tree (Lf EE.T × Option Int) :=
 .cond (decide (x8 < x7))
 (
  .bnd (cx x6 x8) fun z1 =>
  .bnd (fc N z1) fun z2 =>
  .cond (z2 != 0)
  (
   .leaf (.done (pX z2), some z2))
  (
   .leaf (.go (vN c) (vD x6 x7 (w64 (x8 + 1))), dB N n x6 x7 (w64 (x8 + 1)))))
 (
  .leaf (.done (pX 0), some 0))
theorem Oe (N : Nat) (n : Nat) (x6 : List (List VLabel)) (x7 : Int) (x8 : Int) : evM TT EE (Da N) BH AN 4000 true (vN (aa 0 Tryz.f48)) (vD x6 x7 x8) = (y9 (aa 0 Tryz.f48) N n x6 x7 x8).map1 := by kernel_rfl
theorem MU (N : Nat) (n : Nat) (x6 : List (List VLabel)) (x7 : Int) (x8 : Int) : dB N (n + 1) x6 x7 x8 = (y9 (aa 0 Tryz.f48) N n x6 x7 x8).run := by kernel_rfl
theorem FL {N : Nat} {r : Int} : ∀ (n : Nat) (x6 : List (List VLabel)) (x7 : Int) (x8 : Int), dB N n x6 x7 x8 = some r → bP (Y := TT) EE (Da N) BH AN (fun u => u = pX r) (vN (aa 0 Tryz.f48)) (vD x6 x7 x8)
 | 0, _, _, _, h => by cases h
 | n + 1, x6, x7, x8, h => ay (Oe N n x6 x7 x8) (MU N n x6 x7 x8) h (show (y9 (aa 0 Tryz.f48) N n x6 x7 x8).all _ from ⟨fun _ => fun _ => ⟨bx (enc := pX) rfl, fun h => (FL n) _ _ _ h⟩, bx (enc := pX) rfl⟩)
def Ao (c : Code) (N : Nat) (x0 : List (List VLabel)) : Tree (Lf EE.T × Option Int) :=
 .leaf (.go (vN c) (vD x0 (x0.length : Int) 0), dB N N x0 (x0.length : Int) 0)
theorem MG (N : Nat) (x0 : List (List VLabel)) : evM TT EE (Da N) BH AN 4000 true (Ei (aa 0 Tryz.f48)) (D7 x0) = (Ao (aa 0 Tryz.f48) N x0).map1 := by kernel_rfl
theorem My (N : Nat) (x0 : List (List VLabel)) : eX N x0 = (Ao (aa 0 Tryz.f48) N x0).run := by kernel_rfl
theorem LC {N : Nat} {r : Int} (x0 : List (List VLabel)) (h : eX N x0 = some r) : bP (Y := TT) EE (Da N) BH AN (fun u => u = pX r) (Ei (aa 0 Tryz.f48)) (D7 x0) :=
 ay (MG N x0) (My N x0) h (show (Ao (aa 0 Tryz.f48) N x0).all _ from fun h => FL N _ _ _ h)
theorem kV {N : Nat} (x0 : List (List VLabel)) {r : Int} (h : eX N x0 = some r) (ρ : Rn) : ak Tryz.prog 48 (([.a (.d (.sl (.sl (.nam 2))) x0)] : List (TV EE.T)).map (TV.to EE.toEnc ρ)) [] (fun out H => out = .ret ((i3 r).to EE.toEnc ρ) ∧ H = []) :=
 (fk (aa 0 Tryz.f48) 18 mixed (NF N) Tryz.func48 (by kernel_rfl) rfl rfl rfl rfl (LC x0 h) ρ).mono fun out H h => bO.ret rfl h
def i9 (N : Nat) : List (TV EE.T) → PV EE.T
 | [u0] => match fj (.sl (.sl (.nam 2))) u0 with
   | some x0 => .opt (eX N x0) i3
   | _ => .bad
 | _ => .bad
theorem pY (N : Nat) (us : List (TV EE.T)) : (i9 N us).ok fun u => ∀ ρ, ak Tryz.prog 48 (us.map (TV.to EE.toEnc ρ)) [] (fun out H => out = .ret (u.to EE.toEnc ρ) ∧ H = []) := by
 unfold i9
 split
 ·split
  ·rename_i h0
   intro z hz ρ; refine br ?_ (kV _ hz ρ); exact ⟨bm h0 ρ, trivial⟩
  ·trivial
 ·trivial
def im (r : Int) : TV EE.T := .a (.d (.int .i64) r)
def we (r : Int) : RL EE.T := .ret (im r) []
def Dr : Lvs := ⟨[], [], [], [], false, [], [], [], []⟩
def Fg : List ResultVar := [.tmp 4]
def Dk (N : Nat) : Gam EE := ⟨[⟨45, dw N⟩], EQT, [], []⟩
theorem HO (N : Nat) : GOk Tryz.prog TT EE (Dk N) := GOk.cons (fT N) (GOk.nil cn)
def BC (c : Code) : List It2 := [.c c]
def Bx (x0 : VLabel) (x1 : List UInt8) : TS EE.T := ⟨9, [(0, .ag (lb EE (.nam 2) x0)), (1, .a (.d .str x1))], [], []⟩
def vL (c : Code) (N : Nat) (x0 : VLabel) (x1 : List UInt8) : Tree (Lf EE.T × Option Int) :=
 .bnd (bA N x0.Name x1) fun z1 =>
 .leaf (.done (we z1), some z1)
theorem Jd (N : Nat) (x0 : VLabel) (x1 : List UInt8) : evM TT EE (Dk N) Dr Fg 4000 true (BC (aa 0 Tryz.f108)) (Bx x0 x1) = (vL (aa 0 Tryz.f108) N x0 x1).map1 := by kernel_rfl
theorem I0 (N : Nat) (x0 : VLabel) (x1 : List UInt8) : dl N x0 x1 = (vL (aa 0 Tryz.f108) N x0 x1).run := by kernel_rfl
theorem GP {N : Nat} {r : Int} (x0 : VLabel) (x1 : List UInt8) (h : dl N x0 x1 = some r) : bP (Y := TT) EE (Dk N) Dr Fg (fun u => u = we r) (BC (aa 0 Tryz.f108)) (Bx x0 x1) :=
 ay (Jd N x0 x1) (I0 N x0 x1) h (show (vL (aa 0 Tryz.f108) N x0 x1).all _ from fun _ => bx (enc := we) rfl)
theorem o9 {N : Nat} (x0 : VLabel) (x1 : List UInt8) {r : Int} (h : dl N x0 x1 = some r) (ρ : Rn) : ak Tryz.prog 108 (([.ag (lb EE (.nam 2) x0), .a (.d .str x1)] : List (TV EE.T)).map (TV.to EE.toEnc ρ)) [] (fun out H => out = .ret ((im r).to EE.toEnc ρ) ∧ H = []) :=
 (fk (aa 0 Tryz.f108) 9 mixed (HO N) Tryz.func108 (by kernel_rfl) rfl rfl rfl rfl (GP x0 x1 h) ρ).mono fun out H h => bO.ret rfl h
def ii (N : Nat) : List (TV EE.T) → PV EE.T
 | [u0, u1] => match Cn EE 2 u0, fj .str u1 with
   | some x0, some x1 => .opt (dl N x0 x1) im
   | _, _ => .bad
 | _ => .bad
theorem nU (N : Nat) (us : List (TV EE.T)) : (ii N us).ok fun u => ∀ ρ, ak Tryz.prog 108 (us.map (TV.to EE.toEnc ρ)) [] (fun out H => out = .ret (u.to EE.toEnc ρ) ∧ H = []) := by
 unfold ii
 split
 ·split
  ·rename_i h0 h1
   intro z hz ρ; refine br ?_ (o9 _ _ hz ρ); exact ⟨rp h0 ρ, bm h1 ρ, trivial⟩
  ·trivial
 ·trivial
def aR (r : Int × Bool) : TV EE.T := .tu [.a (.d (.int .i64) r.1), .a (.d .bool r.2)]
def sv (r : Int × Bool) : List (Nat × TB EE.T) := []
def iD (r : Int × Bool) : RL EE.T := .ret (aR r) (sv r)
def nR : Lvs := ⟨[], [(3, ⟨[(0, false), (1, false), (2, false), (8, false), (9, false), (10, false)], [], [], []⟩)], [], [], false, [], [], [], []⟩
def oW : List ResultVar := [.tmp 6, .tmp 7]
def nP (N : Nat) : Gam EE := ⟨[], EQT, [⟨108, xOf (ii N)⟩], []⟩
theorem Ch (N : Nat) : GOk Tryz.prog TT EE (nP N) := GOk.consx (yN (nU N)) (GOk.nil cn)
def jE (c : Code) : List It2 := atL 3 c
def jD (x0 : List VLabel) (x1 : List UInt8) (x8 : Int) (x9 : Int) (x10 : Int) : TS EE.T := ⟨49, [(0, .a (.d (.sl (.nam 2)) x0)), (1, .a (.d .str x1)), (2, .fn 108 []), (8, .a (.d (.int .i64) x8)), (9, .a (.d (.int .i64) x9)), (10, .a (.d (.int .i64) x10))], [], []⟩
def uB (c : Code) : List It2 := [.c c]
def uz (x0 : List VLabel) (x1 : List UInt8) : TS EE.T := ⟨49, [(0, .a (.d (.sl (.nam 2)) x0)), (1, .a (.d .str x1)), (2, .fn 108 [])], [], []⟩
def pr (c : Code) (N : Nat) (n : Nat) (x0 : List VLabel) (x1 : List UInt8) (x8 : Int) (x9 : Int) (x10 : Int) : Tree (Lf EE.T × Option (Int × Bool)) :=
 .cond (decide (x9 < x10))
 (
  .bnd (Cv .u64 (IntKind.wrap .u64 (w64 (x9 + x10))) 1) fun z1 =>
  .bnd (cx x0 (w64 z1)) fun z2 =>
  .bnd (dl N z2 x1) fun z3 =>
  .cond (decide (z3 < 0))
  (
   .leaf (.go (jE c) (jD x0 x1 x8 (w64 ((w64 z1) + 1)) x10), al N n x0 x1 x8 (w64 ((w64 z1) + 1)) x10))
  (
   .leaf (.go (jE c) (jD x0 x1 x8 x9 (w64 z1)), al N n x0 x1 x8 x9 (w64 z1))))
 (
  .cond (decide (x9 < x8))
  (
   .bnd (cx x0 x9) fun z4 =>
   .bnd (dl N z4 x1) fun z5 =>
   .leaf (.done (iD (x9, z5 == 0)), some (x9, z5 == 0)))
  (
   .leaf (.done (iD (x9, false)), some (x9, false))))
theorem Cx (N : Nat) (n : Nat) (x0 : List VLabel) (x1 : List UInt8) (x8 : Int) (x9 : Int) (x10 : Int) : evM TT EE (nP N) nR oW 4000 true (jE (aa 0 Tryz.f107)) (jD x0 x1 x8 x9 x10) = (pr (aa 0 Tryz.f107) N n x0 x1 x8 x9 x10).map1 := by kernel_rfl
theorem BM (N : Nat) (n : Nat) (x0 : List VLabel) (x1 : List UInt8) (x8 : Int) (x9 : Int) (x10 : Int) : al N (n + 1) x0 x1 x8 x9 x10 = (pr (aa 0 Tryz.f107) N n x0 x1 x8 x9 x10).run := by kernel_rfl
theorem pP {N : Nat} {r : Int × Bool} : ∀ (n : Nat) (x0 : List VLabel) (x1 : List UInt8) (x8 : Int) (x9 : Int) (x10 : Int), al N n x0 x1 x8 x9 x10 = some r → bP (Y := TT) EE (nP N) nR oW (fun u => u = iD r) (jE (aa 0 Tryz.f107)) (jD x0 x1 x8 x9 x10)
 | 0, _, _, _, _, _, h => by cases h
 | n + 1, x0, x1, x8, x9, x10, h => ay (Cx N n x0 x1 x8 x9 x10) (BM N n x0 x1 x8 x9 x10) h (show (pr (aa 0 Tryz.f107) N n x0 x1 x8 x9 x10).all _ from ⟨fun _ => fun _ => fun _ => ⟨fun h => (pP n) _ _ _ _ _ h, fun h => (pP n) _ _ _ _ _ h⟩, ⟨fun _ => fun _ => bx (enc := iD) rfl, bx (enc := iD) rfl⟩⟩)
def pV (c : Code) (N : Nat) (x0 : List VLabel) (x1 : List UInt8) : Tree (Lf EE.T × Option (Int × Bool)) :=
 .leaf (.go (jE c) (jD x0 x1 (x0.length : Int) 0 (x0.length : Int)), al N N x0 x1 (x0.length : Int) 0 (x0.length : Int))
theorem CG (N : Nat) (x0 : List VLabel) (x1 : List UInt8) : evM TT EE (nP N) nR oW 4000 true (uB (aa 0 Tryz.f107)) (uz x0 x1) = (pV (aa 0 Tryz.f107) N x0 x1).map1 := by kernel_rfl
theorem Cs (N : Nat) (x0 : List VLabel) (x1 : List UInt8) : au N x0 x1 = (pV (aa 0 Tryz.f107) N x0 x1).run := by kernel_rfl
theorem CM {N : Nat} {r : Int × Bool} (x0 : List VLabel) (x1 : List UInt8) (h : au N x0 x1 = some r) : bP (Y := TT) EE (nP N) nR oW (fun u => u = iD r) (uB (aa 0 Tryz.f107)) (uz x0 x1) :=
 ay (CG N x0 x1) (Cs N x0 x1) h (show (pV (aa 0 Tryz.f107) N x0 x1).all _ from fun h => pP N _ _ _ _ _ h)
def yi (x0 : List VLabel) (x1 : List UInt8) : List (TV EE.T) := [.a (.d (.sl (.nam 2)) x0), .a (.d .str x1), .fn 108 []]
def r9 (x0 : List VLabel) (x1 : List UInt8) : List (Nat × TB EE.T) := []
theorem cO {N : Nat} (x0 : List VLabel) (x1 : List UInt8) {r : Int × Bool} (h : au N x0 x1 = some r) (ρ : Rn) (hi : Inj ρ (r9 x0 x1)) : ak Tryz.prog 107 ((yi x0 x1).map (TV.to EE.toEnc ρ)) (hTo EE.toEnc ρ (r9 x0 x1)) (fun out H => out = .ret ((aR r).to EE.toEnc ρ) ∧ H = hTo EE.toEnc ρ (sv r)) :=
 (jB (aa 0 Tryz.f107) 49 mixed (Ch N) Tryz.func107 (by kernel_rfl) rfl rfl rfl rfl (CM x0 x1 h) ρ hi).mono fun out H h => bO.retH rfl rfl h
def bp (N : Nat) (us : List (TV EE.T)) (hs : List (Nat × TB EE.T)) : XR EE.T :=
 gdX (pN us 3) <|
 bnX (aD (.sl (.nam 2)) us 0) fun x0 =>
 bnX (aD .str us 1) fun x1 =>
 bnX (aF 108 us 2) fun c2 =>
 bnX (cbs c2) fun s2 =>
 gdX (pN s2 0) <|
 gdX (cA hs []) <|
 .ret (au N x0 x1) [] aR (sv)
theorem cK (N : Nat) : XOk Tryz.prog EE 107 (bp N) := fun us hs =>
 dr fun h1 => cZ fun x0 h2 => cZ fun x1 h3 => cZ fun c2 h4 => cZ fun s2 h5 => dr fun h6 => dr fun h7 => fun z hz => ⟨rfl, fun ρ hi => zy (us' := yi x0 x1) (h0 := r9 x0 x1) (ρ' := zP ρ []) hi h7 (by kernel_rfl) ⟨xT h2, xT h3, yz (js := []) h4 h5 (by rw [Fy (fC h6)];  kernel_rfl), fC h1⟩ trivial (fun hj => cO x0 x1 hz _ hj) (fun out H h => ⟨h.1.trans (by kernel_rfl), h.2.trans (by kernel_rfl)⟩)⟩
def jx (r : Int × Bool) : TV EE.T := .tu [.a (.d (.int .i64) r.1), .a (.d .bool r.2)]
def zS (r : Int × Bool) : RL EE.T := .ret (jx r) []
def J5 : Lvs := ⟨[], [], [], [], false, [], [], [], []⟩
def J2 : List ResultVar := [.tmp 4, .tmp 5]
def Ma (N : Nat) : Gam EE := ⟨[], EQT, [⟨107, bp N⟩], []⟩
theorem K7 (N : Nat) : GOk Tryz.prog TT EE (Ma N) := GOk.consx (cK N) (GOk.nil cn)
def EB (c : Code) : List It2 := [.c c]
def D2 (x0 : List VLabel) (x1 : List UInt8) : TS EE.T := ⟨11, [(0, .a (.d (.sl (.nam 2)) x0)), (1, .a (.d .str x1))], [], []⟩
def yV (c : Code) (N : Nat) (x0 : List VLabel) (x1 : List UInt8) : Tree (Lf EE.T × Option (Int × Bool)) :=
 .bnd (au N x0 x1) fun z1 =>
 .leaf (.done (zS (z1.1, z1.2)), some (z1.1, z1.2))
theorem NA (N : Nat) (x0 : List VLabel) (x1 : List UInt8) : evM TT EE (Ma N) J5 J2 4000 true (EB (aa 0 Tryz.f84)) (D2 x0 x1) = (yV (aa 0 Tryz.f84) N x0 x1).map1 := by kernel_rfl
theorem LQ (N : Nat) (x0 : List VLabel) (x1 : List UInt8) : fS N x0 x1 = (yV (aa 0 Tryz.f84) N x0 x1).run := by kernel_rfl
theorem Nn {N : Nat} {r : Int × Bool} (x0 : List VLabel) (x1 : List UInt8) (h : fS N x0 x1 = some r) : bP (Y := TT) EE (Ma N) J5 J2 (fun u => u = zS r) (EB (aa 0 Tryz.f84)) (D2 x0 x1) :=
 ay (NA N x0 x1) (LQ N x0 x1) h (show (yV (aa 0 Tryz.f84) N x0 x1).all _ from fun _ => bx (enc := zS) rfl)
theorem rq {N : Nat} (x0 : List VLabel) (x1 : List UInt8) {r : Int × Bool} (h : fS N x0 x1 = some r) (ρ : Rn) : ak Tryz.prog 84 (([.a (.d (.sl (.nam 2)) x0), .a (.d .str x1)] : List (TV EE.T)).map (TV.to EE.toEnc ρ)) [] (fun out H => out = .ret ((jx r).to EE.toEnc ρ) ∧ H = []) :=
 (fk (aa 0 Tryz.f84) 11 mixed (K7 N) Tryz.func84 (by kernel_rfl) rfl rfl rfl rfl (Nn x0 x1 h) ρ).mono fun out H h => bO.ret rfl h
def jp (N : Nat) : List (TV EE.T) → PV EE.T
 | [u0, u1] => match fj (.sl (.nam 2)) u0, fj .str u1 with
   | some x0, some x1 => .opt (fS N x0 x1) jx
   | _, _ => .bad
 | _ => .bad
theorem qK (N : Nat) (us : List (TV EE.T)) : (jp N us).ok fun u => ∀ ρ, ak Tryz.prog 84 (us.map (TV.to EE.toEnc ρ)) [] (fun out H => out = .ret (u.to EE.toEnc ρ) ∧ H = []) := by
 unfold jp
 split
 ·split
  ·rename_i h0 h1
   intro z hz ρ; refine br ?_ (rq _ _ hz ρ); exact ⟨bm h0 ρ, bm h1 ρ, trivial⟩
  ·trivial
 ·trivial
def lH (r : List UInt8) : TV EE.T := .a (.d .str r)
def r3 (r : List UInt8) : RL EE.T := .ret (lH r) []
def Kz : Lvs := ⟨[], [], [], [], false, [], [], [], []⟩
def Kw : List ResultVar := [.tmp 4]
def MW (N : Nat) : Gam EE := ⟨[⟨84, jp N⟩], EQT, [], []⟩
theorem Nt (N : Nat) : GOk Tryz.prog TT EE (MW N) := GOk.cons (qK N) (GOk.nil cn)
def El (c : Code) : List It2 := [.c c]
def EX (x0 : List VLabel) (x1 : List UInt8) : TS EE.T := ⟨19, [(0, .a (.d (.sl (.nam 2)) x0)), (1, .a (.d .str x1))], [], []⟩
def y2 (c : Code) (N : Nat) (x0 : List VLabel) (x1 : List UInt8) : Tree (Lf EE.T × Option (List UInt8)) :=
 .bnd (fS N x0 x1) fun z1 =>
 .cond (z1.2)
 (
  .bnd (cx x0 z1.1) fun z2 =>
  .leaf (.done (r3 z2.Value), some z2.Value))
 (
  .leaf (.done (r3 ([] : List UInt8)), some ([] : List UInt8)))
theorem NW (N : Nat) (x0 : List VLabel) (x1 : List UInt8) : evM TT EE (MW N) Kz Kw 4000 true (El (aa 0 Tryz.f49)) (EX x0 x1) = (y2 (aa 0 Tryz.f49) N x0 x1).map1 := by kernel_rfl
theorem Mg (N : Nat) (x0 : List VLabel) (x1 : List UInt8) : kP N x0 x1 = (y2 (aa 0 Tryz.f49) N x0 x1).run := by kernel_rfl
theorem NM {N : Nat} {r : List UInt8} (x0 : List VLabel) (x1 : List UInt8) (h : kP N x0 x1 = some r) : bP (Y := TT) EE (MW N) Kz Kw (fun u => u = r3 r) (El (aa 0 Tryz.f49)) (EX x0 x1) :=
 ay (NW N x0 x1) (Mg N x0 x1) h (show (y2 (aa 0 Tryz.f49) N x0 x1).all _ from fun _ => ⟨fun _ => bx (enc := r3) rfl, bx (enc := r3) rfl⟩)
theorem qG {N : Nat} (x0 : List VLabel) (x1 : List UInt8) {r : List UInt8} (h : kP N x0 x1 = some r) (ρ : Rn) : ak Tryz.prog 49 (([.a (.d (.sl (.nam 2)) x0), .a (.d .str x1)] : List (TV EE.T)).map (TV.to EE.toEnc ρ)) [] (fun out H => out = .ret ((lH r).to EE.toEnc ρ) ∧ H = []) :=
 (fk (aa 0 Tryz.f49) 19 mixed (Nt N) Tryz.func49 (by kernel_rfl) rfl rfl rfl rfl (NM x0 x1 h) ρ).mono fun out H h => bO.ret rfl h
end Go.Proofs.YtmjpdbbjiipnfaaGreat
namespace Go.Proofs.YtmjpdbbjiipnfaaGreat
open Go.RowKit P
set_option linter.unusedSimpArgs false
set_option linter.unusedVariables false
attribute [local irreducible] AS.nf OpV aA Stk jJ xi ak bB xK wR Awp EI
set_option maxHeartbeats 1000000
def six : List (List AV) := [[.v (.string (mkB [92]))], [.v (.string (mkB [92, 92]))], [.v (.string (mkB [34]))], [.v (.string (mkB [92, 34]))], [.v (.string (mkB [10]))], [.v (.string (mkB [92, 110]))]]
theorem Iz : aH six := fun r hr u hu => by
 simp only [six, List.mem_cons, List.not_mem_nil, or_false] at hr
 rcases hr with rfl | rfl | rfl | rfl | rfl | rfl <;> (simp at hu; subst hu; rfl)
def LI : List AV := [.v (.int .u32 0), .v (.int .i32 0), .v (.int .u32 0), .v .nilIface, .sl false 1 six]
set_option maxRecDepth 100000 in
theorem tK : ak Tryz.prog 50 [.sl false 1 six] [] (fun out H => ∃ B, out = .ret (.v (.pointer (some ⟨B, 0, none⟩))) ∧ H = [(B, LI)]) := by
 refine gm _ 12 [.tmp 2] Tryz.func50 (by kernel_rfl) rfl rfl rfl rfl ?_
 dsimp only [slotsOf]
 repeat (first
  | ((first | apply i5); (next => (first | (simp only [go_sem, Nat.reduceBEq, Nat.reduceEqDiff, reduceIte, reduceCtorEq, String.reduceEq, Nat.reduceAdd, Int.reduceToNat]; exact rfl))))
  | (apply d8 rfl rfl rfl rfl; (next => (first
   | (refine dt (T := TT) rfl ?_; (first | exact trivial | omega))
   | (apply opk ⟨_, .binOp .eql _ _ _ _, _, _, _, _⟩; first | exact aM rfl rfl rfl | fail)
   | (apply opk ⟨_, .call { callee := .builtin .len, args := _, argTypes := _ }, _, _, _, _⟩; first | exact fD (T := TT) rfl rfl rfl | fail)
   | fail)))
  | (refine arO _ ?_; first | (refine arO ⟨_, .move _, _, _, _, _⟩ ?_; first | refine cI rfl rfl rfl rfl ?_ | fail) | fail)
  | refine fE ?_
  | (refine arE ?_; refine ek [0, 2, 6] rfl ?_)
  | refine cH ?_
  | refine eF ?_
  | (refine arC (.cond _ _ _) ?_; first | (refine be rfl ?_ ?_; (next => (first | rfl))) | fail)
  | fail)
 refine dz rfl rfl (iJ (T := TT) (m := six) (sz := 1) rfl rfl rfl (.inr ⟨_, rfl⟩) rfl rfl (fun F X a hs => wV Iz X a (aT hs rfl)) (by decide) rfl ?_)
 refine fg rfl (fun F X tm hs => hs.lay (.s 9)) ?_
 refine d8 rfl rfl rfl rfl (uw (T := TT) rfl rfl rfl rfl rfl) ?_
 refine dz rfl rfl (yh rfl rfl rfl rfl fun k hk => ?_)
 repeat (first | ((first | apply i5 | apply gI); (next => (first | (simp only [go_sem, Nat.reduceBEq, Nat.reduceEqDiff, reduceIte, reduceCtorEq, String.reduceEq, Nat.reduceAdd, Int.reduceToNat]; exact rfl)))) | (apply d8 rfl rfl rfl rfl; (next => (first | (refine dt (T := TT) rfl ?_; (first | exact trivial)) | fail))) | (refine arE ?_; refine ek [0, 2, 6] rfl ?_) | (refine arC .ret ?_; refine eV [2] ?_) | refine fi ?_ | fail)
 first | exact qU rfl (⟨k, rfl, rfl⟩) | (trace_state; exact qU rfl (⟨k, rfl, rfl⟩))
end Go.Proofs.YtmjpdbbjiipnfaaGreat
namespace Go.Proofs.YtmjpdbbjiipnfaaGreat
open Go.RowKit P
set_option linter.unusedSimpArgs false
set_option linter.unusedVariables false
def nameB : List UInt8 := [95, 95, 110, 97, 109, 101, 95, 95]
def upB : List UInt8 := [117, 112]
def jobB : List UInt8 := [106, 111, 98]
def g8 : List UInt8 := [106, 111, 98, 61, 34, 120, 34]
def GH : List VLabel := [⟨nameB, upB⟩, ⟨jobB, [120]⟩]
def Ib : List (List AV) := [[.v (.string (mkB nameB)), .v (.string (mkB upB))], [.v (.string (mkB jobB)), .v (.string (mkB [120]))]]
set_option maxRecDepth 100000 in
theorem BU : ak Tryz.prog 48 [.sl false 1 [[.sl false 2 Ib]]] [] (fun out H => out = .ret (.v (.int .i64 0)) ∧ H = []) := kV (N := 400) [GH] (r := (0 : Int)) (by kernel_rfl) Rn.zero
set_option maxRecDepth 100000 in
theorem B0 : ak Tryz.prog 49 [.sl false 2 Ib, .v (.string (mkB nameB))] [] (fun out H => out = .ret (.v (.string (mkB upB))) ∧ H = []) := qG (N := 400) GH nameB (r := upB) (by kernel_rfl) Rn.zero
set_option maxRecDepth 100000 in
theorem ES : evC TT EE ⟨[], EQT, [], []⟩ ⟨[], [], [], [], false, [], [], [], []⟩ [.tmp 4] 1000 [.c (aa 0 Tryz.f52)] ⟨75, [(0, .a (.d (.sl .str) ([g8] : List (List UInt8)))), (1, .a (.d .str ([44] : List UInt8)))], [], []⟩ = some (.ret (.a (.d .str g8)) []) := by kernel_rfl
set_option maxRecDepth 100000 in
theorem Dx : ak Tryz.prog 52 [.sl false 1 [[.v (.string (mkB g8))]], .v (.string (mkB [44]))] [] (fun out H => out = .ret (.v (.string (mkB g8))) ∧ H = []) := by
 have h := jB (Y := TT) (lv := ⟨[], [], [], [], false, [], [], [], []⟩) (rs := [.tmp 4]) (K := fun r => r = (.ret (.a (.d .str g8)) [])) (aa 0 Tryz.f52) 75 mixed Bb Tryz.func52 (by kernel_rfl) rfl rfl rfl (us := [.a (.d (.sl .str) ([g8] : List (List UInt8))), .a (.d .str ([44] : List UInt8))]) rfl (h0 := []) (vC _ _ _ _ ES rfl) Rn.zero (fun p hp => by cases hp)
 exact h.mono fun out H hp => hp.ret rfl
section
variable {P : Program} {L : List Oper} {mN : Nat → Bool} {K : AS → Prop} {k d : Nat} {o : Oper} {rest : List Oper} {σ : AS} {u : AV}
theorem Ca (hm : mN k = true) (h1 : o.dst = some d) (h2 : o.guard = none) (h3 : Nat.ble (d + 1) σ.n = true) (h4 : OpV P o σ u) (h5 : Det L mN o u) (h : ox P L mN K (k + 1) rest (σ.put d u)) : ox P L mN K k (o :: rest) σ := by
 unfold ox; rw [hm]; exact ⟨d, u, h1, h2, h3, h4, h5, h⟩
theorem ls (hm : mN k = false) (h : ox P L mN K (k + 1) rest σ) : ox P L mN K k (o :: rest) σ := by
 unfold ox; rw [hm]; exact h
theorem Ot (h : bB P o σ (oT P K rest)) : oT P K (o :: rest) σ := h
theorem wX (hdst : o.dst = some d) (hd : Nat.ble (d + 1) σ.n = true) (hv : OpV P o σ u) (h : oT P K rest ((σ.free d).put d u)) : oT P K (o :: rest) σ := sV hdst hd hv h
theorem ND {σ' : AS} (hl : Le σ σ') (h : oT P K (o :: rest) σ') : oT P K (o :: rest) σ := fun F X a hs => h F X a (hs.le hl)
theorem O0 (h : K σ) : ox P L mN K k [] σ := h
theorem PK (h : K σ) : oT P K [] σ := h
theorem Fr {α : Type} (k : Nat) (a : α) (r : List (Nat × α)) : look ((k, a) :: r) k = some a := by rw [ab, if_pos rfl]
end
def AK : Nat → AV
 | 2 => .sl false 1 [[.v (.string (mkB g8))]]
 | _ => .v (.slice none 0 0)
def Jy : Nat → Int
 | 0 => 0
 | 1 => 1
 | _ => 2
attribute [local irreducible] AS.nf OpV aA Stk jJ xi ak bB xK wR Awp EI ox oT
set_option maxHeartbeats 2000000
set_option maxRecDepth 100000 in
theorem FX : ak Tryz.prog 22 [.sl false 2 Ib] [] (fun out H => out = .ret (.tu [.v (.string (mkB (upB ++ [123] ++ g8 ++ [125]))), .v (.int .i64 0)]) ∧ H = []) := by
 have hck := BU
 have hval := B0
 have hjo := Dx
 have lu : upB.length = 2 := rfl
 have lp : g8.length = 7 := rfl
 have lj : jobB.length = 3 := rfl
 have hne : jobB ≠ [95, 95, 110, 97, 109, 101, 95, 95] := by decide
 unfold Ib at hck hval ⊢
 refine gm _ 54 [.tmp 2, .tmp 3] Tryz.func22 (by kernel_rfl) rfl rfl rfl rfl ?_
 dsimp only [slotsOf]
 repeat (first
  | ((first | apply i5 | apply gI); (next => (first | (simp only [go_sem, Nat.reduceBEq, Nat.reduceEqDiff, reduceIte, reduceCtorEq, String.reduceEq, Nat.reduceAdd, Int.reduceToNat]; exact rfl) | exact rfl)))
  | (refine arC .ret ?_; refine lT [2, 3] ?_)
  | (apply d8 rfl rfl rfl rfl; (next => (first
   | (refine dt (T := TT) rfl ?_; (first | exact trivial | omega | (simp [NFL] <;> omega)))
   | (apply opk ⟨_, .move _, _, _, _, _⟩; first | exact bh (ba _) (.inl rfl) | fail)
   | (apply opk ⟨_, .binOp .add _ _ _ _, _, _, _, _⟩; first | exact aM rfl rfl rfl | fail)
   | (apply opk ⟨_, .binOp .eql _ _ _ _, _, _, _, _⟩; first
    | (refine bt rfl rfl rfl ?_; (next => (first | exact rfl | (simp only [bb]; omega) | (simp only [bb]; simp [NFL] <;> omega))))
    | (refine bq rfl rfl rfl ?_; (next => (first | exact rfl | (simp only [bb]; omega) | (simp only [bb]; simp [NFL] <;> omega))))
    | exact aM rfl rfl rfl
    | (refine dF rfl rfl rfl ?_; (next => (first | rfl | assumption)))
    | (refine dE rfl rfl rfl ?_; (next => (first | rfl | assumption)))
    | exact bo rfl rfl rfl
    | fail)
   | (apply opk ⟨_, .binOp .neq _ _ _ _, _, _, _, _⟩; first
    | (refine bt rfl rfl rfl ?_; (next => (first | exact rfl | (simp only [bb]; omega) | (simp only [bb]; simp [NFL] <;> omega))))
    | (refine bq rfl rfl rfl ?_; (next => (first | exact rfl | (simp only [bb]; omega) | (simp only [bb]; simp [NFL] <;> omega))))
    | exact aM rfl rfl rfl
    | (refine jH rfl rfl rfl ?_; (next => (first | rfl | assumption)))
    | (refine j9 rfl rfl rfl ?_; (next => (first | rfl | assumption)))
    | exact bo rfl rfl rfl
    | fail)
   | (apply opk ⟨_, .binOp .lss _ _ _ _, _, _, _, _⟩; first
    | (refine bt rfl rfl rfl ?_; (next => (first | exact rfl | (simp only [bb]; omega) | (simp only [bb]; simp [NFL] <;> omega))))
    | (refine bq rfl rfl rfl ?_; (next => (first | exact rfl | (simp only [bb]; omega) | (simp only [bb]; simp [NFL] <;> omega))))
    | exact aM rfl rfl rfl
    | exact bo rfl rfl rfl
    | fail)
   | (apply opk ⟨_, .call { callee := .builtin .len, args := _, argTypes := _ }, _, _, _, _⟩; first
    | exact fU (T := TT) rfl rfl rfl
    | exact fD (T := TT) rfl rfl rfl
    | exact dh (T := TT) rfl rfl rfl
    | fail)
   | (apply opk ⟨_, .indexAddr _ _ _, _, _, _, _⟩; first
    | (refine dv (T := TT) rfl rfl rfl rfl ?_ ?_; (next => (first | omega | (simp [NFL] <;> omega))); (next => (first | omega | (simp [NFL] <;> omega))))
    | (refine dQ (T := TT) rfl rfl rfl rfl ?_ ?_; (next => (first | omega | (simp [NFL] <;> omega))); (next => (first | omega | (simp [NFL] <;> omega))))
    | fail)
   | (apply opk ⟨_, .fieldAddr _ _ _, _, _, _, _⟩; first
    | exact eS (T := TT) rfl rfl rfl rfl rfl rfl
    | exact cq (T := TT) rfl rfl rfl rfl rfl
    | fail)
   | (apply opk ⟨_, .load _ _, _, _, _, _⟩; first | exact fI (T := TT) rfl rfl rfl | exact eR (T := TT) rfl rfl rfl rfl | fail)
   | (apply opk ⟨_, .buildSlice _ _ _, _, _, _, _⟩; first | exact aX (T := TT) rfl rfl rfl rfl rfl rfl rfl | fail)
   | (apply opk ⟨_, .pick _ _ _, _, _, _, _⟩; first
    | (refine fd rfl ?_ rfl; (next => (first | rfl | assumption)))
    | (refine eY rfl ?_ rfl; (next => (first | rfl | assumption)))
    | fail)
   | fail)))
  | (refine arO _ ?_; first
   | (refine arO ⟨_, .move _, _, _, _, _⟩ ?_; first | refine cI rfl rfl rfl rfl ?_ | fail)
   | (refine arO ⟨_, .assign _, _, _, _, _⟩ ?_; first
    | refine ca rfl rfl rfl rfl ?_
    | refine kS rfl rfl rfl rfl (bh (ba _) (.inr rfl)) ?_
    | fail)
   | (refine arO ⟨_, .load _ _, _, _, _, _⟩ ?_; first
    | refine bJ (T := TT) rfl rfl rfl rfl ah rfl rfl rfl rfl ?_
    | (refine bJ (T := TT) rfl rfl rfl rfl (ae ?_ ah) rfl rfl rfl rfl ?_; (next => (first | assumption | (intro e; exact absurd e.symm (by assumption)))))
    | (refine bJ (T := TT) rfl rfl rfl rfl (ae ?_ (ae ?_ ah)) rfl rfl rfl rfl ?_; (next => (first | assumption | (intro e; exact absurd e.symm (by assumption)))); (next => (first | assumption | (intro e; exact absurd e.symm (by assumption)))))
    | fail)
   | (refine arO ⟨_, .call { callee := .builtin .append, args := _, argTypes := _ }, _, _, _, _⟩ ?_; first
    | (apply dx rfl rfl; (next => (first
     | (apply ap (T := TT) rfl rfl rfl rfl rfl rfl rfl rfl rfl rfl; (next => (first | exact trivial | exact ai _ | assumption | (simp [aH, AV.one, AV.rd, AV.cells, cst, Value.oneCell'] <;> omega))); (next => (first | omega | (simp [NFL] <;> omega))))
     | (apply ap (T := TT) rfl (eE ah rfl) rfl rfl rfl rfl rfl rfl rfl rfl; (next => (first | exact trivial | exact ai _ | assumption | (simp [aH, AV.one, AV.rd, AV.cells, cst, Value.oneCell'] <;> omega))); (next => (first | omega | (simp [NFL] <;> omega))))
     | (apply ap (T := TT) rfl (eE (ae (by first | assumption | (intro e; exact absurd e.symm (by assumption))) ah) rfl) rfl rfl rfl rfl rfl rfl rfl rfl; (next => (first | exact trivial | exact ai _ | assumption | (simp [aH, AV.one, AV.rd, AV.cells, cst, Value.oneCell'] <;> omega))); (next => (first | omega | (simp [NFL] <;> omega))))
     | (apply a6 (T := TT) rfl rfl rfl rfl rfl rfl rfl rfl rfl; (next => (first | exact trivial | exact ai _ | assumption | (simp [aH, AV.one, AV.rd, AV.cells, cst, Value.oneCell'] <;> omega))); (next => (first | omega | (simp [NFL] <;> omega))))
     | fail)))
    | fail)
   | (refine arO ⟨_, .store _ _ _, _, _, _, _⟩ ?_; first
    | (apply dx rfl rfl; (next => (first
     | (apply dA (T := TT) rfl rfl rfl; (next => (first
      | rfl
      | exact ah
      | assumption
      | ((repeat (first | exact ah | assumption | (apply ae; (next => (first | assumption | (intro e; exact absurd e.symm (by assumption)) | fail))) | fail)); done)
      | fail)); (next => rfl); (next => rfl); (next => rfl))
     | (apply cT (T := TT) rfl; (next => (first
      | rfl
      | exact ah
      | assumption
      | ((repeat (first | exact ah | assumption | (apply ae; (next => (first | assumption | (intro e; exact absurd e.symm (by assumption)) | fail))) | fail)); done)
      | fail)); (next => rfl); (next => rfl); (next => rfl); (next => rfl); (next => rfl); (next => rfl); (next => rfl); (next => rfl))
     | fail)))
    | fail)
   | (refine arO ⟨_, .alloc _, _, _, _, _⟩ ?_; first
    | (refine dz rfl rfl (gG (T := TT) rfl rfl ?_); intro kb hkb; (repeat (have hkn := (ez hkb).1; replace hkb := (ez hkb).2)); (try have hkl := fK hkb); clear hkb; refine yw ?_)
    | fail)
   | (refine arO ⟨_, .call { callee := .value _, args := _, argTypes := _ }, _, _, _, _⟩ ?_; first
    | (apply pG rfl (hck) rfl rfl; (next => (repeat (first
     | exact PArgs.nil
     | (apply PArgs.cons; (next => (first
      | exact PArg.own rfl rfl
      | exact PArg.rd rfl (Le1.refl _) rfl
      | exact PArg.rd rfl (Le1.rd _ _ _) rfl
      | exact PArg.nil rfl
      | exact PArg.rd rfl (Le1.nil _ _) rfl
      | (refine PArg.rd rfl (Le1.of_eq ?_) rfl; congr 2 <;> (first | omega | (simp; omega) | (simp [NFL]; done))))))))); (next => rfl); (next => rfl); rintro _ _ ⟨rfl, rfl⟩; refine ⟨_, rfl, ?_⟩)
    | (apply pG rfl (hval) rfl rfl; (next => (repeat (first
     | exact PArgs.nil
     | (apply PArgs.cons; (next => (first
      | exact PArg.own rfl rfl
      | exact PArg.rd rfl (Le1.refl _) rfl
      | exact PArg.rd rfl (Le1.rd _ _ _) rfl
      | exact PArg.nil rfl
      | exact PArg.rd rfl (Le1.nil _ _) rfl
      | (refine PArg.rd rfl (Le1.of_eq ?_) rfl; congr 2 <;> (first | omega | (simp; omega) | (simp [NFL]; done))))))))); (next => rfl); (next => rfl); rintro _ _ ⟨rfl, rfl⟩; refine ⟨_, rfl, ?_⟩)
    | fail)
   | fail)
  | refine fe rfl rfl rfl rfl ?_
  | refine fE ?_
  | (refine arE ?_; refine ek [0, 2, 3, 4, 5, 6, 8, 13, 17, 18, 19, 20, 25, 46] rfl ?_)
  | refine cH ?_
  | refine dZ ?_
  | refine eF ?_
  | refine gi ?_
  | refine ep rfl ?_
  | (refine arC (.cond _ _ _) ?_; first
   | (refine bC rfl ?_ ?_; (next => (first | rfl | (simp only [decide_eq_true_eq, beq_iff_eq, bne_iff_ne, ge_iff_le, gt_iff_lt, ne_eq, Bool.not_eq_true', decide_eq_false_iff_not]; omega))))
   | (refine be rfl ?_ ?_; (next => (first
    | rfl
    | (simp only [decide_eq_false_iff_not, beq_eq_false_iff_ne, bne_eq_false_iff_eq, ge_iff_le, gt_iff_lt, ne_eq, Bool.not_eq_false', decide_eq_true_eq]; omega))))
   | fail)
  | refine eW ?_
  | refine dD ?_
  | refine da rfl ?_
  | refine cY ?_
  | refine cX ?_
  | (refine arC .ret ?_; refine eV [2, 3] ?_)
  | refine dI ?_
  | refine dH ?_
  | refine dG ?_
  | refine fi ?_
  | fail)
 refine II (fun y : Nat => ⟨54, [(0, .sl false 2 [[.v (.string (mkB nameB)), .v (.string (mkB upB))], [.v (.string (mkB jobB)), .v (.string (mkB [120]))]]), (5, .v (.string (mkB upB))), (6, AK y), (17, .sl false 2 [[.v (.string (mkB nameB)), .v (.string (mkB upB))], [.v (.string (mkB jobB)), .v (.string (mkB [120]))]]), (18, .v (.int .i64 2)), (19, .v (.int .i64 (Jy y)))], [], []⟩) (fun y => y ≤ 2) (fun y => 2 - y) 0 ⟨rfl, ?_, ?_, rfl⟩ (by omega) ?_
 ·(repeat' (first
  | exact trivial
  | exact LeL.refl _
  | exact .refl _
  | refine ⟨⟨_, rfl, ?_⟩, ?_⟩
  | refine ⟨⟨_, ah, ?_⟩, ?_⟩
  | refine ⟨⟨_, ae (by first | assumption | (intro e; exact absurd e.symm (by assumption))) ah, ?_⟩, ?_⟩
  | refine ⟨⟨_, ae (by first | assumption | (intro e; exact absurd e.symm (by assumption))) (ae (by first | assumption | (intro e; exact absurd e.symm (by assumption))) ah), ?_⟩, ?_⟩
  | refine ⟨⟨_, ae (by first | assumption | (intro e; exact absurd e.symm (by assumption))) (ae (by first | assumption | (intro e; exact absurd e.symm (by assumption))) (ae (by first | assumption | (intro e; exact absurd e.symm (by assumption))) ah)), ?_⟩, ?_⟩
  | refine ⟨⟨_, ae (by first | assumption | (intro e; exact absurd e.symm (by assumption))) (ae (by first | assumption | (intro e; exact absurd e.symm (by assumption))) (ae (by first | assumption | (intro e; exact absurd e.symm (by assumption))) (ae (by first | assumption | (intro e; exact absurd e.symm (by assumption))) ah))), ?_⟩, ?_⟩
  | exact .nil _ _
  | exact .rd _ _ _
  | refine LeL.cons ?_ ?_
  | exact LeL.nil
  | refine Le1.of_eq ?_))
 ·(repeat' (first
  | exact trivial
  | exact LeL.refl _
  | exact .refl _
  | refine ⟨⟨_, rfl, ?_⟩, ?_⟩
  | refine ⟨⟨_, ah, ?_⟩, ?_⟩
  | refine ⟨⟨_, ae (by first | assumption | (intro e; exact absurd e.symm (by assumption))) ah, ?_⟩, ?_⟩
  | refine ⟨⟨_, ae (by first | assumption | (intro e; exact absurd e.symm (by assumption))) (ae (by first | assumption | (intro e; exact absurd e.symm (by assumption))) ah), ?_⟩, ?_⟩
  | refine ⟨⟨_, ae (by first | assumption | (intro e; exact absurd e.symm (by assumption))) (ae (by first | assumption | (intro e; exact absurd e.symm (by assumption))) (ae (by first | assumption | (intro e; exact absurd e.symm (by assumption))) ah)), ?_⟩, ?_⟩
  | refine ⟨⟨_, ae (by first | assumption | (intro e; exact absurd e.symm (by assumption))) (ae (by first | assumption | (intro e; exact absurd e.symm (by assumption))) (ae (by first | assumption | (intro e; exact absurd e.symm (by assumption))) (ae (by first | assumption | (intro e; exact absurd e.symm (by assumption))) ah))), ?_⟩, ?_⟩
  | exact .nil _ _
  | exact .rd _ _ _
  | refine LeL.cons ?_ ?_
  | exact LeL.nil
  | refine Le1.of_eq ?_))
 intro y hy
 obtain rfl | rfl | rfl : y = 0 ∨ y = 1 ∨ y = 2 := by omega
 ·simp only [AK, Jy]
  repeat (first
   | ((first | apply i5 | apply gI); (next => (first | (simp only [go_sem, Nat.reduceBEq, Nat.reduceEqDiff, reduceIte, reduceCtorEq, String.reduceEq, Nat.reduceAdd, Int.reduceToNat]; exact rfl) | exact rfl)))
   | (refine arC .ret ?_; refine lT [2, 3] ?_)
   | (apply d8 rfl rfl rfl rfl; (next => (first
    | (refine dt (T := TT) rfl ?_; (first | exact trivial | omega | (simp [NFL] <;> omega)))
    | (apply opk ⟨_, .move _, _, _, _, _⟩; first | exact bh (ba _) (.inl rfl) | fail)
    | (apply opk ⟨_, .binOp .add _ _ _ _, _, _, _, _⟩; first | exact aM rfl rfl rfl | fail)
    | (apply opk ⟨_, .binOp .eql _ _ _ _, _, _, _, _⟩; first
     | (refine bt rfl rfl rfl ?_; (next => (first | exact rfl | (simp only [bb]; omega) | (simp only [bb]; simp [NFL] <;> omega))))
     | (refine bq rfl rfl rfl ?_; (next => (first | exact rfl | (simp only [bb]; omega) | (simp only [bb]; simp [NFL] <;> omega))))
     | exact aM rfl rfl rfl
     | (refine dF rfl rfl rfl ?_; (next => (first | rfl | assumption)))
     | (refine dE rfl rfl rfl ?_; (next => (first | rfl | assumption)))
     | exact bo rfl rfl rfl
     | fail)
    | (apply opk ⟨_, .binOp .neq _ _ _ _, _, _, _, _⟩; first
     | (refine bt rfl rfl rfl ?_; (next => (first | exact rfl | (simp only [bb]; omega) | (simp only [bb]; simp [NFL] <;> omega))))
     | (refine bq rfl rfl rfl ?_; (next => (first | exact rfl | (simp only [bb]; omega) | (simp only [bb]; simp [NFL] <;> omega))))
     | exact aM rfl rfl rfl
     | (refine jH rfl rfl rfl ?_; (next => (first | rfl | assumption)))
     | (refine j9 rfl rfl rfl ?_; (next => (first | rfl | assumption)))
     | exact bo rfl rfl rfl
     | fail)
    | (apply opk ⟨_, .binOp .lss _ _ _ _, _, _, _, _⟩; first
     | (refine bt rfl rfl rfl ?_; (next => (first | exact rfl | (simp only [bb]; omega) | (simp only [bb]; simp [NFL] <;> omega))))
     | (refine bq rfl rfl rfl ?_; (next => (first | exact rfl | (simp only [bb]; omega) | (simp only [bb]; simp [NFL] <;> omega))))
     | exact aM rfl rfl rfl
     | exact bo rfl rfl rfl
     | fail)
    | (apply opk ⟨_, .call { callee := .builtin .len, args := _, argTypes := _ }, _, _, _, _⟩; first
     | exact fU (T := TT) rfl rfl rfl
     | exact fD (T := TT) rfl rfl rfl
     | exact dh (T := TT) rfl rfl rfl
     | fail)
    | (apply opk ⟨_, .indexAddr _ _ _, _, _, _, _⟩; first
     | (refine dv (T := TT) rfl rfl rfl rfl ?_ ?_; (next => (first | omega | (simp [NFL] <;> omega))); (next => (first | omega | (simp [NFL] <;> omega))))
     | (refine dQ (T := TT) rfl rfl rfl rfl ?_ ?_; (next => (first | omega | (simp [NFL] <;> omega))); (next => (first | omega | (simp [NFL] <;> omega))))
     | fail)
    | (apply opk ⟨_, .fieldAddr _ _ _, _, _, _, _⟩; first
     | exact eS (T := TT) rfl rfl rfl rfl rfl rfl
     | exact cq (T := TT) rfl rfl rfl rfl rfl
     | fail)
    | (apply opk ⟨_, .load _ _, _, _, _, _⟩; first | exact fI (T := TT) rfl rfl rfl | exact eR (T := TT) rfl rfl rfl rfl | fail)
    | (apply opk ⟨_, .buildSlice _ _ _, _, _, _, _⟩; first | exact aX (T := TT) rfl rfl rfl rfl rfl rfl rfl | fail)
    | (apply opk ⟨_, .pick _ _ _, _, _, _, _⟩; first
     | (refine fd rfl ?_ rfl; (next => (first | rfl | assumption)))
     | (refine eY rfl ?_ rfl; (next => (first | rfl | assumption)))
     | fail)
    | fail)))
   | (refine arO _ ?_; first
    | (refine arO ⟨_, .move _, _, _, _, _⟩ ?_; first | refine cI rfl rfl rfl rfl ?_ | fail)
    | (refine arO ⟨_, .assign _, _, _, _, _⟩ ?_; first
     | refine ca rfl rfl rfl rfl ?_
     | refine kS rfl rfl rfl rfl (bh (ba _) (.inr rfl)) ?_
     | fail)
    | (refine arO ⟨_, .load _ _, _, _, _, _⟩ ?_; first
     | refine bJ (T := TT) rfl rfl rfl rfl ah rfl rfl rfl rfl ?_
     | (refine bJ (T := TT) rfl rfl rfl rfl (ae ?_ ah) rfl rfl rfl rfl ?_; (next => (first | assumption | (intro e; exact absurd e.symm (by assumption)))))
     | (refine bJ (T := TT) rfl rfl rfl rfl (ae ?_ (ae ?_ ah)) rfl rfl rfl rfl ?_; (next => (first | assumption | (intro e; exact absurd e.symm (by assumption)))); (next => (first | assumption | (intro e; exact absurd e.symm (by assumption)))))
     | fail)
    | (refine arO ⟨_, .call { callee := .builtin .append, args := _, argTypes := _ }, _, _, _, _⟩ ?_; first
     | (apply dx rfl rfl; (next => (first
      | (apply ap (T := TT) rfl rfl rfl rfl rfl rfl rfl rfl rfl rfl; (next => (first | exact trivial | exact ai _ | assumption | (simp [aH, AV.one, AV.rd, AV.cells, cst, Value.oneCell'] <;> omega))); (next => (first | omega | (simp [NFL] <;> omega))))
      | (apply ap (T := TT) rfl (eE ah rfl) rfl rfl rfl rfl rfl rfl rfl rfl; (next => (first | exact trivial | exact ai _ | assumption | (simp [aH, AV.one, AV.rd, AV.cells, cst, Value.oneCell'] <;> omega))); (next => (first | omega | (simp [NFL] <;> omega))))
      | (apply ap (T := TT) rfl (eE (ae (by first | assumption | (intro e; exact absurd e.symm (by assumption))) ah) rfl) rfl rfl rfl rfl rfl rfl rfl rfl; (next => (first | exact trivial | exact ai _ | assumption | (simp [aH, AV.one, AV.rd, AV.cells, cst, Value.oneCell'] <;> omega))); (next => (first | omega | (simp [NFL] <;> omega))))
      | (apply a6 (T := TT) rfl rfl rfl rfl rfl rfl rfl rfl rfl; (next => (first | exact trivial | exact ai _ | assumption | (simp [aH, AV.one, AV.rd, AV.cells, cst, Value.oneCell'] <;> omega))); (next => (first | omega | (simp [NFL] <;> omega))))
      | fail)))
     | fail)
    | (refine arO ⟨_, .store _ _ _, _, _, _, _⟩ ?_; first
     | (apply dx rfl rfl; (next => (first
      | (apply dA (T := TT) rfl rfl rfl; (next => (first
       | rfl
       | exact ah
       | assumption
       | ((repeat (first | exact ah | assumption | (apply ae; (next => (first | assumption | (intro e; exact absurd e.symm (by assumption)) | fail))) | fail)); done)
       | fail)); (next => rfl); (next => rfl); (next => rfl))
      | (apply cT (T := TT) rfl; (next => (first
       | rfl
       | exact ah
       | assumption
       | ((repeat (first | exact ah | assumption | (apply ae; (next => (first | assumption | (intro e; exact absurd e.symm (by assumption)) | fail))) | fail)); done)
       | fail)); (next => rfl); (next => rfl); (next => rfl); (next => rfl); (next => rfl); (next => rfl); (next => rfl); (next => rfl))
      | fail)))
     | fail)
    | (refine arO ⟨_, .alloc _, _, _, _, _⟩ ?_; first
     | (refine dz rfl rfl (gG (T := TT) rfl rfl ?_); intro kb hkb; (repeat (have hkn := (ez hkb).1; replace hkb := (ez hkb).2)); (try have hkl := fK hkb); clear hkb; refine yw ?_)
     | fail)
    | fail)
   | refine fe rfl rfl rfl rfl ?_
   | refine fE ?_
   | (refine arE ?_; refine ek [0, 2, 3, 4, 5, 6, 8, 13, 17, 18, 19, 20, 25, 46] rfl ?_)
   | refine cH ?_
   | refine dZ ?_
   | refine eF ?_
   | refine gi ?_
   | refine ep rfl ?_
   | (refine arC (.cond _ _ _) ?_; first
    | (refine bC rfl ?_ ?_; (next => (first | rfl | (simp only [decide_eq_true_eq, beq_iff_eq, bne_iff_ne, ge_iff_le, gt_iff_lt, ne_eq, Bool.not_eq_true', decide_eq_false_iff_not]; omega))))
    | (refine be rfl ?_ ?_; (next => (first
     | rfl
     | (simp only [decide_eq_false_iff_not, beq_eq_false_iff_ne, bne_eq_false_iff_eq, ge_iff_le, gt_iff_lt, ne_eq, Bool.not_eq_false', decide_eq_true_eq]; omega))))
    | fail)
   | refine eW ?_
   | refine dD ?_
   | refine da rfl ?_
   | refine cY ?_
   | refine cX ?_
   | (refine arC .ret ?_; refine eV [2, 3] ?_)
   | refine dI ?_
   | refine dH ?_
   | refine dG ?_
   | refine fi ?_
   | fail)
  refine AM ⟨1, ⟨rfl, ?_, ?_, rfl⟩, by omega, by omega⟩
  ·(repeat' (first
   | exact trivial
   | exact LeL.refl _
   | exact .refl _
   | refine ⟨⟨_, rfl, ?_⟩, ?_⟩
   | refine ⟨⟨_, ah, ?_⟩, ?_⟩
   | refine ⟨⟨_, ae (by first | assumption | (intro e; exact absurd e.symm (by assumption))) ah, ?_⟩, ?_⟩
   | refine ⟨⟨_, ae (by first | assumption | (intro e; exact absurd e.symm (by assumption))) (ae (by first | assumption | (intro e; exact absurd e.symm (by assumption))) ah), ?_⟩, ?_⟩
   | refine ⟨⟨_, ae (by first | assumption | (intro e; exact absurd e.symm (by assumption))) (ae (by first | assumption | (intro e; exact absurd e.symm (by assumption))) (ae (by first | assumption | (intro e; exact absurd e.symm (by assumption))) ah)), ?_⟩, ?_⟩
   | refine ⟨⟨_, ae (by first | assumption | (intro e; exact absurd e.symm (by assumption))) (ae (by first | assumption | (intro e; exact absurd e.symm (by assumption))) (ae (by first | assumption | (intro e; exact absurd e.symm (by assumption))) (ae (by first | assumption | (intro e; exact absurd e.symm (by assumption))) ah))), ?_⟩, ?_⟩
   | exact .nil _ _
   | exact .rd _ _ _
   | refine LeL.cons ?_ ?_
   | exact LeL.nil
   | refine Le1.of_eq ?_))
  ·(repeat' (first
   | exact trivial
   | exact LeL.refl _
   | exact .refl _
   | refine ⟨⟨_, rfl, ?_⟩, ?_⟩
   | refine ⟨⟨_, ah, ?_⟩, ?_⟩
   | refine ⟨⟨_, ae (by first | assumption | (intro e; exact absurd e.symm (by assumption))) ah, ?_⟩, ?_⟩
   | refine ⟨⟨_, ae (by first | assumption | (intro e; exact absurd e.symm (by assumption))) (ae (by first | assumption | (intro e; exact absurd e.symm (by assumption))) ah), ?_⟩, ?_⟩
   | refine ⟨⟨_, ae (by first | assumption | (intro e; exact absurd e.symm (by assumption))) (ae (by first | assumption | (intro e; exact absurd e.symm (by assumption))) (ae (by first | assumption | (intro e; exact absurd e.symm (by assumption))) ah)), ?_⟩, ?_⟩
   | refine ⟨⟨_, ae (by first | assumption | (intro e; exact absurd e.symm (by assumption))) (ae (by first | assumption | (intro e; exact absurd e.symm (by assumption))) (ae (by first | assumption | (intro e; exact absurd e.symm (by assumption))) (ae (by first | assumption | (intro e; exact absurd e.symm (by assumption))) ah))), ?_⟩, ?_⟩
   | exact .nil _ _
   | exact .rd _ _ _
   | refine LeL.cons ?_ ?_
   | exact LeL.nil
   | refine Le1.of_eq ?_))
 ·simp only [AK, Jy]
  repeat (first
   | ((first | apply i5 | apply gI); (next => (first | (simp only [go_sem, Nat.reduceBEq, Nat.reduceEqDiff, reduceIte, reduceCtorEq, String.reduceEq, Nat.reduceAdd, Int.reduceToNat]; exact rfl) | exact rfl)))
   | (refine arC .ret ?_; refine lT [2, 3] ?_)
   | (apply d8 rfl rfl rfl rfl; (next => (first
    | (refine dt (T := TT) rfl ?_; (first | exact trivial | omega | (simp [NFL] <;> omega)))
    | (apply opk ⟨_, .move _, _, _, _, _⟩; first | exact bh (ba _) (.inl rfl) | fail)
    | (apply opk ⟨_, .binOp .add _ _ _ _, _, _, _, _⟩; first | exact aM rfl rfl rfl | fail)
    | (apply opk ⟨_, .binOp .eql _ _ _ _, _, _, _, _⟩; first
     | (refine bt rfl rfl rfl ?_; (next => (first | exact rfl | (simp only [bb]; omega) | (simp only [bb]; simp [NFL] <;> omega))))
     | (refine bq rfl rfl rfl ?_; (next => (first | exact rfl | (simp only [bb]; omega) | (simp only [bb]; simp [NFL] <;> omega))))
     | exact aM rfl rfl rfl
     | (refine dF rfl rfl rfl ?_; (next => (first | rfl | assumption)))
     | (refine dE rfl rfl rfl ?_; (next => (first | rfl | assumption)))
     | exact bo rfl rfl rfl
     | fail)
    | (apply opk ⟨_, .binOp .neq _ _ _ _, _, _, _, _⟩; first
     | (refine bt rfl rfl rfl ?_; (next => (first | exact rfl | (simp only [bb]; omega) | (simp only [bb]; simp [NFL] <;> omega))))
     | (refine bq rfl rfl rfl ?_; (next => (first | exact rfl | (simp only [bb]; omega) | (simp only [bb]; simp [NFL] <;> omega))))
     | exact aM rfl rfl rfl
     | (refine jH rfl rfl rfl ?_; (next => (first | rfl | assumption)))
     | (refine j9 rfl rfl rfl ?_; (next => (first | rfl | assumption)))
     | exact bo rfl rfl rfl
     | fail)
    | (apply opk ⟨_, .binOp .lss _ _ _ _, _, _, _, _⟩; first
     | (refine bt rfl rfl rfl ?_; (next => (first | exact rfl | (simp only [bb]; omega) | (simp only [bb]; simp [NFL] <;> omega))))
     | (refine bq rfl rfl rfl ?_; (next => (first | exact rfl | (simp only [bb]; omega) | (simp only [bb]; simp [NFL] <;> omega))))
     | exact aM rfl rfl rfl
     | exact bo rfl rfl rfl
     | fail)
    | (apply opk ⟨_, .call { callee := .builtin .len, args := _, argTypes := _ }, _, _, _, _⟩; first
     | exact fU (T := TT) rfl rfl rfl
     | exact fD (T := TT) rfl rfl rfl
     | exact dh (T := TT) rfl rfl rfl
     | fail)
    | (apply opk ⟨_, .indexAddr _ _ _, _, _, _, _⟩; first
     | (refine dv (T := TT) rfl rfl rfl rfl ?_ ?_; (next => (first | omega | (simp [NFL] <;> omega))); (next => (first | omega | (simp [NFL] <;> omega))))
     | (refine dQ (T := TT) rfl rfl rfl rfl ?_ ?_; (next => (first | omega | (simp [NFL] <;> omega))); (next => (first | omega | (simp [NFL] <;> omega))))
     | fail)
    | (apply opk ⟨_, .fieldAddr _ _ _, _, _, _, _⟩; first
     | exact eS (T := TT) rfl rfl rfl rfl rfl rfl
     | exact cq (T := TT) rfl rfl rfl rfl rfl
     | fail)
    | (apply opk ⟨_, .load _ _, _, _, _, _⟩; first | exact fI (T := TT) rfl rfl rfl | exact eR (T := TT) rfl rfl rfl rfl | fail)
    | (apply opk ⟨_, .buildSlice _ _ _, _, _, _, _⟩; first | exact aX (T := TT) rfl rfl rfl rfl rfl rfl rfl | fail)
    | (apply opk ⟨_, .pick _ _ _, _, _, _, _⟩; first
     | (refine fd rfl ?_ rfl; (next => (first | rfl | assumption)))
     | (refine eY rfl ?_ rfl; (next => (first | rfl | assumption)))
     | fail)
    | fail)))
   | (refine arO _ ?_; first
    | (refine arO ⟨_, .move _, _, _, _, _⟩ ?_; first | refine cI rfl rfl rfl rfl ?_ | fail)
    | (refine arO ⟨_, .assign _, _, _, _, _⟩ ?_; first
     | refine ca rfl rfl rfl rfl ?_
     | refine kS rfl rfl rfl rfl (bh (ba _) (.inr rfl)) ?_
     | fail)
    | (refine arO ⟨_, .load _ _, _, _, _, _⟩ ?_; first
     | refine bJ (T := TT) rfl rfl rfl rfl ah rfl rfl rfl rfl ?_
     | (refine bJ (T := TT) rfl rfl rfl rfl (ae ?_ ah) rfl rfl rfl rfl ?_; (next => (first | assumption | (intro e; exact absurd e.symm (by assumption)))))
     | (refine bJ (T := TT) rfl rfl rfl rfl (ae ?_ (ae ?_ ah)) rfl rfl rfl rfl ?_; (next => (first | assumption | (intro e; exact absurd e.symm (by assumption)))); (next => (first | assumption | (intro e; exact absurd e.symm (by assumption)))))
     | fail)
    | (refine arO ⟨_, .call { callee := .builtin .append, args := _, argTypes := _ }, _, _, _, _⟩ ?_; first
     | (apply dx rfl rfl; (next => (first
      | (apply ap (T := TT) rfl rfl rfl rfl rfl rfl rfl rfl rfl rfl; (next => (first | exact trivial | exact ai _ | assumption | (simp [aH, AV.one, AV.rd, AV.cells, cst, Value.oneCell'] <;> omega))); (next => (first | omega | (simp [NFL] <;> omega))))
      | (apply ap (T := TT) rfl (eE ah rfl) rfl rfl rfl rfl rfl rfl rfl rfl; (next => (first | exact trivial | exact ai _ | assumption | (simp [aH, AV.one, AV.rd, AV.cells, cst, Value.oneCell'] <;> omega))); (next => (first | omega | (simp [NFL] <;> omega))))
      | (apply ap (T := TT) rfl (eE (ae (by first | assumption | (intro e; exact absurd e.symm (by assumption))) ah) rfl) rfl rfl rfl rfl rfl rfl rfl rfl; (next => (first | exact trivial | exact ai _ | assumption | (simp [aH, AV.one, AV.rd, AV.cells, cst, Value.oneCell'] <;> omega))); (next => (first | omega | (simp [NFL] <;> omega))))
      | (apply a6 (T := TT) rfl rfl rfl rfl rfl rfl rfl rfl rfl; (next => (first | exact trivial | exact ai _ | assumption | (simp [aH, AV.one, AV.rd, AV.cells, cst, Value.oneCell'] <;> omega))); (next => (first | omega | (simp [NFL] <;> omega))))
      | fail)))
     | fail)
    | (refine arO ⟨_, .store _ _ _, _, _, _, _⟩ ?_; first
     | (apply dx rfl rfl; (next => (first
      | (apply dA (T := TT) rfl rfl rfl; (next => (first
       | rfl
       | exact ah
       | assumption
       | ((repeat (first | exact ah | assumption | (apply ae; (next => (first | assumption | (intro e; exact absurd e.symm (by assumption)) | fail))) | fail)); done)
       | fail)); (next => rfl); (next => rfl); (next => rfl))
      | (apply cT (T := TT) rfl; (next => (first
       | rfl
       | exact ah
       | assumption
       | ((repeat (first | exact ah | assumption | (apply ae; (next => (first | assumption | (intro e; exact absurd e.symm (by assumption)) | fail))) | fail)); done)
       | fail)); (next => rfl); (next => rfl); (next => rfl); (next => rfl); (next => rfl); (next => rfl); (next => rfl); (next => rfl))
      | fail)))
     | fail)
    | (refine arO ⟨_, .alloc _, _, _, _, _⟩ ?_; first
     | (refine dz rfl rfl (gG (T := TT) rfl rfl ?_); intro kb hkb; (repeat (have hkn := (ez hkb).1; replace hkb := (ez hkb).2)); (try have hkl := fK hkb); clear hkb; refine yw ?_)
     | fail)
    | fail)
   | refine fe rfl rfl rfl rfl ?_
   | refine fE ?_
   | (refine arE ?_; refine ek [0, 2, 3, 4, 5, 6, 8, 13, 17, 18, 19, 20, 25, 46] rfl ?_)
   | refine cH ?_
   | refine dZ ?_
   | refine eF ?_
   | refine gi ?_
   | refine ep rfl ?_
   | (refine arC (.cond _ _ _) ?_; first
    | (refine bC rfl ?_ ?_; (next => (first | rfl | (simp only [decide_eq_true_eq, beq_iff_eq, bne_iff_ne, ge_iff_le, gt_iff_lt, ne_eq, Bool.not_eq_true', decide_eq_false_iff_not]; omega))))
    | (refine be rfl ?_ ?_; (next => (first
     | rfl
     | (simp only [decide_eq_false_iff_not, beq_eq_false_iff_ne, bne_eq_false_iff_eq, ge_iff_le, gt_iff_lt, ne_eq, Bool.not_eq_false', decide_eq_true_eq]; omega))))
    | fail)
   | refine eW ?_
   | refine dD ?_
   | refine da rfl ?_
   | refine cY ?_
   | refine cX ?_
   | (refine arC .ret ?_; refine eV [2, 3] ?_)
   | refine dI ?_
   | refine dH ?_
   | refine dG ?_
   | refine fi ?_
   | fail)
  refine Gj (st := fun _ => true) (mN := fun i => [0, 1, 2, 3, 6, 7].contains i) (cs := [4, 5, 8, 9, 10, 11, 12, 13]) mixed (Au (by kernel_rfl)) rfl (fun k c hk => ?_) ?_
  ·simp only [List.filter_cons, List.filter_nil, if_true, ab, av] at hk
   split at hk
   ·cases hk; rfl
   ·cases hk
  refine Ca (d := 26) (u := .v (.slice none 0 0)) rfl rfl rfl rfl (eQ (u := .v (.slice none 0 0)) rfl (.inl rfl)) ⟨rfl, .inl ⟨_, rfl⟩⟩ ?_
  refine Ca (d := 27) (u := .v (.pointer (some ⟨kb, 0, none⟩))) rfl rfl rfl rfl (iq (cq (T := TT) rfl rfl rfl rfl rfl) rfl) ⟨rfl, .inl ⟨_, rfl⟩⟩ ?_
  refine Ca (d := 28) (u := .v (.string (mkB jobB))) rfl rfl rfl rfl (eT (u := .v (.string (mkB jobB))) (T := TT) rfl (Fr _ _ _) rfl rfl rfl rfl) ⟨rfl, .inl ⟨_, rfl⟩⟩ ?_
  refine Ca (d := 29) (u := .v (.string (mkB [106, 111, 98, 61, 34]))) rfl rfl rfl rfl (iq (mq rfl rfl (Nat.le_of_ble_eq_true (by kernel_rfl))) (by kernel_rfl)) ⟨rfl, .inl ⟨_, rfl⟩⟩ ?_
  refine ls rfl (ls rfl ?_)
  refine Ca (d := 32) (u := .v (.pointer (some ⟨kb, 1, none⟩))) rfl rfl rfl rfl (iq (cq (T := TT) rfl rfl rfl rfl rfl) rfl) ⟨rfl, .inl ⟨_, rfl⟩⟩ ?_
  refine Ca (d := 33) (u := .v (.string (mkB [120]))) rfl rfl rfl rfl (eT (u := .v (.string (mkB [120]))) (T := TT) rfl (Fr _ _ _) rfl rfl rfl rfl) ⟨rfl, .inl ⟨_, rfl⟩⟩ ?_
  refine ls rfl (ls rfl (ls rfl (ls rfl (ls rfl (ls rfl (O0 ?_))))))
  refine ND (σ' := ⟨54, [(0, .sl false 2 [[.v (.string (mkB nameB)), .v (.string (mkB upB))], [.v (.string (mkB jobB)), .v (.string (mkB [120]))]]), (5, .v (.string (mkB upB))), (17, .sl false 2 [[.v (.string (mkB nameB)), .v (.string (mkB upB))], [.v (.string (mkB jobB)), .v (.string (mkB [120]))]]), (18, .v (.int .i64 2)), (19, .v (.int .i64 1)), (26, .v (.slice none 0 0)), (29, .v (.string (mkB [106, 111, 98, 61, 34]))), (33, .v (.string (mkB [120])))], [], []⟩) ⟨rfl, ?_, ?_, rfl⟩ ?_
  ·(repeat' (first
   | exact trivial
   | exact LeL.refl _
   | exact .refl _
   | refine ⟨⟨_, rfl, ?_⟩, ?_⟩
   | refine ⟨⟨_, ah, ?_⟩, ?_⟩
   | refine ⟨⟨_, ae (by first | assumption | (intro e; exact absurd e.symm (by assumption))) ah, ?_⟩, ?_⟩
   | refine ⟨⟨_, ae (by first | assumption | (intro e; exact absurd e.symm (by assumption))) (ae (by first | assumption | (intro e; exact absurd e.symm (by assumption))) ah), ?_⟩, ?_⟩
   | refine ⟨⟨_, ae (by first | assumption | (intro e; exact absurd e.symm (by assumption))) (ae (by first | assumption | (intro e; exact absurd e.symm (by assumption))) (ae (by first | assumption | (intro e; exact absurd e.symm (by assumption))) ah)), ?_⟩, ?_⟩
   | refine ⟨⟨_, ae (by first | assumption | (intro e; exact absurd e.symm (by assumption))) (ae (by first | assumption | (intro e; exact absurd e.symm (by assumption))) (ae (by first | assumption | (intro e; exact absurd e.symm (by assumption))) (ae (by first | assumption | (intro e; exact absurd e.symm (by assumption))) ah))), ?_⟩, ?_⟩
   | exact .nil _ _
   | exact .rd _ _ _
   | refine LeL.cons ?_ ?_
   | exact LeL.nil
   | refine Le1.of_eq ?_))
  ·(repeat' (first
   | exact trivial
   | exact LeL.refl _
   | exact .refl _
   | refine ⟨⟨_, rfl, ?_⟩, ?_⟩
   | refine ⟨⟨_, ah, ?_⟩, ?_⟩
   | refine ⟨⟨_, ae (by first | assumption | (intro e; exact absurd e.symm (by assumption))) ah, ?_⟩, ?_⟩
   | refine ⟨⟨_, ae (by first | assumption | (intro e; exact absurd e.symm (by assumption))) (ae (by first | assumption | (intro e; exact absurd e.symm (by assumption))) ah), ?_⟩, ?_⟩
   | refine ⟨⟨_, ae (by first | assumption | (intro e; exact absurd e.symm (by assumption))) (ae (by first | assumption | (intro e; exact absurd e.symm (by assumption))) (ae (by first | assumption | (intro e; exact absurd e.symm (by assumption))) ah)), ?_⟩, ?_⟩
   | refine ⟨⟨_, ae (by first | assumption | (intro e; exact absurd e.symm (by assumption))) (ae (by first | assumption | (intro e; exact absurd e.symm (by assumption))) (ae (by first | assumption | (intro e; exact absurd e.symm (by assumption))) (ae (by first | assumption | (intro e; exact absurd e.symm (by assumption))) ah))), ?_⟩, ?_⟩
   | exact .nil _ _
   | exact .rd _ _ _
   | refine LeL.cons ?_ ?_
   | exact LeL.nil
   | refine Le1.of_eq ?_))
  refine wX (d := 30) (u := .sl true 1 six) rfl rfl (iq (aX (T := TT) rfl rfl rfl rfl rfl rfl rfl) (by kernel_rfl)) ?_
  refine Ot (oK (Hp := []) (Hr := []) tK (.cons (.rd rfl (Le1.rd _ _ _) rfl) .nil) (fun i j r hi hj => dJ (ρs := [none]) rfl i j r r hi hj) (fun _ _ _ => rfl) (fun k cs hk => by simp [av] at hk) (fun k cs hk => by simp [av] at hk) rfl ?_)
  rintro _ _ ⟨B, rfl, rfl⟩
  refine ⟨_, rfl, ?_⟩
  refine Ot (oK (Hp := [(B, Jt)]) (Hr := []) (Mi B [120] [120] K3) (.cons (.rd rfl (Le1.refl _) rfl) (.cons (.rd rfl (Le1.refl _) rfl) .nil)) (fun i j r hi hj => dJ (ρs := [none, none]) rfl i j r r hi hj) (fun _ _ hh => by simp at hh) (fun k cs hk => hk) (fun k cs hk => by simp [av] at hk) rfl ?_)
  rintro _ _ ⟨rfl, rfl⟩
  refine ⟨_, rfl, ?_⟩
  refine ND (σ' := ⟨54, [(0, .sl false 2 [[.v (.string (mkB nameB)), .v (.string (mkB upB))], [.v (.string (mkB jobB)), .v (.string (mkB [120]))]]), (5, .v (.string (mkB upB))), (17, .sl false 2 [[.v (.string (mkB nameB)), .v (.string (mkB upB))], [.v (.string (mkB jobB)), .v (.string (mkB [120]))]]), (18, .v (.int .i64 2)), (19, .v (.int .i64 1)), (26, .v (.slice none 0 0)), (29, .v (.string (mkB [106, 111, 98, 61, 34]))), (34, .v (.string (mkB [120])))], [], []⟩) ⟨rfl, ?_, ?_, rfl⟩ ?_
  ·(repeat' (first
   | exact trivial
   | exact LeL.refl _
   | exact .refl _
   | refine ⟨⟨_, rfl, ?_⟩, ?_⟩
   | refine ⟨⟨_, ah, ?_⟩, ?_⟩
   | refine ⟨⟨_, ae (by first | assumption | (intro e; exact absurd e.symm (by assumption))) ah, ?_⟩, ?_⟩
   | refine ⟨⟨_, ae (by first | assumption | (intro e; exact absurd e.symm (by assumption))) (ae (by first | assumption | (intro e; exact absurd e.symm (by assumption))) ah), ?_⟩, ?_⟩
   | refine ⟨⟨_, ae (by first | assumption | (intro e; exact absurd e.symm (by assumption))) (ae (by first | assumption | (intro e; exact absurd e.symm (by assumption))) (ae (by first | assumption | (intro e; exact absurd e.symm (by assumption))) ah)), ?_⟩, ?_⟩
   | refine ⟨⟨_, ae (by first | assumption | (intro e; exact absurd e.symm (by assumption))) (ae (by first | assumption | (intro e; exact absurd e.symm (by assumption))) (ae (by first | assumption | (intro e; exact absurd e.symm (by assumption))) (ae (by first | assumption | (intro e; exact absurd e.symm (by assumption))) ah))), ?_⟩, ?_⟩
   | exact .nil _ _
   | exact .rd _ _ _
   | refine LeL.cons ?_ ?_
   | exact LeL.nil
   | refine Le1.of_eq ?_))
  ·(repeat' (first
   | exact trivial
   | exact LeL.refl _
   | exact .refl _
   | refine ⟨⟨_, rfl, ?_⟩, ?_⟩
   | refine ⟨⟨_, ah, ?_⟩, ?_⟩
   | refine ⟨⟨_, ae (by first | assumption | (intro e; exact absurd e.symm (by assumption))) ah, ?_⟩, ?_⟩
   | refine ⟨⟨_, ae (by first | assumption | (intro e; exact absurd e.symm (by assumption))) (ae (by first | assumption | (intro e; exact absurd e.symm (by assumption))) ah), ?_⟩, ?_⟩
   | refine ⟨⟨_, ae (by first | assumption | (intro e; exact absurd e.symm (by assumption))) (ae (by first | assumption | (intro e; exact absurd e.symm (by assumption))) (ae (by first | assumption | (intro e; exact absurd e.symm (by assumption))) ah)), ?_⟩, ?_⟩
   | refine ⟨⟨_, ae (by first | assumption | (intro e; exact absurd e.symm (by assumption))) (ae (by first | assumption | (intro e; exact absurd e.symm (by assumption))) (ae (by first | assumption | (intro e; exact absurd e.symm (by assumption))) (ae (by first | assumption | (intro e; exact absurd e.symm (by assumption))) ah))), ?_⟩, ?_⟩
   | exact .nil _ _
   | exact .rd _ _ _
   | refine LeL.cons ?_ ?_
   | exact LeL.nil
   | refine Le1.of_eq ?_))
  refine wX (d := 35) (u := .v (.string (mkB [106, 111, 98, 61, 34, 120]))) rfl rfl (iq (mq rfl rfl (Nat.le_of_ble_eq_true (by kernel_rfl))) (by kernel_rfl)) ?_
  refine wX (d := 36) (u := .v (.string (mkB g8))) rfl rfl (iq (mq rfl rfl (Nat.le_of_ble_eq_true (by kernel_rfl))) (by kernel_rfl)) ?_
  refine wX (d := 37) (u := .sl true 1 [[.v (.string (mkB g8))]]) rfl rfl (iq (aX (T := TT) rfl rfl rfl rfl rfl rfl rfl) rfl) ?_
  refine Ot (iJ (T := TT) (m := [[.v (.string (mkB g8))]]) (sz := 1) rfl rfl rfl (.inr ⟨_, rfl⟩) rfl rfl (fun F X a hs => wV (fun r hr u hu => by simp at hr; subst hr; simp at hu; subst hu; rfl) X a (Rel.own (o := true) (aT hs rfl))) (by decide) rfl ?_)
  refine ND (σ' := ⟨54, [(0, .sl false 2 [[.v (.string (mkB nameB)), .v (.string (mkB upB))], [.v (.string (mkB jobB)), .v (.string (mkB [120]))]]), (5, .v (.string (mkB upB))), (17, .sl false 2 [[.v (.string (mkB nameB)), .v (.string (mkB upB))], [.v (.string (mkB jobB)), .v (.string (mkB [120]))]]), (18, .v (.int .i64 2)), (19, .v (.int .i64 1)), (38, .sl false 1 [[.v (.string (mkB g8))]])], [], []⟩) ⟨rfl, ?_, ?_, rfl⟩ ?_
  ·(repeat' (first
   | exact trivial
   | exact LeL.refl _
   | exact .refl _
   | refine ⟨⟨_, rfl, ?_⟩, ?_⟩
   | refine ⟨⟨_, ah, ?_⟩, ?_⟩
   | refine ⟨⟨_, ae (by first | assumption | (intro e; exact absurd e.symm (by assumption))) ah, ?_⟩, ?_⟩
   | refine ⟨⟨_, ae (by first | assumption | (intro e; exact absurd e.symm (by assumption))) (ae (by first | assumption | (intro e; exact absurd e.symm (by assumption))) ah), ?_⟩, ?_⟩
   | refine ⟨⟨_, ae (by first | assumption | (intro e; exact absurd e.symm (by assumption))) (ae (by first | assumption | (intro e; exact absurd e.symm (by assumption))) (ae (by first | assumption | (intro e; exact absurd e.symm (by assumption))) ah)), ?_⟩, ?_⟩
   | refine ⟨⟨_, ae (by first | assumption | (intro e; exact absurd e.symm (by assumption))) (ae (by first | assumption | (intro e; exact absurd e.symm (by assumption))) (ae (by first | assumption | (intro e; exact absurd e.symm (by assumption))) (ae (by first | assumption | (intro e; exact absurd e.symm (by assumption))) ah))), ?_⟩, ?_⟩
   | exact .nil _ _
   | exact .rd _ _ _
   | refine LeL.cons ?_ ?_
   | exact LeL.nil
   | refine Le1.of_eq ?_))
  ·(repeat' (first
   | exact trivial
   | exact LeL.refl _
   | exact .refl _
   | refine ⟨⟨_, rfl, ?_⟩, ?_⟩
   | refine ⟨⟨_, ah, ?_⟩, ?_⟩
   | refine ⟨⟨_, ae (by first | assumption | (intro e; exact absurd e.symm (by assumption))) ah, ?_⟩, ?_⟩
   | refine ⟨⟨_, ae (by first | assumption | (intro e; exact absurd e.symm (by assumption))) (ae (by first | assumption | (intro e; exact absurd e.symm (by assumption))) ah), ?_⟩, ?_⟩
   | refine ⟨⟨_, ae (by first | assumption | (intro e; exact absurd e.symm (by assumption))) (ae (by first | assumption | (intro e; exact absurd e.symm (by assumption))) (ae (by first | assumption | (intro e; exact absurd e.symm (by assumption))) ah)), ?_⟩, ?_⟩
   | refine ⟨⟨_, ae (by first | assumption | (intro e; exact absurd e.symm (by assumption))) (ae (by first | assumption | (intro e; exact absurd e.symm (by assumption))) (ae (by first | assumption | (intro e; exact absurd e.symm (by assumption))) (ae (by first | assumption | (intro e; exact absurd e.symm (by assumption))) ah))), ?_⟩, ?_⟩
   | exact .nil _ _
   | exact .rd _ _ _
   | refine LeL.cons ?_ ?_
   | exact LeL.nil
   | refine Le1.of_eq ?_))
  refine wX (d := 6) (u := .sl false 1 [[.v (.string (mkB g8))]]) rfl rfl (eQ (u := .sl false 1 [[.v (.string (mkB g8))]]) rfl (.inr rfl)) ?_
  refine PK (gi ?_)
  refine PI (σ' := ⟨54, [(0, .sl false 2 [[.v (.string (mkB nameB)), .v (.string (mkB upB))], [.v (.string (mkB jobB)), .v (.string (mkB [120]))]]), (5, .v (.string (mkB upB))), (17, .sl false 2 [[.v (.string (mkB nameB)), .v (.string (mkB upB))], [.v (.string (mkB jobB)), .v (.string (mkB [120]))]]), (18, .v (.int .i64 2)), (19, .v (.int .i64 1)), (6, .sl false 1 [[.v (.string (mkB g8))]])], [], []⟩) ⟨rfl, ?_, ?_, rfl⟩ ?_
  ·(repeat' (first
   | exact trivial
   | exact LeL.refl _
   | exact .refl _
   | refine ⟨⟨_, rfl, ?_⟩, ?_⟩
   | refine ⟨⟨_, ah, ?_⟩, ?_⟩
   | refine ⟨⟨_, ae (by first | assumption | (intro e; exact absurd e.symm (by assumption))) ah, ?_⟩, ?_⟩
   | refine ⟨⟨_, ae (by first | assumption | (intro e; exact absurd e.symm (by assumption))) (ae (by first | assumption | (intro e; exact absurd e.symm (by assumption))) ah), ?_⟩, ?_⟩
   | refine ⟨⟨_, ae (by first | assumption | (intro e; exact absurd e.symm (by assumption))) (ae (by first | assumption | (intro e; exact absurd e.symm (by assumption))) (ae (by first | assumption | (intro e; exact absurd e.symm (by assumption))) ah)), ?_⟩, ?_⟩
   | refine ⟨⟨_, ae (by first | assumption | (intro e; exact absurd e.symm (by assumption))) (ae (by first | assumption | (intro e; exact absurd e.symm (by assumption))) (ae (by first | assumption | (intro e; exact absurd e.symm (by assumption))) (ae (by first | assumption | (intro e; exact absurd e.symm (by assumption))) ah))), ?_⟩, ?_⟩
   | exact .nil _ _
   | exact .rd _ _ _
   | refine LeL.cons ?_ ?_
   | exact LeL.nil
   | refine Le1.of_eq ?_))
  ·(repeat' (first
   | exact trivial
   | exact LeL.refl _
   | exact .refl _
   | refine ⟨⟨_, rfl, ?_⟩, ?_⟩
   | refine ⟨⟨_, ah, ?_⟩, ?_⟩
   | refine ⟨⟨_, ae (by first | assumption | (intro e; exact absurd e.symm (by assumption))) ah, ?_⟩, ?_⟩
   | refine ⟨⟨_, ae (by first | assumption | (intro e; exact absurd e.symm (by assumption))) (ae (by first | assumption | (intro e; exact absurd e.symm (by assumption))) ah), ?_⟩, ?_⟩
   | refine ⟨⟨_, ae (by first | assumption | (intro e; exact absurd e.symm (by assumption))) (ae (by first | assumption | (intro e; exact absurd e.symm (by assumption))) (ae (by first | assumption | (intro e; exact absurd e.symm (by assumption))) ah)), ?_⟩, ?_⟩
   | refine ⟨⟨_, ae (by first | assumption | (intro e; exact absurd e.symm (by assumption))) (ae (by first | assumption | (intro e; exact absurd e.symm (by assumption))) (ae (by first | assumption | (intro e; exact absurd e.symm (by assumption))) (ae (by first | assumption | (intro e; exact absurd e.symm (by assumption))) ah))), ?_⟩, ?_⟩
   | exact .nil _ _
   | exact .rd _ _ _
   | refine LeL.cons ?_ ?_
   | exact LeL.nil
   | refine Le1.of_eq ?_))
  repeat (first
   | ((first | apply i5 | apply gI); (next => (first | (simp only [go_sem, Nat.reduceBEq, Nat.reduceEqDiff, reduceIte, reduceCtorEq, String.reduceEq, Nat.reduceAdd, Int.reduceToNat]; exact rfl) | exact rfl)))
   | (refine arC .ret ?_; refine lT [2, 3] ?_)
   | (apply d8 rfl rfl rfl rfl; (next => (first
    | (refine dt (T := TT) rfl ?_; (first | exact trivial | omega | (simp [NFL] <;> omega)))
    | (apply opk ⟨_, .move _, _, _, _, _⟩; first | exact bh (ba _) (.inl rfl) | fail)
    | (apply opk ⟨_, .binOp .add _ _ _ _, _, _, _, _⟩; first | exact aM rfl rfl rfl | fail)
    | (apply opk ⟨_, .binOp .eql _ _ _ _, _, _, _, _⟩; first
     | (refine bt rfl rfl rfl ?_; (next => (first | exact rfl | (simp only [bb]; omega) | (simp only [bb]; simp [NFL] <;> omega))))
     | (refine bq rfl rfl rfl ?_; (next => (first | exact rfl | (simp only [bb]; omega) | (simp only [bb]; simp [NFL] <;> omega))))
     | exact aM rfl rfl rfl
     | (refine dF rfl rfl rfl ?_; (next => (first | rfl | assumption)))
     | (refine dE rfl rfl rfl ?_; (next => (first | rfl | assumption)))
     | exact bo rfl rfl rfl
     | fail)
    | (apply opk ⟨_, .binOp .neq _ _ _ _, _, _, _, _⟩; first
     | (refine bt rfl rfl rfl ?_; (next => (first | exact rfl | (simp only [bb]; omega) | (simp only [bb]; simp [NFL] <;> omega))))
     | (refine bq rfl rfl rfl ?_; (next => (first | exact rfl | (simp only [bb]; omega) | (simp only [bb]; simp [NFL] <;> omega))))
     | exact aM rfl rfl rfl
     | (refine jH rfl rfl rfl ?_; (next => (first | rfl | assumption)))
     | (refine j9 rfl rfl rfl ?_; (next => (first | rfl | assumption)))
     | exact bo rfl rfl rfl
     | fail)
    | (apply opk ⟨_, .binOp .lss _ _ _ _, _, _, _, _⟩; first
     | (refine bt rfl rfl rfl ?_; (next => (first | exact rfl | (simp only [bb]; omega) | (simp only [bb]; simp [NFL] <;> omega))))
     | (refine bq rfl rfl rfl ?_; (next => (first | exact rfl | (simp only [bb]; omega) | (simp only [bb]; simp [NFL] <;> omega))))
     | exact aM rfl rfl rfl
     | exact bo rfl rfl rfl
     | fail)
    | (apply opk ⟨_, .call { callee := .builtin .len, args := _, argTypes := _ }, _, _, _, _⟩; first
     | exact fU (T := TT) rfl rfl rfl
     | exact fD (T := TT) rfl rfl rfl
     | exact dh (T := TT) rfl rfl rfl
     | fail)
    | (apply opk ⟨_, .indexAddr _ _ _, _, _, _, _⟩; first
     | (refine dv (T := TT) rfl rfl rfl rfl ?_ ?_; (next => (first | omega | (simp [NFL] <;> omega))); (next => (first | omega | (simp [NFL] <;> omega))))
     | (refine dQ (T := TT) rfl rfl rfl rfl ?_ ?_; (next => (first | omega | (simp [NFL] <;> omega))); (next => (first | omega | (simp [NFL] <;> omega))))
     | fail)
    | (apply opk ⟨_, .fieldAddr _ _ _, _, _, _, _⟩; first
     | exact eS (T := TT) rfl rfl rfl rfl rfl rfl
     | exact cq (T := TT) rfl rfl rfl rfl rfl
     | fail)
    | (apply opk ⟨_, .load _ _, _, _, _, _⟩; first | exact fI (T := TT) rfl rfl rfl | exact eR (T := TT) rfl rfl rfl rfl | fail)
    | (apply opk ⟨_, .buildSlice _ _ _, _, _, _, _⟩; first | exact aX (T := TT) rfl rfl rfl rfl rfl rfl rfl | fail)
    | (apply opk ⟨_, .pick _ _ _, _, _, _, _⟩; first
     | (refine fd rfl ?_ rfl; (next => (first | rfl | assumption)))
     | (refine eY rfl ?_ rfl; (next => (first | rfl | assumption)))
     | fail)
    | fail)))
   | (refine arO _ ?_; first
    | (refine arO ⟨_, .move _, _, _, _, _⟩ ?_; first | refine cI rfl rfl rfl rfl ?_ | fail)
    | (refine arO ⟨_, .assign _, _, _, _, _⟩ ?_; first
     | refine ca rfl rfl rfl rfl ?_
     | refine kS rfl rfl rfl rfl (bh (ba _) (.inr rfl)) ?_
     | fail)
    | (refine arO ⟨_, .load _ _, _, _, _, _⟩ ?_; first
     | refine bJ (T := TT) rfl rfl rfl rfl ah rfl rfl rfl rfl ?_
     | (refine bJ (T := TT) rfl rfl rfl rfl (ae ?_ ah) rfl rfl rfl rfl ?_; (next => (first | assumption | (intro e; exact absurd e.symm (by assumption)))))
     | (refine bJ (T := TT) rfl rfl rfl rfl (ae ?_ (ae ?_ ah)) rfl rfl rfl rfl ?_; (next => (first | assumption | (intro e; exact absurd e.symm (by assumption)))); (next => (first | assumption | (intro e; exact absurd e.symm (by assumption)))))
     | fail)
    | (refine arO ⟨_, .call { callee := .builtin .append, args := _, argTypes := _ }, _, _, _, _⟩ ?_; first
     | (apply dx rfl rfl; (next => (first
      | (apply ap (T := TT) rfl rfl rfl rfl rfl rfl rfl rfl rfl rfl; (next => (first | exact trivial | exact ai _ | assumption | (simp [aH, AV.one, AV.rd, AV.cells, cst, Value.oneCell'] <;> omega))); (next => (first | omega | (simp [NFL] <;> omega))))
      | (apply ap (T := TT) rfl (eE ah rfl) rfl rfl rfl rfl rfl rfl rfl rfl; (next => (first | exact trivial | exact ai _ | assumption | (simp [aH, AV.one, AV.rd, AV.cells, cst, Value.oneCell'] <;> omega))); (next => (first | omega | (simp [NFL] <;> omega))))
      | (apply ap (T := TT) rfl (eE (ae (by first | assumption | (intro e; exact absurd e.symm (by assumption))) ah) rfl) rfl rfl rfl rfl rfl rfl rfl rfl; (next => (first | exact trivial | exact ai _ | assumption | (simp [aH, AV.one, AV.rd, AV.cells, cst, Value.oneCell'] <;> omega))); (next => (first | omega | (simp [NFL] <;> omega))))
      | (apply a6 (T := TT) rfl rfl rfl rfl rfl rfl rfl rfl rfl; (next => (first | exact trivial | exact ai _ | assumption | (simp [aH, AV.one, AV.rd, AV.cells, cst, Value.oneCell'] <;> omega))); (next => (first | omega | (simp [NFL] <;> omega))))
      | fail)))
     | fail)
    | (refine arO ⟨_, .store _ _ _, _, _, _, _⟩ ?_; first
     | (apply dx rfl rfl; (next => (first
      | (apply dA (T := TT) rfl rfl rfl; (next => (first
       | rfl
       | exact ah
       | assumption
       | ((repeat (first | exact ah | assumption | (apply ae; (next => (first | assumption | (intro e; exact absurd e.symm (by assumption)) | fail))) | fail)); done)
       | fail)); (next => rfl); (next => rfl); (next => rfl))
      | (apply cT (T := TT) rfl; (next => (first
       | rfl
       | exact ah
       | assumption
       | ((repeat (first | exact ah | assumption | (apply ae; (next => (first | assumption | (intro e; exact absurd e.symm (by assumption)) | fail))) | fail)); done)
       | fail)); (next => rfl); (next => rfl); (next => rfl); (next => rfl); (next => rfl); (next => rfl); (next => rfl); (next => rfl))
      | fail)))
     | fail)
    | (refine arO ⟨_, .alloc _, _, _, _, _⟩ ?_; first
     | (refine dz rfl rfl (gG (T := TT) rfl rfl ?_); intro kb hkb; (repeat (have hkn := (ez hkb).1; replace hkb := (ez hkb).2)); (try have hkl := fK hkb); clear hkb; refine yw ?_)
     | fail)
    | fail)
   | refine fe rfl rfl rfl rfl ?_
   | refine fE ?_
   | (refine arE ?_; refine ek [0, 2, 3, 4, 5, 6, 8, 13, 17, 18, 19, 20, 25, 46] rfl ?_)
   | refine cH ?_
   | refine dZ ?_
   | refine eF ?_
   | refine gi ?_
   | refine ep rfl ?_
   | (refine arC (.cond _ _ _) ?_; first
    | (refine bC rfl ?_ ?_; (next => (first | rfl | (simp only [decide_eq_true_eq, beq_iff_eq, bne_iff_ne, ge_iff_le, gt_iff_lt, ne_eq, Bool.not_eq_true', decide_eq_false_iff_not]; omega))))
    | (refine be rfl ?_ ?_; (next => (first
     | rfl
     | (simp only [decide_eq_false_iff_not, beq_eq_false_iff_ne, bne_eq_false_iff_eq, ge_iff_le, gt_iff_lt, ne_eq, Bool.not_eq_false', decide_eq_true_eq]; omega))))
    | fail)
   | refine eW ?_
   | refine dD ?_
   | refine da rfl ?_
   | refine cY ?_
   | refine cX ?_
   | (refine arC .ret ?_; refine eV [2, 3] ?_)
   | refine dI ?_
   | refine dH ?_
   | refine dG ?_
   | refine fi ?_
   | fail)
  refine AM ⟨2, ⟨rfl, ?_, ?_, rfl⟩, by omega, by omega⟩
  ·(repeat' (first
   | exact trivial
   | exact LeL.refl _
   | exact .refl _
   | refine ⟨⟨_, rfl, ?_⟩, ?_⟩
   | refine ⟨⟨_, ah, ?_⟩, ?_⟩
   | refine ⟨⟨_, ae (by first | assumption | (intro e; exact absurd e.symm (by assumption))) ah, ?_⟩, ?_⟩
   | refine ⟨⟨_, ae (by first | assumption | (intro e; exact absurd e.symm (by assumption))) (ae (by first | assumption | (intro e; exact absurd e.symm (by assumption))) ah), ?_⟩, ?_⟩
   | refine ⟨⟨_, ae (by first | assumption | (intro e; exact absurd e.symm (by assumption))) (ae (by first | assumption | (intro e; exact absurd e.symm (by assumption))) (ae (by first | assumption | (intro e; exact absurd e.symm (by assumption))) ah)), ?_⟩, ?_⟩
   | refine ⟨⟨_, ae (by first | assumption | (intro e; exact absurd e.symm (by assumption))) (ae (by first | assumption | (intro e; exact absurd e.symm (by assumption))) (ae (by first | assumption | (intro e; exact absurd e.symm (by assumption))) (ae (by first | assumption | (intro e; exact absurd e.symm (by assumption))) ah))), ?_⟩, ?_⟩
   | exact .nil _ _
   | exact .rd _ _ _
   | refine LeL.cons ?_ ?_
   | exact LeL.nil
   | refine Le1.of_eq ?_))
  ·(repeat' (first
   | exact trivial
   | exact LeL.refl _
   | exact .refl _
   | refine ⟨⟨_, rfl, ?_⟩, ?_⟩
   | refine ⟨⟨_, ah, ?_⟩, ?_⟩
   | refine ⟨⟨_, ae (by first | assumption | (intro e; exact absurd e.symm (by assumption))) ah, ?_⟩, ?_⟩
   | refine ⟨⟨_, ae (by first | assumption | (intro e; exact absurd e.symm (by assumption))) (ae (by first | assumption | (intro e; exact absurd e.symm (by assumption))) ah), ?_⟩, ?_⟩
   | refine ⟨⟨_, ae (by first | assumption | (intro e; exact absurd e.symm (by assumption))) (ae (by first | assumption | (intro e; exact absurd e.symm (by assumption))) (ae (by first | assumption | (intro e; exact absurd e.symm (by assumption))) ah)), ?_⟩, ?_⟩
   | refine ⟨⟨_, ae (by first | assumption | (intro e; exact absurd e.symm (by assumption))) (ae (by first | assumption | (intro e; exact absurd e.symm (by assumption))) (ae (by first | assumption | (intro e; exact absurd e.symm (by assumption))) (ae (by first | assumption | (intro e; exact absurd e.symm (by assumption))) ah))), ?_⟩, ?_⟩
   | exact .nil _ _
   | exact .rd _ _ _
   | refine LeL.cons ?_ ?_
   | exact LeL.nil
   | refine Le1.of_eq ?_))
 ·simp only [AK, Jy]
  repeat (first
   | ((first | apply i5 | apply gI); (next => (first | (simp only [go_sem, Nat.reduceBEq, Nat.reduceEqDiff, reduceIte, reduceCtorEq, String.reduceEq, Nat.reduceAdd, Int.reduceToNat]; exact rfl) | exact rfl)))
   | (refine arC .ret ?_; refine lT [2, 3] ?_)
   | (refine d8 rfl rfl rfl rfl (mq rfl rfl (Nat.le_of_ble_eq_true (by kernel_rfl))) ?_)
   | (apply d8 rfl rfl rfl rfl; (next => (first
    | (refine dt (T := TT) rfl ?_; (first | exact trivial | omega | (simp [NFL] <;> omega)))
    | (apply opk ⟨_, .move _, _, _, _, _⟩; first | exact bh (ba _) (.inl rfl) | fail)
    | (apply opk ⟨_, .binOp .add _ _ _ _, _, _, _, _⟩; first | exact aM rfl rfl rfl | fail)
    | (apply opk ⟨_, .binOp .eql _ _ _ _, _, _, _, _⟩; first
     | (refine bt rfl rfl rfl ?_; (next => (first | exact rfl | (simp only [bb]; omega) | (simp only [bb]; simp [NFL] <;> omega))))
     | (refine bq rfl rfl rfl ?_; (next => (first | exact rfl | (simp only [bb]; omega) | (simp only [bb]; simp [NFL] <;> omega))))
     | exact aM rfl rfl rfl
     | (refine dF rfl rfl rfl ?_; (next => (first | rfl | assumption)))
     | (refine dE rfl rfl rfl ?_; (next => (first | rfl | assumption)))
     | exact bo rfl rfl rfl
     | fail)
    | (apply opk ⟨_, .binOp .neq _ _ _ _, _, _, _, _⟩; first
     | (refine bt rfl rfl rfl ?_; (next => (first | exact rfl | (simp only [bb]; omega) | (simp only [bb]; simp [NFL] <;> omega))))
     | (refine bq rfl rfl rfl ?_; (next => (first | exact rfl | (simp only [bb]; omega) | (simp only [bb]; simp [NFL] <;> omega))))
     | exact aM rfl rfl rfl
     | (refine jH rfl rfl rfl ?_; (next => (first | rfl | assumption)))
     | (refine j9 rfl rfl rfl ?_; (next => (first | rfl | assumption)))
     | exact bo rfl rfl rfl
     | fail)
    | (apply opk ⟨_, .binOp .lss _ _ _ _, _, _, _, _⟩; first
     | (refine bt rfl rfl rfl ?_; (next => (first | exact rfl | (simp only [bb]; omega) | (simp only [bb]; simp [NFL] <;> omega))))
     | (refine bq rfl rfl rfl ?_; (next => (first | exact rfl | (simp only [bb]; omega) | (simp only [bb]; simp [NFL] <;> omega))))
     | exact aM rfl rfl rfl
     | exact bo rfl rfl rfl
     | fail)
    | (apply opk ⟨_, .call { callee := .builtin .len, args := _, argTypes := _ }, _, _, _, _⟩; first
     | exact fU (T := TT) rfl rfl rfl
     | exact fD (T := TT) rfl rfl rfl
     | exact dh (T := TT) rfl rfl rfl
     | fail)
    | (apply opk ⟨_, .indexAddr _ _ _, _, _, _, _⟩; first
     | (refine dv (T := TT) rfl rfl rfl rfl ?_ ?_; (next => (first | omega | (simp [NFL] <;> omega))); (next => (first | omega | (simp [NFL] <;> omega))))
     | (refine dQ (T := TT) rfl rfl rfl rfl ?_ ?_; (next => (first | omega | (simp [NFL] <;> omega))); (next => (first | omega | (simp [NFL] <;> omega))))
     | fail)
    | (apply opk ⟨_, .fieldAddr _ _ _, _, _, _, _⟩; first
     | exact eS (T := TT) rfl rfl rfl rfl rfl rfl
     | exact cq (T := TT) rfl rfl rfl rfl rfl
     | fail)
    | (apply opk ⟨_, .load _ _, _, _, _, _⟩; first | exact fI (T := TT) rfl rfl rfl | exact eR (T := TT) rfl rfl rfl rfl | fail)
    | (apply opk ⟨_, .buildSlice _ _ _, _, _, _, _⟩; first | exact aX (T := TT) rfl rfl rfl rfl rfl rfl rfl | fail)
    | (apply opk ⟨_, .pick _ _ _, _, _, _, _⟩; first
     | (refine fd rfl ?_ rfl; (next => (first | rfl | assumption)))
     | (refine eY rfl ?_ rfl; (next => (first | rfl | assumption)))
     | fail)
    | fail)))
   | (refine arO _ ?_; first
    | (refine arO ⟨_, .move _, _, _, _, _⟩ ?_; first | refine cI rfl rfl rfl rfl ?_ | fail)
    | (refine arO ⟨_, .assign _, _, _, _, _⟩ ?_; first
     | refine ca rfl rfl rfl rfl ?_
     | refine kS rfl rfl rfl rfl (bh (ba _) (.inr rfl)) ?_
     | fail)
    | (refine arO ⟨_, .load _ _, _, _, _, _⟩ ?_; first
     | refine bJ (T := TT) rfl rfl rfl rfl ah rfl rfl rfl rfl ?_
     | (refine bJ (T := TT) rfl rfl rfl rfl (ae ?_ ah) rfl rfl rfl rfl ?_; (next => (first | assumption | (intro e; exact absurd e.symm (by assumption)))))
     | (refine bJ (T := TT) rfl rfl rfl rfl (ae ?_ (ae ?_ ah)) rfl rfl rfl rfl ?_; (next => (first | assumption | (intro e; exact absurd e.symm (by assumption)))); (next => (first | assumption | (intro e; exact absurd e.symm (by assumption)))))
     | fail)
    | (refine arO ⟨_, .call { callee := .builtin .append, args := _, argTypes := _ }, _, _, _, _⟩ ?_; first
     | (apply dx rfl rfl; (next => (first
      | (apply ap (T := TT) rfl rfl rfl rfl rfl rfl rfl rfl rfl rfl; (next => (first | exact trivial | exact ai _ | assumption | (simp [aH, AV.one, AV.rd, AV.cells, cst, Value.oneCell'] <;> omega))); (next => (first | omega | (simp [NFL] <;> omega))))
      | (apply ap (T := TT) rfl (eE ah rfl) rfl rfl rfl rfl rfl rfl rfl rfl; (next => (first | exact trivial | exact ai _ | assumption | (simp [aH, AV.one, AV.rd, AV.cells, cst, Value.oneCell'] <;> omega))); (next => (first | omega | (simp [NFL] <;> omega))))
      | (apply ap (T := TT) rfl (eE (ae (by first | assumption | (intro e; exact absurd e.symm (by assumption))) ah) rfl) rfl rfl rfl rfl rfl rfl rfl rfl; (next => (first | exact trivial | exact ai _ | assumption | (simp [aH, AV.one, AV.rd, AV.cells, cst, Value.oneCell'] <;> omega))); (next => (first | omega | (simp [NFL] <;> omega))))
      | (apply a6 (T := TT) rfl rfl rfl rfl rfl rfl rfl rfl rfl; (next => (first | exact trivial | exact ai _ | assumption | (simp [aH, AV.one, AV.rd, AV.cells, cst, Value.oneCell'] <;> omega))); (next => (first | omega | (simp [NFL] <;> omega))))
      | fail)))
     | fail)
    | (refine arO ⟨_, .store _ _ _, _, _, _, _⟩ ?_; first
     | (apply dx rfl rfl; (next => (first
      | (apply dA (T := TT) rfl rfl rfl; (next => (first
       | rfl
       | exact ah
       | assumption
       | ((repeat (first | exact ah | assumption | (apply ae; (next => (first | assumption | (intro e; exact absurd e.symm (by assumption)) | fail))) | fail)); done)
       | fail)); (next => rfl); (next => rfl); (next => rfl))
      | (apply cT (T := TT) rfl; (next => (first
       | rfl
       | exact ah
       | assumption
       | ((repeat (first | exact ah | assumption | (apply ae; (next => (first | assumption | (intro e; exact absurd e.symm (by assumption)) | fail))) | fail)); done)
       | fail)); (next => rfl); (next => rfl); (next => rfl); (next => rfl); (next => rfl); (next => rfl); (next => rfl); (next => rfl))
      | fail)))
     | fail)
    | (refine arO ⟨_, .alloc _, _, _, _, _⟩ ?_; first
     | (refine dz rfl rfl (gG (T := TT) rfl rfl ?_); intro kb hkb; (repeat (have hkn := (ez hkb).1; replace hkb := (ez hkb).2)); (try have hkl := fK hkb); clear hkb; refine yw ?_)
     | fail)
    | (refine arO ⟨_, .call { callee := .value _, args := _, argTypes := _ }, _, _, _, _⟩ ?_; first
     | (apply pG rfl (hjo) rfl rfl; (next => (repeat (first
      | exact PArgs.nil
      | (apply PArgs.cons; (next => (first
       | exact PArg.own rfl rfl
       | exact PArg.rd rfl (Le1.refl _) rfl
       | exact PArg.rd rfl (Le1.rd _ _ _) rfl
       | exact PArg.nil rfl
       | exact PArg.rd rfl (Le1.nil _ _) rfl
       | (refine PArg.rd rfl (Le1.of_eq ?_) rfl; congr 2 <;> (first | omega | (simp; omega) | (simp [NFL]; done))))))))); (next => rfl); (next => rfl); rintro _ _ ⟨rfl, rfl⟩; refine ⟨_, rfl, ?_⟩)
     | fail)
    | fail)
   | refine fe rfl rfl rfl rfl ?_
   | refine fE ?_
   | (refine arE ?_; refine ek [0, 2, 3, 4, 5, 6, 8, 13, 17, 18, 19, 20, 25, 46] rfl ?_)
   | refine cH ?_
   | refine dZ ?_
   | refine eF ?_
   | refine gi ?_
   | refine ep rfl ?_
   | (refine arC (.cond _ _ _) ?_; first
    | (refine bC rfl ?_ ?_; (next => (first | rfl | (simp only [decide_eq_true_eq, beq_iff_eq, bne_iff_ne, ge_iff_le, gt_iff_lt, ne_eq, Bool.not_eq_true', decide_eq_false_iff_not]; omega))))
    | (refine be rfl ?_ ?_; (next => (first
     | rfl
     | (simp only [decide_eq_false_iff_not, beq_eq_false_iff_ne, bne_eq_false_iff_eq, ge_iff_le, gt_iff_lt, ne_eq, Bool.not_eq_false', decide_eq_true_eq]; omega))))
    | fail)
   | refine eW ?_
   | refine dD ?_
   | refine da rfl ?_
   | refine cY ?_
   | refine cX ?_
   | (refine arC .ret ?_; refine eV [2, 3] ?_)
   | refine dI ?_
   | refine dH ?_
   | refine dG ?_
   | refine fi ?_
   | fail)
  first | exact qU rfl (⟨rfl, rfl⟩) | (trace_state; exact qU rfl (⟨rfl, rfl⟩))
end Go.Proofs.YtmjpdbbjiipnfaaGreat
namespace Go.Proofs.YtmjpdbbjiipnfaaGreat
open Go.RowKit P
set_option linter.unusedVariables false
def F2 : List VLabel → Bool
 | [a, b] => decide (a.Name = nameB) && decide (a.Value = upB) && (decide (b.Name = jobB) && decide (b.Value = ([120] : List UInt8)))
 | _ => false
theorem FG {l : List VLabel} (h : F2 l = true) : l = GH := by
 unfold F2 at h
 split at h
 ·rename_i a b
  simp only [Bool.and_eq_true, decide_eq_true_eq] at h
  obtain ⟨⟨h1, h2⟩, h3, h4⟩ := h
  obtain ⟨a1, a2⟩ := a
  obtain ⟨b1, b2⟩ := b
  simp only at h1 h2 h3 h4
  subst h1 h2 h3 h4
  rfl
 ·cases h
def jg (N : Nat) (l : List VLabel) : Option (List UInt8 × Int) := match F2 l with
 | true => some (upB ++ [123] ++ g8 ++ [125], 0)
 | false => none
def tO (r : List UInt8 × Int) : TV EE.T := .tu [.a (.d .str r.1), .a (.d (.int .i64) r.2)]
def jn (N : Nat) : List (TV EE.T) → PV EE.T
 | [u0] => match fj (.sl (.nam 2)) u0 with
   | some x0 => .opt (jg N x0) tO
   | _ => .bad
 | _ => .bad
theorem qF (N : Nat) (us : List (TV EE.T)) : (jn N us).ok fun u => ∀ ρ, ak Tryz.prog 22 (us.map (TV.to EE.toEnc ρ)) [] (fun out H => out = .ret (u.to EE.toEnc ρ) ∧ H = []) := by
 unfold jn
 split
 ·split
  ·rename_i u0 x0 h0
   intro z hz ρ
   unfold jg at hz
   split at hz
   ·rename_i hb
    have := FG hb
    subst this
    cases hz
    refine br (us' := ([.a (.d (.sl (.nam 2)) GH)] : List (TV EE.T))) ⟨bm h0 ρ, trivial⟩ ?_
    exact FX
   ·cases hz
  ·trivial
 ·trivial
end Go.Proofs.YtmjpdbbjiipnfaaGreat
