/- The types, as the layer of abstract values reads them. Written by gen/tys.py. -/
import Derived.Test.YtmoehipmpchofaaGB
import Derived.Test.YtmoehipmpchofaaProg
namespace Go.Proofs.Ytmoehipmpchofaa
open Go.RowKit P
def TTy : List (Nat × TypeDesc) := [(1, (.func #[] #[] false)), (2, (.int .i64)), (3, (.int .i64)), (4, .bool), (5, (.int .u8)), (6, (.int .u8)), (9, .string), (10, .string), (11, .string), (12, (.int .u64)), (15, (.pointer 119)), (16, (.pointer 122)), (17, (.pointer 132)), (20, (.interface #[])), (21, (.int .i32)), (22, (.slice 38)), (23, (.func #[] #[4] false)), (24, (.int .i64)), (25, (.func #[22] #[24] false)), (26, (.func #[22] #[4] false)), (28, (.func #[22, 9] #[22, 3, 24] false)), (29, (.func #[22, 22] #[4] false)), (30, (.func #[22, 9] #[4] false)), (31, (.slice 64)), (32, (.slice 47)), (34, (.func #[22, 31] #[32, 24] false)), (35, (.func #[31] #[24] false)), (36, (.func #[31, 31] #[4] false)), (37, (.struct #[{ name := "Labels", type := 31, offset := 0, embedded := false, tag := "", pkgPath := "", byteOffset := 0 }, { name := "Samples", type := 32, offset := 1, embedded := false, tag := "", pkgPath := "", byteOffset := 24 }])), (38, (.struct #[{ name := "Labels", type := 31, offset := 0, embedded := false, tag := "", pkgPath := "", byteOffset := 0 }, { name := "Samples", type := 32, offset := 1, embedded := false, tag := "", pkgPath := "", byteOffset := 24 }])), (39, (.func #[32, 32] #[4] false)), (40, (.func #[22, 31] #[4] false)), (42, (.func #[22] #[9, 24] false)), (43, (.func #[9] #[9, 24] false)), (44, (.func #[32, 49] #[4] false)), (45, (.int .u64)), (46, (.struct #[{ name := "Time", type := 3, offset := 0, embedded := false, tag := "", pkgPath := "", byteOffset := 0 }, { name := "Bits", type := 45, offset := 1, embedded := false, tag := "", pkgPath := "", byteOffset := 8 }])), (47, (.struct #[{ name := "Time", type := 3, offset := 0, embedded := false, tag := "", pkgPath := "", byteOffset := 0 }, { name := "Bits", type := 45, offset := 1, embedded := false, tag := "", pkgPath := "", byteOffset := 8 }])), (48, (.func #[3] #[4] false)), (49, (.func #[47] #[4] false)), (50, (.func #[31, 31] #[3] false)), (51, (.func #[22] #[22] false)), (53, (.func #[9] #[22, 4] false)), (55, (.func #[22, 31] #[3, 4] false)), (56, (.func #[22, 3, 22] #[22] true)), (57, (.func #[9, 3] #[9, 24] false)), (59, (.func #[9] #[22, 24] false)), (60, (.func #[22, 31, 47] #[22] false)), (61, (.func #[32] #[32] false)), (62, (.func #[31, 4] #[24] false)), (63, (.struct #[{ name := "Name", type := 9, offset := 0, embedded := false, tag := "", pkgPath := "", byteOffset := 0 }, { name := "Value", type := 9, offset := 1, embedded := false, tag := "", pkgPath := "", byteOffset := 16 }])), (64, (.struct #[{ name := "Name", type := 9, offset := 0, embedded := false, tag := "", pkgPath := "", byteOffset := 0 }, { name := "Value", type := 9, offset := 1, embedded := false, tag := "", pkgPath := "", byteOffset := 16 }])), (66, (.func #[9] #[45, 3, 24] false)), (67, (.func #[45] #[9] false)), (68, (.func #[3, 9] #[9] false)), (69, (.func #[47] #[9] false)), (70, (.slice 5)), (71, (.map 9 3)), (72, (.func #[70, 9] #[70] false)), (73, (.func #[70, 3, 3] #[70] false)), (74, (.func #[22, 75] #[4] false)), (75, (.func #[38] #[4] false)), (76, (.func #[31, 77] #[4] false)), (77, (.func #[64, 64] #[3] false)), (78, (.func #[32, 49] #[3] false)), (79, (.func #[31, 31, 77] #[3] false)), (80, (.func #[99] #[3] true)), (81, (.func #[9, 9] #[3] false)), (82, (.func #[31] #[31] false)), (83, (.func #[22, 31, 84] #[3, 4] false)), (84, (.func #[38, 31] #[3] false)), (85, (.func #[22, 3] #[] false)), (86, (.func #[3] #[3] false)), (87, (.slice 91)), (89, (.func #[9] #[87, 4] false)), (90, (.struct #[{ name := "Number", type := 3, offset := 0, embedded := false, tag := "", pkgPath := "", byteOffset := 0 }, { name := "Kind", type := 3, offset := 1, embedded := false, tag := "", pkgPath := "", byteOffset := 8 }, { name := "N", type := 45, offset := 2, embedded := false, tag := "", pkgPath := "", byteOffset := 16 }, { name := "Bytes", type := 9, offset := 3, embedded := false, tag := "", pkgPath := "", byteOffset := 24 }])), (91, (.struct #[{ name := "Number", type := 3, offset := 0, embedded := false, tag := "", pkgPath := "", byteOffset := 0 }, { name := "Kind", type := 3, offset := 1, embedded := false, tag := "", pkgPath := "", byteOffset := 8 }, { name := "N", type := 45, offset := 2, embedded := false, tag := "", pkgPath := "", byteOffset := 16 }, { name := "Bytes", type := 9, offset := 3, embedded := false, tag := "", pkgPath := "", byteOffset := 24 }])), (92, (.func #[9] #[4] false)), (93, (.int .u64)), (94, (.pointer 96)), (95, (.struct #[{ name := "s", type := 9, offset := 0, embedded := false, tag := "", pkgPath := "gleaner/press", byteOffset := 0 }, { name := "out", type := 70, offset := 1, embedded := false, tag := "", pkgPath := "gleaner/press", byteOffset := 16 }, { name := "most", type := 3, offset := 2, embedded := false, tag := "", pkgPath := "gleaner/press", byteOffset := 40 }])), (96, (.struct #[{ name := "s", type := 9, offset := 0, embedded := false, tag := "", pkgPath := "gleaner/press", byteOffset := 0 }, { name := "out", type := 70, offset := 1, embedded := false, tag := "", pkgPath := "gleaner/press", byteOffset := 16 }, { name := "most", type := 3, offset := 2, embedded := false, tag := "", pkgPath := "gleaner/press", byteOffset := 40 }])), (97, (.func #[22, 75] #[3] false)), (98, (.map 9 4)), (99, (.slice 3)), (100, (.struct #[])), (101, (.struct #[])), (103, (.func #[9, 108] #[] false)), (104, (.struct #[{ name := "number", type := 3, offset := 0, embedded := false, tag := "", pkgPath := "gleaner/wire", byteOffset := 0 }, { name := "kind", type := 3, offset := 1, embedded := false, tag := "", pkgPath := "gleaner/wire", byteOffset := 8 }, { name := "n", type := 45, offset := 2, embedded := false, tag := "", pkgPath := "gleaner/wire", byteOffset := 16 }, { name := "bytes", type := 9, offset := 3, embedded := false, tag := "", pkgPath := "gleaner/wire", byteOffset := 24 }])), (105, (.struct #[{ name := "number", type := 3, offset := 0, embedded := false, tag := "", pkgPath := "gleaner/wire", byteOffset := 0 }, { name := "kind", type := 3, offset := 1, embedded := false, tag := "", pkgPath := "gleaner/wire", byteOffset := 8 }, { name := "n", type := 45, offset := 2, embedded := false, tag := "", pkgPath := "gleaner/wire", byteOffset := 16 }, { name := "bytes", type := 9, offset := 3, embedded := false, tag := "", pkgPath := "gleaner/wire", byteOffset := 24 }])), (106, (.func #[3, 3] #[4] false)), (107, (.func #[9] #[38] false)), (108, (.func #[105] #[] false)), (109, (.func #[5] #[4] false)), (111, (.func #[3] #[9, 4] false)), (112, (.func #[9] #[3] false)), (113, (.func #[] #[45] false)), (114, (.func #[9] #[64] false)), (115, (.func #[9] #[47] false)), (116, (.func #[22] #[] false)), (117, (.func #[] #[9] false)), (120, (.array 0 16)), (123, (.func #[] #[3] false)), (124, (.int .u32)), (125, (.int .u8)), (126, (.int .u8)), (127, (.func #[133, 133] #[4] false)), (128, (.pointer 5)), (129, (.int .i32)), (130, (.int .i32)), (131, (.struct #[{ name := "Size_", type := 12, offset := 0, embedded := false, tag := "", pkgPath := "", byteOffset := 0 }, { name := "PtrBytes", type := 12, offset := 1, embedded := false, tag := "", pkgPath := "", byteOffset := 8 }, { name := "Hash", type := 124, offset := 2, embedded := false, tag := "", pkgPath := "", byteOffset := 16 }, { name := "TFlag", type := 125, offset := 3, embedded := false, tag := "", pkgPath := "", byteOffset := 20 }, { name := "Align_", type := 5, offset := 4, embedded := false, tag := "", pkgPath := "", byteOffset := 21 }, { name := "FieldAlign_", type := 5, offset := 5, embedded := false, tag := "", pkgPath := "", byteOffset := 22 }, { name := "Kind_", type := 126, offset := 6, embedded := false, tag := "", pkgPath := "", byteOffset := 23 }, { name := "Equal", type := 127, offset := 7, embedded := false, tag := "", pkgPath := "", byteOffset := 24 }, { name := "GCData", type := 128, offset := 8, embedded := false, tag := "", pkgPath := "", byteOffset := 32 }, { name := "Str", type := 129, offset := 9, embedded := false, tag := "", pkgPath := "", byteOffset := 40 }, { name := "PtrToThis", type := 130, offset := 10, embedded := false, tag := "", pkgPath := "", byteOffset := 44 }])), (132, (.struct #[{ name := "Size_", type := 12, offset := 0, embedded := false, tag := "", pkgPath := "", byteOffset := 0 }, { name := "PtrBytes", type := 12, offset := 1, embedded := false, tag := "", pkgPath := "", byteOffset := 8 }, { name := "Hash", type := 124, offset := 2, embedded := false, tag := "", pkgPath := "", byteOffset := 16 }, { name := "TFlag", type := 125, offset := 3, embedded := false, tag := "", pkgPath := "", byteOffset := 20 }, { name := "Align_", type := 5, offset := 4, embedded := false, tag := "", pkgPath := "", byteOffset := 21 }, { name := "FieldAlign_", type := 5, offset := 5, embedded := false, tag := "", pkgPath := "", byteOffset := 22 }, { name := "Kind_", type := 126, offset := 6, embedded := false, tag := "", pkgPath := "", byteOffset := 23 }, { name := "Equal", type := 127, offset := 7, embedded := false, tag := "", pkgPath := "", byteOffset := 24 }, { name := "GCData", type := 128, offset := 8, embedded := false, tag := "", pkgPath := "", byteOffset := 32 }, { name := "Str", type := 129, offset := 9, embedded := false, tag := "", pkgPath := "", byteOffset := 40 }, { name := "PtrToThis", type := 130, offset := 10, embedded := false, tag := "", pkgPath := "", byteOffset := 44 }]))]
def TSz : List (Nat × (Nat × Nat)) := [(1, (1, 8)), (2, (1, 8)), (3, (1, 8)), (4, (1, 1)), (5, (1, 1)), (6, (1, 1)), (9, (1, 16)), (10, (1, 16)), (11, (1, 16)), (12, (1, 8)), (15, (1, 8)), (16, (1, 8)), (17, (1, 8)), (20, (1, 16)), (21, (1, 4)), (22, (1, 24)), (23, (1, 8)), (24, (1, 8)), (25, (1, 8)), (26, (1, 8)), (28, (1, 8)), (29, (1, 8)), (30, (1, 8)), (31, (1, 24)), (32, (1, 24)), (34, (1, 8)), (35, (1, 8)), (36, (1, 8)), (37, (2, 48)), (38, (2, 48)), (39, (1, 8)), (40, (1, 8)), (42, (1, 8)), (43, (1, 8)), (44, (1, 8)), (45, (1, 8)), (46, (2, 16)), (47, (2, 16)), (48, (1, 8)), (49, (1, 8)), (50, (1, 8)), (51, (1, 8)), (53, (1, 8)), (55, (1, 8)), (56, (1, 8)), (57, (1, 8)), (59, (1, 8)), (60, (1, 8)), (61, (1, 8)), (62, (1, 8)), (63, (2, 32)), (64, (2, 32)), (66, (1, 8)), (67, (1, 8)), (68, (1, 8)), (69, (1, 8)), (70, (1, 24)), (71, (1, 8)), (72, (1, 8)), (73, (1, 8)), (74, (1, 8)), (75, (1, 8)), (76, (1, 8)), (77, (1, 8)), (78, (1, 8)), (79, (1, 8)), (80, (1, 8)), (81, (1, 8)), (82, (1, 8)), (83, (1, 8)), (84, (1, 8)), (85, (1, 8)), (86, (1, 8)), (87, (1, 24)), (89, (1, 8)), (90, (4, 40)), (91, (4, 40)), (92, (1, 8)), (93, (1, 8)), (94, (1, 8)), (95, (3, 48)), (96, (3, 48)), (97, (1, 8)), (98, (1, 8)), (99, (1, 24)), (100, (0, 0)), (101, (0, 0)), (103, (1, 8)), (104, (4, 40)), (105, (4, 40)), (106, (1, 8)), (107, (1, 8)), (108, (1, 8)), (109, (1, 8)), (111, (1, 8)), (112, (1, 8)), (113, (1, 8)), (114, (1, 8)), (115, (1, 8)), (116, (1, 8)), (117, (1, 8)), (120, (0, 0)), (123, (1, 8)), (124, (1, 4)), (125, (1, 1)), (126, (1, 1)), (127, (1, 8)), (128, (1, 8)), (129, (1, 4)), (130, (1, 4)), (131, (11, 48)), (132, (11, 48))]
def TZr : List (Nat × Value) := [(1, .nilFunc), (2, .int .i64 0), (3, .int .i64 0), (4, .bool false), (5, .int .u8 0), (6, .int .u8 0), (9, .string ByteArray.empty), (10, .string ByteArray.empty), (11, .string ByteArray.empty), (12, .int .u64 0), (15, .pointer none), (16, .pointer none), (17, .pointer none), (20, .nilIface), (21, .int .i32 0), (22, .slice none 0 0), (23, .nilFunc), (24, .int .i64 0), (25, .nilFunc), (26, .nilFunc), (28, .nilFunc), (29, .nilFunc), (30, .nilFunc), (31, .slice none 0 0), (32, .slice none 0 0), (34, .nilFunc), (35, .nilFunc), (36, .nilFunc), (37, .agg #[.slice none 0 0, .slice none 0 0]), (38, .agg #[.slice none 0 0, .slice none 0 0]), (39, .nilFunc), (40, .nilFunc), (42, .nilFunc), (43, .nilFunc), (44, .nilFunc), (45, .int .u64 0), (46, .agg #[.int .i64 0, .int .u64 0]), (47, .agg #[.int .i64 0, .int .u64 0]), (48, .nilFunc), (49, .nilFunc), (50, .nilFunc), (51, .nilFunc), (53, .nilFunc), (55, .nilFunc), (56, .nilFunc), (57, .nilFunc), (59, .nilFunc), (60, .nilFunc), (61, .nilFunc), (62, .nilFunc), (63, .agg #[.string ByteArray.empty, .string ByteArray.empty]), (64, .agg #[.string ByteArray.empty, .string ByteArray.empty]), (66, .nilFunc), (67, .nilFunc), (68, .nilFunc), (69, .nilFunc), (70, .slice none 0 0), (71, .map none), (72, .nilFunc), (73, .nilFunc), (74, .nilFunc), (75, .nilFunc), (76, .nilFunc), (77, .nilFunc), (78, .nilFunc), (79, .nilFunc), (80, .nilFunc), (81, .nilFunc), (82, .nilFunc), (83, .nilFunc), (84, .nilFunc), (85, .nilFunc), (86, .nilFunc), (87, .slice none 0 0), (89, .nilFunc), (90, .agg #[.int .i64 0, .int .i64 0, .int .u64 0, .string ByteArray.empty]), (91, .agg #[.int .i64 0, .int .i64 0, .int .u64 0, .string ByteArray.empty]), (92, .nilFunc), (93, .int .u64 0), (94, .pointer none), (95, .agg #[.string ByteArray.empty, .slice none 0 0, .int .i64 0]), (96, .agg #[.string ByteArray.empty, .slice none 0 0, .int .i64 0]), (97, .nilFunc), (98, .map none), (99, .slice none 0 0), (100, .agg #[]), (101, .agg #[]), (103, .nilFunc), (104, .agg #[.int .i64 0, .int .i64 0, .int .u64 0, .string ByteArray.empty]), (105, .agg #[.int .i64 0, .int .i64 0, .int .u64 0, .string ByteArray.empty]), (106, .nilFunc), (107, .nilFunc), (108, .nilFunc), (109, .nilFunc), (111, .nilFunc), (112, .nilFunc), (113, .nilFunc), (114, .nilFunc), (115, .nilFunc), (116, .nilFunc), (117, .nilFunc), (120, .agg #[]), (123, .nilFunc), (124, .int .u32 0), (125, .int .u8 0), (126, .int .u8 0), (127, .nilFunc), (128, .pointer none), (129, .int .i32 0), (130, .int .i32 0), (131, .agg #[.int .u64 0, .int .u64 0, .int .u32 0, .int .u8 0, .int .u8 0, .int .u8 0, .int .u8 0, .nilFunc, .pointer none, .int .i32 0, .int .i32 0]), (132, .agg #[.int .u64 0, .int .u64 0, .int .u32 0, .int .u8 0, .int .u8 0, .int .u8 0, .int .u8 0, .nilFunc, .pointer none, .int .i32 0, .int .i32 0])]
set_option maxRecDepth 100000 in
theorem TTy_ok : ∀ p ∈ TTy, Try.prog.underlying p.1 = some p.2 := by
  simp only [TTy, List.forall_mem_cons]
  exact ⟨Try.underlying1, Try.underlying2, Try.underlying3, Try.underlying4, Try.underlying5, Try.underlying6, Try.underlying9, Try.underlying10, Try.underlying11, Try.underlying12, Try.underlying15, Try.underlying16, Try.underlying17, Try.underlying20, Try.underlying21, Try.underlying22, Try.underlying23, Try.underlying24, Try.underlying25, Try.underlying26, Try.underlying28, Try.underlying29, Try.underlying30, Try.underlying31, Try.underlying32, Try.underlying34, Try.underlying35, Try.underlying36, Try.underlying37, Try.underlying38, Try.underlying39, Try.underlying40, Try.underlying42, Try.underlying43, Try.underlying44, Try.underlying45, Try.underlying46, Try.underlying47, Try.underlying48, Try.underlying49, Try.underlying50, Try.underlying51, Try.underlying53, Try.underlying55, Try.underlying56, Try.underlying57, Try.underlying59, Try.underlying60, Try.underlying61, Try.underlying62, Try.underlying63, Try.underlying64, Try.underlying66, Try.underlying67, Try.underlying68, Try.underlying69, Try.underlying70, Try.underlying71, Try.underlying72, Try.underlying73, Try.underlying74, Try.underlying75, Try.underlying76, Try.underlying77, Try.underlying78, Try.underlying79, Try.underlying80, Try.underlying81, Try.underlying82, Try.underlying83, Try.underlying84, Try.underlying85, Try.underlying86, Try.underlying87, Try.underlying89, Try.underlying90, Try.underlying91, Try.underlying92, Try.underlying93, Try.underlying94, Try.underlying95, Try.underlying96, Try.underlying97, Try.underlying98, Try.underlying99, Try.underlying100, Try.underlying101, Try.underlying103, Try.underlying104, Try.underlying105, Try.underlying106, Try.underlying107, Try.underlying108, Try.underlying109, Try.underlying111, Try.underlying112, Try.underlying113, Try.underlying114, Try.underlying115, Try.underlying116, Try.underlying117, Try.underlying120, Try.underlying123, Try.underlying124, Try.underlying125, Try.underlying126, Try.underlying127, Try.underlying128, Try.underlying129, Try.underlying130, Try.underlying131, Try.underlying132, by simp⟩
set_option maxRecDepth 100000 in
theorem TSz_ok : (TSz.all fun p => (Try.prog.info? p.1).any fun i => i.size == p.2.1 && i.bytes == p.2.2 && i.zero.any (fun z => z.cells.size == p.2.1)) = true := by kernel_rfl
set_option maxRecDepth 100000 in
theorem TZr_1 : (Try.prog.info? 1).bind (·.zero) = some (.nilFunc) := by kernel_rfl
set_option maxRecDepth 100000 in
theorem TZr_2 : (Try.prog.info? 2).bind (·.zero) = some (.int .i64 0) := by kernel_rfl
set_option maxRecDepth 100000 in
theorem TZr_3 : (Try.prog.info? 3).bind (·.zero) = some (.int .i64 0) := by kernel_rfl
set_option maxRecDepth 100000 in
theorem TZr_4 : (Try.prog.info? 4).bind (·.zero) = some (.bool false) := by kernel_rfl
set_option maxRecDepth 100000 in
theorem TZr_5 : (Try.prog.info? 5).bind (·.zero) = some (.int .u8 0) := by kernel_rfl
set_option maxRecDepth 100000 in
theorem TZr_6 : (Try.prog.info? 6).bind (·.zero) = some (.int .u8 0) := by kernel_rfl
set_option maxRecDepth 100000 in
theorem TZr_9 : (Try.prog.info? 9).bind (·.zero) = some (.string ByteArray.empty) := by kernel_rfl
set_option maxRecDepth 100000 in
theorem TZr_10 : (Try.prog.info? 10).bind (·.zero) = some (.string ByteArray.empty) := by kernel_rfl
set_option maxRecDepth 100000 in
theorem TZr_11 : (Try.prog.info? 11).bind (·.zero) = some (.string ByteArray.empty) := by kernel_rfl
set_option maxRecDepth 100000 in
theorem TZr_12 : (Try.prog.info? 12).bind (·.zero) = some (.int .u64 0) := by kernel_rfl
set_option maxRecDepth 100000 in
theorem TZr_15 : (Try.prog.info? 15).bind (·.zero) = some (.pointer none) := by kernel_rfl
set_option maxRecDepth 100000 in
theorem TZr_16 : (Try.prog.info? 16).bind (·.zero) = some (.pointer none) := by kernel_rfl
set_option maxRecDepth 100000 in
theorem TZr_17 : (Try.prog.info? 17).bind (·.zero) = some (.pointer none) := by kernel_rfl
set_option maxRecDepth 100000 in
theorem TZr_20 : (Try.prog.info? 20).bind (·.zero) = some (.nilIface) := by kernel_rfl
set_option maxRecDepth 100000 in
theorem TZr_21 : (Try.prog.info? 21).bind (·.zero) = some (.int .i32 0) := by kernel_rfl
set_option maxRecDepth 100000 in
theorem TZr_22 : (Try.prog.info? 22).bind (·.zero) = some (.slice none 0 0) := by kernel_rfl
set_option maxRecDepth 100000 in
theorem TZr_23 : (Try.prog.info? 23).bind (·.zero) = some (.nilFunc) := by kernel_rfl
set_option maxRecDepth 100000 in
theorem TZr_24 : (Try.prog.info? 24).bind (·.zero) = some (.int .i64 0) := by kernel_rfl
set_option maxRecDepth 100000 in
theorem TZr_25 : (Try.prog.info? 25).bind (·.zero) = some (.nilFunc) := by kernel_rfl
set_option maxRecDepth 100000 in
theorem TZr_26 : (Try.prog.info? 26).bind (·.zero) = some (.nilFunc) := by kernel_rfl
set_option maxRecDepth 100000 in
theorem TZr_28 : (Try.prog.info? 28).bind (·.zero) = some (.nilFunc) := by kernel_rfl
set_option maxRecDepth 100000 in
theorem TZr_29 : (Try.prog.info? 29).bind (·.zero) = some (.nilFunc) := by kernel_rfl
set_option maxRecDepth 100000 in
theorem TZr_30 : (Try.prog.info? 30).bind (·.zero) = some (.nilFunc) := by kernel_rfl
set_option maxRecDepth 100000 in
theorem TZr_31 : (Try.prog.info? 31).bind (·.zero) = some (.slice none 0 0) := by kernel_rfl
set_option maxRecDepth 100000 in
theorem TZr_32 : (Try.prog.info? 32).bind (·.zero) = some (.slice none 0 0) := by kernel_rfl
set_option maxRecDepth 100000 in
theorem TZr_34 : (Try.prog.info? 34).bind (·.zero) = some (.nilFunc) := by kernel_rfl
set_option maxRecDepth 100000 in
theorem TZr_35 : (Try.prog.info? 35).bind (·.zero) = some (.nilFunc) := by kernel_rfl
set_option maxRecDepth 100000 in
theorem TZr_36 : (Try.prog.info? 36).bind (·.zero) = some (.nilFunc) := by kernel_rfl
set_option maxRecDepth 100000 in
theorem TZr_37 : (Try.prog.info? 37).bind (·.zero) = some (.agg #[.slice none 0 0, .slice none 0 0]) := by kernel_rfl
set_option maxRecDepth 100000 in
theorem TZr_38 : (Try.prog.info? 38).bind (·.zero) = some (.agg #[.slice none 0 0, .slice none 0 0]) := by kernel_rfl
set_option maxRecDepth 100000 in
theorem TZr_39 : (Try.prog.info? 39).bind (·.zero) = some (.nilFunc) := by kernel_rfl
set_option maxRecDepth 100000 in
theorem TZr_40 : (Try.prog.info? 40).bind (·.zero) = some (.nilFunc) := by kernel_rfl
set_option maxRecDepth 100000 in
theorem TZr_42 : (Try.prog.info? 42).bind (·.zero) = some (.nilFunc) := by kernel_rfl
set_option maxRecDepth 100000 in
theorem TZr_43 : (Try.prog.info? 43).bind (·.zero) = some (.nilFunc) := by kernel_rfl
set_option maxRecDepth 100000 in
theorem TZr_44 : (Try.prog.info? 44).bind (·.zero) = some (.nilFunc) := by kernel_rfl
set_option maxRecDepth 100000 in
theorem TZr_45 : (Try.prog.info? 45).bind (·.zero) = some (.int .u64 0) := by kernel_rfl
set_option maxRecDepth 100000 in
theorem TZr_46 : (Try.prog.info? 46).bind (·.zero) = some (.agg #[.int .i64 0, .int .u64 0]) := by kernel_rfl
set_option maxRecDepth 100000 in
theorem TZr_47 : (Try.prog.info? 47).bind (·.zero) = some (.agg #[.int .i64 0, .int .u64 0]) := by kernel_rfl
set_option maxRecDepth 100000 in
theorem TZr_48 : (Try.prog.info? 48).bind (·.zero) = some (.nilFunc) := by kernel_rfl
set_option maxRecDepth 100000 in
theorem TZr_49 : (Try.prog.info? 49).bind (·.zero) = some (.nilFunc) := by kernel_rfl
set_option maxRecDepth 100000 in
theorem TZr_50 : (Try.prog.info? 50).bind (·.zero) = some (.nilFunc) := by kernel_rfl
set_option maxRecDepth 100000 in
theorem TZr_51 : (Try.prog.info? 51).bind (·.zero) = some (.nilFunc) := by kernel_rfl
set_option maxRecDepth 100000 in
theorem TZr_53 : (Try.prog.info? 53).bind (·.zero) = some (.nilFunc) := by kernel_rfl
set_option maxRecDepth 100000 in
theorem TZr_55 : (Try.prog.info? 55).bind (·.zero) = some (.nilFunc) := by kernel_rfl
set_option maxRecDepth 100000 in
theorem TZr_56 : (Try.prog.info? 56).bind (·.zero) = some (.nilFunc) := by kernel_rfl
set_option maxRecDepth 100000 in
theorem TZr_57 : (Try.prog.info? 57).bind (·.zero) = some (.nilFunc) := by kernel_rfl
set_option maxRecDepth 100000 in
theorem TZr_59 : (Try.prog.info? 59).bind (·.zero) = some (.nilFunc) := by kernel_rfl
set_option maxRecDepth 100000 in
theorem TZr_60 : (Try.prog.info? 60).bind (·.zero) = some (.nilFunc) := by kernel_rfl
set_option maxRecDepth 100000 in
theorem TZr_61 : (Try.prog.info? 61).bind (·.zero) = some (.nilFunc) := by kernel_rfl
set_option maxRecDepth 100000 in
theorem TZr_62 : (Try.prog.info? 62).bind (·.zero) = some (.nilFunc) := by kernel_rfl
set_option maxRecDepth 100000 in
theorem TZr_63 : (Try.prog.info? 63).bind (·.zero) = some (.agg #[.string ByteArray.empty, .string ByteArray.empty]) := by kernel_rfl
set_option maxRecDepth 100000 in
theorem TZr_64 : (Try.prog.info? 64).bind (·.zero) = some (.agg #[.string ByteArray.empty, .string ByteArray.empty]) := by kernel_rfl
set_option maxRecDepth 100000 in
theorem TZr_66 : (Try.prog.info? 66).bind (·.zero) = some (.nilFunc) := by kernel_rfl
set_option maxRecDepth 100000 in
theorem TZr_67 : (Try.prog.info? 67).bind (·.zero) = some (.nilFunc) := by kernel_rfl
set_option maxRecDepth 100000 in
theorem TZr_68 : (Try.prog.info? 68).bind (·.zero) = some (.nilFunc) := by kernel_rfl
set_option maxRecDepth 100000 in
theorem TZr_69 : (Try.prog.info? 69).bind (·.zero) = some (.nilFunc) := by kernel_rfl
set_option maxRecDepth 100000 in
theorem TZr_70 : (Try.prog.info? 70).bind (·.zero) = some (.slice none 0 0) := by kernel_rfl
set_option maxRecDepth 100000 in
theorem TZr_71 : (Try.prog.info? 71).bind (·.zero) = some (.map none) := by kernel_rfl
set_option maxRecDepth 100000 in
theorem TZr_72 : (Try.prog.info? 72).bind (·.zero) = some (.nilFunc) := by kernel_rfl
set_option maxRecDepth 100000 in
theorem TZr_73 : (Try.prog.info? 73).bind (·.zero) = some (.nilFunc) := by kernel_rfl
set_option maxRecDepth 100000 in
theorem TZr_74 : (Try.prog.info? 74).bind (·.zero) = some (.nilFunc) := by kernel_rfl
set_option maxRecDepth 100000 in
theorem TZr_75 : (Try.prog.info? 75).bind (·.zero) = some (.nilFunc) := by kernel_rfl
set_option maxRecDepth 100000 in
theorem TZr_76 : (Try.prog.info? 76).bind (·.zero) = some (.nilFunc) := by kernel_rfl
set_option maxRecDepth 100000 in
theorem TZr_77 : (Try.prog.info? 77).bind (·.zero) = some (.nilFunc) := by kernel_rfl
set_option maxRecDepth 100000 in
theorem TZr_78 : (Try.prog.info? 78).bind (·.zero) = some (.nilFunc) := by kernel_rfl
set_option maxRecDepth 100000 in
theorem TZr_79 : (Try.prog.info? 79).bind (·.zero) = some (.nilFunc) := by kernel_rfl
set_option maxRecDepth 100000 in
theorem TZr_80 : (Try.prog.info? 80).bind (·.zero) = some (.nilFunc) := by kernel_rfl
set_option maxRecDepth 100000 in
theorem TZr_81 : (Try.prog.info? 81).bind (·.zero) = some (.nilFunc) := by kernel_rfl
set_option maxRecDepth 100000 in
theorem TZr_82 : (Try.prog.info? 82).bind (·.zero) = some (.nilFunc) := by kernel_rfl
set_option maxRecDepth 100000 in
theorem TZr_83 : (Try.prog.info? 83).bind (·.zero) = some (.nilFunc) := by kernel_rfl
set_option maxRecDepth 100000 in
theorem TZr_84 : (Try.prog.info? 84).bind (·.zero) = some (.nilFunc) := by kernel_rfl
set_option maxRecDepth 100000 in
theorem TZr_85 : (Try.prog.info? 85).bind (·.zero) = some (.nilFunc) := by kernel_rfl
set_option maxRecDepth 100000 in
theorem TZr_86 : (Try.prog.info? 86).bind (·.zero) = some (.nilFunc) := by kernel_rfl
set_option maxRecDepth 100000 in
theorem TZr_87 : (Try.prog.info? 87).bind (·.zero) = some (.slice none 0 0) := by kernel_rfl
set_option maxRecDepth 100000 in
theorem TZr_89 : (Try.prog.info? 89).bind (·.zero) = some (.nilFunc) := by kernel_rfl
set_option maxRecDepth 100000 in
theorem TZr_90 : (Try.prog.info? 90).bind (·.zero) = some (.agg #[.int .i64 0, .int .i64 0, .int .u64 0, .string ByteArray.empty]) := by kernel_rfl
set_option maxRecDepth 100000 in
theorem TZr_91 : (Try.prog.info? 91).bind (·.zero) = some (.agg #[.int .i64 0, .int .i64 0, .int .u64 0, .string ByteArray.empty]) := by kernel_rfl
set_option maxRecDepth 100000 in
theorem TZr_92 : (Try.prog.info? 92).bind (·.zero) = some (.nilFunc) := by kernel_rfl
set_option maxRecDepth 100000 in
theorem TZr_93 : (Try.prog.info? 93).bind (·.zero) = some (.int .u64 0) := by kernel_rfl
set_option maxRecDepth 100000 in
theorem TZr_94 : (Try.prog.info? 94).bind (·.zero) = some (.pointer none) := by kernel_rfl
set_option maxRecDepth 100000 in
theorem TZr_95 : (Try.prog.info? 95).bind (·.zero) = some (.agg #[.string ByteArray.empty, .slice none 0 0, .int .i64 0]) := by kernel_rfl
set_option maxRecDepth 100000 in
theorem TZr_96 : (Try.prog.info? 96).bind (·.zero) = some (.agg #[.string ByteArray.empty, .slice none 0 0, .int .i64 0]) := by kernel_rfl
set_option maxRecDepth 100000 in
theorem TZr_97 : (Try.prog.info? 97).bind (·.zero) = some (.nilFunc) := by kernel_rfl
set_option maxRecDepth 100000 in
theorem TZr_98 : (Try.prog.info? 98).bind (·.zero) = some (.map none) := by kernel_rfl
set_option maxRecDepth 100000 in
theorem TZr_99 : (Try.prog.info? 99).bind (·.zero) = some (.slice none 0 0) := by kernel_rfl
set_option maxRecDepth 100000 in
theorem TZr_100 : (Try.prog.info? 100).bind (·.zero) = some (.agg #[]) := by kernel_rfl
set_option maxRecDepth 100000 in
theorem TZr_101 : (Try.prog.info? 101).bind (·.zero) = some (.agg #[]) := by kernel_rfl
set_option maxRecDepth 100000 in
theorem TZr_103 : (Try.prog.info? 103).bind (·.zero) = some (.nilFunc) := by kernel_rfl
set_option maxRecDepth 100000 in
theorem TZr_104 : (Try.prog.info? 104).bind (·.zero) = some (.agg #[.int .i64 0, .int .i64 0, .int .u64 0, .string ByteArray.empty]) := by kernel_rfl
set_option maxRecDepth 100000 in
theorem TZr_105 : (Try.prog.info? 105).bind (·.zero) = some (.agg #[.int .i64 0, .int .i64 0, .int .u64 0, .string ByteArray.empty]) := by kernel_rfl
set_option maxRecDepth 100000 in
theorem TZr_106 : (Try.prog.info? 106).bind (·.zero) = some (.nilFunc) := by kernel_rfl
set_option maxRecDepth 100000 in
theorem TZr_107 : (Try.prog.info? 107).bind (·.zero) = some (.nilFunc) := by kernel_rfl
set_option maxRecDepth 100000 in
theorem TZr_108 : (Try.prog.info? 108).bind (·.zero) = some (.nilFunc) := by kernel_rfl
set_option maxRecDepth 100000 in
theorem TZr_109 : (Try.prog.info? 109).bind (·.zero) = some (.nilFunc) := by kernel_rfl
set_option maxRecDepth 100000 in
theorem TZr_111 : (Try.prog.info? 111).bind (·.zero) = some (.nilFunc) := by kernel_rfl
set_option maxRecDepth 100000 in
theorem TZr_112 : (Try.prog.info? 112).bind (·.zero) = some (.nilFunc) := by kernel_rfl
set_option maxRecDepth 100000 in
theorem TZr_113 : (Try.prog.info? 113).bind (·.zero) = some (.nilFunc) := by kernel_rfl
set_option maxRecDepth 100000 in
theorem TZr_114 : (Try.prog.info? 114).bind (·.zero) = some (.nilFunc) := by kernel_rfl
set_option maxRecDepth 100000 in
theorem TZr_115 : (Try.prog.info? 115).bind (·.zero) = some (.nilFunc) := by kernel_rfl
set_option maxRecDepth 100000 in
theorem TZr_116 : (Try.prog.info? 116).bind (·.zero) = some (.nilFunc) := by kernel_rfl
set_option maxRecDepth 100000 in
theorem TZr_117 : (Try.prog.info? 117).bind (·.zero) = some (.nilFunc) := by kernel_rfl
set_option maxRecDepth 100000 in
theorem TZr_120 : (Try.prog.info? 120).bind (·.zero) = some (.agg #[]) := by kernel_rfl
set_option maxRecDepth 100000 in
theorem TZr_123 : (Try.prog.info? 123).bind (·.zero) = some (.nilFunc) := by kernel_rfl
set_option maxRecDepth 100000 in
theorem TZr_124 : (Try.prog.info? 124).bind (·.zero) = some (.int .u32 0) := by kernel_rfl
set_option maxRecDepth 100000 in
theorem TZr_125 : (Try.prog.info? 125).bind (·.zero) = some (.int .u8 0) := by kernel_rfl
set_option maxRecDepth 100000 in
theorem TZr_126 : (Try.prog.info? 126).bind (·.zero) = some (.int .u8 0) := by kernel_rfl
set_option maxRecDepth 100000 in
theorem TZr_127 : (Try.prog.info? 127).bind (·.zero) = some (.nilFunc) := by kernel_rfl
set_option maxRecDepth 100000 in
theorem TZr_128 : (Try.prog.info? 128).bind (·.zero) = some (.pointer none) := by kernel_rfl
set_option maxRecDepth 100000 in
theorem TZr_129 : (Try.prog.info? 129).bind (·.zero) = some (.int .i32 0) := by kernel_rfl
set_option maxRecDepth 100000 in
theorem TZr_130 : (Try.prog.info? 130).bind (·.zero) = some (.int .i32 0) := by kernel_rfl
set_option maxRecDepth 100000 in
theorem TZr_131 : (Try.prog.info? 131).bind (·.zero) = some (.agg #[.int .u64 0, .int .u64 0, .int .u32 0, .int .u8 0, .int .u8 0, .int .u8 0, .int .u8 0, .nilFunc, .pointer none, .int .i32 0, .int .i32 0]) := by kernel_rfl
set_option maxRecDepth 100000 in
theorem TZr_132 : (Try.prog.info? 132).bind (·.zero) = some (.agg #[.int .u64 0, .int .u64 0, .int .u32 0, .int .u8 0, .int .u8 0, .int .u8 0, .int .u8 0, .nilFunc, .pointer none, .int .i32 0, .int .i32 0]) := by kernel_rfl
set_option maxRecDepth 100000 in
theorem TZr_ok : ∀ p ∈ TZr, (Try.prog.info? p.1).bind (·.zero) = some p.2 := by
  simp only [TZr, List.forall_mem_cons]
  exact ⟨TZr_1, TZr_2, TZr_3, TZr_4, TZr_5, TZr_6, TZr_9, TZr_10, TZr_11, TZr_12, TZr_15, TZr_16, TZr_17, TZr_20, TZr_21, TZr_22, TZr_23, TZr_24, TZr_25, TZr_26, TZr_28, TZr_29, TZr_30, TZr_31, TZr_32, TZr_34, TZr_35, TZr_36, TZr_37, TZr_38, TZr_39, TZr_40, TZr_42, TZr_43, TZr_44, TZr_45, TZr_46, TZr_47, TZr_48, TZr_49, TZr_50, TZr_51, TZr_53, TZr_55, TZr_56, TZr_57, TZr_59, TZr_60, TZr_61, TZr_62, TZr_63, TZr_64, TZr_66, TZr_67, TZr_68, TZr_69, TZr_70, TZr_71, TZr_72, TZr_73, TZr_74, TZr_75, TZr_76, TZr_77, TZr_78, TZr_79, TZr_80, TZr_81, TZr_82, TZr_83, TZr_84, TZr_85, TZr_86, TZr_87, TZr_89, TZr_90, TZr_91, TZr_92, TZr_93, TZr_94, TZr_95, TZr_96, TZr_97, TZr_98, TZr_99, TZr_100, TZr_101, TZr_103, TZr_104, TZr_105, TZr_106, TZr_107, TZr_108, TZr_109, TZr_111, TZr_112, TZr_113, TZr_114, TZr_115, TZr_116, TZr_117, TZr_120, TZr_123, TZr_124, TZr_125, TZr_126, TZr_127, TZr_128, TZr_129, TZr_130, TZr_131, TZr_132, by simp⟩
set_option maxRecDepth 100000 in
def TT : Tys Try.prog where
  ty := TTy
  sz := TSz
  zr := TZr
  tyOk := fun t d h => TTy_ok _ (look_mem h)
  szOk := fun t s b h => by
    have h1 := List.all_eq_true.1 TSz_ok _ (look_mem h)
    simp only [Option.any_eq_true_iff_get, Bool.and_eq_true, beq_iff_eq] at h1
    obtain ⟨hs, ⟨h2, h3⟩, hz, h4⟩ := h1
    exact ⟨_, (Option.some_get hs).symm, h2, h3, _, (Option.some_get hz).symm, h4⟩
  zrOk := fun t z h => by
    have h1 := TZr_ok _ (look_mem h)
    simp only [Option.bind_eq_some_iff] at h1
    exact h1
theorem mixed : Try.prog.follows .mixedOrders = true := by kernel_rfl
end Go.Proofs.Ytmoehipmpchofaa
