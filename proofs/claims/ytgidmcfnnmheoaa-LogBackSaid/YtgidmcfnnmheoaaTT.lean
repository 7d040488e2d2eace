/- The types, as the layer of abstract values reads them. Written by gen/tys.py. -/
import Derived.Test.YtgidmcfnnmheoaaGB
import Derived.Test.YtgidmcfnnmheoaaProg
namespace Go.Proofs.Ytgidmcfnnmheoaa
open Go.RowKit P
def TTy : List (Nat × TypeDesc) := [(1, (.func #[] #[] false)), (2, (.int .i64)), (3, (.int .i64)), (4, .bool), (5, (.int .u8)), (6, (.int .u8)), (9, .string), (10, .string), (11, .string), (12, (.int .u64)), (15, (.pointer 72)), (16, (.pointer 75)), (17, (.pointer 82)), (20, (.interface #[])), (21, (.int .i32)), (22, (.func #[] #[4] false)), (23, (.int .u32)), (24, (.func #[9] #[23] false)), (25, (.func #[9] #[3] false)), (26, (.func #[9] #[4] false)), (27, (.int .i64)), (29, (.func #[9, 9] #[9, 27] false)), (30, (.func #[9, 27, 27, 9] #[4] false)), (31, (.func #[9, 9] #[4] false)), (32, (.slice 9)), (34, (.func #[9] #[32, 3] false)), (35, (.slice 3)), (37, (.func #[9] #[32, 35] false)), (38, (.func #[32, 32] #[4] false)), (40, (.func #[32] #[9, 4] false)), (41, (.func #[3, 3] #[3] false)), (42, (.func #[32, 3] #[4] false)), (43, (.slice 5)), (44, (.int .u64)), (45, (.pointer 47)), (46, (.struct #[{ name := "addr", type := 45, offset := 0, embedded := false, tag := "", pkgPath := "strings", byteOffset := 0 }, { name := "buf", type := 43, offset := 1, embedded := false, tag := "", pkgPath := "strings", byteOffset := 8 }])), (47, (.struct #[{ name := "addr", type := 45, offset := 0, embedded := false, tag := "", pkgPath := "strings", byteOffset := 0 }, { name := "buf", type := 43, offset := 1, embedded := false, tag := "", pkgPath := "strings", byteOffset := 8 }])), (48, (.interface #[("Error", 56)])), (49, (.interface #[("Error", 56)])), (51, (.func #[9] #[3, 49] false)), (52, (.func #[3] #[9] false)), (53, (.func #[] #[3] false)), (54, (.func #[3] #[3] false)), (55, (.func #[5, 9] #[9] false)), (56, (.func #[] #[9] false)), (57, (.func #[9, 3] #[9] false)), (58, (.func #[3, 9] #[9] false)), (59, (.pointer 5)), (61, (.func #[60] #[60] false)), (63, (.func #[44, 44] #[44, 44] false)), (64, (.func #[3] #[] false)), (66, (.func #[23, 23] #[23, 23] false)), (67, (.int .u64)), (69, (.func #[67, 67] #[67, 67] false)), (70, (.func #[3] #[43] false)), (73, (.array 0 16)), (76, (.int .u8)), (77, (.int .u8)), (78, (.func #[60, 60] #[4] false)), (79, (.int .i32)), (80, (.int .i32)), (81, (.struct #[{ name := "Size_", type := 12, offset := 0, embedded := false, tag := "", pkgPath := "", byteOffset := 0 }, { name := "PtrBytes", type := 12, offset := 1, embedded := false, tag := "", pkgPath := "", byteOffset := 8 }, { name := "Hash", type := 23, offset := 2, embedded := false, tag := "", pkgPath := "", byteOffset := 16 }, { name := "TFlag", type := 76, offset := 3, embedded := false, tag := "", pkgPath := "", byteOffset := 20 }, { name := "Align_", type := 5, offset := 4, embedded := false, tag := "", pkgPath := "", byteOffset := 21 }, { name := "FieldAlign_", type := 5, offset := 5, embedded := false, tag := "", pkgPath := "", byteOffset := 22 }, { name := "Kind_", type := 77, offset := 6, embedded := false, tag := "", pkgPath := "", byteOffset := 23 }, { name := "Equal", type := 78, offset := 7, embedded := false, tag := "", pkgPath := "", byteOffset := 24 }, { name := "GCData", type := 59, offset := 8, embedded := false, tag := "", pkgPath := "", byteOffset := 32 }, { name := "Str", type := 79, offset := 9, embedded := false, tag := "", pkgPath := "", byteOffset := 40 }, { name := "PtrToThis", type := 80, offset := 10, embedded := false, tag := "", pkgPath := "", byteOffset := 44 }])), (82, (.struct #[{ name := "Size_", type := 12, offset := 0, embedded := false, tag := "", pkgPath := "", byteOffset := 0 }, { name := "PtrBytes", type := 12, offset := 1, embedded := false, tag := "", pkgPath := "", byteOffset := 8 }, { name := "Hash", type := 23, offset := 2, embedded := false, tag := "", pkgPath := "", byteOffset := 16 }, { name := "TFlag", type := 76, offset := 3, embedded := false, tag := "", pkgPath := "", byteOffset := 20 }, { name := "Align_", type := 5, offset := 4, embedded := false, tag := "", pkgPath := "", byteOffset := 21 }, { name := "FieldAlign_", type := 5, offset := 5, embedded := false, tag := "", pkgPath := "", byteOffset := 22 }, { name := "Kind_", type := 77, offset := 6, embedded := false, tag := "", pkgPath := "", byteOffset := 23 }, { name := "Equal", type := 78, offset := 7, embedded := false, tag := "", pkgPath := "", byteOffset := 24 }, { name := "GCData", type := 59, offset := 8, embedded := false, tag := "", pkgPath := "", byteOffset := 32 }, { name := "Str", type := 79, offset := 9, embedded := false, tag := "", pkgPath := "", byteOffset := 40 }, { name := "PtrToThis", type := 80, offset := 10, embedded := false, tag := "", pkgPath := "", byteOffset := 44 }]))]
def TSz : List (Nat × (Nat × Nat)) := [(1, (1, 8)), (2, (1, 8)), (3, (1, 8)), (4, (1, 1)), (5, (1, 1)), (6, (1, 1)), (9, (1, 16)), (10, (1, 16)), (11, (1, 16)), (12, (1, 8)), (15, (1, 8)), (16, (1, 8)), (17, (1, 8)), (20, (1, 16)), (21, (1, 4)), (22, (1, 8)), (23, (1, 4)), (24, (1, 8)), (25, (1, 8)), (26, (1, 8)), (27, (1, 8)), (29, (1, 8)), (30, (1, 8)), (31, (1, 8)), (32, (1, 24)), (34, (1, 8)), (35, (1, 24)), (37, (1, 8)), (38, (1, 8)), (40, (1, 8)), (41, (1, 8)), (42, (1, 8)), (43, (1, 24)), (44, (1, 8)), (45, (1, 8)), (46, (2, 32)), (47, (2, 32)), (48, (1, 16)), (49, (1, 16)), (51, (1, 8)), (52, (1, 8)), (53, (1, 8)), (54, (1, 8)), (55, (1, 8)), (56, (1, 8)), (57, (1, 8)), (58, (1, 8)), (59, (1, 8)), (61, (1, 8)), (63, (1, 8)), (64, (1, 8)), (66, (1, 8)), (67, (1, 8)), (69, (1, 8)), (70, (1, 8)), (73, (0, 0)), (76, (1, 1)), (77, (1, 1)), (78, (1, 8)), (79, (1, 4)), (80, (1, 4)), (81, (11, 48)), (82, (11, 48))]
def TZr : List (Nat × Value) := [(1, .nilFunc), (2, .int .i64 0), (3, .int .i64 0), (4, .bool false), (5, .int .u8 0), (6, .int .u8 0), (9, .string ByteArray.empty), (10, .string ByteArray.empty), (11, .string ByteArray.empty), (12, .int .u64 0), (15, .pointer none), (16, .pointer none), (17, .pointer none), (20, .nilIface), (21, .int .i32 0), (22, .nilFunc), (23, .int .u32 0), (24, .nilFunc), (25, .nilFunc), (26, .nilFunc), (27, .int .i64 0), (29, .nilFunc), (30, .nilFunc), (31, .nilFunc), (32, .slice none 0 0), (34, .nilFunc), (35, .slice none 0 0), (37, .nilFunc), (38, .nilFunc), (40, .nilFunc), (41, .nilFunc), (42, .nilFunc), (43, .slice none 0 0), (44, .int .u64 0), (45, .pointer none), (46, .agg #[.pointer none, .slice none 0 0]), (47, .agg #[.pointer none, .slice none 0 0]), (48, .nilIface), (49, .nilIface), (51, .nilFunc), (52, .nilFunc), (53, .nilFunc), (54, .nilFunc), (55, .nilFunc), (56, .nilFunc), (57, .nilFunc), (58, .nilFunc), (59, .pointer none), (61, .nilFunc), (63, .nilFunc), (64, .nilFunc), (66, .nilFunc), (67, .int .u64 0), (69, .nilFunc), (70, .nilFunc), (76, .int .u8 0), (77, .int .u8 0), (78, .nilFunc), (79, .int .i32 0), (80, .int .i32 0), (81, .agg #[.int .u64 0, .int .u64 0, .int .u32 0, .int .u8 0, .int .u8 0, .int .u8 0, .int .u8 0, .nilFunc, .pointer none, .int .i32 0, .int .i32 0]), (82, .agg #[.int .u64 0, .int .u64 0, .int .u32 0, .int .u8 0, .int .u8 0, .int .u8 0, .int .u8 0, .nilFunc, .pointer none, .int .i32 0, .int .i32 0])]
set_option maxRecDepth 100000 in
theorem TTy_ok : ∀ p ∈ TTy, Try.prog.underlying p.1 = some p.2 := by
  simp only [TTy, List.forall_mem_cons]
  exact ⟨Try.underlying1, Try.underlying2, Try.underlying3, Try.underlying4, Try.underlying5, Try.underlying6, Try.underlying9, Try.underlying10, Try.underlying11, Try.underlying12, Try.underlying15, Try.underlying16, Try.underlying17, Try.underlying20, Try.underlying21, Try.underlying22, Try.underlying23, Try.underlying24, Try.underlying25, Try.underlying26, Try.underlying27, Try.underlying29, Try.underlying30, Try.underlying31, Try.underlying32, Try.underlying34, Try.underlying35, Try.underlying37, Try.underlying38, Try.underlying40, Try.underlying41, Try.underlying42, Try.underlying43, Try.underlying44, Try.underlying45, Try.underlying46, Try.underlying47, Try.underlying48, Try.underlying49, Try.underlying51, Try.underlying52, Try.underlying53, Try.underlying54, Try.underlying55, Try.underlying56, Try.underlying57, Try.underlying58, Try.underlying59, Try.underlying61, Try.underlying63, Try.underlying64, Try.underlying66, Try.underlying67, Try.underlying69, Try.underlying70, Try.underlying73, Try.underlying76, Try.underlying77, Try.underlying78, Try.underlying79, Try.underlying80, Try.underlying81, Try.underlying82, by simp⟩
theorem TSz_ok : (TSz.all fun p => (Try.prog.info? p.1).any fun i => i.size == p.2.1 && i.bytes == p.2.2 && i.zero.any (fun z => z.cells.size == p.2.1)) = true := by kernel_rfl
theorem TZr_1 : (Try.prog.info? 1).bind (·.zero) = some (.nilFunc) := by kernel_rfl
theorem TZr_2 : (Try.prog.info? 2).bind (·.zero) = some (.int .i64 0) := by kernel_rfl
theorem TZr_3 : (Try.prog.info? 3).bind (·.zero) = some (.int .i64 0) := by kernel_rfl
theorem TZr_4 : (Try.prog.info? 4).bind (·.zero) = some (.bool false) := by kernel_rfl
theorem TZr_5 : (Try.prog.info? 5).bind (·.zero) = some (.int .u8 0) := by kernel_rfl
theorem TZr_6 : (Try.prog.info? 6).bind (·.zero) = some (.int .u8 0) := by kernel_rfl
theorem TZr_9 : (Try.prog.info? 9).bind (·.zero) = some (.string ByteArray.empty) := by kernel_rfl
theorem TZr_10 : (Try.prog.info? 10).bind (·.zero) = some (.string ByteArray.empty) := by kernel_rfl
theorem TZr_11 : (Try.prog.info? 11).bind (·.zero) = some (.string ByteArray.empty) := by kernel_rfl
theorem TZr_12 : (Try.prog.info? 12).bind (·.zero) = some (.int .u64 0) := by kernel_rfl
theorem TZr_15 : (Try.prog.info? 15).bind (·.zero) = some (.pointer none) := by kernel_rfl
theorem TZr_16 : (Try.prog.info? 16).bind (·.zero) = some (.pointer none) := by kernel_rfl
theorem TZr_17 : (Try.prog.info? 17).bind (·.zero) = some (.pointer none) := by kernel_rfl
theorem TZr_20 : (Try.prog.info? 20).bind (·.zero) = some (.nilIface) := by kernel_rfl
theorem TZr_21 : (Try.prog.info? 21).bind (·.zero) = some (.int .i32 0) := by kernel_rfl
theorem TZr_22 : (Try.prog.info? 22).bind (·.zero) = some (.nilFunc) := by kernel_rfl
theorem TZr_23 : (Try.prog.info? 23).bind (·.zero) = some (.int .u32 0) := by kernel_rfl
theorem TZr_24 : (Try.prog.info? 24).bind (·.zero) = some (.nilFunc) := by kernel_rfl
theorem TZr_25 : (Try.prog.info? 25).bind (·.zero) = some (.nilFunc) := by kernel_rfl
theorem TZr_26 : (Try.prog.info? 26).bind (·.zero) = some (.nilFunc) := by kernel_rfl
theorem TZr_27 : (Try.prog.info? 27).bind (·.zero) = some (.int .i64 0) := by kernel_rfl
theorem TZr_29 : (Try.prog.info? 29).bind (·.zero) = some (.nilFunc) := by kernel_rfl
theorem TZr_30 : (Try.prog.info? 30).bind (·.zero) = some (.nilFunc) := by kernel_rfl
theorem TZr_31 : (Try.prog.info? 31).bind (·.zero) = some (.nilFunc) := by kernel_rfl
theorem TZr_32 : (Try.prog.info? 32).bind (·.zero) = some (.slice none 0 0) := by kernel_rfl
theorem TZr_34 : (Try.prog.info? 34).bind (·.zero) = some (.nilFunc) := by kernel_rfl
theorem TZr_35 : (Try.prog.info? 35).bind (·.zero) = some (.slice none 0 0) := by kernel_rfl
theorem TZr_37 : (Try.prog.info? 37).bind (·.zero) = some (.nilFunc) := by kernel_rfl
theorem TZr_38 : (Try.prog.info? 38).bind (·.zero) = some (.nilFunc) := by kernel_rfl
theorem TZr_40 : (Try.prog.info? 40).bind (·.zero) = some (.nilFunc) := by kernel_rfl
theorem TZr_41 : (Try.prog.info? 41).bind (·.zero) = some (.nilFunc) := by kernel_rfl
theorem TZr_42 : (Try.prog.info? 42).bind (·.zero) = some (.nilFunc) := by kernel_rfl
theorem TZr_43 : (Try.prog.info? 43).bind (·.zero) = some (.slice none 0 0) := by kernel_rfl
theorem TZr_44 : (Try.prog.info? 44).bind (·.zero) = some (.int .u64 0) := by kernel_rfl
theorem TZr_45 : (Try.prog.info? 45).bind (·.zero) = some (.pointer none) := by kernel_rfl
theorem TZr_46 : (Try.prog.info? 46).bind (·.zero) = some (.agg #[.pointer none, .slice none 0 0]) := by kernel_rfl
theorem TZr_47 : (Try.prog.info? 47).bind (·.zero) = some (.agg #[.pointer none, .slice none 0 0]) := by kernel_rfl
theorem TZr_48 : (Try.prog.info? 48).bind (·.zero) = some (.nilIface) := by kernel_rfl
theorem TZr_49 : (Try.prog.info? 49).bind (·.zero) = some (.nilIface) := by kernel_rfl
theorem TZr_51 : (Try.prog.info? 51).bind (·.zero) = some (.nilFunc) := by kernel_rfl
theorem TZr_52 : (Try.prog.info? 52).bind (·.zero) = some (.nilFunc) := by kernel_rfl
theorem TZr_53 : (Try.prog.info? 53).bind (·.zero) = some (.nilFunc) := by kernel_rfl
theorem TZr_54 : (Try.prog.info? 54).bind (·.zero) = some (.nilFunc) := by kernel_rfl
theorem TZr_55 : (Try.prog.info? 55).bind (·.zero) = some (.nilFunc) := by kernel_rfl
theorem TZr_56 : (Try.prog.info? 56).bind (·.zero) = some (.nilFunc) := by kernel_rfl
theorem TZr_57 : (Try.prog.info? 57).bind (·.zero) = some (.nilFunc) := by kernel_rfl
theorem TZr_58 : (Try.prog.info? 58).bind (·.zero) = some (.nilFunc) := by kernel_rfl
theorem TZr_59 : (Try.prog.info? 59).bind (·.zero) = some (.pointer none) := by kernel_rfl
theorem TZr_61 : (Try.prog.info? 61).bind (·.zero) = some (.nilFunc) := by kernel_rfl
theorem TZr_63 : (Try.prog.info? 63).bind (·.zero) = some (.nilFunc) := by kernel_rfl
theorem TZr_64 : (Try.prog.info? 64).bind (·.zero) = some (.nilFunc) := by kernel_rfl
theorem TZr_66 : (Try.prog.info? 66).bind (·.zero) = some (.nilFunc) := by kernel_rfl
theorem TZr_67 : (Try.prog.info? 67).bind (·.zero) = some (.int .u64 0) := by kernel_rfl
theorem TZr_69 : (Try.prog.info? 69).bind (·.zero) = some (.nilFunc) := by kernel_rfl
theorem TZr_70 : (Try.prog.info? 70).bind (·.zero) = some (.nilFunc) := by kernel_rfl
theorem TZr_76 : (Try.prog.info? 76).bind (·.zero) = some (.int .u8 0) := by kernel_rfl
theorem TZr_77 : (Try.prog.info? 77).bind (·.zero) = some (.int .u8 0) := by kernel_rfl
theorem TZr_78 : (Try.prog.info? 78).bind (·.zero) = some (.nilFunc) := by kernel_rfl
theorem TZr_79 : (Try.prog.info? 79).bind (·.zero) = some (.int .i32 0) := by kernel_rfl
theorem TZr_80 : (Try.prog.info? 80).bind (·.zero) = some (.int .i32 0) := by kernel_rfl
theorem TZr_81 : (Try.prog.info? 81).bind (·.zero) = some (.agg #[.int .u64 0, .int .u64 0, .int .u32 0, .int .u8 0, .int .u8 0, .int .u8 0, .int .u8 0, .nilFunc, .pointer none, .int .i32 0, .int .i32 0]) := by kernel_rfl
theorem TZr_82 : (Try.prog.info? 82).bind (·.zero) = some (.agg #[.int .u64 0, .int .u64 0, .int .u32 0, .int .u8 0, .int .u8 0, .int .u8 0, .int .u8 0, .nilFunc, .pointer none, .int .i32 0, .int .i32 0]) := by kernel_rfl
set_option maxRecDepth 100000 in
theorem TZr_ok : ∀ p ∈ TZr, (Try.prog.info? p.1).bind (·.zero) = some p.2 := by
  simp only [TZr, List.forall_mem_cons]
  exact ⟨TZr_1, TZr_2, TZr_3, TZr_4, TZr_5, TZr_6, TZr_9, TZr_10, TZr_11, TZr_12, TZr_15, TZr_16, TZr_17, TZr_20, TZr_21, TZr_22, TZr_23, TZr_24, TZr_25, TZr_26, TZr_27, TZr_29, TZr_30, TZr_31, TZr_32, TZr_34, TZr_35, TZr_37, TZr_38, TZr_40, TZr_41, TZr_42, TZr_43, TZr_44, TZr_45, TZr_46, TZr_47, TZr_48, TZr_49, TZr_51, TZr_52, TZr_53, TZr_54, TZr_55, TZr_56, TZr_57, TZr_58, TZr_59, TZr_61, TZr_63, TZr_64, TZr_66, TZr_67, TZr_69, TZr_70, TZr_76, TZr_77, TZr_78, TZr_79, TZr_80, TZr_81, TZr_82, by simp⟩
def TT : Tys Try.prog where
  ty := TTy
  sz := TSz
  zr := TZr
  tyOk := fun t d h => TTy_ok _ (look_mem h)
  szOk := fun t s b h => by
    have h1 := List.all_eq_true.1 TSz_ok _ (look_mem h)
    simp only [Option.any_eq_true_iff_get, Bool.and_eq_true, beq_iff_eq] at h1
    obtain ⟨hs, ⟨h2, h3⟩, hz, h4⟩ := h1
    exact ⟨_, (Option.some_get hs).symm, h2, h3, _, (Option.some_get hz).symm, h4⟩
  zrOk := fun t z h => by
    have h1 := TZr_ok _ (look_mem h)
    simp only [Option.bind_eq_some_iff] at h1
    exact h1
theorem mixed : Try.prog.follows .mixedOrders = true := by kernel_rfl
end Go.Proofs.Ytgidmcfnnmheoaa
