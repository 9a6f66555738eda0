/-
  The types of the translation, as the walks ask of them: by program off the dump's own rows. Conditions: none.
-/
import Derived.Test.YtfmfakgokgcjmaaChecked
import Derived.Test.YtfmfakgokgcjmaaBfCall
namespace Go.Proofs.Ytfmfakgokgcjmaa
open Go Bf
def tys : List (Nat × TyI) := [
  (0, ⟨.tuple #[], 1, 0, .tuple #[]⟩),
  (1, ⟨.func #[] #[] false, 1, 8, .nilFunc⟩),
  (2, ⟨.int .i64, 1, 8, .int .i64 0⟩),
  (3, ⟨.int .i64, 1, 8, .int .i64 0⟩),
  (4, ⟨.bool, 1, 1, .bool false⟩),
  (5, ⟨.int .u8, 1, 1, .int .u8 0⟩),
  (6, ⟨.int .u8, 1, 1, .int .u8 0⟩),
  (7, ⟨.struct #[⟨ "x", 2, 0, false, "", "runtime", 0⟩, ⟨ "y", 3, 1, false, "", "runtime", 8⟩, ⟨ "signed", 4, 2, false, "", "runtime", 16⟩, ⟨ "code", 6, 3, false, "", "runtime", 17⟩], 4, 24, .agg #[.int .i64 0, .int .i64 0, .bool false, .int .u8 0]⟩),
  (8, ⟨.struct #[⟨ "x", 2, 0, false, "", "runtime", 0⟩, ⟨ "y", 3, 1, false, "", "runtime", 8⟩, ⟨ "signed", 4, 2, false, "", "runtime", 16⟩, ⟨ "code", 6, 3, false, "", "runtime", 17⟩], 4, 24, .agg #[.int .i64 0, .int .i64 0, .bool false, .int .u8 0]⟩),
  (9, ⟨.string, 1, 16, .string ⟨#[]⟩⟩),
  (10, ⟨.string, 1, 16, .string ⟨#[]⟩⟩),
  (11, ⟨.string, 1, 16, .string ⟨#[]⟩⟩),
  (12, ⟨.int .u64, 1, 8, .int .u64 0⟩),
  (13, ⟨.struct #[⟨ "msg", 9, 0, false, "", "runtime", 0⟩, ⟨ "addr", 12, 1, false, "", "runtime", 16⟩], 2, 24, .agg #[.string ⟨#[]⟩, .int .u64 0]⟩),
  (14, ⟨.struct #[⟨ "msg", 9, 0, false, "", "runtime", 0⟩, ⟨ "addr", 12, 1, false, "", "runtime", 16⟩], 2, 24, .agg #[.string ⟨#[]⟩, .int .u64 0]⟩),
  (15, ⟨.pointer 64, 1, 8, .pointer none⟩),
  (16, ⟨.pointer 67, 1, 8, .pointer none⟩),
  (17, ⟨.pointer 77, 1, 8, .pointer none⟩),
  (18, ⟨.struct #[⟨ "typ", 17, 0, false, "", "internal/runtime/maps", 0⟩], 1, 8, .agg #[.pointer none]⟩),
  (19, ⟨.struct #[⟨ "typ", 17, 0, false, "", "internal/runtime/maps", 0⟩], 1, 8, .agg #[.pointer none]⟩),
  (20, ⟨.interface #[], 1, 16, .nilIface⟩),
  (21, ⟨.int .i32, 1, 4, .int .i32 0⟩),
  (22, ⟨.slice 35, 1, 24, .slice none 0 0⟩),
  (23, ⟨.slice 54, 1, 24, .slice none 0 0⟩),
  (24, ⟨.struct #[⟨ "Sectors", 22, 0, false, "", "", 0⟩, ⟨ "Pending", 23, 1, false, "", "", 24⟩, ⟨ "Left", 3, 2, false, "", "", 48⟩, ⟨ "Stopped", 4, 3, false, "", "", 56⟩], 4, 64, .agg #[.slice none 0 0, .slice none 0 0, .int .i64 0, .bool false]⟩),
  (25, ⟨.struct #[⟨ "Sectors", 22, 0, false, "", "", 0⟩, ⟨ "Pending", 23, 1, false, "", "", 24⟩, ⟨ "Left", 3, 2, false, "", "", 48⟩, ⟨ "Stopped", 4, 3, false, "", "", 56⟩], 4, 64, .agg #[.slice none 0 0, .slice none 0 0, .int .i64 0, .bool false]⟩),
  (26, ⟨.func #[] #[4] false, 1, 8, .nilFunc⟩),
  (27, ⟨.func #[25] #[4] false, 1, 8, .nilFunc⟩),
  (28, ⟨.int .i64, 1, 8, .int .i64 0⟩),
  (29, ⟨.tuple #[25, 28], 1, 0, .tuple #[.agg #[.slice none 0 0, .slice none 0 0, .int .i64 0, .bool false], .int .i64 0]⟩),
  (30, ⟨.func #[3] #[25, 28] false, 1, 8, .nilFunc⟩),
  (31, ⟨.func #[25, 25] #[4] false, 1, 8, .nilFunc⟩),
  (32, ⟨.func #[25] #[28] false, 1, 8, .nilFunc⟩),
  (33, ⟨.func #[25] #[25] false, 1, 8, .nilFunc⟩),
  (34, ⟨.func #[3, 25] #[4] false, 1, 8, .nilFunc⟩),
  (35, ⟨.slice 5, 1, 24, .slice none 0 0⟩),
  (36, ⟨.func #[25, 3, 35] #[25, 28] false, 1, 8, .nilFunc⟩),
  (37, ⟨.tuple #[35, 28], 1, 0, .tuple #[.slice none 0 0, .int .i64 0]⟩),
  (38, ⟨.func #[25, 3] #[35, 28] false, 1, 8, .nilFunc⟩),
  (39, ⟨.func #[25, 3, 35] #[4] false, 1, 8, .nilFunc⟩),
  (40, ⟨.func #[25] #[25, 28] false, 1, 8, .nilFunc⟩),
  (41, ⟨.func #[25, 3] #[25, 28] false, 1, 8, .nilFunc⟩),
  (42, ⟨.func #[25, 3] #[4] false, 1, 8, .nilFunc⟩),
  (43, ⟨.slice 46, 1, 24, .slice none 0 0⟩),
  (44, ⟨.array 4 5, 4, 4, .agg #[.int .u8 0, .int .u8 0, .int .u8 0, .int .u8 0]⟩),
  (45, ⟨.struct #[⟨ "Sync", 4, 0, false, "", "", 0⟩, ⟨ "At", 5, 1, false, "", "", 1⟩, ⟨ "Byte", 5, 2, false, "", "", 2⟩], 3, 3, .agg #[.bool false, .int .u8 0, .int .u8 0]⟩),
  (46, ⟨.struct #[⟨ "Sync", 4, 0, false, "", "", 0⟩, ⟨ "At", 5, 1, false, "", "", 1⟩, ⟨ "Byte", 5, 2, false, "", "", 2⟩], 3, 3, .agg #[.bool false, .int .u8 0, .int .u8 0]⟩),
  (47, ⟨.func #[5] #[35] false, 1, 8, .nilFunc⟩),
  (48, ⟨.func #[25, 44, 44] #[4] false, 1, 8, .nilFunc⟩),
  (49, ⟨.func #[43, 5] #[4] false, 1, 8, .nilFunc⟩),
  (50, ⟨.func #[25, 3, 3, 35, 35] #[4] false, 1, 8, .nilFunc⟩),
  (51, ⟨.func #[25, 43] #[4] false, 1, 8, .nilFunc⟩),
  (52, ⟨.func #[25, 3, 3, 35] #[4] false, 1, 8, .nilFunc⟩),
  (53, ⟨.struct #[⟨ "At", 3, 0, false, "", "", 0⟩, ⟨ "Data", 35, 1, false, "", "", 8⟩], 2, 32, .agg #[.int .i64 0, .slice none 0 0]⟩),
  (54, ⟨.struct #[⟨ "At", 3, 0, false, "", "", 0⟩, ⟨ "Data", 35, 1, false, "", "", 8⟩], 2, 32, .agg #[.int .i64 0, .slice none 0 0]⟩),
  (55, ⟨.func #[23] #[23] false, 1, 8, .nilFunc⟩),
  (56, ⟨.func #[35] #[35] false, 1, 8, .nilFunc⟩),
  (57, ⟨.func #[61] #[] false, 1, 8, .nilFunc⟩),
  (58, ⟨.func #[61] #[] false, 1, 8, .nilFunc⟩),
  (59, ⟨.func #[23] #[58] false, 1, 8, .nilFunc⟩),
  (60, ⟨.func #[22] #[22] false, 1, 8, .nilFunc⟩),
  (61, ⟨.func #[54] #[4] false, 1, 8, .nilFunc⟩),
  (62, ⟨.func #[] #[9] false, 1, 8, .nilFunc⟩),
  (63, ⟨.struct #[⟨ "_interface", 17, 0, false, "", "runtime", 0⟩, ⟨ "concrete", 17, 1, false, "", "runtime", 8⟩, ⟨ "asserted", 17, 2, false, "", "runtime", 16⟩, ⟨ "missingMethod", 9, 3, false, "", "runtime", 24⟩], 4, 40, .agg #[.pointer none, .pointer none, .pointer none, .string ⟨#[]⟩]⟩),
  (64, ⟨.struct #[⟨ "_interface", 17, 0, false, "", "runtime", 0⟩, ⟨ "concrete", 17, 1, false, "", "runtime", 8⟩, ⟨ "asserted", 17, 2, false, "", "runtime", 16⟩, ⟨ "missingMethod", 9, 3, false, "", "runtime", 24⟩], 4, 40, .agg #[.pointer none, .pointer none, .pointer none, .string ⟨#[]⟩]⟩),
  (65, ⟨.array 0 16, 0, 0, .agg #[]⟩),
  (66, ⟨.struct #[⟨ "_", 65, 0, false, "", "runtime", 0⟩], 0, 0, .agg #[]⟩),
  (67, ⟨.struct #[⟨ "_", 65, 0, false, "", "runtime", 0⟩], 0, 0, .agg #[]⟩),
  (68, ⟨.func #[] #[3] false, 1, 8, .nilFunc⟩),
  (69, ⟨.int .u32, 1, 4, .int .u32 0⟩),
  (70, ⟨.int .u8, 1, 1, .int .u8 0⟩),
  (71, ⟨.int .u8, 1, 1, .int .u8 0⟩),
  (72, ⟨.func #[78, 78] #[4] false, 1, 8, .nilFunc⟩),
  (73, ⟨.pointer 5, 1, 8, .pointer none⟩),
  (74, ⟨.int .i32, 1, 4, .int .i32 0⟩),
  (75, ⟨.int .i32, 1, 4, .int .i32 0⟩),
  (76, ⟨.struct #[⟨ "Size_", 12, 0, false, "", "", 0⟩, ⟨ "PtrBytes", 12, 1, false, "", "", 8⟩, ⟨ "Hash", 69, 2, false, "", "", 16⟩, ⟨ "TFlag", 70, 3, false, "", "", 20⟩, ⟨ "Align_", 5, 4, false, "", "", 21⟩, ⟨ "FieldAlign_", 5, 5, false, "", "", 22⟩, ⟨ "Kind_", 71, 6, false, "", "", 23⟩, ⟨ "Equal", 72, 7, false, "", "", 24⟩, ⟨ "GCData", 73, 8, false, "", "", 32⟩, ⟨ "Str", 74, 9, false, "", "", 40⟩, ⟨ "PtrToThis", 75, 10, false, "", "", 44⟩], 11, 48, .agg #[.int .u64 0, .int .u64 0, .int .u32 0, .int .u8 0, .int .u8 0, .int .u8 0, .int .u8 0, .nilFunc, .pointer none, .int .i32 0, .int .i32 0]⟩),
  (77, ⟨.struct #[⟨ "Size_", 12, 0, false, "", "", 0⟩, ⟨ "PtrBytes", 12, 1, false, "", "", 8⟩, ⟨ "Hash", 69, 2, false, "", "", 16⟩, ⟨ "TFlag", 70, 3, false, "", "", 20⟩, ⟨ "Align_", 5, 4, false, "", "", 21⟩, ⟨ "FieldAlign_", 5, 5, false, "", "", 22⟩, ⟨ "Kind_", 71, 6, false, "", "", 23⟩, ⟨ "Equal", 72, 7, false, "", "", 24⟩, ⟨ "GCData", 73, 8, false, "", "", 32⟩, ⟨ "Str", 74, 9, false, "", "", 40⟩, ⟨ "PtrToThis", 75, 10, false, "", "", 44⟩], 11, 48, .agg #[.int .u64 0, .int .u64 0, .int .u32 0, .int .u8 0, .int .u8 0, .int .u8 0, .int .u8 0, .nilFunc, .pointer none, .int .i32 0, .int .i32 0]⟩)]
theorem tysOk : TysOk Try.prog tys := by
  unfold tys
  refine TysOk.cons (by kernel_rfl) (by kernel_rfl) ?_
  refine TysOk.cons (by kernel_rfl) (by kernel_rfl) ?_
  refine TysOk.cons (by kernel_rfl) (by kernel_rfl) ?_
  refine TysOk.cons (by kernel_rfl) (by kernel_rfl) ?_
  refine TysOk.cons (by kernel_rfl) (by kernel_rfl) ?_
  refine TysOk.cons (by kernel_rfl) (by kernel_rfl) ?_
  refine TysOk.cons (by kernel_rfl) (by kernel_rfl) ?_
  refine TysOk.cons (by kernel_rfl) (by kernel_rfl) ?_
  refine TysOk.cons (by kernel_rfl) (by kernel_rfl) ?_
  refine TysOk.cons (by kernel_rfl) (by kernel_rfl) ?_
  refine TysOk.cons (by kernel_rfl) (by kernel_rfl) ?_
  refine TysOk.cons (by kernel_rfl) (by kernel_rfl) ?_
  refine TysOk.cons (by kernel_rfl) (by kernel_rfl) ?_
  refine TysOk.cons (by kernel_rfl) (by kernel_rfl) ?_
  refine TysOk.cons (by kernel_rfl) (by kernel_rfl) ?_
  refine TysOk.cons (by kernel_rfl) (by kernel_rfl) ?_
  refine TysOk.cons (by kernel_rfl) (by kernel_rfl) ?_
  refine TysOk.cons (by kernel_rfl) (by kernel_rfl) ?_
  refine TysOk.cons (by kernel_rfl) (by kernel_rfl) ?_
  refine TysOk.cons (by kernel_rfl) (by kernel_rfl) ?_
  refine TysOk.cons (by kernel_rfl) (by kernel_rfl) ?_
  refine TysOk.cons (by kernel_rfl) (by kernel_rfl) ?_
  refine TysOk.cons (by kernel_rfl) (by kernel_rfl) ?_
  refine TysOk.cons (by kernel_rfl) (by kernel_rfl) ?_
  refine TysOk.cons (by kernel_rfl) (by kernel_rfl) ?_
  refine TysOk.cons (by kernel_rfl) (by kernel_rfl) ?_
  refine TysOk.cons (by kernel_rfl) (by kernel_rfl) ?_
  refine TysOk.cons (by kernel_rfl) (by kernel_rfl) ?_
  refine TysOk.cons (by kernel_rfl) (by kernel_rfl) ?_
  refine TysOk.cons (by kernel_rfl) (by kernel_rfl) ?_
  refine TysOk.cons (by kernel_rfl) (by kernel_rfl) ?_
  refine TysOk.cons (by kernel_rfl) (by kernel_rfl) ?_
  refine TysOk.cons (by kernel_rfl) (by kernel_rfl) ?_
  refine TysOk.cons (by kernel_rfl) (by kernel_rfl) ?_
  refine TysOk.cons (by kernel_rfl) (by kernel_rfl) ?_
  refine TysOk.cons (by kernel_rfl) (by kernel_rfl) ?_
  refine TysOk.cons (by kernel_rfl) (by kernel_rfl) ?_
  refine TysOk.cons (by kernel_rfl) (by kernel_rfl) ?_
  refine TysOk.cons (by kernel_rfl) (by kernel_rfl) ?_
  refine TysOk.cons (by kernel_rfl) (by kernel_rfl) ?_
  refine TysOk.cons (by kernel_rfl) (by kernel_rfl) ?_
  refine TysOk.cons (by kernel_rfl) (by kernel_rfl) ?_
  refine TysOk.cons (by kernel_rfl) (by kernel_rfl) ?_
  refine TysOk.cons (by kernel_rfl) (by kernel_rfl) ?_
  refine TysOk.cons (by kernel_rfl) (by kernel_rfl) ?_
  refine TysOk.cons (by kernel_rfl) (by kernel_rfl) ?_
  refine TysOk.cons (by kernel_rfl) (by kernel_rfl) ?_
  refine TysOk.cons (by kernel_rfl) (by kernel_rfl) ?_
  refine TysOk.cons (by kernel_rfl) (by kernel_rfl) ?_
  refine TysOk.cons (by kernel_rfl) (by kernel_rfl) ?_
  refine TysOk.cons (by kernel_rfl) (by kernel_rfl) ?_
  refine TysOk.cons (by kernel_rfl) (by kernel_rfl) ?_
  refine TysOk.cons (by kernel_rfl) (by kernel_rfl) ?_
  refine TysOk.cons (by kernel_rfl) (by kernel_rfl) ?_
  refine TysOk.cons (by kernel_rfl) (by kernel_rfl) ?_
  refine TysOk.cons (by kernel_rfl) (by kernel_rfl) ?_
  refine TysOk.cons (by kernel_rfl) (by kernel_rfl) ?_
  refine TysOk.cons (by kernel_rfl) (by kernel_rfl) ?_
  refine TysOk.cons (by kernel_rfl) (by kernel_rfl) ?_
  refine TysOk.cons (by kernel_rfl) (by kernel_rfl) ?_
  refine TysOk.cons (by kernel_rfl) (by kernel_rfl) ?_
  refine TysOk.cons (by kernel_rfl) (by kernel_rfl) ?_
  refine TysOk.cons (by kernel_rfl) (by kernel_rfl) ?_
  refine TysOk.cons (by kernel_rfl) (by kernel_rfl) ?_
  refine TysOk.cons (by kernel_rfl) (by kernel_rfl) ?_
  refine TysOk.cons (by kernel_rfl) (by kernel_rfl) ?_
  refine TysOk.cons (by kernel_rfl) (by kernel_rfl) ?_
  refine TysOk.cons (by kernel_rfl) (by kernel_rfl) ?_
  refine TysOk.cons (by kernel_rfl) (by kernel_rfl) ?_
  refine TysOk.cons (by kernel_rfl) (by kernel_rfl) ?_
  refine TysOk.cons (by kernel_rfl) (by kernel_rfl) ?_
  refine TysOk.cons (by kernel_rfl) (by kernel_rfl) ?_
  refine TysOk.cons (by kernel_rfl) (by kernel_rfl) ?_
  refine TysOk.cons (by kernel_rfl) (by kernel_rfl) ?_
  refine TysOk.cons (by kernel_rfl) (by kernel_rfl) ?_
  refine TysOk.cons (by kernel_rfl) (by kernel_rfl) ?_
  refine TysOk.cons (by kernel_rfl) (by kernel_rfl) ?_
  refine TysOk.cons (by kernel_rfl) (by kernel_rfl) ?_
  exact TysOk.nil _
end Go.Proofs.Ytfmfakgokgcjmaa
