/-
  The types of the translation, as the walks ask of them: by program off the dump's own rows. Conditions: none.
-/
import Derived.Test.YtgcjpicnibeemaaChecked
import Derived.Test.YtgcjpicnibeemaaBfCall
namespace Go.Proofs.Ytgcjpicnibeemaa
open Go Bf
def tys : List (Nat × TyI) := [
  (0, ⟨.tuple #[], 1, 0, .tuple #[]⟩),
  (1, ⟨.func #[] #[] false, 1, 8, .nilFunc⟩),
  (2, ⟨.int .i64, 1, 8, .int .i64 0⟩),
  (3, ⟨.int .i64, 1, 8, .int .i64 0⟩),
  (4, ⟨.bool, 1, 1, .bool false⟩),
  (5, ⟨.int .u8, 1, 1, .int .u8 0⟩),
  (6, ⟨.int .u8, 1, 1, .int .u8 0⟩),
  (7, ⟨.struct #[⟨ "x", 2, 0, false, "", "runtime", 0⟩, ⟨ "y", 3, 1, false, "", "runtime", 8⟩, ⟨ "signed", 4, 2, false, "", "runtime", 16⟩, ⟨ "code", 6, 3, false, "", "runtime", 17⟩], 4, 24, .agg #[.int .i64 0, .int .i64 0, .bool false, .int .u8 0]⟩),
  (8, ⟨.struct #[⟨ "x", 2, 0, false, "", "runtime", 0⟩, ⟨ "y", 3, 1, false, "", "runtime", 8⟩, ⟨ "signed", 4, 2, false, "", "runtime", 16⟩, ⟨ "code", 6, 3, false, "", "runtime", 17⟩], 4, 24, .agg #[.int .i64 0, .int .i64 0, .bool false, .int .u8 0]⟩),
  (9, ⟨.string, 1, 16, .string ⟨#[]⟩⟩),
  (10, ⟨.string, 1, 16, .string ⟨#[]⟩⟩),
  (11, ⟨.string, 1, 16, .string ⟨#[]⟩⟩),
  (12, ⟨.int .u64, 1, 8, .int .u64 0⟩),
  (13, ⟨.struct #[⟨ "msg", 9, 0, false, "", "runtime", 0⟩, ⟨ "addr", 12, 1, false, "", "runtime", 16⟩], 2, 24, .agg #[.string ⟨#[]⟩, .int .u64 0]⟩),
  (14, ⟨.struct #[⟨ "msg", 9, 0, false, "", "runtime", 0⟩, ⟨ "addr", 12, 1, false, "", "runtime", 16⟩], 2, 24, .agg #[.string ⟨#[]⟩, .int .u64 0]⟩),
  (15, ⟨.pointer 75, 1, 8, .pointer none⟩),
  (16, ⟨.pointer 78, 1, 8, .pointer none⟩),
  (17, ⟨.pointer 88, 1, 8, .pointer none⟩),
  (18, ⟨.struct #[⟨ "typ", 17, 0, false, "", "internal/runtime/maps", 0⟩], 1, 8, .agg #[.pointer none]⟩),
  (19, ⟨.struct #[⟨ "typ", 17, 0, false, "", "internal/runtime/maps", 0⟩], 1, 8, .agg #[.pointer none]⟩),
  (20, ⟨.interface #[], 1, 16, .nilIface⟩),
  (21, ⟨.int .i32, 1, 4, .int .i32 0⟩),
  (22, ⟨.slice 24, 1, 24, .slice none 0 0⟩),
  (23, ⟨.struct #[⟨ "Kind", 3, 0, false, "", "", 0⟩, ⟨ "N", 3, 1, false, "", "", 8⟩, ⟨ "S", 9, 2, false, "", "", 16⟩, ⟨ "L", 22, 3, false, "", "", 32⟩], 4, 56, .agg #[.int .i64 0, .int .i64 0, .string ⟨#[]⟩, .slice none 0 0]⟩),
  (24, ⟨.struct #[⟨ "Kind", 3, 0, false, "", "", 0⟩, ⟨ "N", 3, 1, false, "", "", 8⟩, ⟨ "S", 9, 2, false, "", "", 16⟩, ⟨ "L", 22, 3, false, "", "", 32⟩], 4, 56, .agg #[.int .i64 0, .int .i64 0, .string ⟨#[]⟩, .slice none 0 0]⟩),
  (25, ⟨.func #[] #[4] false, 1, 8, .nilFunc⟩),
  (26, ⟨.func #[22] #[4] true, 1, 8, .nilFunc⟩),
  (27, ⟨.slice 5, 1, 24, .slice none 0 0⟩),
  (28, ⟨.int .i64, 1, 8, .int .i64 0⟩),
  (29, ⟨.tuple #[27, 28], 1, 0, .tuple #[.slice none 0 0, .int .i64 0]⟩),
  (30, ⟨.func #[24] #[27, 28] false, 1, 8, .nilFunc⟩),
  (31, ⟨.tuple #[3, 28], 1, 0, .tuple #[.int .i64 0, .int .i64 0]⟩),
  (32, ⟨.func #[24] #[3, 28] false, 1, 8, .nilFunc⟩),
  (33, ⟨.func #[24] #[28] false, 1, 8, .nilFunc⟩),
  (34, ⟨.func #[24] #[4] false, 1, 8, .nilFunc⟩),
  (35, ⟨.tuple #[24, 28], 1, 0, .tuple #[.agg #[.int .i64 0, .int .i64 0, .string ⟨#[]⟩, .slice none 0 0], .int .i64 0]⟩),
  (36, ⟨.func #[27] #[24, 28] false, 1, 8, .nilFunc⟩),
  (37, ⟨.func #[24, 24] #[4] false, 1, 8, .nilFunc⟩),
  (38, ⟨.func #[27] #[4] false, 1, 8, .nilFunc⟩),
  (39, ⟨.func #[24, 27] #[4] false, 1, 8, .nilFunc⟩),
  (40, ⟨.func #[22] #[24] true, 1, 8, .nilFunc⟩),
  (41, ⟨.func #[3] #[24] false, 1, 8, .nilFunc⟩),
  (42, ⟨.func #[22] #[4] false, 1, 8, .nilFunc⟩),
  (43, ⟨.func #[3, 3] #[4] false, 1, 8, .nilFunc⟩),
  (44, ⟨.func #[9] #[24] false, 1, 8, .nilFunc⟩),
  (45, ⟨.slice 9, 1, 24, .slice none 0 0⟩),
  (46, ⟨.func #[24, 3] #[4] false, 1, 8, .nilFunc⟩),
  (47, ⟨.func #[24] #[3] false, 1, 8, .nilFunc⟩),
  (48, ⟨.func #[27, 24] #[27] false, 1, 8, .nilFunc⟩),
  (49, ⟨.func #[55, 3] #[24] false, 1, 8, .nilFunc⟩),
  (50, ⟨.struct #[⟨ "pure", 34, 0, false, "", "backflush/codec", 0⟩, ⟨ "size", 47, 1, false, "", "backflush/codec", 8⟩, ⟨ "write", 48, 2, false, "", "backflush/codec", 16⟩, ⟨ "read", 49, 3, false, "", "backflush/codec", 24⟩], 4, 32, .agg #[.nilFunc, .nilFunc, .nilFunc, .nilFunc]⟩),
  (51, ⟨.struct #[⟨ "pure", 34, 0, false, "", "backflush/codec", 0⟩, ⟨ "size", 47, 1, false, "", "backflush/codec", 8⟩, ⟨ "write", 48, 2, false, "", "backflush/codec", 16⟩, ⟨ "read", 49, 3, false, "", "backflush/codec", 24⟩], 4, 32, .agg #[.nilFunc, .nilFunc, .nilFunc, .nilFunc]⟩),
  (52, ⟨.array 4 51, 16, 128, .agg #[.nilFunc, .nilFunc, .nilFunc, .nilFunc, .nilFunc, .nilFunc, .nilFunc, .nilFunc, .nilFunc, .nilFunc, .nilFunc, .nilFunc, .nilFunc, .nilFunc, .nilFunc, .nilFunc]⟩),
  (53, ⟨.func #[] #[52] false, 1, 8, .nilFunc⟩),
  (54, ⟨.func #[24] #[27] false, 1, 8, .nilFunc⟩),
  (55, ⟨.pointer 57, 1, 8, .pointer none⟩),
  (56, ⟨.struct #[⟨ "rest", 27, 0, false, "", "backflush/codec", 0⟩], 1, 24, .agg #[.slice none 0 0]⟩),
  (57, ⟨.struct #[⟨ "rest", 27, 0, false, "", "backflush/codec", 0⟩], 1, 24, .agg #[.slice none 0 0]⟩),
  (58, ⟨.pointer 60, 1, 8, .pointer none⟩),
  (59, ⟨.struct #[⟨ "B", 27, 0, false, "", "", 0⟩, ⟨ "At", 3, 1, false, "", "", 24⟩, ⟨ "Bad", 4, 2, false, "", "", 32⟩], 3, 40, .agg #[.slice none 0 0, .int .i64 0, .bool false]⟩),
  (60, ⟨.struct #[⟨ "B", 27, 0, false, "", "", 0⟩, ⟨ "At", 3, 1, false, "", "", 24⟩, ⟨ "Bad", 4, 2, false, "", "", 32⟩], 3, 40, .agg #[.slice none 0 0, .int .i64 0, .bool false]⟩),
  (61, ⟨.func #[24, 3] #[3] false, 1, 8, .nilFunc⟩),
  (62, ⟨.func #[63] #[3] false, 1, 8, .nilFunc⟩),
  (63, ⟨.int .u64, 1, 8, .int .u64 0⟩),
  (64, ⟨.func #[3] #[63] false, 1, 8, .nilFunc⟩),
  (65, ⟨.func #[27, 63] #[27] false, 1, 8, .nilFunc⟩),
  (66, ⟨.func #[63] #[27] false, 1, 8, .nilFunc⟩),
  (67, ⟨.func #[3] #[4] false, 1, 8, .nilFunc⟩),
  (68, ⟨.struct #[], 0, 0, .agg #[]⟩),
  (69, ⟨.struct #[], 0, 0, .agg #[]⟩),
  (70, ⟨.func #[] #[5] false, 1, 8, .nilFunc⟩),
  (71, ⟨.func #[] #[63] false, 1, 8, .nilFunc⟩),
  (72, ⟨.int .u64, 1, 8, .int .u64 0⟩),
  (73, ⟨.func #[] #[9] false, 1, 8, .nilFunc⟩),
  (74, ⟨.struct #[⟨ "_interface", 17, 0, false, "", "runtime", 0⟩, ⟨ "concrete", 17, 1, false, "", "runtime", 8⟩, ⟨ "asserted", 17, 2, false, "", "runtime", 16⟩, ⟨ "missingMethod", 9, 3, false, "", "runtime", 24⟩], 4, 40, .agg #[.pointer none, .pointer none, .pointer none, .string ⟨#[]⟩]⟩),
  (75, ⟨.struct #[⟨ "_interface", 17, 0, false, "", "runtime", 0⟩, ⟨ "concrete", 17, 1, false, "", "runtime", 8⟩, ⟨ "asserted", 17, 2, false, "", "runtime", 16⟩, ⟨ "missingMethod", 9, 3, false, "", "runtime", 24⟩], 4, 40, .agg #[.pointer none, .pointer none, .pointer none, .string ⟨#[]⟩]⟩),
  (76, ⟨.array 0 16, 0, 0, .agg #[]⟩),
  (77, ⟨.struct #[⟨ "_", 76, 0, false, "", "runtime", 0⟩], 0, 0, .agg #[]⟩),
  (78, ⟨.struct #[⟨ "_", 76, 0, false, "", "runtime", 0⟩], 0, 0, .agg #[]⟩),
  (79, ⟨.func #[] #[3] false, 1, 8, .nilFunc⟩),
  (80, ⟨.int .u32, 1, 4, .int .u32 0⟩),
  (81, ⟨.int .u8, 1, 1, .int .u8 0⟩),
  (82, ⟨.int .u8, 1, 1, .int .u8 0⟩),
  (83, ⟨.func #[89, 89] #[4] false, 1, 8, .nilFunc⟩),
  (84, ⟨.pointer 5, 1, 8, .pointer none⟩),
  (85, ⟨.int .i32, 1, 4, .int .i32 0⟩),
  (86, ⟨.int .i32, 1, 4, .int .i32 0⟩),
  (87, ⟨.struct #[⟨ "Size_", 12, 0, false, "", "", 0⟩, ⟨ "PtrBytes", 12, 1, false, "", "", 8⟩, ⟨ "Hash", 80, 2, false, "", "", 16⟩, ⟨ "TFlag", 81, 3, false, "", "", 20⟩, ⟨ "Align_", 5, 4, false, "", "", 21⟩, ⟨ "FieldAlign_", 5, 5, false, "", "", 22⟩, ⟨ "Kind_", 82, 6, false, "", "", 23⟩, ⟨ "Equal", 83, 7, false, "", "", 24⟩, ⟨ "GCData", 84, 8, false, "", "", 32⟩, ⟨ "Str", 85, 9, false, "", "", 40⟩, ⟨ "PtrToThis", 86, 10, false, "", "", 44⟩], 11, 48, .agg #[.int .u64 0, .int .u64 0, .int .u32 0, .int .u8 0, .int .u8 0, .int .u8 0, .int .u8 0, .nilFunc, .pointer none, .int .i32 0, .int .i32 0]⟩),
  (88, ⟨.struct #[⟨ "Size_", 12, 0, false, "", "", 0⟩, ⟨ "PtrBytes", 12, 1, false, "", "", 8⟩, ⟨ "Hash", 80, 2, false, "", "", 16⟩, ⟨ "TFlag", 81, 3, false, "", "", 20⟩, ⟨ "Align_", 5, 4, false, "", "", 21⟩, ⟨ "FieldAlign_", 5, 5, false, "", "", 22⟩, ⟨ "Kind_", 82, 6, false, "", "", 23⟩, ⟨ "Equal", 83, 7, false, "", "", 24⟩, ⟨ "GCData", 84, 8, false, "", "", 32⟩, ⟨ "Str", 85, 9, false, "", "", 40⟩, ⟨ "PtrToThis", 86, 10, false, "", "", 44⟩], 11, 48, .agg #[.int .u64 0, .int .u64 0, .int .u32 0, .int .u8 0, .int .u8 0, .int .u8 0, .int .u8 0, .nilFunc, .pointer none, .int .i32 0, .int .i32 0]⟩)]
theorem tysOk : TysOk Try.prog tys := by
  unfold tys
  refine TysOk.cons (by kernel_rfl) (by kernel_rfl) ?_
  refine TysOk.cons (by kernel_rfl) (by kernel_rfl) ?_
  refine TysOk.cons (by kernel_rfl) (by kernel_rfl) ?_
  refine TysOk.cons (by kernel_rfl) (by kernel_rfl) ?_
  refine TysOk.cons (by kernel_rfl) (by kernel_rfl) ?_
  refine TysOk.cons (by kernel_rfl) (by kernel_rfl) ?_
  refine TysOk.cons (by kernel_rfl) (by kernel_rfl) ?_
  refine TysOk.cons (by kernel_rfl) (by kernel_rfl) ?_
  refine TysOk.cons (by kernel_rfl) (by kernel_rfl) ?_
  refine TysOk.cons (by kernel_rfl) (by kernel_rfl) ?_
  refine TysOk.cons (by kernel_rfl) (by kernel_rfl) ?_
  refine TysOk.cons (by kernel_rfl) (by kernel_rfl) ?_
  refine TysOk.cons (by kernel_rfl) (by kernel_rfl) ?_
  refine TysOk.cons (by kernel_rfl) (by kernel_rfl) ?_
  refine TysOk.cons (by kernel_rfl) (by kernel_rfl) ?_
  refine TysOk.cons (by kernel_rfl) (by kernel_rfl) ?_
  refine TysOk.cons (by kernel_rfl) (by kernel_rfl) ?_
  refine TysOk.cons (by kernel_rfl) (by kernel_rfl) ?_
  refine TysOk.cons (by kernel_rfl) (by kernel_rfl) ?_
  refine TysOk.cons (by kernel_rfl) (by kernel_rfl) ?_
  refine TysOk.cons (by kernel_rfl) (by kernel_rfl) ?_
  refine TysOk.cons (by kernel_rfl) (by kernel_rfl) ?_
  refine TysOk.cons (by kernel_rfl) (by kernel_rfl) ?_
  refine TysOk.cons (by kernel_rfl) (by kernel_rfl) ?_
  refine TysOk.cons (by kernel_rfl) (by kernel_rfl) ?_
  refine TysOk.cons (by kernel_rfl) (by kernel_rfl) ?_
  refine TysOk.cons (by kernel_rfl) (by kernel_rfl) ?_
  refine TysOk.cons (by kernel_rfl) (by kernel_rfl) ?_
  refine TysOk.cons (by kernel_rfl) (by kernel_rfl) ?_
  refine TysOk.cons (by kernel_rfl) (by kernel_rfl) ?_
  refine TysOk.cons (by kernel_rfl) (by kernel_rfl) ?_
  refine TysOk.cons (by kernel_rfl) (by kernel_rfl) ?_
  refine TysOk.cons (by kernel_rfl) (by kernel_rfl) ?_
  refine TysOk.cons (by kernel_rfl) (by kernel_rfl) ?_
  refine TysOk.cons (by kernel_rfl) (by kernel_rfl) ?_
  refine TysOk.cons (by kernel_rfl) (by kernel_rfl) ?_
  refine TysOk.cons (by kernel_rfl) (by kernel_rfl) ?_
  refine TysOk.cons (by kernel_rfl) (by kernel_rfl) ?_
  refine TysOk.cons (by kernel_rfl) (by kernel_rfl) ?_
  refine TysOk.cons (by kernel_rfl) (by kernel_rfl) ?_
  refine TysOk.cons (by kernel_rfl) (by kernel_rfl) ?_
  refine TysOk.cons (by kernel_rfl) (by kernel_rfl) ?_
  refine TysOk.cons (by kernel_rfl) (by kernel_rfl) ?_
  refine TysOk.cons (by kernel_rfl) (by kernel_rfl) ?_
  refine TysOk.cons (by kernel_rfl) (by kernel_rfl) ?_
  refine TysOk.cons (by kernel_rfl) (by kernel_rfl) ?_
  refine TysOk.cons (by kernel_rfl) (by kernel_rfl) ?_
  refine TysOk.cons (by kernel_rfl) (by kernel_rfl) ?_
  refine TysOk.cons (by kernel_rfl) (by kernel_rfl) ?_
  refine TysOk.cons (by kernel_rfl) (by kernel_rfl) ?_
  refine TysOk.cons (by kernel_rfl) (by kernel_rfl) ?_
  refine TysOk.cons (by kernel_rfl) (by kernel_rfl) ?_
  refine TysOk.cons (by kernel_rfl) (by kernel_rfl) ?_
  refine TysOk.cons (by kernel_rfl) (by kernel_rfl) ?_
  refine TysOk.cons (by kernel_rfl) (by kernel_rfl) ?_
  refine TysOk.cons (by kernel_rfl) (by kernel_rfl) ?_
  refine TysOk.cons (by kernel_rfl) (by kernel_rfl) ?_
  refine TysOk.cons (by kernel_rfl) (by kernel_rfl) ?_
  refine TysOk.cons (by kernel_rfl) (by kernel_rfl) ?_
  refine TysOk.cons (by kernel_rfl) (by kernel_rfl) ?_
  refine TysOk.cons (by kernel_rfl) (by kernel_rfl) ?_
  refine TysOk.cons (by kernel_rfl) (by kernel_rfl) ?_
  refine TysOk.cons (by kernel_rfl) (by kernel_rfl) ?_
  refine TysOk.cons (by kernel_rfl) (by kernel_rfl) ?_
  refine TysOk.cons (by kernel_rfl) (by kernel_rfl) ?_
  refine TysOk.cons (by kernel_rfl) (by kernel_rfl) ?_
  refine TysOk.cons (by kernel_rfl) (by kernel_rfl) ?_
  refine TysOk.cons (by kernel_rfl) (by kernel_rfl) ?_
  refine TysOk.cons (by kernel_rfl) (by kernel_rfl) ?_
  refine TysOk.cons (by kernel_rfl) (by kernel_rfl) ?_
  refine TysOk.cons (by kernel_rfl) (by kernel_rfl) ?_
  refine TysOk.cons (by kernel_rfl) (by kernel_rfl) ?_
  refine TysOk.cons (by kernel_rfl) (by kernel_rfl) ?_
  refine TysOk.cons (by kernel_rfl) (by kernel_rfl) ?_
  refine TysOk.cons (by kernel_rfl) (by kernel_rfl) ?_
  refine TysOk.cons (by kernel_rfl) (by kernel_rfl) ?_
  refine TysOk.cons (by kernel_rfl) (by kernel_rfl) ?_
  refine TysOk.cons (by kernel_rfl) (by kernel_rfl) ?_
  refine TysOk.cons (by kernel_rfl) (by kernel_rfl) ?_
  refine TysOk.cons (by kernel_rfl) (by kernel_rfl) ?_
  refine TysOk.cons (by kernel_rfl) (by kernel_rfl) ?_
  refine TysOk.cons (by kernel_rfl) (by kernel_rfl) ?_
  refine TysOk.cons (by kernel_rfl) (by kernel_rfl) ?_
  refine TysOk.cons (by kernel_rfl) (by kernel_rfl) ?_
  refine TysOk.cons (by kernel_rfl) (by kernel_rfl) ?_
  refine TysOk.cons (by kernel_rfl) (by kernel_rfl) ?_
  refine TysOk.cons (by kernel_rfl) (by kernel_rfl) ?_
  refine TysOk.cons (by kernel_rfl) (by kernel_rfl) ?_
  refine TysOk.cons (by kernel_rfl) (by kernel_rfl) ?_
  exact TysOk.nil _
end Go.Proofs.Ytgcjpicnibeemaa
