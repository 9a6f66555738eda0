/-
  The types of the translation, as the walks ask of them: by program off the dump's own rows. Conditions: none.
-/
import Derived.Test.YtkbggengagockaaChecked
import Derived.Test.YtkbggengagockaaBfCall
namespace Go.Proofs.Ytkbggengagockaa
open Go Bf
def tys : List (Nat × TyI) := [
  (0, ⟨.tuple #[], 1, 0, .tuple #[]⟩),
  (1, ⟨.func #[] #[] false, 1, 8, .nilFunc⟩),
  (2, ⟨.int .i64, 1, 8, .int .i64 0⟩),
  (3, ⟨.int .i64, 1, 8, .int .i64 0⟩),
  (4, ⟨.bool, 1, 1, .bool false⟩),
  (5, ⟨.int .u8, 1, 1, .int .u8 0⟩),
  (6, ⟨.int .u8, 1, 1, .int .u8 0⟩),
  (7, ⟨.struct #[⟨ "x", 2, 0, false, "", "runtime", 0⟩, ⟨ "y", 3, 1, false, "", "runtime", 8⟩, ⟨ "signed", 4, 2, false, "", "runtime", 16⟩, ⟨ "code", 6, 3, false, "", "runtime", 17⟩], 4, 24, .agg #[.int .i64 0, .int .i64 0, .bool false, .int .u8 0]⟩),
  (8, ⟨.struct #[⟨ "x", 2, 0, false, "", "runtime", 0⟩, ⟨ "y", 3, 1, false, "", "runtime", 8⟩, ⟨ "signed", 4, 2, false, "", "runtime", 16⟩, ⟨ "code", 6, 3, false, "", "runtime", 17⟩], 4, 24, .agg #[.int .i64 0, .int .i64 0, .bool false, .int .u8 0]⟩),
  (9, ⟨.string, 1, 16, .string ⟨#[]⟩⟩),
  (10, ⟨.string, 1, 16, .string ⟨#[]⟩⟩),
  (11, ⟨.string, 1, 16, .string ⟨#[]⟩⟩),
  (12, ⟨.int .u64, 1, 8, .int .u64 0⟩),
  (13, ⟨.struct #[⟨ "msg", 9, 0, false, "", "runtime", 0⟩, ⟨ "addr", 12, 1, false, "", "runtime", 16⟩], 2, 24, .agg #[.string ⟨#[]⟩, .int .u64 0]⟩),
  (14, ⟨.struct #[⟨ "msg", 9, 0, false, "", "runtime", 0⟩, ⟨ "addr", 12, 1, false, "", "runtime", 16⟩], 2, 24, .agg #[.string ⟨#[]⟩, .int .u64 0]⟩),
  (15, ⟨.pointer 100, 1, 8, .pointer none⟩),
  (16, ⟨.pointer 103, 1, 8, .pointer none⟩),
  (17, ⟨.pointer 112, 1, 8, .pointer none⟩),
  (18, ⟨.struct #[⟨ "typ", 17, 0, false, "", "internal/runtime/maps", 0⟩], 1, 8, .agg #[.pointer none]⟩),
  (19, ⟨.struct #[⟨ "typ", 17, 0, false, "", "internal/runtime/maps", 0⟩], 1, 8, .agg #[.pointer none]⟩),
  (20, ⟨.interface #[], 1, 16, .nilIface⟩),
  (21, ⟨.int .i32, 1, 4, .int .i32 0⟩),
  (22, ⟨.slice 35, 1, 24, .slice none 0 0⟩),
  (23, ⟨.slice 78, 1, 24, .slice none 0 0⟩),
  (24, ⟨.struct #[⟨ "Sectors", 22, 0, false, "", "", 0⟩, ⟨ "Pending", 23, 1, false, "", "", 24⟩, ⟨ "Left", 3, 2, false, "", "", 48⟩, ⟨ "Stopped", 4, 3, false, "", "", 56⟩], 4, 64, .agg #[.slice none 0 0, .slice none 0 0, .int .i64 0, .bool false]⟩),
  (25, ⟨.struct #[⟨ "Sectors", 22, 0, false, "", "", 0⟩, ⟨ "Pending", 23, 1, false, "", "", 24⟩, ⟨ "Left", 3, 2, false, "", "", 48⟩, ⟨ "Stopped", 4, 3, false, "", "", 56⟩], 4, 64, .agg #[.slice none 0 0, .slice none 0 0, .int .i64 0, .bool false]⟩),
  (26, ⟨.func #[] #[4] false, 1, 8, .nilFunc⟩),
  (27, ⟨.func #[25, 22] #[4] false, 1, 8, .nilFunc⟩),
  (28, ⟨.struct #[⟨ "Many", 3, 0, false, "", "", 0⟩, ⟨ "Synced", 3, 1, false, "", "", 8⟩, ⟨ "Records", 22, 2, false, "", "", 16⟩], 3, 40, .agg #[.int .i64 0, .int .i64 0, .slice none 0 0]⟩),
  (29, ⟨.struct #[⟨ "Many", 3, 0, false, "", "", 0⟩, ⟨ "Synced", 3, 1, false, "", "", 8⟩, ⟨ "Records", 22, 2, false, "", "", 16⟩], 3, 40, .agg #[.int .i64 0, .int .i64 0, .slice none 0 0]⟩),
  (30, ⟨.int .i64, 1, 8, .int .i64 0⟩),
  (31, ⟨.tuple #[29, 30], 1, 0, .tuple #[.agg #[.int .i64 0, .int .i64 0, .slice none 0 0], .int .i64 0]⟩),
  (32, ⟨.func #[25] #[29, 30] false, 1, 8, .nilFunc⟩),
  (33, ⟨.func #[29, 29] #[4] false, 1, 8, .nilFunc⟩),
  (34, ⟨.func #[25] #[4] false, 1, 8, .nilFunc⟩),
  (35, ⟨.slice 5, 1, 24, .slice none 0 0⟩),
  (36, ⟨.func #[29, 35] #[29, 30] false, 1, 8, .nilFunc⟩),
  (37, ⟨.func #[29] #[30] false, 1, 8, .nilFunc⟩),
  (38, ⟨.func #[29] #[3] false, 1, 8, .nilFunc⟩),
  (39, ⟨.func #[29, 35] #[4] false, 1, 8, .nilFunc⟩),
  (40, ⟨.tuple #[29, 25, 30], 1, 0, .tuple #[.agg #[.int .i64 0, .int .i64 0, .slice none 0 0], .agg #[.slice none 0 0, .slice none 0 0, .int .i64 0, .bool false], .int .i64 0]⟩),
  (41, ⟨.func #[29, 25] #[29, 25, 30] false, 1, 8, .nilFunc⟩),
  (42, ⟨.func #[25, 25] #[4] false, 1, 8, .nilFunc⟩),
  (43, ⟨.func #[29, 25] #[4] false, 1, 8, .nilFunc⟩),
  (44, ⟨.func #[22, 22] #[4] false, 1, 8, .nilFunc⟩),
  (45, ⟨.tuple #[25, 30], 1, 0, .tuple #[.agg #[.slice none 0 0, .slice none 0 0, .int .i64 0, .bool false], .int .i64 0]⟩),
  (46, ⟨.func #[3] #[25, 30] false, 1, 8, .nilFunc⟩),
  (47, ⟨.slice 3, 1, 24, .slice none 0 0⟩),
  (48, ⟨.int .u64, 1, 8, .int .u64 0⟩),
  (49, ⟨.func #[25, 3, 35] #[25, 30] false, 1, 8, .nilFunc⟩),
  (50, ⟨.func #[25] #[25, 30] false, 1, 8, .nilFunc⟩),
  (51, ⟨.func #[22, 3, 3, 5] #[4] false, 1, 8, .nilFunc⟩),
  (52, ⟨.func #[29, 22] #[29] false, 1, 8, .nilFunc⟩),
  (53, ⟨.slice 55, 1, 24, .slice none 0 0⟩),
  (54, ⟨.struct #[⟨ "Records", 22, 0, false, "", "", 0⟩, ⟨ "Stop", 4, 1, false, "", "", 24⟩, ⟨ "Left", 5, 2, false, "", "", 25⟩], 3, 32, .agg #[.slice none 0 0, .bool false, .int .u8 0]⟩),
  (55, ⟨.struct #[⟨ "Records", 22, 0, false, "", "", 0⟩, ⟨ "Stop", 4, 1, false, "", "", 24⟩, ⟨ "Left", 5, 2, false, "", "", 25⟩], 3, 32, .agg #[.slice none 0 0, .bool false, .int .u8 0]⟩),
  (56, ⟨.func #[25, 3] #[25, 30] false, 1, 8, .nilFunc⟩),
  (57, ⟨.func #[25] #[25] false, 1, 8, .nilFunc⟩),
  (58, ⟨.func #[5, 53] #[4] false, 1, 8, .nilFunc⟩),
  (59, ⟨.func #[25, 3] #[30] false, 1, 8, .nilFunc⟩),
  (60, ⟨.func #[62] #[22] false, 1, 8, .nilFunc⟩),
  (61, ⟨.func #[82] #[] false, 1, 8, .nilFunc⟩),
  (62, ⟨.func #[82] #[] false, 1, 8, .nilFunc⟩),
  (63, ⟨.func #[22] #[62] false, 1, 8, .nilFunc⟩),
  (64, ⟨.func #[25] #[30] false, 1, 8, .nilFunc⟩),
  (65, ⟨.func #[22] #[22] false, 1, 8, .nilFunc⟩),
  (66, ⟨.func #[3] #[3] false, 1, 8, .nilFunc⟩),
  (67, ⟨.func #[22] #[3] false, 1, 8, .nilFunc⟩),
  (68, ⟨.func #[35] #[35] false, 1, 8, .nilFunc⟩),
  (69, ⟨.func #[22, 22, 70] #[4] false, 1, 8, .nilFunc⟩),
  (70, ⟨.func #[35, 35] #[4] false, 1, 8, .nilFunc⟩),
  (71, ⟨.func #[25] #[3] false, 1, 8, .nilFunc⟩),
  (72, ⟨.tuple #[25, 3, 30], 1, 0, .tuple #[.agg #[.slice none 0 0, .slice none 0 0, .int .i64 0, .bool false], .int .i64 0, .int .i64 0]⟩),
  (73, ⟨.func #[25, 3, 3, 35] #[25, 3, 30] false, 1, 8, .nilFunc⟩),
  (74, ⟨.int .u64, 1, 8, .int .u64 0⟩),
  (75, ⟨.func #[22] #[74] false, 1, 8, .nilFunc⟩),
  (76, ⟨.func #[74, 3, 4, 4, 35] #[35] false, 1, 8, .nilFunc⟩),
  (77, ⟨.struct #[⟨ "At", 3, 0, false, "", "", 0⟩, ⟨ "Data", 35, 1, false, "", "", 8⟩], 2, 32, .agg #[.int .i64 0, .slice none 0 0]⟩),
  (78, ⟨.struct #[⟨ "At", 3, 0, false, "", "", 0⟩, ⟨ "Data", 35, 1, false, "", "", 8⟩], 2, 32, .agg #[.int .i64 0, .slice none 0 0]⟩),
  (79, ⟨.func #[25, 3] #[4] false, 1, 8, .nilFunc⟩),
  (80, ⟨.func #[23] #[23] false, 1, 8, .nilFunc⟩),
  (81, ⟨.func #[22, 62] #[22] false, 1, 8, .nilFunc⟩),
  (82, ⟨.func #[35] #[4] false, 1, 8, .nilFunc⟩),
  (83, ⟨.struct #[⟨ "generation", 3, 0, false, "", "backflush/journal", 0⟩, ⟨ "number", 3, 1, false, "", "backflush/journal", 8⟩, ⟨ "flags", 5, 2, false, "", "backflush/journal", 16⟩, ⟨ "many", 3, 3, false, "", "backflush/journal", 24⟩], 4, 32, .agg #[.int .i64 0, .int .i64 0, .int .u8 0, .int .i64 0]⟩),
  (84, ⟨.struct #[⟨ "generation", 3, 0, false, "", "backflush/journal", 0⟩, ⟨ "number", 3, 1, false, "", "backflush/journal", 8⟩, ⟨ "flags", 5, 2, false, "", "backflush/journal", 16⟩, ⟨ "many", 3, 3, false, "", "backflush/journal", 24⟩], 4, 32, .agg #[.int .i64 0, .int .i64 0, .int .u8 0, .int .i64 0]⟩),
  (85, ⟨.tuple #[84, 4], 1, 0, .tuple #[.agg #[.int .i64 0, .int .i64 0, .int .u8 0, .int .i64 0], .bool false]⟩),
  (86, ⟨.func #[35, 3] #[84, 4] false, 1, 8, .nilFunc⟩),
  (87, ⟨.tuple #[35, 3], 1, 0, .tuple #[.slice none 0 0, .int .i64 0]⟩),
  (88, ⟨.func #[22, 3] #[35, 3] false, 1, 8, .nilFunc⟩),
  (89, ⟨.func #[35] #[74] false, 1, 8, .nilFunc⟩),
  (90, ⟨.func #[35] #[3] false, 1, 8, .nilFunc⟩),
  (91, ⟨.func #[84, 35] #[35] false, 1, 8, .nilFunc⟩),
  (92, ⟨.func #[74, 3] #[35] false, 1, 8, .nilFunc⟩),
  (93, ⟨.int .u32, 1, 4, .int .u32 0⟩),
  (94, ⟨.func #[35] #[93] false, 1, 8, .nilFunc⟩),
  (95, ⟨.func #[35, 3] #[4] false, 1, 8, .nilFunc⟩),
  (96, ⟨.array 4 5, 4, 4, .agg #[.int .u8 0, .int .u8 0, .int .u8 0, .int .u8 0]⟩),
  (97, ⟨.func #[3] #[96] false, 1, 8, .nilFunc⟩),
  (98, ⟨.func #[] #[9] false, 1, 8, .nilFunc⟩),
  (99, ⟨.struct #[⟨ "_interface", 17, 0, false, "", "runtime", 0⟩, ⟨ "concrete", 17, 1, false, "", "runtime", 8⟩, ⟨ "asserted", 17, 2, false, "", "runtime", 16⟩, ⟨ "missingMethod", 9, 3, false, "", "runtime", 24⟩], 4, 40, .agg #[.pointer none, .pointer none, .pointer none, .string ⟨#[]⟩]⟩),
  (100, ⟨.struct #[⟨ "_interface", 17, 0, false, "", "runtime", 0⟩, ⟨ "concrete", 17, 1, false, "", "runtime", 8⟩, ⟨ "asserted", 17, 2, false, "", "runtime", 16⟩, ⟨ "missingMethod", 9, 3, false, "", "runtime", 24⟩], 4, 40, .agg #[.pointer none, .pointer none, .pointer none, .string ⟨#[]⟩]⟩),
  (101, ⟨.array 0 16, 0, 0, .agg #[]⟩),
  (102, ⟨.struct #[⟨ "_", 101, 0, false, "", "runtime", 0⟩], 0, 0, .agg #[]⟩),
  (103, ⟨.struct #[⟨ "_", 101, 0, false, "", "runtime", 0⟩], 0, 0, .agg #[]⟩),
  (104, ⟨.func #[] #[3] false, 1, 8, .nilFunc⟩),
  (105, ⟨.int .u8, 1, 1, .int .u8 0⟩),
  (106, ⟨.int .u8, 1, 1, .int .u8 0⟩),
  (107, ⟨.func #[113, 113] #[4] false, 1, 8, .nilFunc⟩),
  (108, ⟨.pointer 5, 1, 8, .pointer none⟩),
  (109, ⟨.int .i32, 1, 4, .int .i32 0⟩),
  (110, ⟨.int .i32, 1, 4, .int .i32 0⟩),
  (111, ⟨.struct #[⟨ "Size_", 12, 0, false, "", "", 0⟩, ⟨ "PtrBytes", 12, 1, false, "", "", 8⟩, ⟨ "Hash", 93, 2, false, "", "", 16⟩, ⟨ "TFlag", 105, 3, false, "", "", 20⟩, ⟨ "Align_", 5, 4, false, "", "", 21⟩, ⟨ "FieldAlign_", 5, 5, false, "", "", 22⟩, ⟨ "Kind_", 106, 6, false, "", "", 23⟩, ⟨ "Equal", 107, 7, false, "", "", 24⟩, ⟨ "GCData", 108, 8, false, "", "", 32⟩, ⟨ "Str", 109, 9, false, "", "", 40⟩, ⟨ "PtrToThis", 110, 10, false, "", "", 44⟩], 11, 48, .agg #[.int .u64 0, .int .u64 0, .int .u32 0, .int .u8 0, .int .u8 0, .int .u8 0, .int .u8 0, .nilFunc, .pointer none, .int .i32 0, .int .i32 0]⟩),
  (112, ⟨.struct #[⟨ "Size_", 12, 0, false, "", "", 0⟩, ⟨ "PtrBytes", 12, 1, false, "", "", 8⟩, ⟨ "Hash", 93, 2, false, "", "", 16⟩, ⟨ "TFlag", 105, 3, false, "", "", 20⟩, ⟨ "Align_", 5, 4, false, "", "", 21⟩, ⟨ "FieldAlign_", 5, 5, false, "", "", 22⟩, ⟨ "Kind_", 106, 6, false, "", "", 23⟩, ⟨ "Equal", 107, 7, false, "", "", 24⟩, ⟨ "GCData", 108, 8, false, "", "", 32⟩, ⟨ "Str", 109, 9, false, "", "", 40⟩, ⟨ "PtrToThis", 110, 10, false, "", "", 44⟩], 11, 48, .agg #[.int .u64 0, .int .u64 0, .int .u32 0, .int .u8 0, .int .u8 0, .int .u8 0, .int .u8 0, .nilFunc, .pointer none, .int .i32 0, .int .i32 0]⟩)]
theorem tysOk : TysOk Try.prog tys := by
  unfold tys
  refine TysOk.cons (by kernel_rfl) (by kernel_rfl) ?_
  refine TysOk.cons (by kernel_rfl) (by kernel_rfl) ?_
  refine TysOk.cons (by kernel_rfl) (by kernel_rfl) ?_
  refine TysOk.cons (by kernel_rfl) (by kernel_rfl) ?_
  refine TysOk.cons (by kernel_rfl) (by kernel_rfl) ?_
  refine TysOk.cons (by kernel_rfl) (by kernel_rfl) ?_
  refine TysOk.cons (by kernel_rfl) (by kernel_rfl) ?_
  refine TysOk.cons (by kernel_rfl) (by kernel_rfl) ?_
  refine TysOk.cons (by kernel_rfl) (by kernel_rfl) ?_
  refine TysOk.cons (by kernel_rfl) (by kernel_rfl) ?_
  refine TysOk.cons (by kernel_rfl) (by kernel_rfl) ?_
  refine TysOk.cons (by kernel_rfl) (by kernel_rfl) ?_
  refine TysOk.cons (by kernel_rfl) (by kernel_rfl) ?_
  refine TysOk.cons (by kernel_rfl) (by kernel_rfl) ?_
  refine TysOk.cons (by kernel_rfl) (by kernel_rfl) ?_
  refine TysOk.cons (by kernel_rfl) (by kernel_rfl) ?_
  refine TysOk.cons (by kernel_rfl) (by kernel_rfl) ?_
  refine TysOk.cons (by kernel_rfl) (by kernel_rfl) ?_
  refine TysOk.cons (by kernel_rfl) (by kernel_rfl) ?_
  refine TysOk.cons (by kernel_rfl) (by kernel_rfl) ?_
  refine TysOk.cons (by kernel_rfl) (by kernel_rfl) ?_
  refine TysOk.cons (by kernel_rfl) (by kernel_rfl) ?_
  refine TysOk.cons (by kernel_rfl) (by kernel_rfl) ?_
  refine TysOk.cons (by kernel_rfl) (by kernel_rfl) ?_
  refine TysOk.cons (by kernel_rfl) (by kernel_rfl) ?_
  refine TysOk.cons (by kernel_rfl) (by kernel_rfl) ?_
  refine TysOk.cons (by kernel_rfl) (by kernel_rfl) ?_
  refine TysOk.cons (by kernel_rfl) (by kernel_rfl) ?_
  refine TysOk.cons (by kernel_rfl) (by kernel_rfl) ?_
  refine TysOk.cons (by kernel_rfl) (by kernel_rfl) ?_
  refine TysOk.cons (by kernel_rfl) (by kernel_rfl) ?_
  refine TysOk.cons (by kernel_rfl) (by kernel_rfl) ?_
  refine TysOk.cons (by kernel_rfl) (by kernel_rfl) ?_
  refine TysOk.cons (by kernel_rfl) (by kernel_rfl) ?_
  refine TysOk.cons (by kernel_rfl) (by kernel_rfl) ?_
  refine TysOk.cons (by kernel_rfl) (by kernel_rfl) ?_
  refine TysOk.cons (by kernel_rfl) (by kernel_rfl) ?_
  refine TysOk.cons (by kernel_rfl) (by kernel_rfl) ?_
  refine TysOk.cons (by kernel_rfl) (by kernel_rfl) ?_
  refine TysOk.cons (by kernel_rfl) (by kernel_rfl) ?_
  refine TysOk.cons (by kernel_rfl) (by kernel_rfl) ?_
  refine TysOk.cons (by kernel_rfl) (by kernel_rfl) ?_
  refine TysOk.cons (by kernel_rfl) (by kernel_rfl) ?_
  refine TysOk.cons (by kernel_rfl) (by kernel_rfl) ?_
  refine TysOk.cons (by kernel_rfl) (by kernel_rfl) ?_
  refine TysOk.cons (by kernel_rfl) (by kernel_rfl) ?_
  refine TysOk.cons (by kernel_rfl) (by kernel_rfl) ?_
  refine TysOk.cons (by kernel_rfl) (by kernel_rfl) ?_
  refine TysOk.cons (by kernel_rfl) (by kernel_rfl) ?_
  refine TysOk.cons (by kernel_rfl) (by kernel_rfl) ?_
  refine TysOk.cons (by kernel_rfl) (by kernel_rfl) ?_
  refine TysOk.cons (by kernel_rfl) (by kernel_rfl) ?_
  refine TysOk.cons (by kernel_rfl) (by kernel_rfl) ?_
  refine TysOk.cons (by kernel_rfl) (by kernel_rfl) ?_
  refine TysOk.cons (by kernel_rfl) (by kernel_rfl) ?_
  refine TysOk.cons (by kernel_rfl) (by kernel_rfl) ?_
  refine TysOk.cons (by kernel_rfl) (by kernel_rfl) ?_
  refine TysOk.cons (by kernel_rfl) (by kernel_rfl) ?_
  refine TysOk.cons (by kernel_rfl) (by kernel_rfl) ?_
  refine TysOk.cons (by kernel_rfl) (by kernel_rfl) ?_
  refine TysOk.cons (by kernel_rfl) (by kernel_rfl) ?_
  refine TysOk.cons (by kernel_rfl) (by kernel_rfl) ?_
  refine TysOk.cons (by kernel_rfl) (by kernel_rfl) ?_
  refine TysOk.cons (by kernel_rfl) (by kernel_rfl) ?_
  refine TysOk.cons (by kernel_rfl) (by kernel_rfl) ?_
  refine TysOk.cons (by kernel_rfl) (by kernel_rfl) ?_
  refine TysOk.cons (by kernel_rfl) (by kernel_rfl) ?_
  refine TysOk.cons (by kernel_rfl) (by kernel_rfl) ?_
  refine TysOk.cons (by kernel_rfl) (by kernel_rfl) ?_
  refine TysOk.cons (by kernel_rfl) (by kernel_rfl) ?_
  refine TysOk.cons (by kernel_rfl) (by kernel_rfl) ?_
  refine TysOk.cons (by kernel_rfl) (by kernel_rfl) ?_
  refine TysOk.cons (by kernel_rfl) (by kernel_rfl) ?_
  refine TysOk.cons (by kernel_rfl) (by kernel_rfl) ?_
  refine TysOk.cons (by kernel_rfl) (by kernel_rfl) ?_
  refine TysOk.cons (by kernel_rfl) (by kernel_rfl) ?_
  refine TysOk.cons (by kernel_rfl) (by kernel_rfl) ?_
  refine TysOk.cons (by kernel_rfl) (by kernel_rfl) ?_
  refine TysOk.cons (by kernel_rfl) (by kernel_rfl) ?_
  refine TysOk.cons (by kernel_rfl) (by kernel_rfl) ?_
  refine TysOk.cons (by kernel_rfl) (by kernel_rfl) ?_
  refine TysOk.cons (by kernel_rfl) (by kernel_rfl) ?_
  refine TysOk.cons (by kernel_rfl) (by kernel_rfl) ?_
  refine TysOk.cons (by kernel_rfl) (by kernel_rfl) ?_
  refine TysOk.cons (by kernel_rfl) (by kernel_rfl) ?_
  refine TysOk.cons (by kernel_rfl) (by kernel_rfl) ?_
  refine TysOk.cons (by kernel_rfl) (by kernel_rfl) ?_
  refine TysOk.cons (by kernel_rfl) (by kernel_rfl) ?_
  refine TysOk.cons (by kernel_rfl) (by kernel_rfl) ?_
  refine TysOk.cons (by kernel_rfl) (by kernel_rfl) ?_
  refine TysOk.cons (by kernel_rfl) (by kernel_rfl) ?_
  refine TysOk.cons (by kernel_rfl) (by kernel_rfl) ?_
  refine TysOk.cons (by kernel_rfl) (by kernel_rfl) ?_
  refine TysOk.cons (by kernel_rfl) (by kernel_rfl) ?_
  refine TysOk.cons (by kernel_rfl) (by kernel_rfl) ?_
  refine TysOk.cons (by kernel_rfl) (by kernel_rfl) ?_
  refine TysOk.cons (by kernel_rfl) (by kernel_rfl) ?_
  refine TysOk.cons (by kernel_rfl) (by kernel_rfl) ?_
  refine TysOk.cons (by kernel_rfl) (by kernel_rfl) ?_
  refine TysOk.cons (by kernel_rfl) (by kernel_rfl) ?_
  refine TysOk.cons (by kernel_rfl) (by kernel_rfl) ?_
  refine TysOk.cons (by kernel_rfl) (by kernel_rfl) ?_
  refine TysOk.cons (by kernel_rfl) (by kernel_rfl) ?_
  refine TysOk.cons (by kernel_rfl) (by kernel_rfl) ?_
  refine TysOk.cons (by kernel_rfl) (by kernel_rfl) ?_
  refine TysOk.cons (by kernel_rfl) (by kernel_rfl) ?_
  refine TysOk.cons (by kernel_rfl) (by kernel_rfl) ?_
  refine TysOk.cons (by kernel_rfl) (by kernel_rfl) ?_
  refine TysOk.cons (by kernel_rfl) (by kernel_rfl) ?_
  refine TysOk.cons (by kernel_rfl) (by kernel_rfl) ?_
  refine TysOk.cons (by kernel_rfl) (by kernel_rfl) ?_
  refine TysOk.cons (by kernel_rfl) (by kernel_rfl) ?_
  refine TysOk.cons (by kernel_rfl) (by kernel_rfl) ?_
  exact TysOk.nil _
end Go.Proofs.Ytkbggengagockaa
