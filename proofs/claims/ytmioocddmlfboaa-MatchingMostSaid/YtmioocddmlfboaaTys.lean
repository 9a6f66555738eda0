/-
  The types of the translation, as the walks ask of them: by program off the dump's own rows. Conditions: none.
-/
import Derived.Test.YtmioocddmlfboaaChecked
import Derived.Test.YtmioocddmlfboaaBfCall
namespace Go.Proofs.Ytmioocddmlfboaa
open Go Bf
def tys : List (Nat × TyI) := [
  (0, ⟨.tuple #[], 1, 0, .tuple #[]⟩),
  (1, ⟨.func #[] #[] false, 1, 8, .nilFunc⟩),
  (2, ⟨.int .i64, 1, 8, .int .i64 0⟩),
  (3, ⟨.int .i64, 1, 8, .int .i64 0⟩),
  (4, ⟨.bool, 1, 1, .bool false⟩),
  (5, ⟨.int .u8, 1, 1, .int .u8 0⟩),
  (6, ⟨.int .u8, 1, 1, .int .u8 0⟩),
  (7, ⟨.struct #[⟨ "x", 2, 0, false, "", "runtime", 0⟩, ⟨ "y", 3, 1, false, "", "runtime", 8⟩, ⟨ "signed", 4, 2, false, "", "runtime", 16⟩, ⟨ "code", 6, 3, false, "", "runtime", 17⟩], 4, 24, .agg #[.int .i64 0, .int .i64 0, .bool false, .int .u8 0]⟩),
  (8, ⟨.struct #[⟨ "x", 2, 0, false, "", "runtime", 0⟩, ⟨ "y", 3, 1, false, "", "runtime", 8⟩, ⟨ "signed", 4, 2, false, "", "runtime", 16⟩, ⟨ "code", 6, 3, false, "", "runtime", 17⟩], 4, 24, .agg #[.int .i64 0, .int .i64 0, .bool false, .int .u8 0]⟩),
  (9, ⟨.string, 1, 16, .string ⟨#[]⟩⟩),
  (10, ⟨.string, 1, 16, .string ⟨#[]⟩⟩),
  (11, ⟨.string, 1, 16, .string ⟨#[]⟩⟩),
  (12, ⟨.int .u64, 1, 8, .int .u64 0⟩),
  (13, ⟨.struct #[⟨ "msg", 9, 0, false, "", "runtime", 0⟩, ⟨ "addr", 12, 1, false, "", "runtime", 16⟩], 2, 24, .agg #[.string ⟨#[]⟩, .int .u64 0]⟩),
  (14, ⟨.struct #[⟨ "msg", 9, 0, false, "", "runtime", 0⟩, ⟨ "addr", 12, 1, false, "", "runtime", 16⟩], 2, 24, .agg #[.string ⟨#[]⟩, .int .u64 0]⟩),
  (15, ⟨.pointer 80, 1, 8, .pointer none⟩),
  (16, ⟨.pointer 83, 1, 8, .pointer none⟩),
  (17, ⟨.pointer 93, 1, 8, .pointer none⟩),
  (18, ⟨.struct #[⟨ "typ", 17, 0, false, "", "internal/runtime/maps", 0⟩], 1, 8, .agg #[.pointer none]⟩),
  (19, ⟨.struct #[⟨ "typ", 17, 0, false, "", "internal/runtime/maps", 0⟩], 1, 8, .agg #[.pointer none]⟩),
  (20, ⟨.interface #[], 1, 16, .nilIface⟩),
  (21, ⟨.int .i32, 1, 4, .int .i32 0⟩),
  (22, ⟨.slice 43, 1, 24, .slice none 0 0⟩),
  (23, ⟨.slice 3, 1, 24, .slice none 0 0⟩),
  (24, ⟨.slice 23, 1, 24, .slice none 0 0⟩),
  (25, ⟨.func #[] #[4] false, 1, 8, .nilFunc⟩),
  (26, ⟨.func #[22, 23, 23] #[4] false, 1, 8, .nilFunc⟩),
  (27, ⟨.int .i64, 1, 8, .int .i64 0⟩),
  (28, ⟨.tuple #[4, 27], 1, 0, .tuple #[.bool false, .int .i64 0]⟩),
  (29, ⟨.func #[22, 23, 23, 24] #[4, 27] false, 1, 8, .nilFunc⟩),
  (30, ⟨.func #[22, 23, 23, 23] #[4, 27] false, 1, 8, .nilFunc⟩),
  (31, ⟨.func #[22, 23, 23, 24, 23] #[4] false, 1, 8, .nilFunc⟩),
  (32, ⟨.tuple #[24, 4, 23, 27], 1, 0, .tuple #[.slice none 0 0, .bool false, .slice none 0 0, .int .i64 0]⟩),
  (33, ⟨.func #[22, 23, 23] #[24, 4, 23, 27] false, 1, 8, .nilFunc⟩),
  (34, ⟨.tuple #[3, 27], 1, 0, .tuple #[.int .i64 0, .int .i64 0]⟩),
  (35, ⟨.func #[22, 23, 23] #[3, 27] false, 1, 8, .nilFunc⟩),
  (36, ⟨.func #[24, 24] #[4] false, 1, 8, .nilFunc⟩),
  (37, ⟨.func #[23, 23] #[4] false, 1, 8, .nilFunc⟩),
  (38, ⟨.map 3 4, 1, 8, .map none⟩),
  (39, ⟨.tuple #[22, 23], 1, 0, .tuple #[.slice none 0 0, .slice none 0 0]⟩),
  (40, ⟨.func #[22, 23, 38] #[22, 23] false, 1, 8, .nilFunc⟩),
  (41, ⟨.func #[22, 23, 23, 23] #[4] false, 1, 8, .nilFunc⟩),
  (42, ⟨.func #[22, 23, 23, 24] #[4] false, 1, 8, .nilFunc⟩),
  (43, ⟨.slice 4, 1, 24, .slice none 0 0⟩),
  (44, ⟨.func #[22, 23, 23, 5, 5, 3, 43] #[4] false, 1, 8, .nilFunc⟩),
  (45, ⟨.int .u16, 1, 2, .int .u16 0⟩),
  (46, ⟨.func #[22, 23, 23, 3] #[3] false, 1, 8, .nilFunc⟩),
  (47, ⟨.func #[22, 23, 23, 45, 23] #[4] false, 1, 8, .nilFunc⟩),
  (48, ⟨.func #[23] #[3] false, 1, 8, .nilFunc⟩),
  (49, ⟨.func #[23, 50] #[4] false, 1, 8, .nilFunc⟩),
  (50, ⟨.func #[3] #[4] false, 1, 8, .nilFunc⟩),
  (51, ⟨.pointer 56, 1, 8, .pointer none⟩),
  (52, ⟨.func #[22, 23, 23] #[51] false, 1, 8, .nilFunc⟩),
  (53, ⟨.array 64 3, 64, 512, .agg #[.int .i64 0, .int .i64 0, .int .i64 0, .int .i64 0, .int .i64 0, .int .i64 0, .int .i64 0, .int .i64 0, .int .i64 0, .int .i64 0, .int .i64 0, .int .i64 0, .int .i64 0, .int .i64 0, .int .i64 0, .int .i64 0, .int .i64 0, .int .i64 0, .int .i64 0, .int .i64 0, .int .i64 0, .int .i64 0, .int .i64 0, .int .i64 0, .int .i64 0, .int .i64 0, .int .i64 0, .int .i64 0, .int .i64 0, .int .i64 0, .int .i64 0, .int .i64 0, .int .i64 0, .int .i64 0, .int .i64 0, .int .i64 0, .int .i64 0, .int .i64 0, .int .i64 0, .int .i64 0, .int .i64 0, .int .i64 0, .int .i64 0, .int .i64 0, .int .i64 0, .int .i64 0, .int .i64 0, .int .i64 0, .int .i64 0, .int .i64 0, .int .i64 0, .int .i64 0, .int .i64 0, .int .i64 0, .int .i64 0, .int .i64 0, .int .i64 0, .int .i64 0, .int .i64 0, .int .i64 0, .int .i64 0, .int .i64 0, .int .i64 0, .int .i64 0]⟩),
  (54, ⟨.array 65 3, 65, 520, .agg #[.int .i64 0, .int .i64 0, .int .i64 0, .int .i64 0, .int .i64 0, .int .i64 0, .int .i64 0, .int .i64 0, .int .i64 0, .int .i64 0, .int .i64 0, .int .i64 0, .int .i64 0, .int .i64 0, .int .i64 0, .int .i64 0, .int .i64 0, .int .i64 0, .int .i64 0, .int .i64 0, .int .i64 0, .int .i64 0, .int .i64 0, .int .i64 0, .int .i64 0, .int .i64 0, .int .i64 0, .int .i64 0, .int .i64 0, .int .i64 0, .int .i64 0, .int .i64 0, .int .i64 0, .int .i64 0, .int .i64 0, .int .i64 0, .int .i64 0, .int .i64 0, .int .i64 0, .int .i64 0, .int .i64 0, .int .i64 0, .int .i64 0, .int .i64 0, .int .i64 0, .int .i64 0, .int .i64 0, .int .i64 0, .int .i64 0, .int .i64 0, .int .i64 0, .int .i64 0, .int .i64 0, .int .i64 0, .int .i64 0, .int .i64 0, .int .i64 0, .int .i64 0, .int .i64 0, .int .i64 0, .int .i64 0, .int .i64 0, .int .i64 0, .int .i64 0, .int .i64 0]⟩),
  (55, ⟨.struct #[⟨ "fits", 22, 0, false, "", "backflush/matching", 0⟩, ⟨ "amounts", 24, 1, false, "", "backflush/matching", 24⟩, ⟨ "lack", 23, 2, false, "", "backflush/matching", 48⟩, ⟨ "taken", 53, 3, false, "", "backflush/matching", 72⟩, ⟨ "given", 54, 67, false, "", "backflush/matching", 584⟩], 132, 1104, .agg #[.slice none 0 0, .slice none 0 0, .slice none 0 0, .int .i64 0, .int .i64 0, .int .i64 0, .int .i64 0, .int .i64 0, .int .i64 0, .int .i64 0, .int .i64 0, .int .i64 0, .int .i64 0, .int .i64 0, .int .i64 0, .int .i64 0, .int .i64 0, .int .i64 0, .int .i64 0, .int .i64 0, .int .i64 0, .int .i64 0, .int .i64 0, .int .i64 0, .int .i64 0, .int .i64 0, .int .i64 0, .int .i64 0, .int .i64 0, .int .i64 0, .int .i64 0, .int .i64 0, .int .i64 0, .int .i64 0, .int .i64 0, .int .i64 0, .int .i64 0, .int .i64 0, .int .i64 0, .int .i64 0, .int .i64 0, .int .i64 0, .int .i64 0, .int .i64 0, .int .i64 0, .int .i64 0, .int .i64 0, .int .i64 0, .int .i64 0, .int .i64 0, .int .i64 0, .int .i64 0, .int .i64 0, .int .i64 0, .int .i64 0, .int .i64 0, .int .i64 0, .int .i64 0, .int .i64 0, .int .i64 0, .int .i64 0, .int .i64 0, .int .i64 0, .int .i64 0, .int .i64 0, .int .i64 0, .int .i64 0, .int .i64 0, .int .i64 0, .int .i64 0, .int .i64 0, .int .i64 0, .int .i64 0, .int .i64 0, .int .i64 0, .int .i64 0, .int .i64 0, .int .i64 0, .int .i64 0, .int .i64 0, .int .i64 0, .int .i64 0, .int .i64 0, .int .i64 0, .int .i64 0, .int .i64 0, .int .i64 0, .int .i64 0, .int .i64 0, .int .i64 0, .int .i64 0, .int .i64 0, .int .i64 0, .int .i64 0, .int .i64 0, .int .i64 0, .int .i64 0, .int .i64 0, .int .i64 0, .int .i64 0, .int .i64 0, .int .i64 0, .int .i64 0, .int .i64 0, .int .i64 0, .int .i64 0, .int .i64 0, .int .i64 0, .int .i64 0, .int .i64 0, .int .i64 0, .int .i64 0, .int .i64 0, .int .i64 0, .int .i64 0, .int .i64 0, .int .i64 0, .int .i64 0, .int .i64 0, .int .i64 0, .int .i64 0, .int .i64 0, .int .i64 0, .int .i64 0, .int .i64 0, .int .i64 0, .int .i64 0, .int .i64 0, .int .i64 0, .int .i64 0, .int .i64 0, .int .i64 0]⟩),
  (56, ⟨.struct #[⟨ "fits", 22, 0, false, "", "backflush/matching", 0⟩, ⟨ "amounts", 24, 1, false, "", "backflush/matching", 24⟩, ⟨ "lack", 23, 2, false, "", "backflush/matching", 48⟩, ⟨ "taken", 53, 3, false, "", "backflush/matching", 72⟩, ⟨ "given", 54, 67, false, "", "backflush/matching", 584⟩], 132, 1104, .agg #[.slice none 0 0, .slice none 0 0, .slice none 0 0, .int .i64 0, .int .i64 0, .int .i64 0, .int .i64 0, .int .i64 0, .int .i64 0, .int .i64 0, .int .i64 0, .int .i64 0, .int .i64 0, .int .i64 0, .int .i64 0, .int .i64 0, .int .i64 0, .int .i64 0, .int .i64 0, .int .i64 0, .int .i64 0, .int .i64 0, .int .i64 0, .int .i64 0, .int .i64 0, .int .i64 0, .int .i64 0, .int .i64 0, .int .i64 0, .int .i64 0, .int .i64 0, .int .i64 0, .int .i64 0, .int .i64 0, .int .i64 0, .int .i64 0, .int .i64 0, .int .i64 0, .int .i64 0, .int .i64 0, .int .i64 0, .int .i64 0, .int .i64 0, .int .i64 0, .int .i64 0, .int .i64 0, .int .i64 0, .int .i64 0, .int .i64 0, .int .i64 0, .int .i64 0, .int .i64 0, .int .i64 0, .int .i64 0, .int .i64 0, .int .i64 0, .int .i64 0, .int .i64 0, .int .i64 0, .int .i64 0, .int .i64 0, .int .i64 0, .int .i64 0, .int .i64 0, .int .i64 0, .int .i64 0, .int .i64 0, .int .i64 0, .int .i64 0, .int .i64 0, .int .i64 0, .int .i64 0, .int .i64 0, .int .i64 0, .int .i64 0, .int .i64 0, .int .i64 0, .int .i64 0, .int .i64 0, .int .i64 0, .int .i64 0, .int .i64 0, .int .i64 0, .int .i64 0, .int .i64 0, .int .i64 0, .int .i64 0, .int .i64 0, .int .i64 0, .int .i64 0, .int .i64 0, .int .i64 0, .int .i64 0, .int .i64 0, .int .i64 0, .int .i64 0, .int .i64 0, .int .i64 0, .int .i64 0, .int .i64 0, .int .i64 0, .int .i64 0, .int .i64 0, .int .i64 0, .int .i64 0, .int .i64 0, .int .i64 0, .int .i64 0, .int .i64 0, .int .i64 0, .int .i64 0, .int .i64 0, .int .i64 0, .int .i64 0, .int .i64 0, .int .i64 0, .int .i64 0, .int .i64 0, .int .i64 0, .int .i64 0, .int .i64 0, .int .i64 0, .int .i64 0, .int .i64 0, .int .i64 0, .int .i64 0, .int .i64 0, .int .i64 0, .int .i64 0, .int .i64 0, .int .i64 0, .int .i64 0]⟩),
  (57, ⟨.func #[22, 23, 23] #[23] false, 1, 8, .nilFunc⟩),
  (58, ⟨.func #[3, 3] #[] false, 1, 8, .nilFunc⟩),
  (59, ⟨.func #[23] #[23] false, 1, 8, .nilFunc⟩),
  (60, ⟨.tuple #[23, 4], 1, 0, .tuple #[.slice none 0 0, .bool false]⟩),
  (61, ⟨.func #[22, 23, 23] #[23, 4] false, 1, 8, .nilFunc⟩),
  (62, ⟨.func #[22] #[22] false, 1, 8, .nilFunc⟩),
  (63, ⟨.func #[22, 23, 23, 3, 3] #[3] false, 1, 8, .nilFunc⟩),
  (64, ⟨.func #[22, 23, 23] #[3] false, 1, 8, .nilFunc⟩),
  (65, ⟨.func #[3, 3] #[4] false, 1, 8, .nilFunc⟩),
  (66, ⟨.func #[43, 3] #[4] false, 1, 8, .nilFunc⟩),
  (67, ⟨.func #[23] #[4] false, 1, 8, .nilFunc⟩),
  (68, ⟨.func #[23, 50] #[3] false, 1, 8, .nilFunc⟩),
  (69, ⟨.tuple #[3, 4], 1, 0, .tuple #[.int .i64 0, .bool false]⟩),
  (70, ⟨.func #[3, 3, 50] #[3, 4] false, 1, 8, .nilFunc⟩),
  (71, ⟨.func #[3, 3] #[3] false, 1, 8, .nilFunc⟩),
  (72, ⟨.func #[77] #[] false, 1, 8, .nilFunc⟩),
  (73, ⟨.func #[77] #[] false, 1, 8, .nilFunc⟩),
  (74, ⟨.func #[23, 43] #[73] false, 1, 8, .nilFunc⟩),
  (75, ⟨.func #[22, 23, 23, 3] #[4] false, 1, 8, .nilFunc⟩),
  (76, ⟨.func #[3, 3] #[23] false, 1, 8, .nilFunc⟩),
  (77, ⟨.func #[3, 23] #[4] false, 1, 8, .nilFunc⟩),
  (78, ⟨.func #[] #[9] false, 1, 8, .nilFunc⟩),
  (79, ⟨.struct #[⟨ "_interface", 17, 0, false, "", "runtime", 0⟩, ⟨ "concrete", 17, 1, false, "", "runtime", 8⟩, ⟨ "asserted", 17, 2, false, "", "runtime", 16⟩, ⟨ "missingMethod", 9, 3, false, "", "runtime", 24⟩], 4, 40, .agg #[.pointer none, .pointer none, .pointer none, .string ⟨#[]⟩]⟩),
  (80, ⟨.struct #[⟨ "_interface", 17, 0, false, "", "runtime", 0⟩, ⟨ "concrete", 17, 1, false, "", "runtime", 8⟩, ⟨ "asserted", 17, 2, false, "", "runtime", 16⟩, ⟨ "missingMethod", 9, 3, false, "", "runtime", 24⟩], 4, 40, .agg #[.pointer none, .pointer none, .pointer none, .string ⟨#[]⟩]⟩),
  (81, ⟨.array 0 16, 0, 0, .agg #[]⟩),
  (82, ⟨.struct #[⟨ "_", 81, 0, false, "", "runtime", 0⟩], 0, 0, .agg #[]⟩),
  (83, ⟨.struct #[⟨ "_", 81, 0, false, "", "runtime", 0⟩], 0, 0, .agg #[]⟩),
  (84, ⟨.func #[] #[3] false, 1, 8, .nilFunc⟩),
  (85, ⟨.int .u32, 1, 4, .int .u32 0⟩),
  (86, ⟨.int .u8, 1, 1, .int .u8 0⟩),
  (87, ⟨.int .u8, 1, 1, .int .u8 0⟩),
  (88, ⟨.func #[94, 94] #[4] false, 1, 8, .nilFunc⟩),
  (89, ⟨.pointer 5, 1, 8, .pointer none⟩),
  (90, ⟨.int .i32, 1, 4, .int .i32 0⟩),
  (91, ⟨.int .i32, 1, 4, .int .i32 0⟩),
  (92, ⟨.struct #[⟨ "Size_", 12, 0, false, "", "", 0⟩, ⟨ "PtrBytes", 12, 1, false, "", "", 8⟩, ⟨ "Hash", 85, 2, false, "", "", 16⟩, ⟨ "TFlag", 86, 3, false, "", "", 20⟩, ⟨ "Align_", 5, 4, false, "", "", 21⟩, ⟨ "FieldAlign_", 5, 5, false, "", "", 22⟩, ⟨ "Kind_", 87, 6, false, "", "", 23⟩, ⟨ "Equal", 88, 7, false, "", "", 24⟩, ⟨ "GCData", 89, 8, false, "", "", 32⟩, ⟨ "Str", 90, 9, false, "", "", 40⟩, ⟨ "PtrToThis", 91, 10, false, "", "", 44⟩], 11, 48, .agg #[.int .u64 0, .int .u64 0, .int .u32 0, .int .u8 0, .int .u8 0, .int .u8 0, .int .u8 0, .nilFunc, .pointer none, .int .i32 0, .int .i32 0]⟩),
  (93, ⟨.struct #[⟨ "Size_", 12, 0, false, "", "", 0⟩, ⟨ "PtrBytes", 12, 1, false, "", "", 8⟩, ⟨ "Hash", 85, 2, false, "", "", 16⟩, ⟨ "TFlag", 86, 3, false, "", "", 20⟩, ⟨ "Align_", 5, 4, false, "", "", 21⟩, ⟨ "FieldAlign_", 5, 5, false, "", "", 22⟩, ⟨ "Kind_", 87, 6, false, "", "", 23⟩, ⟨ "Equal", 88, 7, false, "", "", 24⟩, ⟨ "GCData", 89, 8, false, "", "", 32⟩, ⟨ "Str", 90, 9, false, "", "", 40⟩, ⟨ "PtrToThis", 91, 10, false, "", "", 44⟩], 11, 48, .agg #[.int .u64 0, .int .u64 0, .int .u32 0, .int .u8 0, .int .u8 0, .int .u8 0, .int .u8 0, .nilFunc, .pointer none, .int .i32 0, .int .i32 0]⟩)]
theorem tysOk : TysOk Try.prog tys := by
  unfold tys
  refine TysOk.cons (by kernel_rfl) (by kernel_rfl) ?_
  refine TysOk.cons (by kernel_rfl) (by kernel_rfl) ?_
  refine TysOk.cons (by kernel_rfl) (by kernel_rfl) ?_
  refine TysOk.cons (by kernel_rfl) (by kernel_rfl) ?_
  refine TysOk.cons (by kernel_rfl) (by kernel_rfl) ?_
  refine TysOk.cons (by kernel_rfl) (by kernel_rfl) ?_
  refine TysOk.cons (by kernel_rfl) (by kernel_rfl) ?_
  refine TysOk.cons (by kernel_rfl) (by kernel_rfl) ?_
  refine TysOk.cons (by kernel_rfl) (by kernel_rfl) ?_
  refine TysOk.cons (by kernel_rfl) (by kernel_rfl) ?_
  refine TysOk.cons (by kernel_rfl) (by kernel_rfl) ?_
  refine TysOk.cons (by kernel_rfl) (by kernel_rfl) ?_
  refine TysOk.cons (by kernel_rfl) (by kernel_rfl) ?_
  refine TysOk.cons (by kernel_rfl) (by kernel_rfl) ?_
  refine TysOk.cons (by kernel_rfl) (by kernel_rfl) ?_
  refine TysOk.cons (by kernel_rfl) (by kernel_rfl) ?_
  refine TysOk.cons (by kernel_rfl) (by kernel_rfl) ?_
  refine TysOk.cons (by kernel_rfl) (by kernel_rfl) ?_
  refine TysOk.cons (by kernel_rfl) (by kernel_rfl) ?_
  refine TysOk.cons (by kernel_rfl) (by kernel_rfl) ?_
  refine TysOk.cons (by kernel_rfl) (by kernel_rfl) ?_
  refine TysOk.cons (by kernel_rfl) (by kernel_rfl) ?_
  refine TysOk.cons (by kernel_rfl) (by kernel_rfl) ?_
  refine TysOk.cons (by kernel_rfl) (by kernel_rfl) ?_
  refine TysOk.cons (by kernel_rfl) (by kernel_rfl) ?_
  refine TysOk.cons (by kernel_rfl) (by kernel_rfl) ?_
  refine TysOk.cons (by kernel_rfl) (by kernel_rfl) ?_
  refine TysOk.cons (by kernel_rfl) (by kernel_rfl) ?_
  refine TysOk.cons (by kernel_rfl) (by kernel_rfl) ?_
  refine TysOk.cons (by kernel_rfl) (by kernel_rfl) ?_
  refine TysOk.cons (by kernel_rfl) (by kernel_rfl) ?_
  refine TysOk.cons (by kernel_rfl) (by kernel_rfl) ?_
  refine TysOk.cons (by kernel_rfl) (by kernel_rfl) ?_
  refine TysOk.cons (by kernel_rfl) (by kernel_rfl) ?_
  refine TysOk.cons (by kernel_rfl) (by kernel_rfl) ?_
  refine TysOk.cons (by kernel_rfl) (by kernel_rfl) ?_
  refine TysOk.cons (by kernel_rfl) (by kernel_rfl) ?_
  refine TysOk.cons (by kernel_rfl) (by kernel_rfl) ?_
  refine TysOk.cons (by kernel_rfl) (by kernel_rfl) ?_
  refine TysOk.cons (by kernel_rfl) (by kernel_rfl) ?_
  refine TysOk.cons (by kernel_rfl) (by kernel_rfl) ?_
  refine TysOk.cons (by kernel_rfl) (by kernel_rfl) ?_
  refine TysOk.cons (by kernel_rfl) (by kernel_rfl) ?_
  refine TysOk.cons (by kernel_rfl) (by kernel_rfl) ?_
  refine TysOk.cons (by kernel_rfl) (by kernel_rfl) ?_
  refine TysOk.cons (by kernel_rfl) (by kernel_rfl) ?_
  refine TysOk.cons (by kernel_rfl) (by kernel_rfl) ?_
  refine TysOk.cons (by kernel_rfl) (by kernel_rfl) ?_
  refine TysOk.cons (by kernel_rfl) (by kernel_rfl) ?_
  refine TysOk.cons (by kernel_rfl) (by kernel_rfl) ?_
  refine TysOk.cons (by kernel_rfl) (by kernel_rfl) ?_
  refine TysOk.cons (by kernel_rfl) (by kernel_rfl) ?_
  refine TysOk.cons (by kernel_rfl) (by kernel_rfl) ?_
  refine TysOk.cons (by kernel_rfl) (by kernel_rfl) ?_
  refine TysOk.cons (by kernel_rfl) (by kernel_rfl) ?_
  refine TysOk.cons (by kernel_rfl) (by kernel_rfl) ?_
  refine TysOk.cons (by kernel_rfl) (by kernel_rfl) ?_
  refine TysOk.cons (by kernel_rfl) (by kernel_rfl) ?_
  refine TysOk.cons (by kernel_rfl) (by kernel_rfl) ?_
  refine TysOk.cons (by kernel_rfl) (by kernel_rfl) ?_
  refine TysOk.cons (by kernel_rfl) (by kernel_rfl) ?_
  refine TysOk.cons (by kernel_rfl) (by kernel_rfl) ?_
  refine TysOk.cons (by kernel_rfl) (by kernel_rfl) ?_
  refine TysOk.cons (by kernel_rfl) (by kernel_rfl) ?_
  refine TysOk.cons (by kernel_rfl) (by kernel_rfl) ?_
  refine TysOk.cons (by kernel_rfl) (by kernel_rfl) ?_
  refine TysOk.cons (by kernel_rfl) (by kernel_rfl) ?_
  refine TysOk.cons (by kernel_rfl) (by kernel_rfl) ?_
  refine TysOk.cons (by kernel_rfl) (by kernel_rfl) ?_
  refine TysOk.cons (by kernel_rfl) (by kernel_rfl) ?_
  refine TysOk.cons (by kernel_rfl) (by kernel_rfl) ?_
  refine TysOk.cons (by kernel_rfl) (by kernel_rfl) ?_
  refine TysOk.cons (by kernel_rfl) (by kernel_rfl) ?_
  refine TysOk.cons (by kernel_rfl) (by kernel_rfl) ?_
  refine TysOk.cons (by kernel_rfl) (by kernel_rfl) ?_
  refine TysOk.cons (by kernel_rfl) (by kernel_rfl) ?_
  refine TysOk.cons (by kernel_rfl) (by kernel_rfl) ?_
  refine TysOk.cons (by kernel_rfl) (by kernel_rfl) ?_
  refine TysOk.cons (by kernel_rfl) (by kernel_rfl) ?_
  refine TysOk.cons (by kernel_rfl) (by kernel_rfl) ?_
  refine TysOk.cons (by kernel_rfl) (by kernel_rfl) ?_
  refine TysOk.cons (by kernel_rfl) (by kernel_rfl) ?_
  refine TysOk.cons (by kernel_rfl) (by kernel_rfl) ?_
  refine TysOk.cons (by kernel_rfl) (by kernel_rfl) ?_
  refine TysOk.cons (by kernel_rfl) (by kernel_rfl) ?_
  refine TysOk.cons (by kernel_rfl) (by kernel_rfl) ?_
  refine TysOk.cons (by kernel_rfl) (by kernel_rfl) ?_
  refine TysOk.cons (by kernel_rfl) (by kernel_rfl) ?_
  refine TysOk.cons (by kernel_rfl) (by kernel_rfl) ?_
  refine TysOk.cons (by kernel_rfl) (by kernel_rfl) ?_
  refine TysOk.cons (by kernel_rfl) (by kernel_rfl) ?_
  refine TysOk.cons (by kernel_rfl) (by kernel_rfl) ?_
  refine TysOk.cons (by kernel_rfl) (by kernel_rfl) ?_
  refine TysOk.cons (by kernel_rfl) (by kernel_rfl) ?_
  exact TysOk.nil _
end Go.Proofs.Ytmioocddmlfboaa
