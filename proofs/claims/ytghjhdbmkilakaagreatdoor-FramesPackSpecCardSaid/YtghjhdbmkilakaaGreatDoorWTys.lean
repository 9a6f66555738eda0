/-
  The types of the translation, as the walks ask of them: by program off the dump's own rows. Conditions: none.
-/
import Derived.Test.YtghjhdbmkilakaaGreatDoorChecked
import Derived.Test.YtghjhdbmkilakaaGreatDoorWBfCall
namespace Go.Proofs.YtghjhdbmkilakaaGreatDoor
open Go Bf
def tys : List (Nat × TyI) := [
  (0, ⟨.tuple #[], 1, 0, .tuple #[]⟩),
  (1, ⟨.func #[] #[] false, 1, 8, .nilFunc⟩),
  (2, ⟨.int .i64, 1, 8, .int .i64 0⟩),
  (3, ⟨.int .i64, 1, 8, .int .i64 0⟩),
  (4, ⟨.bool, 1, 1, .bool false⟩),
  (5, ⟨.int .u8, 1, 1, .int .u8 0⟩),
  (6, ⟨.int .u8, 1, 1, .int .u8 0⟩),
  (7, ⟨.struct #[⟨ "x", 2, 0, false, "", "runtime", 0⟩, ⟨ "y", 3, 1, false, "", "runtime", 8⟩, ⟨ "signed", 4, 2, false, "", "runtime", 16⟩, ⟨ "code", 6, 3, false, "", "runtime", 17⟩], 4, 24, .agg #[.int .i64 0, .int .i64 0, .bool false, .int .u8 0]⟩),
  (8, ⟨.struct #[⟨ "x", 2, 0, false, "", "runtime", 0⟩, ⟨ "y", 3, 1, false, "", "runtime", 8⟩, ⟨ "signed", 4, 2, false, "", "runtime", 16⟩, ⟨ "code", 6, 3, false, "", "runtime", 17⟩], 4, 24, .agg #[.int .i64 0, .int .i64 0, .bool false, .int .u8 0]⟩),
  (9, ⟨.string, 1, 16, .string ⟨#[]⟩⟩),
  (10, ⟨.string, 1, 16, .string ⟨#[]⟩⟩),
  (11, ⟨.string, 1, 16, .string ⟨#[]⟩⟩),
  (12, ⟨.int .u64, 1, 8, .int .u64 0⟩),
  (13, ⟨.struct #[⟨ "msg", 9, 0, false, "", "runtime", 0⟩, ⟨ "addr", 12, 1, false, "", "runtime", 16⟩], 2, 24, .agg #[.string ⟨#[]⟩, .int .u64 0]⟩),
  (14, ⟨.struct #[⟨ "msg", 9, 0, false, "", "runtime", 0⟩, ⟨ "addr", 12, 1, false, "", "runtime", 16⟩], 2, 24, .agg #[.string ⟨#[]⟩, .int .u64 0]⟩),
  (15, ⟨.pointer 146, 1, 8, .pointer none⟩),
  (16, ⟨.pointer 149, 1, 8, .pointer none⟩),
  (17, ⟨.pointer 157, 1, 8, .pointer none⟩),
  (18, ⟨.struct #[⟨ "typ", 17, 0, false, "", "internal/runtime/maps", 0⟩], 1, 8, .agg #[.pointer none]⟩),
  (19, ⟨.struct #[⟨ "typ", 17, 0, false, "", "internal/runtime/maps", 0⟩], 1, 8, .agg #[.pointer none]⟩),
  (20, ⟨.interface #[], 1, 16, .nilIface⟩),
  (21, ⟨.int .i32, 1, 4, .int .i32 0⟩),
  (22, ⟨.slice 3, 1, 24, .slice none 0 0⟩),
  (23, ⟨.slice 49, 1, 24, .slice none 0 0⟩),
  (24, ⟨.array 32 5, 32, 32, .agg #[.int .u8 0, .int .u8 0, .int .u8 0, .int .u8 0, .int .u8 0, .int .u8 0, .int .u8 0, .int .u8 0, .int .u8 0, .int .u8 0, .int .u8 0, .int .u8 0, .int .u8 0, .int .u8 0, .int .u8 0, .int .u8 0, .int .u8 0, .int .u8 0, .int .u8 0, .int .u8 0, .int .u8 0, .int .u8 0, .int .u8 0, .int .u8 0, .int .u8 0, .int .u8 0, .int .u8 0, .int .u8 0, .int .u8 0, .int .u8 0, .int .u8 0, .int .u8 0]⟩),
  (25, ⟨.array 32 5, 32, 32, .agg #[.int .u8 0, .int .u8 0, .int .u8 0, .int .u8 0, .int .u8 0, .int .u8 0, .int .u8 0, .int .u8 0, .int .u8 0, .int .u8 0, .int .u8 0, .int .u8 0, .int .u8 0, .int .u8 0, .int .u8 0, .int .u8 0, .int .u8 0, .int .u8 0, .int .u8 0, .int .u8 0, .int .u8 0, .int .u8 0, .int .u8 0, .int .u8 0, .int .u8 0, .int .u8 0, .int .u8 0, .int .u8 0, .int .u8 0, .int .u8 0, .int .u8 0, .int .u8 0]⟩),
  (26, ⟨.struct #[⟨ "Kind", 3, 0, false, "", "", 0⟩, ⟨ "From", 3, 1, false, "", "", 8⟩, ⟨ "To", 3, 2, false, "", "", 16⟩, ⟨ "No", 3, 3, false, "", "", 24⟩, ⟨ "Item", 3, 4, false, "", "", 32⟩, ⟨ "Amount", 3, 5, false, "", "", 40⟩, ⟨ "Day", 3, 6, false, "", "", 48⟩, ⟨ "Label", 3, 7, false, "", "", 56⟩, ⟨ "Labels", 22, 8, false, "", "", 64⟩, ⟨ "Verdicts", 22, 9, false, "", "", 88⟩, ⟨ "Relations", 23, 10, false, "", "", 112⟩, ⟨ "Seal", 25, 11, false, "", "", 136⟩], 43, 168, .agg #[.int .i64 0, .int .i64 0, .int .i64 0, .int .i64 0, .int .i64 0, .int .i64 0, .int .i64 0, .int .i64 0, .slice none 0 0, .slice none 0 0, .slice none 0 0, .int .u8 0, .int .u8 0, .int .u8 0, .int .u8 0, .int .u8 0, .int .u8 0, .int .u8 0, .int .u8 0, .int .u8 0, .int .u8 0, .int .u8 0, .int .u8 0, .int .u8 0, .int .u8 0, .int .u8 0, .int .u8 0, .int .u8 0, .int .u8 0, .int .u8 0, .int .u8 0, .int .u8 0, .int .u8 0, .int .u8 0, .int .u8 0, .int .u8 0, .int .u8 0, .int .u8 0, .int .u8 0, .int .u8 0, .int .u8 0, .int .u8 0, .int .u8 0]⟩),
  (27, ⟨.struct #[⟨ "Kind", 3, 0, false, "", "", 0⟩, ⟨ "From", 3, 1, false, "", "", 8⟩, ⟨ "To", 3, 2, false, "", "", 16⟩, ⟨ "No", 3, 3, false, "", "", 24⟩, ⟨ "Item", 3, 4, false, "", "", 32⟩, ⟨ "Amount", 3, 5, false, "", "", 40⟩, ⟨ "Day", 3, 6, false, "", "", 48⟩, ⟨ "Label", 3, 7, false, "", "", 56⟩, ⟨ "Labels", 22, 8, false, "", "", 64⟩, ⟨ "Verdicts", 22, 9, false, "", "", 88⟩, ⟨ "Relations", 23, 10, false, "", "", 112⟩, ⟨ "Seal", 25, 11, false, "", "", 136⟩], 43, 168, .agg #[.int .i64 0, .int .i64 0, .int .i64 0, .int .i64 0, .int .i64 0, .int .i64 0, .int .i64 0, .int .i64 0, .slice none 0 0, .slice none 0 0, .slice none 0 0, .int .u8 0, .int .u8 0, .int .u8 0, .int .u8 0, .int .u8 0, .int .u8 0, .int .u8 0, .int .u8 0, .int .u8 0, .int .u8 0, .int .u8 0, .int .u8 0, .int .u8 0, .int .u8 0, .int .u8 0, .int .u8 0, .int .u8 0, .int .u8 0, .int .u8 0, .int .u8 0, .int .u8 0, .int .u8 0, .int .u8 0, .int .u8 0, .int .u8 0, .int .u8 0, .int .u8 0, .int .u8 0, .int .u8 0, .int .u8 0, .int .u8 0, .int .u8 0]⟩),
  (28, ⟨.slice 5, 1, 24, .slice none 0 0⟩),
  (29, ⟨.func #[] #[4] false, 1, 8, .nilFunc⟩),
  (30, ⟨.func #[27] #[4] false, 1, 8, .nilFunc⟩),
  (31, ⟨.int .i64, 1, 8, .int .i64 0⟩),
  (32, ⟨.tuple #[28, 31], 1, 0, .tuple #[.slice none 0 0, .int .i64 0]⟩),
  (33, ⟨.func #[27] #[28, 31] false, 1, 8, .nilFunc⟩),
  (34, ⟨.tuple #[27, 31], 1, 0, .tuple #[.agg #[.int .i64 0, .int .i64 0, .int .i64 0, .int .i64 0, .int .i64 0, .int .i64 0, .int .i64 0, .int .i64 0, .slice none 0 0, .slice none 0 0, .slice none 0 0, .int .u8 0, .int .u8 0, .int .u8 0, .int .u8 0, .int .u8 0, .int .u8 0, .int .u8 0, .int .u8 0, .int .u8 0, .int .u8 0, .int .u8 0, .int .u8 0, .int .u8 0, .int .u8 0, .int .u8 0, .int .u8 0, .int .u8 0, .int .u8 0, .int .u8 0, .int .u8 0, .int .u8 0, .int .u8 0, .int .u8 0, .int .u8 0, .int .u8 0, .int .u8 0, .int .u8 0, .int .u8 0, .int .u8 0, .int .u8 0, .int .u8 0, .int .u8 0], .int .i64 0]⟩),
  (35, ⟨.func #[28] #[27, 31] false, 1, 8, .nilFunc⟩),
  (36, ⟨.func #[27, 27] #[4] false, 1, 8, .nilFunc⟩),
  (37, ⟨.func #[27, 27, 28] #[4] false, 1, 8, .nilFunc⟩),
  (38, ⟨.func #[40] #[28, 31] false, 1, 8, .nilFunc⟩),
  (39, ⟨.struct #[⟨ "Kind", 3, 0, false, "", "", 0⟩, ⟨ "Body", 28, 1, false, "", "", 8⟩], 2, 32, .agg #[.int .i64 0, .slice none 0 0]⟩),
  (40, ⟨.struct #[⟨ "Kind", 3, 0, false, "", "", 0⟩, ⟨ "Body", 28, 1, false, "", "", 8⟩], 2, 32, .agg #[.int .i64 0, .slice none 0 0]⟩),
  (41, ⟨.func #[9, 28] #[25] false, 1, 8, .nilFunc⟩),
  (42, ⟨.slice 40, 1, 24, .slice none 0 0⟩),
  (43, ⟨.tuple #[42, 28], 1, 0, .tuple #[.slice none 0 0, .slice none 0 0]⟩),
  (44, ⟨.func #[28] #[42, 28] false, 1, 8, .nilFunc⟩),
  (45, ⟨.tuple #[42, 3], 1, 0, .tuple #[.slice none 0 0, .int .i64 0]⟩),
  (46, ⟨.func #[28] #[42, 3] false, 1, 8, .nilFunc⟩),
  (47, ⟨.slice 22, 1, 24, .slice none 0 0⟩),
  (48, ⟨.struct #[⟨ "Out", 22, 0, false, "", "", 0⟩, ⟨ "In", 47, 1, false, "", "", 24⟩], 2, 48, .agg #[.slice none 0 0, .slice none 0 0]⟩),
  (49, ⟨.struct #[⟨ "Out", 22, 0, false, "", "", 0⟩, ⟨ "In", 47, 1, false, "", "", 24⟩], 2, 48, .agg #[.slice none 0 0, .slice none 0 0]⟩),
  (50, ⟨.func #[53] #[28, 31] false, 1, 8, .nilFunc⟩),
  (51, ⟨.slice 53, 1, 24, .slice none 0 0⟩),
  (52, ⟨.struct #[⟨ "Kind", 3, 0, false, "", "", 0⟩, ⟨ "N", 3, 1, false, "", "", 8⟩, ⟨ "S", 9, 2, false, "", "", 16⟩, ⟨ "L", 51, 3, false, "", "", 32⟩], 4, 56, .agg #[.int .i64 0, .int .i64 0, .string ⟨#[]⟩, .slice none 0 0]⟩),
  (53, ⟨.struct #[⟨ "Kind", 3, 0, false, "", "", 0⟩, ⟨ "N", 3, 1, false, "", "", 8⟩, ⟨ "S", 9, 2, false, "", "", 16⟩, ⟨ "L", 51, 3, false, "", "", 32⟩], 4, 56, .agg #[.int .i64 0, .int .i64 0, .string ⟨#[]⟩, .slice none 0 0]⟩),
  (54, ⟨.func #[27] #[53] false, 1, 8, .nilFunc⟩),
  (55, ⟨.tuple #[40, 3, 4], 1, 0, .tuple #[.agg #[.int .i64 0, .slice none 0 0], .int .i64 0, .bool false]⟩),
  (56, ⟨.func #[28] #[40, 3, 4] false, 1, 8, .nilFunc⟩),
  (57, ⟨.tuple #[53, 31], 1, 0, .tuple #[.agg #[.int .i64 0, .int .i64 0, .string ⟨#[]⟩, .slice none 0 0], .int .i64 0]⟩),
  (58, ⟨.func #[28] #[53, 31] false, 1, 8, .nilFunc⟩),
  (59, ⟨.func #[3, 53] #[27, 31] false, 1, 8, .nilFunc⟩),
  (60, ⟨.tuple #[40, 3], 1, 0, .tuple #[.agg #[.int .i64 0, .slice none 0 0], .int .i64 0]⟩),
  (61, ⟨.func #[28] #[40, 3] false, 1, 8, .nilFunc⟩),
  (62, ⟨.func #[3, 53] #[27] false, 1, 8, .nilFunc⟩),
  (63, ⟨.func #[22, 22] #[4] false, 1, 8, .nilFunc⟩),
  (64, ⟨.func #[23, 23] #[4] false, 1, 8, .nilFunc⟩),
  (65, ⟨.array 8 3, 8, 64, .agg #[.int .i64 0, .int .i64 0, .int .i64 0, .int .i64 0, .int .i64 0, .int .i64 0, .int .i64 0, .int .i64 0]⟩),
  (66, ⟨.func #[27] #[65] false, 1, 8, .nilFunc⟩),
  (67, ⟨.func #[23, 23, 69] #[4] false, 1, 8, .nilFunc⟩),
  (68, ⟨.func #[47, 47, 63] #[4] false, 1, 8, .nilFunc⟩),
  (69, ⟨.func #[49, 49] #[4] false, 1, 8, .nilFunc⟩),
  (70, ⟨.int .u64, 1, 8, .int .u64 0⟩),
  (71, ⟨.func #[28] #[25] false, 1, 8, .nilFunc⟩),
  (72, ⟨.func #[121] #[28] true, 1, 8, .nilFunc⟩),
  (73, ⟨.func #[123] #[] false, 1, 8, .nilFunc⟩),
  (74, ⟨.func #[123] #[] false, 1, 8, .nilFunc⟩),
  (75, ⟨.func #[28] #[74] false, 1, 8, .nilFunc⟩),
  (76, ⟨.func #[28] #[28] false, 1, 8, .nilFunc⟩),
  (77, ⟨.func #[22] #[4] false, 1, 8, .nilFunc⟩),
  (78, ⟨.func #[53] #[31] false, 1, 8, .nilFunc⟩),
  (79, ⟨.func #[53] #[4] false, 1, 8, .nilFunc⟩),
  (80, ⟨.func #[53] #[3] false, 1, 8, .nilFunc⟩),
  (81, ⟨.func #[28, 53] #[28] false, 1, 8, .nilFunc⟩),
  (82, ⟨.func #[96, 3] #[53] false, 1, 8, .nilFunc⟩),
  (83, ⟨.struct #[⟨ "pure", 79, 0, false, "", "backflush/codec", 0⟩, ⟨ "size", 80, 1, false, "", "backflush/codec", 8⟩, ⟨ "write", 81, 2, false, "", "backflush/codec", 16⟩, ⟨ "read", 82, 3, false, "", "backflush/codec", 24⟩], 4, 32, .agg #[.nilFunc, .nilFunc, .nilFunc, .nilFunc]⟩),
  (84, ⟨.struct #[⟨ "pure", 79, 0, false, "", "backflush/codec", 0⟩, ⟨ "size", 80, 1, false, "", "backflush/codec", 8⟩, ⟨ "write", 81, 2, false, "", "backflush/codec", 16⟩, ⟨ "read", 82, 3, false, "", "backflush/codec", 24⟩], 4, 32, .agg #[.nilFunc, .nilFunc, .nilFunc, .nilFunc]⟩),
  (85, ⟨.array 4 84, 16, 128, .agg #[.nilFunc, .nilFunc, .nilFunc, .nilFunc, .nilFunc, .nilFunc, .nilFunc, .nilFunc, .nilFunc, .nilFunc, .nilFunc, .nilFunc, .nilFunc, .nilFunc, .nilFunc, .nilFunc]⟩),
  (86, ⟨.func #[] #[85] false, 1, 8, .nilFunc⟩),
  (87, ⟨.func #[22] #[53] false, 1, 8, .nilFunc⟩),
  (88, ⟨.func #[23, 89] #[53] false, 1, 8, .nilFunc⟩),
  (89, ⟨.func #[49] #[53] false, 1, 8, .nilFunc⟩),
  (90, ⟨.func #[53] #[28] false, 1, 8, .nilFunc⟩),
  (91, ⟨.func #[51] #[53] true, 1, 8, .nilFunc⟩),
  (92, ⟨.func #[3] #[53] false, 1, 8, .nilFunc⟩),
  (93, ⟨.func #[22] #[53] true, 1, 8, .nilFunc⟩),
  (94, ⟨.func #[9] #[53] false, 1, 8, .nilFunc⟩),
  (95, ⟨.func #[28, 28] #[4] false, 1, 8, .nilFunc⟩),
  (96, ⟨.pointer 98, 1, 8, .pointer none⟩),
  (97, ⟨.struct #[⟨ "rest", 28, 0, false, "", "backflush/codec", 0⟩], 1, 24, .agg #[.slice none 0 0]⟩),
  (98, ⟨.struct #[⟨ "rest", 28, 0, false, "", "backflush/codec", 0⟩], 1, 24, .agg #[.slice none 0 0]⟩),
  (99, ⟨.pointer 101, 1, 8, .pointer none⟩),
  (100, ⟨.struct #[⟨ "left", 51, 0, false, "", "backflush/frames", 0⟩], 1, 24, .agg #[.slice none 0 0]⟩),
  (101, ⟨.struct #[⟨ "left", 51, 0, false, "", "backflush/frames", 0⟩], 1, 24, .agg #[.slice none 0 0]⟩),
  (102, ⟨.pointer 3, 1, 8, .pointer none⟩),
  (103, ⟨.slice 102, 1, 24, .slice none 0 0⟩),
  (104, ⟨.func #[] #[3] false, 1, 8, .nilFunc⟩),
  (105, ⟨.func #[] #[22] false, 1, 8, .nilFunc⟩),
  (106, ⟨.func #[99, 108] #[23] false, 1, 8, .nilFunc⟩),
  (107, ⟨.func #[] #[99] false, 1, 8, .nilFunc⟩),
  (108, ⟨.func #[99] #[49] false, 1, 8, .nilFunc⟩),
  (109, ⟨.func #[] #[49] false, 1, 8, .nilFunc⟩),
  (110, ⟨.func #[] #[25] false, 1, 8, .nilFunc⟩),
  (111, ⟨.pointer 113, 1, 8, .pointer none⟩),
  (112, ⟨.struct #[⟨ "B", 28, 0, false, "", "", 0⟩, ⟨ "At", 3, 1, false, "", "", 24⟩, ⟨ "Bad", 4, 2, false, "", "", 32⟩], 3, 40, .agg #[.slice none 0 0, .int .i64 0, .bool false]⟩),
  (113, ⟨.struct #[⟨ "B", 28, 0, false, "", "", 0⟩, ⟨ "At", 3, 1, false, "", "", 24⟩, ⟨ "Bad", 4, 2, false, "", "", 32⟩], 3, 40, .agg #[.slice none 0 0, .int .i64 0, .bool false]⟩),
  (114, ⟨.func #[53] #[22] false, 1, 8, .nilFunc⟩),
  (115, ⟨.pointer 118, 1, 8, .pointer none⟩),
  (116, ⟨.int .u32, 1, 4, .int .u32 0⟩),
  (117, ⟨.array 8 116, 8, 32, .agg #[.int .u32 0, .int .u32 0, .int .u32 0, .int .u32 0, .int .u32 0, .int .u32 0, .int .u32 0, .int .u32 0]⟩),
  (118, ⟨.array 8 116, 8, 32, .agg #[.int .u32 0, .int .u32 0, .int .u32 0, .int .u32 0, .int .u32 0, .int .u32 0, .int .u32 0, .int .u32 0]⟩),
  (119, ⟨.int .u64, 1, 8, .int .u64 0⟩),
  (120, ⟨.func #[28] #[] false, 1, 8, .nilFunc⟩),
  (121, ⟨.slice 28, 1, 24, .slice none 0 0⟩),
  (122, ⟨.func #[28, 3] #[28] false, 1, 8, .nilFunc⟩),
  (123, ⟨.func #[3, 40] #[4] false, 1, 8, .nilFunc⟩),
  (124, ⟨.func #[119] #[3] false, 1, 8, .nilFunc⟩),
  (125, ⟨.func #[3] #[119] false, 1, 8, .nilFunc⟩),
  (126, ⟨.func #[28, 119] #[28] false, 1, 8, .nilFunc⟩),
  (127, ⟨.func #[22, 92] #[53] false, 1, 8, .nilFunc⟩),
  (128, ⟨.func #[47, 87] #[53] false, 1, 8, .nilFunc⟩),
  (129, ⟨.func #[119] #[28] false, 1, 8, .nilFunc⟩),
  (130, ⟨.func #[3] #[4] false, 1, 8, .nilFunc⟩),
  (131, ⟨.struct #[], 0, 0, .agg #[]⟩),
  (132, ⟨.struct #[], 0, 0, .agg #[]⟩),
  (133, ⟨.func #[99, 134] #[22] false, 1, 8, .nilFunc⟩),
  (134, ⟨.func #[99] #[3] false, 1, 8, .nilFunc⟩),
  (135, ⟨.func #[99, 136] #[47] false, 1, 8, .nilFunc⟩),
  (136, ⟨.func #[99] #[22] false, 1, 8, .nilFunc⟩),
  (137, ⟨.func #[] #[5] false, 1, 8, .nilFunc⟩),
  (138, ⟨.func #[] #[119] false, 1, 8, .nilFunc⟩),
  (139, ⟨.array 64 116, 64, 256, .agg #[.int .u32 0, .int .u32 0, .int .u32 0, .int .u32 0, .int .u32 0, .int .u32 0, .int .u32 0, .int .u32 0, .int .u32 0, .int .u32 0, .int .u32 0, .int .u32 0, .int .u32 0, .int .u32 0, .int .u32 0, .int .u32 0, .int .u32 0, .int .u32 0, .int .u32 0, .int .u32 0, .int .u32 0, .int .u32 0, .int .u32 0, .int .u32 0, .int .u32 0, .int .u32 0, .int .u32 0, .int .u32 0, .int .u32 0, .int .u32 0, .int .u32 0, .int .u32 0, .int .u32 0, .int .u32 0, .int .u32 0, .int .u32 0, .int .u32 0, .int .u32 0, .int .u32 0, .int .u32 0, .int .u32 0, .int .u32 0, .int .u32 0, .int .u32 0, .int .u32 0, .int .u32 0, .int .u32 0, .int .u32 0, .int .u32 0, .int .u32 0, .int .u32 0, .int .u32 0, .int .u32 0, .int .u32 0, .int .u32 0, .int .u32 0, .int .u32 0, .int .u32 0, .int .u32 0, .int .u32 0, .int .u32 0, .int .u32 0, .int .u32 0, .int .u32 0]⟩),
  (140, ⟨.func #[116, 3] #[116] false, 1, 8, .nilFunc⟩),
  (141, ⟨.func #[117, 28] #[117] false, 1, 8, .nilFunc⟩),
  (142, ⟨.func #[28] #[116] false, 1, 8, .nilFunc⟩),
  (143, ⟨.func #[] #[139] false, 1, 8, .nilFunc⟩),
  (144, ⟨.func #[] #[9] false, 1, 8, .nilFunc⟩),
  (145, ⟨.struct #[⟨ "_interface", 17, 0, false, "", "runtime", 0⟩, ⟨ "concrete", 17, 1, false, "", "runtime", 8⟩, ⟨ "asserted", 17, 2, false, "", "runtime", 16⟩, ⟨ "missingMethod", 9, 3, false, "", "runtime", 24⟩], 4, 40, .agg #[.pointer none, .pointer none, .pointer none, .string ⟨#[]⟩]⟩),
  (146, ⟨.struct #[⟨ "_interface", 17, 0, false, "", "runtime", 0⟩, ⟨ "concrete", 17, 1, false, "", "runtime", 8⟩, ⟨ "asserted", 17, 2, false, "", "runtime", 16⟩, ⟨ "missingMethod", 9, 3, false, "", "runtime", 24⟩], 4, 40, .agg #[.pointer none, .pointer none, .pointer none, .string ⟨#[]⟩]⟩),
  (147, ⟨.array 0 16, 0, 0, .agg #[]⟩),
  (148, ⟨.struct #[⟨ "_", 147, 0, false, "", "runtime", 0⟩], 0, 0, .agg #[]⟩),
  (149, ⟨.struct #[⟨ "_", 147, 0, false, "", "runtime", 0⟩], 0, 0, .agg #[]⟩),
  (150, ⟨.int .u8, 1, 1, .int .u8 0⟩),
  (151, ⟨.int .u8, 1, 1, .int .u8 0⟩),
  (152, ⟨.func #[158, 158] #[4] false, 1, 8, .nilFunc⟩),
  (153, ⟨.pointer 5, 1, 8, .pointer none⟩),
  (154, ⟨.int .i32, 1, 4, .int .i32 0⟩),
  (155, ⟨.int .i32, 1, 4, .int .i32 0⟩),
  (156, ⟨.struct #[⟨ "Size_", 12, 0, false, "", "", 0⟩, ⟨ "PtrBytes", 12, 1, false, "", "", 8⟩, ⟨ "Hash", 116, 2, false, "", "", 16⟩, ⟨ "TFlag", 150, 3, false, "", "", 20⟩, ⟨ "Align_", 5, 4, false, "", "", 21⟩, ⟨ "FieldAlign_", 5, 5, false, "", "", 22⟩, ⟨ "Kind_", 151, 6, false, "", "", 23⟩, ⟨ "Equal", 152, 7, false, "", "", 24⟩, ⟨ "GCData", 153, 8, false, "", "", 32⟩, ⟨ "Str", 154, 9, false, "", "", 40⟩, ⟨ "PtrToThis", 155, 10, false, "", "", 44⟩], 11, 48, .agg #[.int .u64 0, .int .u64 0, .int .u32 0, .int .u8 0, .int .u8 0, .int .u8 0, .int .u8 0, .nilFunc, .pointer none, .int .i32 0, .int .i32 0]⟩),
  (157, ⟨.struct #[⟨ "Size_", 12, 0, false, "", "", 0⟩, ⟨ "PtrBytes", 12, 1, false, "", "", 8⟩, ⟨ "Hash", 116, 2, false, "", "", 16⟩, ⟨ "TFlag", 150, 3, false, "", "", 20⟩, ⟨ "Align_", 5, 4, false, "", "", 21⟩, ⟨ "FieldAlign_", 5, 5, false, "", "", 22⟩, ⟨ "Kind_", 151, 6, false, "", "", 23⟩, ⟨ "Equal", 152, 7, false, "", "", 24⟩, ⟨ "GCData", 153, 8, false, "", "", 32⟩, ⟨ "Str", 154, 9, false, "", "", 40⟩, ⟨ "PtrToThis", 155, 10, false, "", "", 44⟩], 11, 48, .agg #[.int .u64 0, .int .u64 0, .int .u32 0, .int .u8 0, .int .u8 0, .int .u8 0, .int .u8 0, .nilFunc, .pointer none, .int .i32 0, .int .i32 0]⟩)]
theorem tysOk : TysOk Tryz.prog tys := by
  unfold tys
  refine TysOk.cons (by kernel_rfl) (by kernel_rfl) ?_
  refine TysOk.cons (by kernel_rfl) (by kernel_rfl) ?_
  refine TysOk.cons (by kernel_rfl) (by kernel_rfl) ?_
  refine TysOk.cons (by kernel_rfl) (by kernel_rfl) ?_
  refine TysOk.cons (by kernel_rfl) (by kernel_rfl) ?_
  refine TysOk.cons (by kernel_rfl) (by kernel_rfl) ?_
  refine TysOk.cons (by kernel_rfl) (by kernel_rfl) ?_
  refine TysOk.cons (by kernel_rfl) (by kernel_rfl) ?_
  refine TysOk.cons (by kernel_rfl) (by kernel_rfl) ?_
  refine TysOk.cons (by kernel_rfl) (by kernel_rfl) ?_
  refine TysOk.cons (by kernel_rfl) (by kernel_rfl) ?_
  refine TysOk.cons (by kernel_rfl) (by kernel_rfl) ?_
  refine TysOk.cons (by kernel_rfl) (by kernel_rfl) ?_
  refine TysOk.cons (by kernel_rfl) (by kernel_rfl) ?_
  refine TysOk.cons (by kernel_rfl) (by kernel_rfl) ?_
  refine TysOk.cons (by kernel_rfl) (by kernel_rfl) ?_
  refine TysOk.cons (by kernel_rfl) (by kernel_rfl) ?_
  refine TysOk.cons (by kernel_rfl) (by kernel_rfl) ?_
  refine TysOk.cons (by kernel_rfl) (by kernel_rfl) ?_
  refine TysOk.cons (by kernel_rfl) (by kernel_rfl) ?_
  refine TysOk.cons (by kernel_rfl) (by kernel_rfl) ?_
  refine TysOk.cons (by kernel_rfl) (by kernel_rfl) ?_
  refine TysOk.cons (by kernel_rfl) (by kernel_rfl) ?_
  refine TysOk.cons (by kernel_rfl) (by kernel_rfl) ?_
  refine TysOk.cons (by kernel_rfl) (by kernel_rfl) ?_
  refine TysOk.cons (by kernel_rfl) (by kernel_rfl) ?_
  refine TysOk.cons (by kernel_rfl) (by kernel_rfl) ?_
  refine TysOk.cons (by kernel_rfl) (by kernel_rfl) ?_
  refine TysOk.cons (by kernel_rfl) (by kernel_rfl) ?_
  refine TysOk.cons (by kernel_rfl) (by kernel_rfl) ?_
  refine TysOk.cons (by kernel_rfl) (by kernel_rfl) ?_
  refine TysOk.cons (by kernel_rfl) (by kernel_rfl) ?_
  refine TysOk.cons (by kernel_rfl) (by kernel_rfl) ?_
  refine TysOk.cons (by kernel_rfl) (by kernel_rfl) ?_
  refine TysOk.cons (by kernel_rfl) (by kernel_rfl) ?_
  refine TysOk.cons (by kernel_rfl) (by kernel_rfl) ?_
  refine TysOk.cons (by kernel_rfl) (by kernel_rfl) ?_
  refine TysOk.cons (by kernel_rfl) (by kernel_rfl) ?_
  refine TysOk.cons (by kernel_rfl) (by kernel_rfl) ?_
  refine TysOk.cons (by kernel_rfl) (by kernel_rfl) ?_
  refine TysOk.cons (by kernel_rfl) (by kernel_rfl) ?_
  refine TysOk.cons (by kernel_rfl) (by kernel_rfl) ?_
  refine TysOk.cons (by kernel_rfl) (by kernel_rfl) ?_
  refine TysOk.cons (by kernel_rfl) (by kernel_rfl) ?_
  refine TysOk.cons (by kernel_rfl) (by kernel_rfl) ?_
  refine TysOk.cons (by kernel_rfl) (by kernel_rfl) ?_
  refine TysOk.cons (by kernel_rfl) (by kernel_rfl) ?_
  refine TysOk.cons (by kernel_rfl) (by kernel_rfl) ?_
  refine TysOk.cons (by kernel_rfl) (by kernel_rfl) ?_
  refine TysOk.cons (by kernel_rfl) (by kernel_rfl) ?_
  refine TysOk.cons (by kernel_rfl) (by kernel_rfl) ?_
  refine TysOk.cons (by kernel_rfl) (by kernel_rfl) ?_
  refine TysOk.cons (by kernel_rfl) (by kernel_rfl) ?_
  refine TysOk.cons (by kernel_rfl) (by kernel_rfl) ?_
  refine TysOk.cons (by kernel_rfl) (by kernel_rfl) ?_
  refine TysOk.cons (by kernel_rfl) (by kernel_rfl) ?_
  refine TysOk.cons (by kernel_rfl) (by kernel_rfl) ?_
  refine TysOk.cons (by kernel_rfl) (by kernel_rfl) ?_
  refine TysOk.cons (by kernel_rfl) (by kernel_rfl) ?_
  refine TysOk.cons (by kernel_rfl) (by kernel_rfl) ?_
  refine TysOk.cons (by kernel_rfl) (by kernel_rfl) ?_
  refine TysOk.cons (by kernel_rfl) (by kernel_rfl) ?_
  refine TysOk.cons (by kernel_rfl) (by kernel_rfl) ?_
  refine TysOk.cons (by kernel_rfl) (by kernel_rfl) ?_
  refine TysOk.cons (by kernel_rfl) (by kernel_rfl) ?_
  refine TysOk.cons (by kernel_rfl) (by kernel_rfl) ?_
  refine TysOk.cons (by kernel_rfl) (by kernel_rfl) ?_
  refine TysOk.cons (by kernel_rfl) (by kernel_rfl) ?_
  refine TysOk.cons (by kernel_rfl) (by kernel_rfl) ?_
  refine TysOk.cons (by kernel_rfl) (by kernel_rfl) ?_
  refine TysOk.cons (by kernel_rfl) (by kernel_rfl) ?_
  refine TysOk.cons (by kernel_rfl) (by kernel_rfl) ?_
  refine TysOk.cons (by kernel_rfl) (by kernel_rfl) ?_
  refine TysOk.cons (by kernel_rfl) (by kernel_rfl) ?_
  refine TysOk.cons (by kernel_rfl) (by kernel_rfl) ?_
  refine TysOk.cons (by kernel_rfl) (by kernel_rfl) ?_
  refine TysOk.cons (by kernel_rfl) (by kernel_rfl) ?_
  refine TysOk.cons (by kernel_rfl) (by kernel_rfl) ?_
  refine TysOk.cons (by kernel_rfl) (by kernel_rfl) ?_
  refine TysOk.cons (by kernel_rfl) (by kernel_rfl) ?_
  refine TysOk.cons (by kernel_rfl) (by kernel_rfl) ?_
  refine TysOk.cons (by kernel_rfl) (by kernel_rfl) ?_
  refine TysOk.cons (by kernel_rfl) (by kernel_rfl) ?_
  refine TysOk.cons (by kernel_rfl) (by kernel_rfl) ?_
  refine TysOk.cons (by kernel_rfl) (by kernel_rfl) ?_
  refine TysOk.cons (by kernel_rfl) (by kernel_rfl) ?_
  refine TysOk.cons (by kernel_rfl) (by kernel_rfl) ?_
  refine TysOk.cons (by kernel_rfl) (by kernel_rfl) ?_
  refine TysOk.cons (by kernel_rfl) (by kernel_rfl) ?_
  refine TysOk.cons (by kernel_rfl) (by kernel_rfl) ?_
  refine TysOk.cons (by kernel_rfl) (by kernel_rfl) ?_
  refine TysOk.cons (by kernel_rfl) (by kernel_rfl) ?_
  refine TysOk.cons (by kernel_rfl) (by kernel_rfl) ?_
  refine TysOk.cons (by kernel_rfl) (by kernel_rfl) ?_
  refine TysOk.cons (by kernel_rfl) (by kernel_rfl) ?_
  refine TysOk.cons (by kernel_rfl) (by kernel_rfl) ?_
  refine TysOk.cons (by kernel_rfl) (by kernel_rfl) ?_
  refine TysOk.cons (by kernel_rfl) (by kernel_rfl) ?_
  refine TysOk.cons (by kernel_rfl) (by kernel_rfl) ?_
  refine TysOk.cons (by kernel_rfl) (by kernel_rfl) ?_
  refine TysOk.cons (by kernel_rfl) (by kernel_rfl) ?_
  refine TysOk.cons (by kernel_rfl) (by kernel_rfl) ?_
  refine TysOk.cons (by kernel_rfl) (by kernel_rfl) ?_
  refine TysOk.cons (by kernel_rfl) (by kernel_rfl) ?_
  refine TysOk.cons (by kernel_rfl) (by kernel_rfl) ?_
  refine TysOk.cons (by kernel_rfl) (by kernel_rfl) ?_
  refine TysOk.cons (by kernel_rfl) (by kernel_rfl) ?_
  refine TysOk.cons (by kernel_rfl) (by kernel_rfl) ?_
  refine TysOk.cons (by kernel_rfl) (by kernel_rfl) ?_
  refine TysOk.cons (by kernel_rfl) (by kernel_rfl) ?_
  refine TysOk.cons (by kernel_rfl) (by kernel_rfl) ?_
  refine TysOk.cons (by kernel_rfl) (by kernel_rfl) ?_
  refine TysOk.cons (by kernel_rfl) (by kernel_rfl) ?_
  refine TysOk.cons (by kernel_rfl) (by kernel_rfl) ?_
  refine TysOk.cons (by kernel_rfl) (by kernel_rfl) ?_
  refine TysOk.cons (by kernel_rfl) (by kernel_rfl) ?_
  refine TysOk.cons (by kernel_rfl) (by kernel_rfl) ?_
  refine TysOk.cons (by kernel_rfl) (by kernel_rfl) ?_
  refine TysOk.cons (by kernel_rfl) (by kernel_rfl) ?_
  refine TysOk.cons (by kernel_rfl) (by kernel_rfl) ?_
  refine TysOk.cons (by kernel_rfl) (by kernel_rfl) ?_
  refine TysOk.cons (by kernel_rfl) (by kernel_rfl) ?_
  refine TysOk.cons (by kernel_rfl) (by kernel_rfl) ?_
  refine TysOk.cons (by kernel_rfl) (by kernel_rfl) ?_
  refine TysOk.cons (by kernel_rfl) (by kernel_rfl) ?_
  refine TysOk.cons (by kernel_rfl) (by kernel_rfl) ?_
  refine TysOk.cons (by kernel_rfl) (by kernel_rfl) ?_
  refine TysOk.cons (by kernel_rfl) (by kernel_rfl) ?_
  refine TysOk.cons (by kernel_rfl) (by kernel_rfl) ?_
  refine TysOk.cons (by kernel_rfl) (by kernel_rfl) ?_
  refine TysOk.cons (by kernel_rfl) (by kernel_rfl) ?_
  refine TysOk.cons (by kernel_rfl) (by kernel_rfl) ?_
  refine TysOk.cons (by kernel_rfl) (by kernel_rfl) ?_
  refine TysOk.cons (by kernel_rfl) (by kernel_rfl) ?_
  refine TysOk.cons (by kernel_rfl) (by kernel_rfl) ?_
  refine TysOk.cons (by kernel_rfl) (by kernel_rfl) ?_
  refine TysOk.cons (by kernel_rfl) (by kernel_rfl) ?_
  refine TysOk.cons (by kernel_rfl) (by kernel_rfl) ?_
  refine TysOk.cons (by kernel_rfl) (by kernel_rfl) ?_
  refine TysOk.cons (by kernel_rfl) (by kernel_rfl) ?_
  refine TysOk.cons (by kernel_rfl) (by kernel_rfl) ?_
  refine TysOk.cons (by kernel_rfl) (by kernel_rfl) ?_
  refine TysOk.cons (by kernel_rfl) (by kernel_rfl) ?_
  refine TysOk.cons (by kernel_rfl) (by kernel_rfl) ?_
  refine TysOk.cons (by kernel_rfl) (by kernel_rfl) ?_
  refine TysOk.cons (by kernel_rfl) (by kernel_rfl) ?_
  refine TysOk.cons (by kernel_rfl) (by kernel_rfl) ?_
  refine TysOk.cons (by kernel_rfl) (by kernel_rfl) ?_
  refine TysOk.cons (by kernel_rfl) (by kernel_rfl) ?_
  refine TysOk.cons (by kernel_rfl) (by kernel_rfl) ?_
  refine TysOk.cons (by kernel_rfl) (by kernel_rfl) ?_
  refine TysOk.cons (by kernel_rfl) (by kernel_rfl) ?_
  refine TysOk.cons (by kernel_rfl) (by kernel_rfl) ?_
  refine TysOk.cons (by kernel_rfl) (by kernel_rfl) ?_
  refine TysOk.cons (by kernel_rfl) (by kernel_rfl) ?_
  refine TysOk.cons (by kernel_rfl) (by kernel_rfl) ?_
  refine TysOk.cons (by kernel_rfl) (by kernel_rfl) ?_
  refine TysOk.cons (by kernel_rfl) (by kernel_rfl) ?_
  exact TysOk.nil _
end Go.Proofs.YtghjhdbmkilakaaGreatDoor

