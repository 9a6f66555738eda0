/-
  The types of the translation, as the walks ask of them: by program off the dump's own rows. Conditions: none.
-/
import Derived.Test.YtghjhdbmkilakaaDoorChecked
import Derived.Test.YtghjhdbmkilakaaDoorQBfCall
namespace Go.Proofs.YtghjhdbmkilakaaDoor
open Go Bf
def tys : List (Nat × TyI) := [
  (0, ⟨.tuple #[], 1, 0, .tuple #[]⟩),
  (1, ⟨.func #[] #[] false, 1, 8, .nilFunc⟩),
  (2, ⟨.int .i64, 1, 8, .int .i64 0⟩),
  (3, ⟨.int .i64, 1, 8, .int .i64 0⟩),
  (4, ⟨.bool, 1, 1, .bool false⟩),
  (5, ⟨.int .u8, 1, 1, .int .u8 0⟩),
  (6, ⟨.int .u8, 1, 1, .int .u8 0⟩),
  (7, ⟨.struct #[⟨ "x", 2, 0, false, "", "runtime", 0⟩, ⟨ "y", 3, 1, false, "", "runtime", 8⟩, ⟨ "signed", 4, 2, false, "", "runtime", 16⟩, ⟨ "code", 6, 3, false, "", "runtime", 17⟩], 4, 24, .agg #[.int .i64 0, .int .i64 0, .bool false, .int .u8 0]⟩),
  (8, ⟨.struct #[⟨ "x", 2, 0, false, "", "runtime", 0⟩, ⟨ "y", 3, 1, false, "", "runtime", 8⟩, ⟨ "signed", 4, 2, false, "", "runtime", 16⟩, ⟨ "code", 6, 3, false, "", "runtime", 17⟩], 4, 24, .agg #[.int .i64 0, .int .i64 0, .bool false, .int .u8 0]⟩),
  (9, ⟨.string, 1, 16, .string ⟨#[]⟩⟩),
  (10, ⟨.string, 1, 16, .string ⟨#[]⟩⟩),
  (11, ⟨.string, 1, 16, .string ⟨#[]⟩⟩),
  (12, ⟨.int .u64, 1, 8, .int .u64 0⟩),
  (13, ⟨.struct #[⟨ "msg", 9, 0, false, "", "runtime", 0⟩, ⟨ "addr", 12, 1, false, "", "runtime", 16⟩], 2, 24, .agg #[.string ⟨#[]⟩, .int .u64 0]⟩),
  (14, ⟨.struct #[⟨ "msg", 9, 0, false, "", "runtime", 0⟩, ⟨ "addr", 12, 1, false, "", "runtime", 16⟩], 2, 24, .agg #[.string ⟨#[]⟩, .int .u64 0]⟩),
  (15, ⟨.pointer 144, 1, 8, .pointer none⟩),
  (16, ⟨.pointer 147, 1, 8, .pointer none⟩),
  (17, ⟨.pointer 155, 1, 8, .pointer none⟩),
  (18, ⟨.struct #[⟨ "typ", 17, 0, false, "", "internal/runtime/maps", 0⟩], 1, 8, .agg #[.pointer none]⟩),
  (19, ⟨.struct #[⟨ "typ", 17, 0, false, "", "internal/runtime/maps", 0⟩], 1, 8, .agg #[.pointer none]⟩),
  (20, ⟨.interface #[], 1, 16, .nilIface⟩),
  (21, ⟨.int .i32, 1, 4, .int .i32 0⟩),
  (22, ⟨.slice 5, 1, 24, .slice none 0 0⟩),
  (23, ⟨.struct #[⟨ "Kind", 3, 0, false, "", "", 0⟩, ⟨ "Body", 22, 1, false, "", "", 8⟩], 2, 32, .agg #[.int .i64 0, .slice none 0 0]⟩),
  (24, ⟨.struct #[⟨ "Kind", 3, 0, false, "", "", 0⟩, ⟨ "Body", 22, 1, false, "", "", 8⟩], 2, 32, .agg #[.int .i64 0, .slice none 0 0]⟩),
  (25, ⟨.func #[] #[4] false, 1, 8, .nilFunc⟩),
  (26, ⟨.int .i64, 1, 8, .int .i64 0⟩),
  (27, ⟨.tuple #[22, 26], 1, 0, .tuple #[.slice none 0 0, .int .i64 0]⟩),
  (28, ⟨.func #[24] #[22, 26] false, 1, 8, .nilFunc⟩),
  (29, ⟨.slice 24, 1, 24, .slice none 0 0⟩),
  (30, ⟨.tuple #[29, 22], 1, 0, .tuple #[.slice none 0 0, .slice none 0 0]⟩),
  (31, ⟨.func #[22] #[29, 22] false, 1, 8, .nilFunc⟩),
  (32, ⟨.tuple #[29, 3], 1, 0, .tuple #[.slice none 0 0, .int .i64 0]⟩),
  (33, ⟨.func #[22] #[29, 3] false, 1, 8, .nilFunc⟩),
  (34, ⟨.func #[29, 29] #[4] false, 1, 8, .nilFunc⟩),
  (35, ⟨.func #[24, 22] #[4] false, 1, 8, .nilFunc⟩),
  (36, ⟨.int .u64, 1, 8, .int .u64 0⟩),
  (37, ⟨.func #[29] #[4] false, 1, 8, .nilFunc⟩),
  (38, ⟨.slice 3, 1, 24, .slice none 0 0⟩),
  (39, ⟨.tuple #[22, 29, 38], 1, 0, .tuple #[.slice none 0 0, .slice none 0 0, .slice none 0 0]⟩),
  (40, ⟨.func #[29] #[22, 29, 38] false, 1, 8, .nilFunc⟩),
  (41, ⟨.func #[29, 36] #[4] false, 1, 8, .nilFunc⟩),
  (42, ⟨.func #[22] #[4] false, 1, 8, .nilFunc⟩),
  (43, ⟨.func #[22, 29, 22] #[4] false, 1, 8, .nilFunc⟩),
  (44, ⟨.slice 58, 1, 24, .slice none 0 0⟩),
  (45, ⟨.array 32 5, 32, 32, .agg #[.int .u8 0, .int .u8 0, .int .u8 0, .int .u8 0, .int .u8 0, .int .u8 0, .int .u8 0, .int .u8 0, .int .u8 0, .int .u8 0, .int .u8 0, .int .u8 0, .int .u8 0, .int .u8 0, .int .u8 0, .int .u8 0, .int .u8 0, .int .u8 0, .int .u8 0, .int .u8 0, .int .u8 0, .int .u8 0, .int .u8 0, .int .u8 0, .int .u8 0, .int .u8 0, .int .u8 0, .int .u8 0, .int .u8 0, .int .u8 0, .int .u8 0, .int .u8 0]⟩),
  (46, ⟨.array 32 5, 32, 32, .agg #[.int .u8 0, .int .u8 0, .int .u8 0, .int .u8 0, .int .u8 0, .int .u8 0, .int .u8 0, .int .u8 0, .int .u8 0, .int .u8 0, .int .u8 0, .int .u8 0, .int .u8 0, .int .u8 0, .int .u8 0, .int .u8 0, .int .u8 0, .int .u8 0, .int .u8 0, .int .u8 0, .int .u8 0, .int .u8 0, .int .u8 0, .int .u8 0, .int .u8 0, .int .u8 0, .int .u8 0, .int .u8 0, .int .u8 0, .int .u8 0, .int .u8 0, .int .u8 0]⟩),
  (47, ⟨.struct #[⟨ "Kind", 3, 0, false, "", "", 0⟩, ⟨ "From", 3, 1, false, "", "", 8⟩, ⟨ "To", 3, 2, false, "", "", 16⟩, ⟨ "No", 3, 3, false, "", "", 24⟩, ⟨ "Item", 3, 4, false, "", "", 32⟩, ⟨ "Amount", 3, 5, false, "", "", 40⟩, ⟨ "Day", 3, 6, false, "", "", 48⟩, ⟨ "Label", 3, 7, false, "", "", 56⟩, ⟨ "Labels", 38, 8, false, "", "", 64⟩, ⟨ "Verdicts", 38, 9, false, "", "", 88⟩, ⟨ "Relations", 44, 10, false, "", "", 112⟩, ⟨ "Seal", 46, 11, false, "", "", 136⟩], 43, 168, .agg #[.int .i64 0, .int .i64 0, .int .i64 0, .int .i64 0, .int .i64 0, .int .i64 0, .int .i64 0, .int .i64 0, .slice none 0 0, .slice none 0 0, .slice none 0 0, .int .u8 0, .int .u8 0, .int .u8 0, .int .u8 0, .int .u8 0, .int .u8 0, .int .u8 0, .int .u8 0, .int .u8 0, .int .u8 0, .int .u8 0, .int .u8 0, .int .u8 0, .int .u8 0, .int .u8 0, .int .u8 0, .int .u8 0, .int .u8 0, .int .u8 0, .int .u8 0, .int .u8 0, .int .u8 0, .int .u8 0, .int .u8 0, .int .u8 0, .int .u8 0, .int .u8 0, .int .u8 0, .int .u8 0, .int .u8 0, .int .u8 0, .int .u8 0]⟩),
  (48, ⟨.struct #[⟨ "Kind", 3, 0, false, "", "", 0⟩, ⟨ "From", 3, 1, false, "", "", 8⟩, ⟨ "To", 3, 2, false, "", "", 16⟩, ⟨ "No", 3, 3, false, "", "", 24⟩, ⟨ "Item", 3, 4, false, "", "", 32⟩, ⟨ "Amount", 3, 5, false, "", "", 40⟩, ⟨ "Day", 3, 6, false, "", "", 48⟩, ⟨ "Label", 3, 7, false, "", "", 56⟩, ⟨ "Labels", 38, 8, false, "", "", 64⟩, ⟨ "Verdicts", 38, 9, false, "", "", 88⟩, ⟨ "Relations", 44, 10, false, "", "", 112⟩, ⟨ "Seal", 46, 11, false, "", "", 136⟩], 43, 168, .agg #[.int .i64 0, .int .i64 0, .int .i64 0, .int .i64 0, .int .i64 0, .int .i64 0, .int .i64 0, .int .i64 0, .slice none 0 0, .slice none 0 0, .slice none 0 0, .int .u8 0, .int .u8 0, .int .u8 0, .int .u8 0, .int .u8 0, .int .u8 0, .int .u8 0, .int .u8 0, .int .u8 0, .int .u8 0, .int .u8 0, .int .u8 0, .int .u8 0, .int .u8 0, .int .u8 0, .int .u8 0, .int .u8 0, .int .u8 0, .int .u8 0, .int .u8 0, .int .u8 0, .int .u8 0, .int .u8 0, .int .u8 0, .int .u8 0, .int .u8 0, .int .u8 0, .int .u8 0, .int .u8 0, .int .u8 0, .int .u8 0, .int .u8 0]⟩),
  (49, ⟨.func #[48] #[4] false, 1, 8, .nilFunc⟩),
  (50, ⟨.func #[48] #[22, 26] false, 1, 8, .nilFunc⟩),
  (51, ⟨.tuple #[48, 26], 1, 0, .tuple #[.agg #[.int .i64 0, .int .i64 0, .int .i64 0, .int .i64 0, .int .i64 0, .int .i64 0, .int .i64 0, .int .i64 0, .slice none 0 0, .slice none 0 0, .slice none 0 0, .int .u8 0, .int .u8 0, .int .u8 0, .int .u8 0, .int .u8 0, .int .u8 0, .int .u8 0, .int .u8 0, .int .u8 0, .int .u8 0, .int .u8 0, .int .u8 0, .int .u8 0, .int .u8 0, .int .u8 0, .int .u8 0, .int .u8 0, .int .u8 0, .int .u8 0, .int .u8 0, .int .u8 0, .int .u8 0, .int .u8 0, .int .u8 0, .int .u8 0, .int .u8 0, .int .u8 0, .int .u8 0, .int .u8 0, .int .u8 0, .int .u8 0, .int .u8 0], .int .i64 0]⟩),
  (52, ⟨.func #[22] #[48, 26] false, 1, 8, .nilFunc⟩),
  (53, ⟨.func #[48, 48] #[4] false, 1, 8, .nilFunc⟩),
  (54, ⟨.func #[48, 22, 36, 22] #[4] false, 1, 8, .nilFunc⟩),
  (55, ⟨.func #[9, 22] #[46] false, 1, 8, .nilFunc⟩),
  (56, ⟨.slice 38, 1, 24, .slice none 0 0⟩),
  (57, ⟨.struct #[⟨ "Out", 38, 0, false, "", "", 0⟩, ⟨ "In", 56, 1, false, "", "", 24⟩], 2, 48, .agg #[.slice none 0 0, .slice none 0 0]⟩),
  (58, ⟨.struct #[⟨ "Out", 38, 0, false, "", "", 0⟩, ⟨ "In", 56, 1, false, "", "", 24⟩], 2, 48, .agg #[.slice none 0 0, .slice none 0 0]⟩),
  (59, ⟨.func #[84] #[] false, 1, 8, .nilFunc⟩),
  (60, ⟨.func #[84] #[] false, 1, 8, .nilFunc⟩),
  (61, ⟨.func #[22] #[60] false, 1, 8, .nilFunc⟩),
  (62, ⟨.func #[22] #[22] false, 1, 8, .nilFunc⟩),
  (63, ⟨.tuple #[24, 3], 1, 0, .tuple #[.agg #[.int .i64 0, .slice none 0 0], .int .i64 0]⟩),
  (64, ⟨.func #[22] #[24, 3] false, 1, 8, .nilFunc⟩),
  (65, ⟨.func #[68] #[22, 26] false, 1, 8, .nilFunc⟩),
  (66, ⟨.slice 68, 1, 24, .slice none 0 0⟩),
  (67, ⟨.struct #[⟨ "Kind", 3, 0, false, "", "", 0⟩, ⟨ "N", 3, 1, false, "", "", 8⟩, ⟨ "S", 9, 2, false, "", "", 16⟩, ⟨ "L", 66, 3, false, "", "", 32⟩], 4, 56, .agg #[.int .i64 0, .int .i64 0, .string ⟨#[]⟩, .slice none 0 0]⟩),
  (68, ⟨.struct #[⟨ "Kind", 3, 0, false, "", "", 0⟩, ⟨ "N", 3, 1, false, "", "", 8⟩, ⟨ "S", 9, 2, false, "", "", 16⟩, ⟨ "L", 66, 3, false, "", "", 32⟩], 4, 56, .agg #[.int .i64 0, .int .i64 0, .string ⟨#[]⟩, .slice none 0 0]⟩),
  (69, ⟨.func #[48] #[68] false, 1, 8, .nilFunc⟩),
  (70, ⟨.tuple #[24, 3, 4], 1, 0, .tuple #[.agg #[.int .i64 0, .slice none 0 0], .int .i64 0, .bool false]⟩),
  (71, ⟨.func #[22] #[24, 3, 4] false, 1, 8, .nilFunc⟩),
  (72, ⟨.tuple #[68, 26], 1, 0, .tuple #[.agg #[.int .i64 0, .int .i64 0, .string ⟨#[]⟩, .slice none 0 0], .int .i64 0]⟩),
  (73, ⟨.func #[22] #[68, 26] false, 1, 8, .nilFunc⟩),
  (74, ⟨.func #[3, 68] #[48, 26] false, 1, 8, .nilFunc⟩),
  (75, ⟨.func #[38, 38] #[4] false, 1, 8, .nilFunc⟩),
  (76, ⟨.func #[44, 44] #[4] false, 1, 8, .nilFunc⟩),
  (77, ⟨.func #[22] #[46] false, 1, 8, .nilFunc⟩),
  (78, ⟨.func #[121] #[22] true, 1, 8, .nilFunc⟩),
  (79, ⟨.array 8 3, 8, 64, .agg #[.int .i64 0, .int .i64 0, .int .i64 0, .int .i64 0, .int .i64 0, .int .i64 0, .int .i64 0, .int .i64 0]⟩),
  (80, ⟨.func #[48] #[79] false, 1, 8, .nilFunc⟩),
  (81, ⟨.func #[44, 44, 83] #[4] false, 1, 8, .nilFunc⟩),
  (82, ⟨.func #[56, 56, 75] #[4] false, 1, 8, .nilFunc⟩),
  (83, ⟨.func #[58, 58] #[4] false, 1, 8, .nilFunc⟩),
  (84, ⟨.func #[3, 24] #[4] false, 1, 8, .nilFunc⟩),
  (85, ⟨.func #[38] #[4] false, 1, 8, .nilFunc⟩),
  (86, ⟨.func #[68] #[26] false, 1, 8, .nilFunc⟩),
  (87, ⟨.func #[68] #[4] false, 1, 8, .nilFunc⟩),
  (88, ⟨.func #[68] #[3] false, 1, 8, .nilFunc⟩),
  (89, ⟨.func #[22, 68] #[22] false, 1, 8, .nilFunc⟩),
  (90, ⟨.func #[99, 3] #[68] false, 1, 8, .nilFunc⟩),
  (91, ⟨.struct #[⟨ "pure", 87, 0, false, "", "backflush/codec", 0⟩, ⟨ "size", 88, 1, false, "", "backflush/codec", 8⟩, ⟨ "write", 89, 2, false, "", "backflush/codec", 16⟩, ⟨ "read", 90, 3, false, "", "backflush/codec", 24⟩], 4, 32, .agg #[.nilFunc, .nilFunc, .nilFunc, .nilFunc]⟩),
  (92, ⟨.struct #[⟨ "pure", 87, 0, false, "", "backflush/codec", 0⟩, ⟨ "size", 88, 1, false, "", "backflush/codec", 8⟩, ⟨ "write", 89, 2, false, "", "backflush/codec", 16⟩, ⟨ "read", 90, 3, false, "", "backflush/codec", 24⟩], 4, 32, .agg #[.nilFunc, .nilFunc, .nilFunc, .nilFunc]⟩),
  (93, ⟨.array 4 92, 16, 128, .agg #[.nilFunc, .nilFunc, .nilFunc, .nilFunc, .nilFunc, .nilFunc, .nilFunc, .nilFunc, .nilFunc, .nilFunc, .nilFunc, .nilFunc, .nilFunc, .nilFunc, .nilFunc, .nilFunc]⟩),
  (94, ⟨.func #[] #[93] false, 1, 8, .nilFunc⟩),
  (95, ⟨.func #[38] #[68] false, 1, 8, .nilFunc⟩),
  (96, ⟨.func #[44, 97] #[68] false, 1, 8, .nilFunc⟩),
  (97, ⟨.func #[58] #[68] false, 1, 8, .nilFunc⟩),
  (98, ⟨.func #[22, 22] #[4] false, 1, 8, .nilFunc⟩),
  (99, ⟨.pointer 101, 1, 8, .pointer none⟩),
  (100, ⟨.struct #[⟨ "rest", 22, 0, false, "", "backflush/codec", 0⟩], 1, 24, .agg #[.slice none 0 0]⟩),
  (101, ⟨.struct #[⟨ "rest", 22, 0, false, "", "backflush/codec", 0⟩], 1, 24, .agg #[.slice none 0 0]⟩),
  (102, ⟨.func #[3] #[68] false, 1, 8, .nilFunc⟩),
  (103, ⟨.pointer 105, 1, 8, .pointer none⟩),
  (104, ⟨.struct #[⟨ "left", 66, 0, false, "", "backflush/frames", 0⟩], 1, 24, .agg #[.slice none 0 0]⟩),
  (105, ⟨.struct #[⟨ "left", 66, 0, false, "", "backflush/frames", 0⟩], 1, 24, .agg #[.slice none 0 0]⟩),
  (106, ⟨.pointer 3, 1, 8, .pointer none⟩),
  (107, ⟨.slice 106, 1, 24, .slice none 0 0⟩),
  (108, ⟨.func #[] #[3] false, 1, 8, .nilFunc⟩),
  (109, ⟨.func #[] #[38] false, 1, 8, .nilFunc⟩),
  (110, ⟨.func #[103, 112] #[44] false, 1, 8, .nilFunc⟩),
  (111, ⟨.func #[] #[103] false, 1, 8, .nilFunc⟩),
  (112, ⟨.func #[103] #[58] false, 1, 8, .nilFunc⟩),
  (113, ⟨.func #[] #[58] false, 1, 8, .nilFunc⟩),
  (114, ⟨.func #[] #[46] false, 1, 8, .nilFunc⟩),
  (115, ⟨.pointer 118, 1, 8, .pointer none⟩),
  (116, ⟨.int .u32, 1, 4, .int .u32 0⟩),
  (117, ⟨.array 8 116, 8, 32, .agg #[.int .u32 0, .int .u32 0, .int .u32 0, .int .u32 0, .int .u32 0, .int .u32 0, .int .u32 0, .int .u32 0]⟩),
  (118, ⟨.array 8 116, 8, 32, .agg #[.int .u32 0, .int .u32 0, .int .u32 0, .int .u32 0, .int .u32 0, .int .u32 0, .int .u32 0, .int .u32 0]⟩),
  (119, ⟨.int .u64, 1, 8, .int .u64 0⟩),
  (120, ⟨.func #[22] #[] false, 1, 8, .nilFunc⟩),
  (121, ⟨.slice 22, 1, 24, .slice none 0 0⟩),
  (122, ⟨.func #[22, 3] #[22] false, 1, 8, .nilFunc⟩),
  (123, ⟨.func #[117, 22] #[117] false, 1, 8, .nilFunc⟩),
  (124, ⟨.func #[119] #[3] false, 1, 8, .nilFunc⟩),
  (125, ⟨.func #[3] #[119] false, 1, 8, .nilFunc⟩),
  (126, ⟨.func #[22, 119] #[22] false, 1, 8, .nilFunc⟩),
  (127, ⟨.func #[38, 102] #[68] false, 1, 8, .nilFunc⟩),
  (128, ⟨.func #[56, 95] #[68] false, 1, 8, .nilFunc⟩),
  (129, ⟨.func #[119] #[22] false, 1, 8, .nilFunc⟩),
  (130, ⟨.func #[3] #[4] false, 1, 8, .nilFunc⟩),
  (131, ⟨.struct #[], 0, 0, .agg #[]⟩),
  (132, ⟨.struct #[], 0, 0, .agg #[]⟩),
  (133, ⟨.func #[103, 134] #[38] false, 1, 8, .nilFunc⟩),
  (134, ⟨.func #[103] #[3] false, 1, 8, .nilFunc⟩),
  (135, ⟨.func #[103, 136] #[56] false, 1, 8, .nilFunc⟩),
  (136, ⟨.func #[103] #[38] false, 1, 8, .nilFunc⟩),
  (137, ⟨.array 64 116, 64, 256, .agg #[.int .u32 0, .int .u32 0, .int .u32 0, .int .u32 0, .int .u32 0, .int .u32 0, .int .u32 0, .int .u32 0, .int .u32 0, .int .u32 0, .int .u32 0, .int .u32 0, .int .u32 0, .int .u32 0, .int .u32 0, .int .u32 0, .int .u32 0, .int .u32 0, .int .u32 0, .int .u32 0, .int .u32 0, .int .u32 0, .int .u32 0, .int .u32 0, .int .u32 0, .int .u32 0, .int .u32 0, .int .u32 0, .int .u32 0, .int .u32 0, .int .u32 0, .int .u32 0, .int .u32 0, .int .u32 0, .int .u32 0, .int .u32 0, .int .u32 0, .int .u32 0, .int .u32 0, .int .u32 0, .int .u32 0, .int .u32 0, .int .u32 0, .int .u32 0, .int .u32 0, .int .u32 0, .int .u32 0, .int .u32 0, .int .u32 0, .int .u32 0, .int .u32 0, .int .u32 0, .int .u32 0, .int .u32 0, .int .u32 0, .int .u32 0, .int .u32 0, .int .u32 0, .int .u32 0, .int .u32 0, .int .u32 0, .int .u32 0, .int .u32 0, .int .u32 0]⟩),
  (138, ⟨.func #[116, 3] #[116] false, 1, 8, .nilFunc⟩),
  (139, ⟨.func #[22] #[116] false, 1, 8, .nilFunc⟩),
  (140, ⟨.func #[] #[137] false, 1, 8, .nilFunc⟩),
  (141, ⟨.func #[] #[119] false, 1, 8, .nilFunc⟩),
  (142, ⟨.func #[] #[9] false, 1, 8, .nilFunc⟩),
  (143, ⟨.struct #[⟨ "_interface", 17, 0, false, "", "runtime", 0⟩, ⟨ "concrete", 17, 1, false, "", "runtime", 8⟩, ⟨ "asserted", 17, 2, false, "", "runtime", 16⟩, ⟨ "missingMethod", 9, 3, false, "", "runtime", 24⟩], 4, 40, .agg #[.pointer none, .pointer none, .pointer none, .string ⟨#[]⟩]⟩),
  (144, ⟨.struct #[⟨ "_interface", 17, 0, false, "", "runtime", 0⟩, ⟨ "concrete", 17, 1, false, "", "runtime", 8⟩, ⟨ "asserted", 17, 2, false, "", "runtime", 16⟩, ⟨ "missingMethod", 9, 3, false, "", "runtime", 24⟩], 4, 40, .agg #[.pointer none, .pointer none, .pointer none, .string ⟨#[]⟩]⟩),
  (145, ⟨.array 0 16, 0, 0, .agg #[]⟩),
  (146, ⟨.struct #[⟨ "_", 145, 0, false, "", "runtime", 0⟩], 0, 0, .agg #[]⟩),
  (147, ⟨.struct #[⟨ "_", 145, 0, false, "", "runtime", 0⟩], 0, 0, .agg #[]⟩),
  (148, ⟨.int .u8, 1, 1, .int .u8 0⟩),
  (149, ⟨.int .u8, 1, 1, .int .u8 0⟩),
  (150, ⟨.func #[156, 156] #[4] false, 1, 8, .nilFunc⟩),
  (151, ⟨.pointer 5, 1, 8, .pointer none⟩),
  (152, ⟨.int .i32, 1, 4, .int .i32 0⟩),
  (153, ⟨.int .i32, 1, 4, .int .i32 0⟩),
  (154, ⟨.struct #[⟨ "Size_", 12, 0, false, "", "", 0⟩, ⟨ "PtrBytes", 12, 1, false, "", "", 8⟩, ⟨ "Hash", 116, 2, false, "", "", 16⟩, ⟨ "TFlag", 148, 3, false, "", "", 20⟩, ⟨ "Align_", 5, 4, false, "", "", 21⟩, ⟨ "FieldAlign_", 5, 5, false, "", "", 22⟩, ⟨ "Kind_", 149, 6, false, "", "", 23⟩, ⟨ "Equal", 150, 7, false, "", "", 24⟩, ⟨ "GCData", 151, 8, false, "", "", 32⟩, ⟨ "Str", 152, 9, false, "", "", 40⟩, ⟨ "PtrToThis", 153, 10, false, "", "", 44⟩], 11, 48, .agg #[.int .u64 0, .int .u64 0, .int .u32 0, .int .u8 0, .int .u8 0, .int .u8 0, .int .u8 0, .nilFunc, .pointer none, .int .i32 0, .int .i32 0]⟩),
  (155, ⟨.struct #[⟨ "Size_", 12, 0, false, "", "", 0⟩, ⟨ "PtrBytes", 12, 1, false, "", "", 8⟩, ⟨ "Hash", 116, 2, false, "", "", 16⟩, ⟨ "TFlag", 148, 3, false, "", "", 20⟩, ⟨ "Align_", 5, 4, false, "", "", 21⟩, ⟨ "FieldAlign_", 5, 5, false, "", "", 22⟩, ⟨ "Kind_", 149, 6, false, "", "", 23⟩, ⟨ "Equal", 150, 7, false, "", "", 24⟩, ⟨ "GCData", 151, 8, false, "", "", 32⟩, ⟨ "Str", 152, 9, false, "", "", 40⟩, ⟨ "PtrToThis", 153, 10, false, "", "", 44⟩], 11, 48, .agg #[.int .u64 0, .int .u64 0, .int .u32 0, .int .u8 0, .int .u8 0, .int .u8 0, .int .u8 0, .nilFunc, .pointer none, .int .i32 0, .int .i32 0]⟩)]
theorem tysOk : TysOk Tryd.prog tys := by
  unfold tys
  refine TysOk.cons (by kernel_rfl) (by kernel_rfl) ?_
  refine TysOk.cons (by kernel_rfl) (by kernel_rfl) ?_
  refine TysOk.cons (by kernel_rfl) (by kernel_rfl) ?_
  refine TysOk.cons (by kernel_rfl) (by kernel_rfl) ?_
  refine TysOk.cons (by kernel_rfl) (by kernel_rfl) ?_
  refine TysOk.cons (by kernel_rfl) (by kernel_rfl) ?_
  refine TysOk.cons (by kernel_rfl) (by kernel_rfl) ?_
  refine TysOk.cons (by kernel_rfl) (by kernel_rfl) ?_
  refine TysOk.cons (by kernel_rfl) (by kernel_rfl) ?_
  refine TysOk.cons (by kernel_rfl) (by kernel_rfl) ?_
  refine TysOk.cons (by kernel_rfl) (by kernel_rfl) ?_
  refine TysOk.cons (by kernel_rfl) (by kernel_rfl) ?_
  refine TysOk.cons (by kernel_rfl) (by kernel_rfl) ?_
  refine TysOk.cons (by kernel_rfl) (by kernel_rfl) ?_
  refine TysOk.cons (by kernel_rfl) (by kernel_rfl) ?_
  refine TysOk.cons (by kernel_rfl) (by kernel_rfl) ?_
  refine TysOk.cons (by kernel_rfl) (by kernel_rfl) ?_
  refine TysOk.cons (by kernel_rfl) (by kernel_rfl) ?_
  refine TysOk.cons (by kernel_rfl) (by kernel_rfl) ?_
  refine TysOk.cons (by kernel_rfl) (by kernel_rfl) ?_
  refine TysOk.cons (by kernel_rfl) (by kernel_rfl) ?_
  refine TysOk.cons (by kernel_rfl) (by kernel_rfl) ?_
  refine TysOk.cons (by kernel_rfl) (by kernel_rfl) ?_
  refine TysOk.cons (by kernel_rfl) (by kernel_rfl) ?_
  refine TysOk.cons (by kernel_rfl) (by kernel_rfl) ?_
  refine TysOk.cons (by kernel_rfl) (by kernel_rfl) ?_
  refine TysOk.cons (by kernel_rfl) (by kernel_rfl) ?_
  refine TysOk.cons (by kernel_rfl) (by kernel_rfl) ?_
  refine TysOk.cons (by kernel_rfl) (by kernel_rfl) ?_
  refine TysOk.cons (by kernel_rfl) (by kernel_rfl) ?_
  refine TysOk.cons (by kernel_rfl) (by kernel_rfl) ?_
  refine TysOk.cons (by kernel_rfl) (by kernel_rfl) ?_
  refine TysOk.cons (by kernel_rfl) (by kernel_rfl) ?_
  refine TysOk.cons (by kernel_rfl) (by kernel_rfl) ?_
  refine TysOk.cons (by kernel_rfl) (by kernel_rfl) ?_
  refine TysOk.cons (by kernel_rfl) (by kernel_rfl) ?_
  refine TysOk.cons (by kernel_rfl) (by kernel_rfl) ?_
  refine TysOk.cons (by kernel_rfl) (by kernel_rfl) ?_
  refine TysOk.cons (by kernel_rfl) (by kernel_rfl) ?_
  refine TysOk.cons (by kernel_rfl) (by kernel_rfl) ?_
  refine TysOk.cons (by kernel_rfl) (by kernel_rfl) ?_
  refine TysOk.cons (by kernel_rfl) (by kernel_rfl) ?_
  refine TysOk.cons (by kernel_rfl) (by kernel_rfl) ?_
  refine TysOk.cons (by kernel_rfl) (by kernel_rfl) ?_
  refine TysOk.cons (by kernel_rfl) (by kernel_rfl) ?_
  refine TysOk.cons (by kernel_rfl) (by kernel_rfl) ?_
  refine TysOk.cons (by kernel_rfl) (by kernel_rfl) ?_
  refine TysOk.cons (by kernel_rfl) (by kernel_rfl) ?_
  refine TysOk.cons (by kernel_rfl) (by kernel_rfl) ?_
  refine TysOk.cons (by kernel_rfl) (by kernel_rfl) ?_
  refine TysOk.cons (by kernel_rfl) (by kernel_rfl) ?_
  refine TysOk.cons (by kernel_rfl) (by kernel_rfl) ?_
  refine TysOk.cons (by kernel_rfl) (by kernel_rfl) ?_
  refine TysOk.cons (by kernel_rfl) (by kernel_rfl) ?_
  refine TysOk.cons (by kernel_rfl) (by kernel_rfl) ?_
  refine TysOk.cons (by kernel_rfl) (by kernel_rfl) ?_
  refine TysOk.cons (by kernel_rfl) (by kernel_rfl) ?_
  refine TysOk.cons (by kernel_rfl) (by kernel_rfl) ?_
  refine TysOk.cons (by kernel_rfl) (by kernel_rfl) ?_
  refine TysOk.cons (by kernel_rfl) (by kernel_rfl) ?_
  refine TysOk.cons (by kernel_rfl) (by kernel_rfl) ?_
  refine TysOk.cons (by kernel_rfl) (by kernel_rfl) ?_
  refine TysOk.cons (by kernel_rfl) (by kernel_rfl) ?_
  refine TysOk.cons (by kernel_rfl) (by kernel_rfl) ?_
  refine TysOk.cons (by kernel_rfl) (by kernel_rfl) ?_
  refine TysOk.cons (by kernel_rfl) (by kernel_rfl) ?_
  refine TysOk.cons (by kernel_rfl) (by kernel_rfl) ?_
  refine TysOk.cons (by kernel_rfl) (by kernel_rfl) ?_
  refine TysOk.cons (by kernel_rfl) (by kernel_rfl) ?_
  refine TysOk.cons (by kernel_rfl) (by kernel_rfl) ?_
  refine TysOk.cons (by kernel_rfl) (by kernel_rfl) ?_
  refine TysOk.cons (by kernel_rfl) (by kernel_rfl) ?_
  refine TysOk.cons (by kernel_rfl) (by kernel_rfl) ?_
  refine TysOk.cons (by kernel_rfl) (by kernel_rfl) ?_
  refine TysOk.cons (by kernel_rfl) (by kernel_rfl) ?_
  refine TysOk.cons (by kernel_rfl) (by kernel_rfl) ?_
  refine TysOk.cons (by kernel_rfl) (by kernel_rfl) ?_
  refine TysOk.cons (by kernel_rfl) (by kernel_rfl) ?_
  refine TysOk.cons (by kernel_rfl) (by kernel_rfl) ?_
  refine TysOk.cons (by kernel_rfl) (by kernel_rfl) ?_
  refine TysOk.cons (by kernel_rfl) (by kernel_rfl) ?_
  refine TysOk.cons (by kernel_rfl) (by kernel_rfl) ?_
  refine TysOk.cons (by kernel_rfl) (by kernel_rfl) ?_
  refine TysOk.cons (by kernel_rfl) (by kernel_rfl) ?_
  refine TysOk.cons (by kernel_rfl) (by kernel_rfl) ?_
  refine TysOk.cons (by kernel_rfl) (by kernel_rfl) ?_
  refine TysOk.cons (by kernel_rfl) (by kernel_rfl) ?_
  refine TysOk.cons (by kernel_rfl) (by kernel_rfl) ?_
  refine TysOk.cons (by kernel_rfl) (by kernel_rfl) ?_
  refine TysOk.cons (by kernel_rfl) (by kernel_rfl) ?_
  refine TysOk.cons (by kernel_rfl) (by kernel_rfl) ?_
  refine TysOk.cons (by kernel_rfl) (by kernel_rfl) ?_
  refine TysOk.cons (by kernel_rfl) (by kernel_rfl) ?_
  refine TysOk.cons (by kernel_rfl) (by kernel_rfl) ?_
  refine TysOk.cons (by kernel_rfl) (by kernel_rfl) ?_
  refine TysOk.cons (by kernel_rfl) (by kernel_rfl) ?_
  refine TysOk.cons (by kernel_rfl) (by kernel_rfl) ?_
  refine TysOk.cons (by kernel_rfl) (by kernel_rfl) ?_
  refine TysOk.cons (by kernel_rfl) (by kernel_rfl) ?_
  refine TysOk.cons (by kernel_rfl) (by kernel_rfl) ?_
  refine TysOk.cons (by kernel_rfl) (by kernel_rfl) ?_
  refine TysOk.cons (by kernel_rfl) (by kernel_rfl) ?_
  refine TysOk.cons (by kernel_rfl) (by kernel_rfl) ?_
  refine TysOk.cons (by kernel_rfl) (by kernel_rfl) ?_
  refine TysOk.cons (by kernel_rfl) (by kernel_rfl) ?_
  refine TysOk.cons (by kernel_rfl) (by kernel_rfl) ?_
  refine TysOk.cons (by kernel_rfl) (by kernel_rfl) ?_
  refine TysOk.cons (by kernel_rfl) (by kernel_rfl) ?_
  refine TysOk.cons (by kernel_rfl) (by kernel_rfl) ?_
  refine TysOk.cons (by kernel_rfl) (by kernel_rfl) ?_
  refine TysOk.cons (by kernel_rfl) (by kernel_rfl) ?_
  refine TysOk.cons (by kernel_rfl) (by kernel_rfl) ?_
  refine TysOk.cons (by kernel_rfl) (by kernel_rfl) ?_
  refine TysOk.cons (by kernel_rfl) (by kernel_rfl) ?_
  refine TysOk.cons (by kernel_rfl) (by kernel_rfl) ?_
  refine TysOk.cons (by kernel_rfl) (by kernel_rfl) ?_
  refine TysOk.cons (by kernel_rfl) (by kernel_rfl) ?_
  refine TysOk.cons (by kernel_rfl) (by kernel_rfl) ?_
  refine TysOk.cons (by kernel_rfl) (by kernel_rfl) ?_
  refine TysOk.cons (by kernel_rfl) (by kernel_rfl) ?_
  refine TysOk.cons (by kernel_rfl) (by kernel_rfl) ?_
  refine TysOk.cons (by kernel_rfl) (by kernel_rfl) ?_
  refine TysOk.cons (by kernel_rfl) (by kernel_rfl) ?_
  refine TysOk.cons (by kernel_rfl) (by kernel_rfl) ?_
  refine TysOk.cons (by kernel_rfl) (by kernel_rfl) ?_
  refine TysOk.cons (by kernel_rfl) (by kernel_rfl) ?_
  refine TysOk.cons (by kernel_rfl) (by kernel_rfl) ?_
  refine TysOk.cons (by kernel_rfl) (by kernel_rfl) ?_
  refine TysOk.cons (by kernel_rfl) (by kernel_rfl) ?_
  refine TysOk.cons (by kernel_rfl) (by kernel_rfl) ?_
  refine TysOk.cons (by kernel_rfl) (by kernel_rfl) ?_
  refine TysOk.cons (by kernel_rfl) (by kernel_rfl) ?_
  refine TysOk.cons (by kernel_rfl) (by kernel_rfl) ?_
  refine TysOk.cons (by kernel_rfl) (by kernel_rfl) ?_
  refine TysOk.cons (by kernel_rfl) (by kernel_rfl) ?_
  refine TysOk.cons (by kernel_rfl) (by kernel_rfl) ?_
  refine TysOk.cons (by kernel_rfl) (by kernel_rfl) ?_
  refine TysOk.cons (by kernel_rfl) (by kernel_rfl) ?_
  refine TysOk.cons (by kernel_rfl) (by kernel_rfl) ?_
  refine TysOk.cons (by kernel_rfl) (by kernel_rfl) ?_
  refine TysOk.cons (by kernel_rfl) (by kernel_rfl) ?_
  refine TysOk.cons (by kernel_rfl) (by kernel_rfl) ?_
  refine TysOk.cons (by kernel_rfl) (by kernel_rfl) ?_
  refine TysOk.cons (by kernel_rfl) (by kernel_rfl) ?_
  refine TysOk.cons (by kernel_rfl) (by kernel_rfl) ?_
  refine TysOk.cons (by kernel_rfl) (by kernel_rfl) ?_
  refine TysOk.cons (by kernel_rfl) (by kernel_rfl) ?_
  refine TysOk.cons (by kernel_rfl) (by kernel_rfl) ?_
  refine TysOk.cons (by kernel_rfl) (by kernel_rfl) ?_
  refine TysOk.cons (by kernel_rfl) (by kernel_rfl) ?_
  refine TysOk.cons (by kernel_rfl) (by kernel_rfl) ?_
  refine TysOk.cons (by kernel_rfl) (by kernel_rfl) ?_
  refine TysOk.cons (by kernel_rfl) (by kernel_rfl) ?_
  refine TysOk.cons (by kernel_rfl) (by kernel_rfl) ?_
  refine TysOk.cons (by kernel_rfl) (by kernel_rfl) ?_
  refine TysOk.cons (by kernel_rfl) (by kernel_rfl) ?_
  exact TysOk.nil _
end Go.Proofs.YtghjhdbmkilakaaDoor

