/-
  The types of the translation, as the walks ask of them: by program off the dump's own rows. Conditions: none.
-/
import Derived.Test.YtlifjajcmnkhfaaChecked
import Derived.Test.YtlifjajcmnkhfaaQBfCall
namespace Go.Proofs.Ytlifjajcmnkhfaa
open Go Bf
def tys : List (Nat × TyI) := [
  (0, ⟨.tuple #[], 1, 0, .tuple #[]⟩),
  (1, ⟨.func #[] #[] false, 1, 8, .nilFunc⟩),
  (2, ⟨.int .i64, 1, 8, .int .i64 0⟩),
  (3, ⟨.int .i64, 1, 8, .int .i64 0⟩),
  (4, ⟨.bool, 1, 1, .bool false⟩),
  (5, ⟨.int .u8, 1, 1, .int .u8 0⟩),
  (6, ⟨.int .u8, 1, 1, .int .u8 0⟩),
  (7, ⟨.struct #[⟨ "x", 2, 0, false, "", "runtime", 0⟩, ⟨ "y", 3, 1, false, "", "runtime", 8⟩, ⟨ "signed", 4, 2, false, "", "runtime", 16⟩, ⟨ "code", 6, 3, false, "", "runtime", 17⟩], 4, 24, .agg #[.int .i64 0, .int .i64 0, .bool false, .int .u8 0]⟩),
  (8, ⟨.struct #[⟨ "x", 2, 0, false, "", "runtime", 0⟩, ⟨ "y", 3, 1, false, "", "runtime", 8⟩, ⟨ "signed", 4, 2, false, "", "runtime", 16⟩, ⟨ "code", 6, 3, false, "", "runtime", 17⟩], 4, 24, .agg #[.int .i64 0, .int .i64 0, .bool false, .int .u8 0]⟩),
  (9, ⟨.string, 1, 16, .string ⟨#[]⟩⟩),
  (10, ⟨.string, 1, 16, .string ⟨#[]⟩⟩),
  (11, ⟨.string, 1, 16, .string ⟨#[]⟩⟩),
  (12, ⟨.int .u64, 1, 8, .int .u64 0⟩),
  (13, ⟨.struct #[⟨ "msg", 9, 0, false, "", "runtime", 0⟩, ⟨ "addr", 12, 1, false, "", "runtime", 16⟩], 2, 24, .agg #[.string ⟨#[]⟩, .int .u64 0]⟩),
  (14, ⟨.struct #[⟨ "msg", 9, 0, false, "", "runtime", 0⟩, ⟨ "addr", 12, 1, false, "", "runtime", 16⟩], 2, 24, .agg #[.string ⟨#[]⟩, .int .u64 0]⟩),
  (15, ⟨.pointer 174, 1, 8, .pointer none⟩),
  (16, ⟨.pointer 177, 1, 8, .pointer none⟩),
  (17, ⟨.pointer 187, 1, 8, .pointer none⟩),
  (18, ⟨.struct #[⟨ "typ", 17, 0, false, "", "internal/runtime/maps", 0⟩], 1, 8, .agg #[.pointer none]⟩),
  (19, ⟨.struct #[⟨ "typ", 17, 0, false, "", "internal/runtime/maps", 0⟩], 1, 8, .agg #[.pointer none]⟩),
  (20, ⟨.interface #[], 1, 16, .nilIface⟩),
  (21, ⟨.int .i32, 1, 4, .int .i32 0⟩),
  (22, ⟨.slice 191, 1, 24, .slice none 0 0⟩),
  (23, ⟨.slice 193, 1, 24, .slice none 0 0⟩),
  (24, ⟨.slice 9, 1, 24, .slice none 0 0⟩),
  (25, ⟨.slice 195, 1, 24, .slice none 0 0⟩),
  (26, ⟨.slice 197, 1, 24, .slice none 0 0⟩),
  (27, ⟨.slice 198, 1, 24, .slice none 0 0⟩),
  (28, ⟨.slice 202, 1, 24, .slice none 0 0⟩),
  (29, ⟨.slice 167, 1, 24, .slice none 0 0⟩),
  (30, ⟨.struct #[⟨ "Units", 22, 0, false, "", "", 0⟩, ⟨ "Items", 23, 1, false, "", "", 24⟩, ⟨ "Plants", 24, 2, false, "", "", 48⟩, ⟨ "Machines", 25, 3, false, "", "", 72⟩, ⟨ "Options", 26, 4, false, "", "", 96⟩, ⟨ "Forbids", 27, 5, false, "", "", 120⟩, ⟨ "Recipes", 28, 6, false, "", "", 144⟩, ⟨ "Swaps", 29, 7, false, "", "", 168⟩], 8, 192, .agg #[.slice none 0 0, .slice none 0 0, .slice none 0 0, .slice none 0 0, .slice none 0 0, .slice none 0 0, .slice none 0 0, .slice none 0 0]⟩),
  (31, ⟨.struct #[⟨ "Units", 22, 0, false, "", "", 0⟩, ⟨ "Items", 23, 1, false, "", "", 24⟩, ⟨ "Plants", 24, 2, false, "", "", 48⟩, ⟨ "Machines", 25, 3, false, "", "", 72⟩, ⟨ "Options", 26, 4, false, "", "", 96⟩, ⟨ "Forbids", 27, 5, false, "", "", 120⟩, ⟨ "Recipes", 28, 6, false, "", "", 144⟩, ⟨ "Swaps", 29, 7, false, "", "", 168⟩], 8, 192, .agg #[.slice none 0 0, .slice none 0 0, .slice none 0 0, .slice none 0 0, .slice none 0 0, .slice none 0 0, .slice none 0 0, .slice none 0 0]⟩),
  (32, ⟨.slice 3, 1, 24, .slice none 0 0⟩),
  (33, ⟨.slice 203, 1, 24, .slice none 0 0⟩),
  (34, ⟨.struct #[⟨ "Source", 31, 0, false, "", "", 0⟩, ⟨ "Levels", 32, 8, false, "", "", 192⟩, ⟨ "Codes", 33, 9, false, "", "", 216⟩], 10, 240, .agg #[.slice none 0 0, .slice none 0 0, .slice none 0 0, .slice none 0 0, .slice none 0 0, .slice none 0 0, .slice none 0 0, .slice none 0 0, .slice none 0 0, .slice none 0 0]⟩),
  (35, ⟨.struct #[⟨ "Source", 31, 0, false, "", "", 0⟩, ⟨ "Levels", 32, 8, false, "", "", 192⟩, ⟨ "Codes", 33, 9, false, "", "", 216⟩], 10, 240, .agg #[.slice none 0 0, .slice none 0 0, .slice none 0 0, .slice none 0 0, .slice none 0 0, .slice none 0 0, .slice none 0 0, .slice none 0 0, .slice none 0 0, .slice none 0 0]⟩),
  (36, ⟨.slice 75, 1, 24, .slice none 0 0⟩),
  (37, ⟨.struct #[⟨ "Tables", 35, 0, false, "", "", 0⟩, ⟨ "Facts", 36, 10, false, "", "", 240⟩], 11, 264, .agg #[.slice none 0 0, .slice none 0 0, .slice none 0 0, .slice none 0 0, .slice none 0 0, .slice none 0 0, .slice none 0 0, .slice none 0 0, .slice none 0 0, .slice none 0 0, .slice none 0 0]⟩),
  (38, ⟨.struct #[⟨ "Tables", 35, 0, false, "", "", 0⟩, ⟨ "Facts", 36, 10, false, "", "", 240⟩], 11, 264, .agg #[.slice none 0 0, .slice none 0 0, .slice none 0 0, .slice none 0 0, .slice none 0 0, .slice none 0 0, .slice none 0 0, .slice none 0 0, .slice none 0 0, .slice none 0 0, .slice none 0 0]⟩),
  (39, ⟨.slice 77, 1, 24, .slice none 0 0⟩),
  (40, ⟨.slice 46, 1, 24, .slice none 0 0⟩),
  (41, ⟨.slice 114, 1, 24, .slice none 0 0⟩),
  (42, ⟨.slice 117, 1, 24, .slice none 0 0⟩),
  (43, ⟨.struct #[⟨ "Known", 3, 0, false, "", "", 0⟩, ⟨ "Supplies", 39, 1, false, "", "", 8⟩, ⟨ "Requests", 40, 2, false, "", "", 32⟩, ⟨ "Fits", 41, 3, false, "", "", 56⟩, ⟨ "Reads", 42, 4, false, "", "", 80⟩], 5, 104, .agg #[.int .i64 0, .slice none 0 0, .slice none 0 0, .slice none 0 0, .slice none 0 0]⟩),
  (44, ⟨.struct #[⟨ "Known", 3, 0, false, "", "", 0⟩, ⟨ "Supplies", 39, 1, false, "", "", 8⟩, ⟨ "Requests", 40, 2, false, "", "", 32⟩, ⟨ "Fits", 41, 3, false, "", "", 56⟩, ⟨ "Reads", 42, 4, false, "", "", 80⟩], 5, 104, .agg #[.int .i64 0, .slice none 0 0, .slice none 0 0, .slice none 0 0, .slice none 0 0]⟩),
  (45, ⟨.struct #[⟨ "No", 3, 0, false, "", "", 0⟩, ⟨ "Item", 3, 1, false, "", "", 8⟩, ⟨ "Customer", 3, 2, false, "", "", 16⟩, ⟨ "Due", 3, 3, false, "", "", 24⟩, ⟨ "Shelf", 3, 4, false, "", "", 32⟩, ⟨ "Amount", 3, 5, false, "", "", 40⟩], 6, 48, .agg #[.int .i64 0, .int .i64 0, .int .i64 0, .int .i64 0, .int .i64 0, .int .i64 0]⟩),
  (46, ⟨.struct #[⟨ "No", 3, 0, false, "", "", 0⟩, ⟨ "Item", 3, 1, false, "", "", 8⟩, ⟨ "Customer", 3, 2, false, "", "", 16⟩, ⟨ "Due", 3, 3, false, "", "", 24⟩, ⟨ "Shelf", 3, 4, false, "", "", 32⟩, ⟨ "Amount", 3, 5, false, "", "", 40⟩], 6, 48, .agg #[.int .i64 0, .int .i64 0, .int .i64 0, .int .i64 0, .int .i64 0, .int .i64 0]⟩),
  (47, ⟨.func #[] #[4] false, 1, 8, .nilFunc⟩),
  (48, ⟨.func #[38, 44] #[4] false, 1, 8, .nilFunc⟩),
  (49, ⟨.int .i64, 1, 8, .int .i64 0⟩),
  (50, ⟨.tuple #[32, 49], 1, 0, .tuple #[.slice none 0 0, .int .i64 0]⟩),
  (51, ⟨.func #[38, 44, 46] #[32, 49] false, 1, 8, .nilFunc⟩),
  (52, ⟨.tuple #[4, 49], 1, 0, .tuple #[.bool false, .int .i64 0]⟩),
  (53, ⟨.func #[38, 44, 46, 32] #[4, 49] false, 1, 8, .nilFunc⟩),
  (54, ⟨.func #[44, 32, 46] #[40] false, 1, 8, .nilFunc⟩),
  (55, ⟨.tuple #[4, 4], 1, 0, .tuple #[.bool false, .bool false]⟩),
  (56, ⟨.func #[38, 39, 40, 3] #[4, 4] false, 1, 8, .nilFunc⟩),
  (57, ⟨.func #[38, 44, 46] #[4] false, 1, 8, .nilFunc⟩),
  (58, ⟨.slice 32, 1, 24, .slice none 0 0⟩),
  (59, ⟨.struct #[⟨ "OK", 4, 0, false, "", "", 0⟩, ⟨ "Amounts", 58, 1, false, "", "", 8⟩, ⟨ "Conflict", 32, 2, false, "", "", 32⟩, ⟨ "Reads", 42, 3, false, "", "", 56⟩], 4, 80, .agg #[.bool false, .slice none 0 0, .slice none 0 0, .slice none 0 0]⟩),
  (60, ⟨.struct #[⟨ "OK", 4, 0, false, "", "", 0⟩, ⟨ "Amounts", 58, 1, false, "", "", 8⟩, ⟨ "Conflict", 32, 2, false, "", "", 32⟩, ⟨ "Reads", 42, 3, false, "", "", 56⟩], 4, 80, .agg #[.bool false, .slice none 0 0, .slice none 0 0, .slice none 0 0]⟩),
  (61, ⟨.tuple #[44, 60, 49], 1, 0, .tuple #[.agg #[.int .i64 0, .slice none 0 0, .slice none 0 0, .slice none 0 0, .slice none 0 0], .agg #[.bool false, .slice none 0 0, .slice none 0 0, .slice none 0 0], .int .i64 0]⟩),
  (62, ⟨.func #[38, 44, 46] #[44, 60, 49] false, 1, 8, .nilFunc⟩),
  (63, ⟨.func #[38, 44, 46, 32] #[4] false, 1, 8, .nilFunc⟩),
  (64, ⟨.func #[38, 44, 46, 32, 3] #[4] false, 1, 8, .nilFunc⟩),
  (65, ⟨.tuple #[44, 49], 1, 0, .tuple #[.agg #[.int .i64 0, .slice none 0 0, .slice none 0 0, .slice none 0 0, .slice none 0 0], .int .i64 0]⟩),
  (66, ⟨.func #[38, 39, 3] #[44, 49] false, 1, 8, .nilFunc⟩),
  (67, ⟨.slice 71, 1, 24, .slice none 0 0⟩),
  (68, ⟨.tuple #[67, 49], 1, 0, .tuple #[.slice none 0 0, .int .i64 0]⟩),
  (69, ⟨.func #[38, 44, 46] #[67, 49] false, 1, 8, .nilFunc⟩),
  (70, ⟨.struct #[⟨ "Kind", 3, 0, false, "", "", 0⟩, ⟨ "Subject", 3, 1, false, "", "", 8⟩, ⟨ "Object", 3, 2, false, "", "", 16⟩], 3, 24, .agg #[.int .i64 0, .int .i64 0, .int .i64 0]⟩),
  (71, ⟨.struct #[⟨ "Kind", 3, 0, false, "", "", 0⟩, ⟨ "Subject", 3, 1, false, "", "", 8⟩, ⟨ "Object", 3, 2, false, "", "", 16⟩], 3, 24, .agg #[.int .i64 0, .int .i64 0, .int .i64 0]⟩),
  (72, ⟨.struct #[⟨ "From", 3, 0, false, "", "", 0⟩, ⟨ "To", 3, 1, false, "", "", 8⟩], 2, 16, .agg #[.int .i64 0, .int .i64 0]⟩),
  (73, ⟨.struct #[⟨ "From", 3, 0, false, "", "", 0⟩, ⟨ "To", 3, 1, false, "", "", 8⟩], 2, 16, .agg #[.int .i64 0, .int .i64 0]⟩),
  (74, ⟨.struct #[⟨ "Key", 71, 0, false, "", "", 0⟩, ⟨ "Value", 3, 3, false, "", "", 24⟩, ⟨ "Valid", 73, 4, false, "", "", 32⟩, ⟨ "Known", 3, 6, false, "", "", 48⟩, ⟨ "No", 3, 7, false, "", "", 56⟩], 8, 64, .agg #[.int .i64 0, .int .i64 0, .int .i64 0, .int .i64 0, .int .i64 0, .int .i64 0, .int .i64 0, .int .i64 0]⟩),
  (75, ⟨.struct #[⟨ "Key", 71, 0, false, "", "", 0⟩, ⟨ "Value", 3, 3, false, "", "", 24⟩, ⟨ "Valid", 73, 4, false, "", "", 32⟩, ⟨ "Known", 3, 6, false, "", "", 48⟩, ⟨ "No", 3, 7, false, "", "", 56⟩], 8, 64, .agg #[.int .i64 0, .int .i64 0, .int .i64 0, .int .i64 0, .int .i64 0, .int .i64 0, .int .i64 0, .int .i64 0]⟩),
  (76, ⟨.struct #[⟨ "No", 3, 0, false, "", "", 0⟩, ⟨ "Item", 3, 1, false, "", "", 8⟩, ⟨ "Plant", 3, 2, false, "", "", 16⟩, ⟨ "Ready", 3, 3, false, "", "", 24⟩, ⟨ "Expiry", 3, 4, false, "", "", 32⟩, ⟨ "Amount", 3, 5, false, "", "", 40⟩], 6, 48, .agg #[.int .i64 0, .int .i64 0, .int .i64 0, .int .i64 0, .int .i64 0, .int .i64 0]⟩),
  (77, ⟨.struct #[⟨ "No", 3, 0, false, "", "", 0⟩, ⟨ "Item", 3, 1, false, "", "", 8⟩, ⟨ "Plant", 3, 2, false, "", "", 16⟩, ⟨ "Ready", 3, 3, false, "", "", 24⟩, ⟨ "Expiry", 3, 4, false, "", "", 32⟩, ⟨ "Amount", 3, 5, false, "", "", 40⟩], 6, 48, .agg #[.int .i64 0, .int .i64 0, .int .i64 0, .int .i64 0, .int .i64 0, .int .i64 0]⟩),
  (78, ⟨.func #[32, 32] #[4] false, 1, 8, .nilFunc⟩),
  (79, ⟨.func #[67, 67] #[4] false, 1, 8, .nilFunc⟩),
  (80, ⟨.func #[40] #[40] false, 1, 8, .nilFunc⟩),
  (81, ⟨.tuple #[41, 42, 49], 1, 0, .tuple #[.slice none 0 0, .slice none 0 0, .int .i64 0]⟩),
  (82, ⟨.func #[38, 39, 40, 3] #[41, 42, 49] false, 1, 8, .nilFunc⟩),
  (83, ⟨.map 3 3, 1, 8, .map none⟩),
  (84, ⟨.tuple #[3, 4], 1, 0, .tuple #[.int .i64 0, .bool false]⟩),
  (85, ⟨.tuple #[32, 32], 1, 0, .tuple #[.slice none 0 0, .slice none 0 0]⟩),
  (86, ⟨.func #[39, 40] #[32, 32] false, 1, 8, .nilFunc⟩),
  (87, ⟨.func #[41, 32, 32, 32] #[4, 49] false, 1, 8, .nilFunc⟩),
  (88, ⟨.tuple #[58, 4, 32, 49], 1, 0, .tuple #[.slice none 0 0, .bool false, .slice none 0 0, .int .i64 0]⟩),
  (89, ⟨.func #[41, 32, 32] #[58, 4, 32, 49] false, 1, 8, .nilFunc⟩),
  (90, ⟨.func #[1] #[49] false, 1, 8, .nilFunc⟩),
  (91, ⟨.func #[38, 44] #[] false, 1, 8, .nilFunc⟩),
  (92, ⟨.tuple #[44, 60], 1, 0, .tuple #[.agg #[.int .i64 0, .slice none 0 0, .slice none 0 0, .slice none 0 0, .slice none 0 0], .agg #[.bool false, .slice none 0 0, .slice none 0 0, .slice none 0 0]]⟩),
  (93, ⟨.func #[38, 44, 46] #[44, 60] false, 1, 8, .nilFunc⟩),
  (94, ⟨.func #[40] #[44, 49] false, 1, 8, .nilFunc⟩),
  (95, ⟨.func #[38, 44] #[94] false, 1, 8, .nilFunc⟩),
  (96, ⟨.func #[39] #[4] false, 1, 8, .nilFunc⟩),
  (97, ⟨.func #[141] #[] false, 1, 8, .nilFunc⟩),
  (98, ⟨.func #[141] #[] false, 1, 8, .nilFunc⟩),
  (99, ⟨.func #[38, 42, 3] #[98] false, 1, 8, .nilFunc⟩),
  (100, ⟨.func #[67, 71] #[4] false, 1, 8, .nilFunc⟩),
  (101, ⟨.func #[38, 67] #[38] false, 1, 8, .nilFunc⟩),
  (102, ⟨.tuple #[3, 49], 1, 0, .tuple #[.int .i64 0, .int .i64 0]⟩),
  (103, ⟨.func #[41, 32, 32] #[3, 49] false, 1, 8, .nilFunc⟩),
  (104, ⟨.func #[67] #[4] false, 1, 8, .nilFunc⟩),
  (105, ⟨.func #[67, 3, 3] #[67] false, 1, 8, .nilFunc⟩),
  (106, ⟨.func #[67] #[67] false, 1, 8, .nilFunc⟩),
  (107, ⟨.func #[38, 39, 40] #[4] false, 1, 8, .nilFunc⟩),
  (108, ⟨.func #[41] #[4] false, 1, 8, .nilFunc⟩),
  (109, ⟨.func #[39, 110] #[4] false, 1, 8, .nilFunc⟩),
  (110, ⟨.func #[77] #[4] false, 1, 8, .nilFunc⟩),
  (111, ⟨.func #[40, 112] #[4] false, 1, 8, .nilFunc⟩),
  (112, ⟨.func #[46] #[4] false, 1, 8, .nilFunc⟩),
  (113, ⟨.map 117 4, 1, 8, .map none⟩),
  (114, ⟨.slice 4, 1, 24, .slice none 0 0⟩),
  (115, ⟨.func #[38, 77, 46] #[4] false, 1, 8, .nilFunc⟩),
  (116, ⟨.struct #[⟨ "Key", 71, 0, false, "", "", 0⟩, ⟨ "From", 3, 3, false, "", "", 24⟩, ⟨ "To", 3, 4, false, "", "", 32⟩], 5, 40, .agg #[.int .i64 0, .int .i64 0, .int .i64 0, .int .i64 0, .int .i64 0]⟩),
  (117, ⟨.struct #[⟨ "Key", 71, 0, false, "", "", 0⟩, ⟨ "From", 3, 3, false, "", "", 24⟩, ⟨ "To", 3, 4, false, "", "", 32⟩], 5, 40, .agg #[.int .i64 0, .int .i64 0, .int .i64 0, .int .i64 0, .int .i64 0]⟩),
  (118, ⟨.func #[77, 46] #[117] false, 1, 8, .nilFunc⟩),
  (119, ⟨.func #[38, 117, 3] #[4] false, 1, 8, .nilFunc⟩),
  (120, ⟨.func #[41, 32, 32] #[4] false, 1, 8, .nilFunc⟩),
  (121, ⟨.func #[32, 122] #[4] false, 1, 8, .nilFunc⟩),
  (122, ⟨.func #[3] #[4] false, 1, 8, .nilFunc⟩),
  (123, ⟨.pointer 129, 1, 8, .pointer none⟩),
  (124, ⟨.func #[41, 32, 32] #[123] false, 1, 8, .nilFunc⟩),
  (125, ⟨.func #[32] #[3] false, 1, 8, .nilFunc⟩),
  (126, ⟨.array 64 3, 64, 512, .agg #[.int .i64 0, .int .i64 0, .int .i64 0, .int .i64 0, .int .i64 0, .int .i64 0, .int .i64 0, .int .i64 0, .int .i64 0, .int .i64 0, .int .i64 0, .int .i64 0, .int .i64 0, .int .i64 0, .int .i64 0, .int .i64 0, .int .i64 0, .int .i64 0, .int .i64 0, .int .i64 0, .int .i64 0, .int .i64 0, .int .i64 0, .int .i64 0, .int .i64 0, .int .i64 0, .int .i64 0, .int .i64 0, .int .i64 0, .int .i64 0, .int .i64 0, .int .i64 0, .int .i64 0, .int .i64 0, .int .i64 0, .int .i64 0, .int .i64 0, .int .i64 0, .int .i64 0, .int .i64 0, .int .i64 0, .int .i64 0, .int .i64 0, .int .i64 0, .int .i64 0, .int .i64 0, .int .i64 0, .int .i64 0, .int .i64 0, .int .i64 0, .int .i64 0, .int .i64 0, .int .i64 0, .int .i64 0, .int .i64 0, .int .i64 0, .int .i64 0, .int .i64 0, .int .i64 0, .int .i64 0, .int .i64 0, .int .i64 0, .int .i64 0, .int .i64 0]⟩),
  (127, ⟨.array 65 3, 65, 520, .agg #[.int .i64 0, .int .i64 0, .int .i64 0, .int .i64 0, .int .i64 0, .int .i64 0, .int .i64 0, .int .i64 0, .int .i64 0, .int .i64 0, .int .i64 0, .int .i64 0, .int .i64 0, .int .i64 0, .int .i64 0, .int .i64 0, .int .i64 0, .int .i64 0, .int .i64 0, .int .i64 0, .int .i64 0, .int .i64 0, .int .i64 0, .int .i64 0, .int .i64 0, .int .i64 0, .int .i64 0, .int .i64 0, .int .i64 0, .int .i64 0, .int .i64 0, .int .i64 0, .int .i64 0, .int .i64 0, .int .i64 0, .int .i64 0, .int .i64 0, .int .i64 0, .int .i64 0, .int .i64 0, .int .i64 0, .int .i64 0, .int .i64 0, .int .i64 0, .int .i64 0, .int .i64 0, .int .i64 0, .int .i64 0, .int .i64 0, .int .i64 0, .int .i64 0, .int .i64 0, .int .i64 0, .int .i64 0, .int .i64 0, .int .i64 0, .int .i64 0, .int .i64 0, .int .i64 0, .int .i64 0, .int .i64 0, .int .i64 0, .int .i64 0, .int .i64 0, .int .i64 0]⟩),
  (128, ⟨.struct #[⟨ "fits", 41, 0, false, "", "backflush/matching", 0⟩, ⟨ "amounts", 58, 1, false, "", "backflush/matching", 24⟩, ⟨ "lack", 32, 2, false, "", "backflush/matching", 48⟩, ⟨ "taken", 126, 3, false, "", "backflush/matching", 72⟩, ⟨ "given", 127, 67, false, "", "backflush/matching", 584⟩], 132, 1104, .agg #[.slice none 0 0, .slice none 0 0, .slice none 0 0, .int .i64 0, .int .i64 0, .int .i64 0, .int .i64 0, .int .i64 0, .int .i64 0, .int .i64 0, .int .i64 0, .int .i64 0, .int .i64 0, .int .i64 0, .int .i64 0, .int .i64 0, .int .i64 0, .int .i64 0, .int .i64 0, .int .i64 0, .int .i64 0, .int .i64 0, .int .i64 0, .int .i64 0, .int .i64 0, .int .i64 0, .int .i64 0, .int .i64 0, .int .i64 0, .int .i64 0, .int .i64 0, .int .i64 0, .int .i64 0, .int .i64 0, .int .i64 0, .int .i64 0, .int .i64 0, .int .i64 0, .int .i64 0, .int .i64 0, .int .i64 0, .int .i64 0, .int .i64 0, .int .i64 0, .int .i64 0, .int .i64 0, .int .i64 0, .int .i64 0, .int .i64 0, .int .i64 0, .int .i64 0, .int .i64 0, .int .i64 0, .int .i64 0, .int .i64 0, .int .i64 0, .int .i64 0, .int .i64 0, .int .i64 0, .int .i64 0, .int .i64 0, .int .i64 0, .int .i64 0, .int .i64 0, .int .i64 0, .int .i64 0, .int .i64 0, .int .i64 0, .int .i64 0, .int .i64 0, .int .i64 0, .int .i64 0, .int .i64 0, .int .i64 0, .int .i64 0, .int .i64 0, .int .i64 0, .int .i64 0, .int .i64 0, .int .i64 0, .int .i64 0, .int .i64 0, .int .i64 0, .int .i64 0, .int .i64 0, .int .i64 0, .int .i64 0, .int .i64 0, .int .i64 0, .int .i64 0, .int .i64 0, .int .i64 0, .int .i64 0, .int .i64 0, .int .i64 0, .int .i64 0, .int .i64 0, .int .i64 0, .int .i64 0, .int .i64 0, .int .i64 0, .int .i64 0, .int .i64 0, .int .i64 0, .int .i64 0, .int .i64 0, .int .i64 0, .int .i64 0, .int .i64 0, .int .i64 0, .int .i64 0, .int .i64 0, .int .i64 0, .int .i64 0, .int .i64 0, .int .i64 0, .int .i64 0, .int .i64 0, .int .i64 0, .int .i64 0, .int .i64 0, .int .i64 0, .int .i64 0, .int .i64 0, .int .i64 0, .int .i64 0, .int .i64 0, .int .i64 0, .int .i64 0, .int .i64 0, .int .i64 0, .int .i64 0]⟩),
  (129, ⟨.struct #[⟨ "fits", 41, 0, false, "", "backflush/matching", 0⟩, ⟨ "amounts", 58, 1, false, "", "backflush/matching", 24⟩, ⟨ "lack", 32, 2, false, "", "backflush/matching", 48⟩, ⟨ "taken", 126, 3, false, "", "backflush/matching", 72⟩, ⟨ "given", 127, 67, false, "", "backflush/matching", 584⟩], 132, 1104, .agg #[.slice none 0 0, .slice none 0 0, .slice none 0 0, .int .i64 0, .int .i64 0, .int .i64 0, .int .i64 0, .int .i64 0, .int .i64 0, .int .i64 0, .int .i64 0, .int .i64 0, .int .i64 0, .int .i64 0, .int .i64 0, .int .i64 0, .int .i64 0, .int .i64 0, .int .i64 0, .int .i64 0, .int .i64 0, .int .i64 0, .int .i64 0, .int .i64 0, .int .i64 0, .int .i64 0, .int .i64 0, .int .i64 0, .int .i64 0, .int .i64 0, .int .i64 0, .int .i64 0, .int .i64 0, .int .i64 0, .int .i64 0, .int .i64 0, .int .i64 0, .int .i64 0, .int .i64 0, .int .i64 0, .int .i64 0, .int .i64 0, .int .i64 0, .int .i64 0, .int .i64 0, .int .i64 0, .int .i64 0, .int .i64 0, .int .i64 0, .int .i64 0, .int .i64 0, .int .i64 0, .int .i64 0, .int .i64 0, .int .i64 0, .int .i64 0, .int .i64 0, .int .i64 0, .int .i64 0, .int .i64 0, .int .i64 0, .int .i64 0, .int .i64 0, .int .i64 0, .int .i64 0, .int .i64 0, .int .i64 0, .int .i64 0, .int .i64 0, .int .i64 0, .int .i64 0, .int .i64 0, .int .i64 0, .int .i64 0, .int .i64 0, .int .i64 0, .int .i64 0, .int .i64 0, .int .i64 0, .int .i64 0, .int .i64 0, .int .i64 0, .int .i64 0, .int .i64 0, .int .i64 0, .int .i64 0, .int .i64 0, .int .i64 0, .int .i64 0, .int .i64 0, .int .i64 0, .int .i64 0, .int .i64 0, .int .i64 0, .int .i64 0, .int .i64 0, .int .i64 0, .int .i64 0, .int .i64 0, .int .i64 0, .int .i64 0, .int .i64 0, .int .i64 0, .int .i64 0, .int .i64 0, .int .i64 0, .int .i64 0, .int .i64 0, .int .i64 0, .int .i64 0, .int .i64 0, .int .i64 0, .int .i64 0, .int .i64 0, .int .i64 0, .int .i64 0, .int .i64 0, .int .i64 0, .int .i64 0, .int .i64 0, .int .i64 0, .int .i64 0, .int .i64 0, .int .i64 0, .int .i64 0, .int .i64 0, .int .i64 0, .int .i64 0, .int .i64 0, .int .i64 0, .int .i64 0, .int .i64 0]⟩),
  (130, ⟨.func #[41, 32, 32] #[32] false, 1, 8, .nilFunc⟩),
  (131, ⟨.func #[3, 3] #[] false, 1, 8, .nilFunc⟩),
  (132, ⟨.func #[32] #[32] false, 1, 8, .nilFunc⟩),
  (133, ⟨.map 3 4, 1, 8, .map none⟩),
  (134, ⟨.func #[4] #[] false, 1, 8, .nilFunc⟩),
  (135, ⟨.func #[41, 41] #[4] false, 1, 8, .nilFunc⟩),
  (136, ⟨.func #[42, 42] #[4] false, 1, 8, .nilFunc⟩),
  (137, ⟨.func #[44] #[4] false, 1, 8, .nilFunc⟩),
  (138, ⟨.func #[49] #[] false, 1, 8, .nilFunc⟩),
  (139, ⟨.func #[44] #[32, 32] false, 1, 8, .nilFunc⟩),
  (140, ⟨.func #[39] #[39] false, 1, 8, .nilFunc⟩),
  (141, ⟨.func #[71] #[4] false, 1, 8, .nilFunc⟩),
  (142, ⟨.func #[36, 71, 3, 3] #[3, 4] false, 1, 8, .nilFunc⟩),
  (143, ⟨.func #[67, 71] #[3] false, 1, 8, .nilFunc⟩),
  (144, ⟨.map 71 4, 1, 8, .map none⟩),
  (145, ⟨.func #[41, 32, 32] #[3] false, 1, 8, .nilFunc⟩),
  (146, ⟨.func #[36] #[4] false, 1, 8, .nilFunc⟩),
  (147, ⟨.func #[39, 110] #[3] false, 1, 8, .nilFunc⟩),
  (148, ⟨.func #[3, 3, 3] #[4] false, 1, 8, .nilFunc⟩),
  (149, ⟨.func #[40, 112] #[3] false, 1, 8, .nilFunc⟩),
  (150, ⟨.func #[38, 3, 3] #[4] false, 1, 8, .nilFunc⟩),
  (151, ⟨.func #[32] #[4] false, 1, 8, .nilFunc⟩),
  (152, ⟨.func #[32, 122] #[3] false, 1, 8, .nilFunc⟩),
  (153, ⟨.func #[3, 3, 122] #[3, 4] false, 1, 8, .nilFunc⟩),
  (154, ⟨.func #[3, 3] #[3] false, 1, 8, .nilFunc⟩),
  (155, ⟨.func #[169] #[] false, 1, 8, .nilFunc⟩),
  (156, ⟨.func #[169] #[] false, 1, 8, .nilFunc⟩),
  (157, ⟨.func #[32, 114] #[156] false, 1, 8, .nilFunc⟩),
  (158, ⟨.func #[41, 41, 159] #[4] false, 1, 8, .nilFunc⟩),
  (159, ⟨.func #[114, 114] #[4] false, 1, 8, .nilFunc⟩),
  (160, ⟨.func #[170] #[] false, 1, 8, .nilFunc⟩),
  (161, ⟨.func #[170] #[] false, 1, 8, .nilFunc⟩),
  (162, ⟨.func #[36, 71, 3] #[161] false, 1, 8, .nilFunc⟩),
  (163, ⟨.func #[75, 75] #[3] false, 1, 8, .nilFunc⟩),
  (164, ⟨.struct #[⟨ "a", 3, 0, false, "", "backflush/classes", 0⟩, ⟨ "b", 3, 1, false, "", "backflush/classes", 8⟩], 2, 16, .agg #[.int .i64 0, .int .i64 0]⟩),
  (165, ⟨.struct #[⟨ "a", 3, 0, false, "", "backflush/classes", 0⟩, ⟨ "b", 3, 1, false, "", "backflush/classes", 8⟩], 2, 16, .agg #[.int .i64 0, .int .i64 0]⟩),
  (166, ⟨.struct #[⟨ "A", 9, 0, false, "", "", 0⟩, ⟨ "B", 9, 1, false, "", "", 16⟩, ⟨ "ANo", 3, 2, false, "", "", 32⟩, ⟨ "BNo", 3, 3, false, "", "", 40⟩], 4, 48, .agg #[.string ⟨#[]⟩, .string ⟨#[]⟩, .int .i64 0, .int .i64 0]⟩),
  (167, ⟨.struct #[⟨ "A", 9, 0, false, "", "", 0⟩, ⟨ "B", 9, 1, false, "", "", 16⟩, ⟨ "ANo", 3, 2, false, "", "", 32⟩, ⟨ "BNo", 3, 3, false, "", "", 40⟩], 4, 48, .agg #[.string ⟨#[]⟩, .string ⟨#[]⟩, .int .i64 0, .int .i64 0]⟩),
  (168, ⟨.func #[3, 3] #[4] false, 1, 8, .nilFunc⟩),
  (169, ⟨.func #[3, 32] #[4] false, 1, 8, .nilFunc⟩),
  (170, ⟨.func #[75] #[4] false, 1, 8, .nilFunc⟩),
  (171, ⟨.func #[32] #[3] true, 1, 8, .nilFunc⟩),
  (172, ⟨.func #[] #[9] false, 1, 8, .nilFunc⟩),
  (173, ⟨.struct #[⟨ "_interface", 17, 0, false, "", "runtime", 0⟩, ⟨ "concrete", 17, 1, false, "", "runtime", 8⟩, ⟨ "asserted", 17, 2, false, "", "runtime", 16⟩, ⟨ "missingMethod", 9, 3, false, "", "runtime", 24⟩], 4, 40, .agg #[.pointer none, .pointer none, .pointer none, .string ⟨#[]⟩]⟩),
  (174, ⟨.struct #[⟨ "_interface", 17, 0, false, "", "runtime", 0⟩, ⟨ "concrete", 17, 1, false, "", "runtime", 8⟩, ⟨ "asserted", 17, 2, false, "", "runtime", 16⟩, ⟨ "missingMethod", 9, 3, false, "", "runtime", 24⟩], 4, 40, .agg #[.pointer none, .pointer none, .pointer none, .string ⟨#[]⟩]⟩),
  (175, ⟨.array 0 16, 0, 0, .agg #[]⟩),
  (176, ⟨.struct #[⟨ "_", 175, 0, false, "", "runtime", 0⟩], 0, 0, .agg #[]⟩),
  (177, ⟨.struct #[⟨ "_", 175, 0, false, "", "runtime", 0⟩], 0, 0, .agg #[]⟩),
  (178, ⟨.func #[] #[3] false, 1, 8, .nilFunc⟩),
  (179, ⟨.int .u32, 1, 4, .int .u32 0⟩),
  (180, ⟨.int .u8, 1, 1, .int .u8 0⟩),
  (181, ⟨.int .u8, 1, 1, .int .u8 0⟩),
  (182, ⟨.func #[204, 204] #[4] false, 1, 8, .nilFunc⟩),
  (183, ⟨.pointer 5, 1, 8, .pointer none⟩),
  (184, ⟨.int .i32, 1, 4, .int .i32 0⟩),
  (185, ⟨.int .i32, 1, 4, .int .i32 0⟩),
  (186, ⟨.struct #[⟨ "Size_", 12, 0, false, "", "", 0⟩, ⟨ "PtrBytes", 12, 1, false, "", "", 8⟩, ⟨ "Hash", 179, 2, false, "", "", 16⟩, ⟨ "TFlag", 180, 3, false, "", "", 20⟩, ⟨ "Align_", 5, 4, false, "", "", 21⟩, ⟨ "FieldAlign_", 5, 5, false, "", "", 22⟩, ⟨ "Kind_", 181, 6, false, "", "", 23⟩, ⟨ "Equal", 182, 7, false, "", "", 24⟩, ⟨ "GCData", 183, 8, false, "", "", 32⟩, ⟨ "Str", 184, 9, false, "", "", 40⟩, ⟨ "PtrToThis", 185, 10, false, "", "", 44⟩], 11, 48, .agg #[.int .u64 0, .int .u64 0, .int .u32 0, .int .u8 0, .int .u8 0, .int .u8 0, .int .u8 0, .nilFunc, .pointer none, .int .i32 0, .int .i32 0]⟩),
  (187, ⟨.struct #[⟨ "Size_", 12, 0, false, "", "", 0⟩, ⟨ "PtrBytes", 12, 1, false, "", "", 8⟩, ⟨ "Hash", 179, 2, false, "", "", 16⟩, ⟨ "TFlag", 180, 3, false, "", "", 20⟩, ⟨ "Align_", 5, 4, false, "", "", 21⟩, ⟨ "FieldAlign_", 5, 5, false, "", "", 22⟩, ⟨ "Kind_", 181, 6, false, "", "", 23⟩, ⟨ "Equal", 182, 7, false, "", "", 24⟩, ⟨ "GCData", 183, 8, false, "", "", 32⟩, ⟨ "Str", 184, 9, false, "", "", 40⟩, ⟨ "PtrToThis", 185, 10, false, "", "", 44⟩], 11, 48, .agg #[.int .u64 0, .int .u64 0, .int .u32 0, .int .u8 0, .int .u8 0, .int .u8 0, .int .u8 0, .nilFunc, .pointer none, .int .i32 0, .int .i32 0]⟩),
  (188, ⟨.struct #[⟨ "Neg", 4, 0, false, "", "", 0⟩, ⟨ "N", 9, 1, false, "", "", 8⟩, ⟨ "D", 9, 2, false, "", "", 24⟩], 3, 40, .agg #[.bool false, .string ⟨#[]⟩, .string ⟨#[]⟩]⟩),
  (189, ⟨.struct #[⟨ "Neg", 4, 0, false, "", "", 0⟩, ⟨ "N", 9, 1, false, "", "", 8⟩, ⟨ "D", 9, 2, false, "", "", 24⟩], 3, 40, .agg #[.bool false, .string ⟨#[]⟩, .string ⟨#[]⟩]⟩),
  (190, ⟨.struct #[⟨ "Name", 9, 0, false, "", "", 0⟩, ⟨ "Of", 9, 1, false, "", "", 16⟩, ⟨ "N", 3, 2, false, "", "", 32⟩, ⟨ "D", 3, 3, false, "", "", 40⟩, ⟨ "Base", 3, 4, false, "", "", 48⟩, ⟨ "Scale", 189, 5, false, "", "", 56⟩], 8, 96, .agg #[.string ⟨#[]⟩, .string ⟨#[]⟩, .int .i64 0, .int .i64 0, .int .i64 0, .bool false, .string ⟨#[]⟩, .string ⟨#[]⟩]⟩),
  (191, ⟨.struct #[⟨ "Name", 9, 0, false, "", "", 0⟩, ⟨ "Of", 9, 1, false, "", "", 16⟩, ⟨ "N", 3, 2, false, "", "", 32⟩, ⟨ "D", 3, 3, false, "", "", 40⟩, ⟨ "Base", 3, 4, false, "", "", 48⟩, ⟨ "Scale", 189, 5, false, "", "", 56⟩], 8, 96, .agg #[.string ⟨#[]⟩, .string ⟨#[]⟩, .int .i64 0, .int .i64 0, .int .i64 0, .bool false, .string ⟨#[]⟩, .string ⟨#[]⟩]⟩),
  (192, ⟨.struct #[⟨ "Name", 9, 0, false, "", "", 0⟩, ⟨ "Unit", 9, 1, false, "", "", 16⟩, ⟨ "MassN", 3, 2, false, "", "", 32⟩, ⟨ "MassD", 3, 3, false, "", "", 40⟩, ⟨ "Shelf", 3, 4, false, "", "", 48⟩, ⟨ "UnitNo", 3, 5, false, "", "", 56⟩], 6, 64, .agg #[.string ⟨#[]⟩, .string ⟨#[]⟩, .int .i64 0, .int .i64 0, .int .i64 0, .int .i64 0]⟩),
  (193, ⟨.struct #[⟨ "Name", 9, 0, false, "", "", 0⟩, ⟨ "Unit", 9, 1, false, "", "", 16⟩, ⟨ "MassN", 3, 2, false, "", "", 32⟩, ⟨ "MassD", 3, 3, false, "", "", 40⟩, ⟨ "Shelf", 3, 4, false, "", "", 48⟩, ⟨ "UnitNo", 3, 5, false, "", "", 56⟩], 6, 64, .agg #[.string ⟨#[]⟩, .string ⟨#[]⟩, .int .i64 0, .int .i64 0, .int .i64 0, .int .i64 0]⟩),
  (194, ⟨.struct #[⟨ "Name", 9, 0, false, "", "", 0⟩, ⟨ "Plant", 9, 1, false, "", "", 16⟩, ⟨ "Clean", 3, 2, false, "", "", 32⟩, ⟨ "PlantNo", 3, 3, false, "", "", 40⟩], 4, 48, .agg #[.string ⟨#[]⟩, .string ⟨#[]⟩, .int .i64 0, .int .i64 0]⟩),
  (195, ⟨.struct #[⟨ "Name", 9, 0, false, "", "", 0⟩, ⟨ "Plant", 9, 1, false, "", "", 16⟩, ⟨ "Clean", 3, 2, false, "", "", 32⟩, ⟨ "PlantNo", 3, 3, false, "", "", 40⟩], 4, 48, .agg #[.string ⟨#[]⟩, .string ⟨#[]⟩, .int .i64 0, .int .i64 0]⟩),
  (196, ⟨.struct #[⟨ "Name", 9, 0, false, "", "", 0⟩, ⟨ "Choices", 24, 1, false, "", "", 16⟩], 2, 40, .agg #[.string ⟨#[]⟩, .slice none 0 0]⟩),
  (197, ⟨.struct #[⟨ "Name", 9, 0, false, "", "", 0⟩, ⟨ "Choices", 24, 1, false, "", "", 16⟩], 2, 40, .agg #[.string ⟨#[]⟩, .slice none 0 0]⟩),
  (198, ⟨.slice 206, 1, 24, .slice none 0 0⟩),
  (199, ⟨.slice 208, 1, 24, .slice none 0 0⟩),
  (200, ⟨.slice 210, 1, 24, .slice none 0 0⟩),
  (201, ⟨.struct #[⟨ "Item", 9, 0, false, "", "", 0⟩, ⟨ "Plant", 9, 1, false, "", "", 16⟩, ⟨ "From", 3, 2, false, "", "", 32⟩, ⟨ "To", 3, 3, false, "", "", 40⟩, ⟨ "If", 198, 4, false, "", "", 48⟩, ⟨ "In", 199, 5, false, "", "", 72⟩, ⟨ "Out", 199, 6, false, "", "", 96⟩, ⟨ "ReworkN", 3, 7, false, "", "", 120⟩, ⟨ "ReworkD", 3, 8, false, "", "", 128⟩, ⟨ "YieldN", 3, 9, false, "", "", 136⟩, ⟨ "YieldD", 3, 10, false, "", "", 144⟩, ⟨ "TolN", 3, 11, false, "", "", 152⟩, ⟨ "TolD", 3, 12, false, "", "", 160⟩, ⟨ "Lead", 3, 13, false, "", "", 168⟩, ⟨ "Runs", 200, 14, false, "", "", 176⟩, ⟨ "ItemNo", 3, 15, false, "", "", 200⟩, ⟨ "PlantNo", 3, 16, false, "", "", 208⟩], 17, 216, .agg #[.string ⟨#[]⟩, .string ⟨#[]⟩, .int .i64 0, .int .i64 0, .slice none 0 0, .slice none 0 0, .slice none 0 0, .int .i64 0, .int .i64 0, .int .i64 0, .int .i64 0, .int .i64 0, .int .i64 0, .int .i64 0, .slice none 0 0, .int .i64 0, .int .i64 0]⟩),
  (202, ⟨.struct #[⟨ "Item", 9, 0, false, "", "", 0⟩, ⟨ "Plant", 9, 1, false, "", "", 16⟩, ⟨ "From", 3, 2, false, "", "", 32⟩, ⟨ "To", 3, 3, false, "", "", 40⟩, ⟨ "If", 198, 4, false, "", "", 48⟩, ⟨ "In", 199, 5, false, "", "", 72⟩, ⟨ "Out", 199, 6, false, "", "", 96⟩, ⟨ "ReworkN", 3, 7, false, "", "", 120⟩, ⟨ "ReworkD", 3, 8, false, "", "", 128⟩, ⟨ "YieldN", 3, 9, false, "", "", 136⟩, ⟨ "YieldD", 3, 10, false, "", "", 144⟩, ⟨ "TolN", 3, 11, false, "", "", 152⟩, ⟨ "TolD", 3, 12, false, "", "", 160⟩, ⟨ "Lead", 3, 13, false, "", "", 168⟩, ⟨ "Runs", 200, 14, false, "", "", 176⟩, ⟨ "ItemNo", 3, 15, false, "", "", 200⟩, ⟨ "PlantNo", 3, 16, false, "", "", 208⟩], 17, 216, .agg #[.string ⟨#[]⟩, .string ⟨#[]⟩, .int .i64 0, .int .i64 0, .slice none 0 0, .slice none 0 0, .slice none 0 0, .int .i64 0, .int .i64 0, .int .i64 0, .int .i64 0, .int .i64 0, .int .i64 0, .int .i64 0, .slice none 0 0, .int .i64 0, .int .i64 0]⟩),
  (203, ⟨.slice 212, 1, 24, .slice none 0 0⟩),
  (205, ⟨.struct #[⟨ "Option", 9, 0, false, "", "", 0⟩, ⟨ "Choice", 9, 1, false, "", "", 16⟩, ⟨ "OptionNo", 3, 2, false, "", "", 32⟩, ⟨ "ChoiceNo", 3, 3, false, "", "", 40⟩], 4, 48, .agg #[.string ⟨#[]⟩, .string ⟨#[]⟩, .int .i64 0, .int .i64 0]⟩),
  (206, ⟨.struct #[⟨ "Option", 9, 0, false, "", "", 0⟩, ⟨ "Choice", 9, 1, false, "", "", 16⟩, ⟨ "OptionNo", 3, 2, false, "", "", 32⟩, ⟨ "ChoiceNo", 3, 3, false, "", "", 40⟩], 4, 48, .agg #[.string ⟨#[]⟩, .string ⟨#[]⟩, .int .i64 0, .int .i64 0]⟩),
  (207, ⟨.struct #[⟨ "N", 3, 0, false, "", "", 0⟩, ⟨ "D", 3, 1, false, "", "", 8⟩, ⟨ "Unit", 9, 2, false, "", "", 16⟩, ⟨ "Item", 9, 3, false, "", "", 32⟩, ⟨ "Back", 4, 4, false, "", "", 48⟩, ⟨ "UnitNo", 3, 5, false, "", "", 56⟩, ⟨ "ItemNo", 3, 6, false, "", "", 64⟩], 7, 72, .agg #[.int .i64 0, .int .i64 0, .string ⟨#[]⟩, .string ⟨#[]⟩, .bool false, .int .i64 0, .int .i64 0]⟩),
  (208, ⟨.struct #[⟨ "N", 3, 0, false, "", "", 0⟩, ⟨ "D", 3, 1, false, "", "", 8⟩, ⟨ "Unit", 9, 2, false, "", "", 16⟩, ⟨ "Item", 9, 3, false, "", "", 32⟩, ⟨ "Back", 4, 4, false, "", "", 48⟩, ⟨ "UnitNo", 3, 5, false, "", "", 56⟩, ⟨ "ItemNo", 3, 6, false, "", "", 64⟩], 7, 72, .agg #[.int .i64 0, .int .i64 0, .string ⟨#[]⟩, .string ⟨#[]⟩, .bool false, .int .i64 0, .int .i64 0]⟩),
  (209, ⟨.struct #[⟨ "Machine", 9, 0, false, "", "", 0⟩, ⟨ "Slots", 3, 1, false, "", "", 16⟩, ⟨ "MachineNo", 3, 2, false, "", "", 24⟩], 3, 32, .agg #[.string ⟨#[]⟩, .int .i64 0, .int .i64 0]⟩),
  (210, ⟨.struct #[⟨ "Machine", 9, 0, false, "", "", 0⟩, ⟨ "Slots", 3, 1, false, "", "", 16⟩, ⟨ "MachineNo", 3, 2, false, "", "", 24⟩], 3, 32, .agg #[.string ⟨#[]⟩, .int .i64 0, .int .i64 0]⟩),
  (211, ⟨.struct #[⟨ "Op", 3, 0, false, "", "", 0⟩, ⟨ "A", 3, 1, false, "", "", 8⟩, ⟨ "B", 3, 2, false, "", "", 16⟩, ⟨ "R", 189, 3, false, "", "", 24⟩], 6, 64, .agg #[.int .i64 0, .int .i64 0, .int .i64 0, .bool false, .string ⟨#[]⟩, .string ⟨#[]⟩]⟩),
  (212, ⟨.struct #[⟨ "Op", 3, 0, false, "", "", 0⟩, ⟨ "A", 3, 1, false, "", "", 8⟩, ⟨ "B", 3, 2, false, "", "", 16⟩, ⟨ "R", 189, 3, false, "", "", 24⟩], 6, 64, .agg #[.int .i64 0, .int .i64 0, .int .i64 0, .bool false, .string ⟨#[]⟩, .string ⟨#[]⟩]⟩)]
theorem tysOk : TysOk Try.prog tys := by
  unfold tys
  refine TysOk.cons (by kernel_rfl) (by kernel_rfl) ?_
  refine TysOk.cons (by kernel_rfl) (by kernel_rfl) ?_
  refine TysOk.cons (by kernel_rfl) (by kernel_rfl) ?_
  refine TysOk.cons (by kernel_rfl) (by kernel_rfl) ?_
  refine TysOk.cons (by kernel_rfl) (by kernel_rfl) ?_
  refine TysOk.cons (by kernel_rfl) (by kernel_rfl) ?_
  refine TysOk.cons (by kernel_rfl) (by kernel_rfl) ?_
  refine TysOk.cons (by kernel_rfl) (by kernel_rfl) ?_
  refine TysOk.cons (by kernel_rfl) (by kernel_rfl) ?_
  refine TysOk.cons (by kernel_rfl) (by kernel_rfl) ?_
  refine TysOk.cons (by kernel_rfl) (by kernel_rfl) ?_
  refine TysOk.cons (by kernel_rfl) (by kernel_rfl) ?_
  refine TysOk.cons (by kernel_rfl) (by kernel_rfl) ?_
  refine TysOk.cons (by kernel_rfl) (by kernel_rfl) ?_
  refine TysOk.cons (by kernel_rfl) (by kernel_rfl) ?_
  refine TysOk.cons (by kernel_rfl) (by kernel_rfl) ?_
  refine TysOk.cons (by kernel_rfl) (by kernel_rfl) ?_
  refine TysOk.cons (by kernel_rfl) (by kernel_rfl) ?_
  refine TysOk.cons (by kernel_rfl) (by kernel_rfl) ?_
  refine TysOk.cons (by kernel_rfl) (by kernel_rfl) ?_
  refine TysOk.cons (by kernel_rfl) (by kernel_rfl) ?_
  refine TysOk.cons (by kernel_rfl) (by kernel_rfl) ?_
  refine TysOk.cons (by kernel_rfl) (by kernel_rfl) ?_
  refine TysOk.cons (by kernel_rfl) (by kernel_rfl) ?_
  refine TysOk.cons (by kernel_rfl) (by kernel_rfl) ?_
  refine TysOk.cons (by kernel_rfl) (by kernel_rfl) ?_
  refine TysOk.cons (by kernel_rfl) (by kernel_rfl) ?_
  refine TysOk.cons (by kernel_rfl) (by kernel_rfl) ?_
  refine TysOk.cons (by kernel_rfl) (by kernel_rfl) ?_
  refine TysOk.cons (by kernel_rfl) (by kernel_rfl) ?_
  refine TysOk.cons (by kernel_rfl) (by kernel_rfl) ?_
  refine TysOk.cons (by kernel_rfl) (by kernel_rfl) ?_
  refine TysOk.cons (by kernel_rfl) (by kernel_rfl) ?_
  refine TysOk.cons (by kernel_rfl) (by kernel_rfl) ?_
  refine TysOk.cons (by kernel_rfl) (by kernel_rfl) ?_
  refine TysOk.cons (by kernel_rfl) (by kernel_rfl) ?_
  refine TysOk.cons (by kernel_rfl) (by kernel_rfl) ?_
  refine TysOk.cons (by kernel_rfl) (by kernel_rfl) ?_
  refine TysOk.cons (by kernel_rfl) (by kernel_rfl) ?_
  refine TysOk.cons (by kernel_rfl) (by kernel_rfl) ?_
  refine TysOk.cons (by kernel_rfl) (by kernel_rfl) ?_
  refine TysOk.cons (by kernel_rfl) (by kernel_rfl) ?_
  refine TysOk.cons (by kernel_rfl) (by kernel_rfl) ?_
  refine TysOk.cons (by kernel_rfl) (by kernel_rfl) ?_
  refine TysOk.cons (by kernel_rfl) (by kernel_rfl) ?_
  refine TysOk.cons (by kernel_rfl) (by kernel_rfl) ?_
  refine TysOk.cons (by kernel_rfl) (by kernel_rfl) ?_
  refine TysOk.cons (by kernel_rfl) (by kernel_rfl) ?_
  refine TysOk.cons (by kernel_rfl) (by kernel_rfl) ?_
  refine TysOk.cons (by kernel_rfl) (by kernel_rfl) ?_
  refine TysOk.cons (by kernel_rfl) (by kernel_rfl) ?_
  refine TysOk.cons (by kernel_rfl) (by kernel_rfl) ?_
  refine TysOk.cons (by kernel_rfl) (by kernel_rfl) ?_
  refine TysOk.cons (by kernel_rfl) (by kernel_rfl) ?_
  refine TysOk.cons (by kernel_rfl) (by kernel_rfl) ?_
  refine TysOk.cons (by kernel_rfl) (by kernel_rfl) ?_
  refine TysOk.cons (by kernel_rfl) (by kernel_rfl) ?_
  refine TysOk.cons (by kernel_rfl) (by kernel_rfl) ?_
  refine TysOk.cons (by kernel_rfl) (by kernel_rfl) ?_
  refine TysOk.cons (by kernel_rfl) (by kernel_rfl) ?_
  refine TysOk.cons (by kernel_rfl) (by kernel_rfl) ?_
  refine TysOk.cons (by kernel_rfl) (by kernel_rfl) ?_
  refine TysOk.cons (by kernel_rfl) (by kernel_rfl) ?_
  refine TysOk.cons (by kernel_rfl) (by kernel_rfl) ?_
  refine TysOk.cons (by kernel_rfl) (by kernel_rfl) ?_
  refine TysOk.cons (by kernel_rfl) (by kernel_rfl) ?_
  refine TysOk.cons (by kernel_rfl) (by kernel_rfl) ?_
  refine TysOk.cons (by kernel_rfl) (by kernel_rfl) ?_
  refine TysOk.cons (by kernel_rfl) (by kernel_rfl) ?_
  refine TysOk.cons (by kernel_rfl) (by kernel_rfl) ?_
  refine TysOk.cons (by kernel_rfl) (by kernel_rfl) ?_
  refine TysOk.cons (by kernel_rfl) (by kernel_rfl) ?_
  refine TysOk.cons (by kernel_rfl) (by kernel_rfl) ?_
  refine TysOk.cons (by kernel_rfl) (by kernel_rfl) ?_
  refine TysOk.cons (by kernel_rfl) (by kernel_rfl) ?_
  refine TysOk.cons (by kernel_rfl) (by kernel_rfl) ?_
  refine TysOk.cons (by kernel_rfl) (by kernel_rfl) ?_
  refine TysOk.cons (by kernel_rfl) (by kernel_rfl) ?_
  refine TysOk.cons (by kernel_rfl) (by kernel_rfl) ?_
  refine TysOk.cons (by kernel_rfl) (by kernel_rfl) ?_
  refine TysOk.cons (by kernel_rfl) (by kernel_rfl) ?_
  refine TysOk.cons (by kernel_rfl) (by kernel_rfl) ?_
  refine TysOk.cons (by kernel_rfl) (by kernel_rfl) ?_
  refine TysOk.cons (by kernel_rfl) (by kernel_rfl) ?_
  refine TysOk.cons (by kernel_rfl) (by kernel_rfl) ?_
  refine TysOk.cons (by kernel_rfl) (by kernel_rfl) ?_
  refine TysOk.cons (by kernel_rfl) (by kernel_rfl) ?_
  refine TysOk.cons (by kernel_rfl) (by kernel_rfl) ?_
  refine TysOk.cons (by kernel_rfl) (by kernel_rfl) ?_
  refine TysOk.cons (by kernel_rfl) (by kernel_rfl) ?_
  refine TysOk.cons (by kernel_rfl) (by kernel_rfl) ?_
  refine TysOk.cons (by kernel_rfl) (by kernel_rfl) ?_
  refine TysOk.cons (by kernel_rfl) (by kernel_rfl) ?_
  refine TysOk.cons (by kernel_rfl) (by kernel_rfl) ?_
  refine TysOk.cons (by kernel_rfl) (by kernel_rfl) ?_
  refine TysOk.cons (by kernel_rfl) (by kernel_rfl) ?_
  refine TysOk.cons (by kernel_rfl) (by kernel_rfl) ?_
  refine TysOk.cons (by kernel_rfl) (by kernel_rfl) ?_
  refine TysOk.cons (by kernel_rfl) (by kernel_rfl) ?_
  refine TysOk.cons (by kernel_rfl) (by kernel_rfl) ?_
  refine TysOk.cons (by kernel_rfl) (by kernel_rfl) ?_
  refine TysOk.cons (by kernel_rfl) (by kernel_rfl) ?_
  refine TysOk.cons (by kernel_rfl) (by kernel_rfl) ?_
  refine TysOk.cons (by kernel_rfl) (by kernel_rfl) ?_
  refine TysOk.cons (by kernel_rfl) (by kernel_rfl) ?_
  refine TysOk.cons (by kernel_rfl) (by kernel_rfl) ?_
  refine TysOk.cons (by kernel_rfl) (by kernel_rfl) ?_
  refine TysOk.cons (by kernel_rfl) (by kernel_rfl) ?_
  refine TysOk.cons (by kernel_rfl) (by kernel_rfl) ?_
  refine TysOk.cons (by kernel_rfl) (by kernel_rfl) ?_
  refine TysOk.cons (by kernel_rfl) (by kernel_rfl) ?_
  refine TysOk.cons (by kernel_rfl) (by kernel_rfl) ?_
  refine TysOk.cons (by kernel_rfl) (by kernel_rfl) ?_
  refine TysOk.cons (by kernel_rfl) (by kernel_rfl) ?_
  refine TysOk.cons (by kernel_rfl) (by kernel_rfl) ?_
  refine TysOk.cons (by kernel_rfl) (by kernel_rfl) ?_
  refine TysOk.cons (by kernel_rfl) (by kernel_rfl) ?_
  refine TysOk.cons (by kernel_rfl) (by kernel_rfl) ?_
  refine TysOk.cons (by kernel_rfl) (by kernel_rfl) ?_
  refine TysOk.cons (by kernel_rfl) (by kernel_rfl) ?_
  refine TysOk.cons (by kernel_rfl) (by kernel_rfl) ?_
  refine TysOk.cons (by kernel_rfl) (by kernel_rfl) ?_
  refine TysOk.cons (by kernel_rfl) (by kernel_rfl) ?_
  refine TysOk.cons (by kernel_rfl) (by kernel_rfl) ?_
  refine TysOk.cons (by kernel_rfl) (by kernel_rfl) ?_
  refine TysOk.cons (by kernel_rfl) (by kernel_rfl) ?_
  refine TysOk.cons (by kernel_rfl) (by kernel_rfl) ?_
  refine TysOk.cons (by kernel_rfl) (by kernel_rfl) ?_
  refine TysOk.cons (by kernel_rfl) (by kernel_rfl) ?_
  refine TysOk.cons (by kernel_rfl) (by kernel_rfl) ?_
  refine TysOk.cons (by kernel_rfl) (by kernel_rfl) ?_
  refine TysOk.cons (by kernel_rfl) (by kernel_rfl) ?_
  refine TysOk.cons (by kernel_rfl) (by kernel_rfl) ?_
  refine TysOk.cons (by kernel_rfl) (by kernel_rfl) ?_
  refine TysOk.cons (by kernel_rfl) (by kernel_rfl) ?_
  refine TysOk.cons (by kernel_rfl) (by kernel_rfl) ?_
  refine TysOk.cons (by kernel_rfl) (by kernel_rfl) ?_
  refine TysOk.cons (by kernel_rfl) (by kernel_rfl) ?_
  refine TysOk.cons (by kernel_rfl) (by kernel_rfl) ?_
  refine TysOk.cons (by kernel_rfl) (by kernel_rfl) ?_
  refine TysOk.cons (by kernel_rfl) (by kernel_rfl) ?_
  refine TysOk.cons (by kernel_rfl) (by kernel_rfl) ?_
  refine TysOk.cons (by kernel_rfl) (by kernel_rfl) ?_
  refine TysOk.cons (by kernel_rfl) (by kernel_rfl) ?_
  refine TysOk.cons (by kernel_rfl) (by kernel_rfl) ?_
  refine TysOk.cons (by kernel_rfl) (by kernel_rfl) ?_
  refine TysOk.cons (by kernel_rfl) (by kernel_rfl) ?_
  refine TysOk.cons (by kernel_rfl) (by kernel_rfl) ?_
  refine TysOk.cons (by kernel_rfl) (by kernel_rfl) ?_
  refine TysOk.cons (by kernel_rfl) (by kernel_rfl) ?_
  refine TysOk.cons (by kernel_rfl) (by kernel_rfl) ?_
  refine TysOk.cons (by kernel_rfl) (by kernel_rfl) ?_
  refine TysOk.cons (by kernel_rfl) (by kernel_rfl) ?_
  refine TysOk.cons (by kernel_rfl) (by kernel_rfl) ?_
  refine TysOk.cons (by kernel_rfl) (by kernel_rfl) ?_
  refine TysOk.cons (by kernel_rfl) (by kernel_rfl) ?_
  refine TysOk.cons (by kernel_rfl) (by kernel_rfl) ?_
  refine TysOk.cons (by kernel_rfl) (by kernel_rfl) ?_
  refine TysOk.cons (by kernel_rfl) (by kernel_rfl) ?_
  refine TysOk.cons (by kernel_rfl) (by kernel_rfl) ?_
  refine TysOk.cons (by kernel_rfl) (by kernel_rfl) ?_
  refine TysOk.cons (by kernel_rfl) (by kernel_rfl) ?_
  refine TysOk.cons (by kernel_rfl) (by kernel_rfl) ?_
  refine TysOk.cons (by kernel_rfl) (by kernel_rfl) ?_
  refine TysOk.cons (by kernel_rfl) (by kernel_rfl) ?_
  refine TysOk.cons (by kernel_rfl) (by kernel_rfl) ?_
  refine TysOk.cons (by kernel_rfl) (by kernel_rfl) ?_
  refine TysOk.cons (by kernel_rfl) (by kernel_rfl) ?_
  refine TysOk.cons (by kernel_rfl) (by kernel_rfl) ?_
  refine TysOk.cons (by kernel_rfl) (by kernel_rfl) ?_
  refine TysOk.cons (by kernel_rfl) (by kernel_rfl) ?_
  refine TysOk.cons (by kernel_rfl) (by kernel_rfl) ?_
  refine TysOk.cons (by kernel_rfl) (by kernel_rfl) ?_
  refine TysOk.cons (by kernel_rfl) (by kernel_rfl) ?_
  refine TysOk.cons (by kernel_rfl) (by kernel_rfl) ?_
  refine TysOk.cons (by kernel_rfl) (by kernel_rfl) ?_
  refine TysOk.cons (by kernel_rfl) (by kernel_rfl) ?_
  refine TysOk.cons (by kernel_rfl) (by kernel_rfl) ?_
  refine TysOk.cons (by kernel_rfl) (by kernel_rfl) ?_
  refine TysOk.cons (by kernel_rfl) (by kernel_rfl) ?_
  refine TysOk.cons (by kernel_rfl) (by kernel_rfl) ?_
  refine TysOk.cons (by kernel_rfl) (by kernel_rfl) ?_
  refine TysOk.cons (by kernel_rfl) (by kernel_rfl) ?_
  refine TysOk.cons (by kernel_rfl) (by kernel_rfl) ?_
  refine TysOk.cons (by kernel_rfl) (by kernel_rfl) ?_
  refine TysOk.cons (by kernel_rfl) (by kernel_rfl) ?_
  refine TysOk.cons (by kernel_rfl) (by kernel_rfl) ?_
  refine TysOk.cons (by kernel_rfl) (by kernel_rfl) ?_
  refine TysOk.cons (by kernel_rfl) (by kernel_rfl) ?_
  refine TysOk.cons (by kernel_rfl) (by kernel_rfl) ?_
  refine TysOk.cons (by kernel_rfl) (by kernel_rfl) ?_
  refine TysOk.cons (by kernel_rfl) (by kernel_rfl) ?_
  refine TysOk.cons (by kernel_rfl) (by kernel_rfl) ?_
  refine TysOk.cons (by kernel_rfl) (by kernel_rfl) ?_
  refine TysOk.cons (by kernel_rfl) (by kernel_rfl) ?_
  refine TysOk.cons (by kernel_rfl) (by kernel_rfl) ?_
  refine TysOk.cons (by kernel_rfl) (by kernel_rfl) ?_
  refine TysOk.cons (by kernel_rfl) (by kernel_rfl) ?_
  refine TysOk.cons (by kernel_rfl) (by kernel_rfl) ?_
  refine TysOk.cons (by kernel_rfl) (by kernel_rfl) ?_
  refine TysOk.cons (by kernel_rfl) (by kernel_rfl) ?_
  refine TysOk.cons (by kernel_rfl) (by kernel_rfl) ?_
  refine TysOk.cons (by kernel_rfl) (by kernel_rfl) ?_
  refine TysOk.cons (by kernel_rfl) (by kernel_rfl) ?_
  refine TysOk.cons (by kernel_rfl) (by kernel_rfl) ?_
  refine TysOk.cons (by kernel_rfl) (by kernel_rfl) ?_
  refine TysOk.cons (by kernel_rfl) (by kernel_rfl) ?_
  refine TysOk.cons (by kernel_rfl) (by kernel_rfl) ?_
  refine TysOk.cons (by kernel_rfl) (by kernel_rfl) ?_
  refine TysOk.cons (by kernel_rfl) (by kernel_rfl) ?_
  refine TysOk.cons (by kernel_rfl) (by kernel_rfl) ?_
  refine TysOk.cons (by kernel_rfl) (by kernel_rfl) ?_
  exact TysOk.nil _
end Go.Proofs.Ytlifjajcmnkhfaa

