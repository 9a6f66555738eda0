/-
  The types of the translation, as the walks ask of them: by program off the dump's own rows. Conditions: none.
-/
import Derived.Test.YtgnipfjjkliibaaChecked
import Derived.Test.YtgnipfjjkliibaaP3BfCall
namespace Go.Proofs.Ytgnipfjjkliibaa
open Go Bf
def tys : List (Nat × TyI) := [
  (0, ⟨.tuple #[], 1, 0, .tuple #[]⟩),
  (1, ⟨.func #[] #[] false, 1, 8, .nilFunc⟩),
  (2, ⟨.int .i64, 1, 8, .int .i64 0⟩),
  (3, ⟨.int .i64, 1, 8, .int .i64 0⟩),
  (4, ⟨.bool, 1, 1, .bool false⟩),
  (5, ⟨.int .u8, 1, 1, .int .u8 0⟩),
  (6, ⟨.int .u8, 1, 1, .int .u8 0⟩),
  (7, ⟨.struct #[⟨ "x", 2, 0, false, "", "runtime", 0⟩, ⟨ "y", 3, 1, false, "", "runtime", 8⟩, ⟨ "signed", 4, 2, false, "", "runtime", 16⟩, ⟨ "code", 6, 3, false, "", "runtime", 17⟩], 4, 24, .agg #[.int .i64 0, .int .i64 0, .bool false, .int .u8 0]⟩),
  (8, ⟨.struct #[⟨ "x", 2, 0, false, "", "runtime", 0⟩, ⟨ "y", 3, 1, false, "", "runtime", 8⟩, ⟨ "signed", 4, 2, false, "", "runtime", 16⟩, ⟨ "code", 6, 3, false, "", "runtime", 17⟩], 4, 24, .agg #[.int .i64 0, .int .i64 0, .bool false, .int .u8 0]⟩),
  (9, ⟨.string, 1, 16, .string ⟨#[]⟩⟩),
  (10, ⟨.string, 1, 16, .string ⟨#[]⟩⟩),
  (11, ⟨.string, 1, 16, .string ⟨#[]⟩⟩),
  (12, ⟨.int .u64, 1, 8, .int .u64 0⟩),
  (13, ⟨.struct #[⟨ "msg", 9, 0, false, "", "runtime", 0⟩, ⟨ "addr", 12, 1, false, "", "runtime", 16⟩], 2, 24, .agg #[.string ⟨#[]⟩, .int .u64 0]⟩),
  (14, ⟨.struct #[⟨ "msg", 9, 0, false, "", "runtime", 0⟩, ⟨ "addr", 12, 1, false, "", "runtime", 16⟩], 2, 24, .agg #[.string ⟨#[]⟩, .int .u64 0]⟩),
  (15, ⟨.pointer 135, 1, 8, .pointer none⟩),
  (16, ⟨.pointer 138, 1, 8, .pointer none⟩),
  (17, ⟨.pointer 148, 1, 8, .pointer none⟩),
  (18, ⟨.struct #[⟨ "typ", 17, 0, false, "", "internal/runtime/maps", 0⟩], 1, 8, .agg #[.pointer none]⟩),
  (19, ⟨.struct #[⟨ "typ", 17, 0, false, "", "internal/runtime/maps", 0⟩], 1, 8, .agg #[.pointer none]⟩),
  (20, ⟨.interface #[], 1, 16, .nilIface⟩),
  (21, ⟨.int .i32, 1, 4, .int .i32 0⟩),
  (22, ⟨.slice 58, 1, 24, .slice none 0 0⟩),
  (23, ⟨.slice 54, 1, 24, .slice none 0 0⟩),
  (24, ⟨.slice 60, 1, 24, .slice none 0 0⟩),
  (25, ⟨.slice 152, 1, 24, .slice none 0 0⟩),
  (26, ⟨.struct #[⟨ "Known", 3, 0, false, "", "", 0⟩, ⟨ "Supplies", 22, 1, false, "", "", 8⟩, ⟨ "Requests", 23, 2, false, "", "", 32⟩, ⟨ "Fits", 24, 3, false, "", "", 56⟩, ⟨ "Reads", 25, 4, false, "", "", 80⟩], 5, 104, .agg #[.int .i64 0, .slice none 0 0, .slice none 0 0, .slice none 0 0, .slice none 0 0]⟩),
  (27, ⟨.struct #[⟨ "Known", 3, 0, false, "", "", 0⟩, ⟨ "Supplies", 22, 1, false, "", "", 8⟩, ⟨ "Requests", 23, 2, false, "", "", 32⟩, ⟨ "Fits", 24, 3, false, "", "", 56⟩, ⟨ "Reads", 25, 4, false, "", "", 80⟩], 5, 104, .agg #[.int .i64 0, .slice none 0 0, .slice none 0 0, .slice none 0 0, .slice none 0 0]⟩),
  (28, ⟨.slice 44, 1, 24, .slice none 0 0⟩),
  (29, ⟨.func #[] #[4] false, 1, 8, .nilFunc⟩),
  (30, ⟨.func #[27, 28] #[4] false, 1, 8, .nilFunc⟩),
  (31, ⟨.int .i64, 1, 8, .int .i64 0⟩),
  (32, ⟨.tuple #[27, 31], 1, 0, .tuple #[.agg #[.int .i64 0, .slice none 0 0, .slice none 0 0, .slice none 0 0, .slice none 0 0], .int .i64 0]⟩),
  (33, ⟨.func #[27, 28] #[27, 31] false, 1, 8, .nilFunc⟩),
  (34, ⟨.slice 52, 1, 24, .slice none 0 0⟩),
  (35, ⟨.tuple #[34, 31], 1, 0, .tuple #[.slice none 0 0, .int .i64 0]⟩),
  (36, ⟨.func #[27, 28] #[34, 31] false, 1, 8, .nilFunc⟩),
  (37, ⟨.tuple #[28, 31], 1, 0, .tuple #[.slice none 0 0, .int .i64 0]⟩),
  (38, ⟨.func #[27, 28, 3] #[28, 31] false, 1, 8, .nilFunc⟩),
  (39, ⟨.func #[27, 27] #[4] false, 1, 8, .nilFunc⟩),
  (40, ⟨.func #[34, 34] #[4] false, 1, 8, .nilFunc⟩),
  (41, ⟨.func #[28, 28] #[4] false, 1, 8, .nilFunc⟩),
  (42, ⟨.func #[27, 28, 3] #[4] false, 1, 8, .nilFunc⟩),
  (43, ⟨.struct #[⟨ "Kind", 3, 0, false, "", "", 0⟩, ⟨ "Supply", 3, 1, false, "", "", 8⟩, ⟨ "Request", 3, 2, false, "", "", 16⟩, ⟨ "Day", 3, 3, false, "", "", 24⟩, ⟨ "Amount", 3, 4, false, "", "", 32⟩], 5, 40, .agg #[.int .i64 0, .int .i64 0, .int .i64 0, .int .i64 0, .int .i64 0]⟩),
  (44, ⟨.struct #[⟨ "Kind", 3, 0, false, "", "", 0⟩, ⟨ "Supply", 3, 1, false, "", "", 8⟩, ⟨ "Request", 3, 2, false, "", "", 16⟩, ⟨ "Day", 3, 3, false, "", "", 24⟩, ⟨ "Amount", 3, 4, false, "", "", 32⟩], 5, 40, .agg #[.int .i64 0, .int .i64 0, .int .i64 0, .int .i64 0, .int .i64 0]⟩),
  (45, ⟨.slice 3, 1, 24, .slice none 0 0⟩),
  (46, ⟨.tuple #[45, 45], 1, 0, .tuple #[.slice none 0 0, .slice none 0 0]⟩),
  (47, ⟨.func #[27] #[45, 45] false, 1, 8, .nilFunc⟩),
  (48, ⟨.slice 45, 1, 24, .slice none 0 0⟩),
  (49, ⟨.tuple #[48, 4, 45, 31], 1, 0, .tuple #[.slice none 0 0, .bool false, .slice none 0 0, .int .i64 0]⟩),
  (50, ⟨.func #[24, 45, 45] #[48, 4, 45, 31] false, 1, 8, .nilFunc⟩),
  (51, ⟨.struct #[⟨ "Request", 3, 0, false, "", "", 0⟩, ⟨ "Because", 45, 1, false, "", "", 8⟩], 2, 32, .agg #[.int .i64 0, .slice none 0 0]⟩),
  (52, ⟨.struct #[⟨ "Request", 3, 0, false, "", "", 0⟩, ⟨ "Because", 45, 1, false, "", "", 8⟩], 2, 32, .agg #[.int .i64 0, .slice none 0 0]⟩),
  (53, ⟨.struct #[⟨ "No", 3, 0, false, "", "", 0⟩, ⟨ "Item", 3, 1, false, "", "", 8⟩, ⟨ "Customer", 3, 2, false, "", "", 16⟩, ⟨ "Due", 3, 3, false, "", "", 24⟩, ⟨ "Shelf", 3, 4, false, "", "", 32⟩, ⟨ "Amount", 3, 5, false, "", "", 40⟩], 6, 48, .agg #[.int .i64 0, .int .i64 0, .int .i64 0, .int .i64 0, .int .i64 0, .int .i64 0]⟩),
  (54, ⟨.struct #[⟨ "No", 3, 0, false, "", "", 0⟩, ⟨ "Item", 3, 1, false, "", "", 8⟩, ⟨ "Customer", 3, 2, false, "", "", 16⟩, ⟨ "Due", 3, 3, false, "", "", 24⟩, ⟨ "Shelf", 3, 4, false, "", "", 32⟩, ⟨ "Amount", 3, 5, false, "", "", 40⟩], 6, 48, .agg #[.int .i64 0, .int .i64 0, .int .i64 0, .int .i64 0, .int .i64 0, .int .i64 0]⟩),
  (55, ⟨.func #[34, 3] #[4] false, 1, 8, .nilFunc⟩),
  (56, ⟨.func #[27, 28, 5] #[4] false, 1, 8, .nilFunc⟩),
  (57, ⟨.struct #[⟨ "No", 3, 0, false, "", "", 0⟩, ⟨ "Item", 3, 1, false, "", "", 8⟩, ⟨ "Plant", 3, 2, false, "", "", 16⟩, ⟨ "Ready", 3, 3, false, "", "", 24⟩, ⟨ "Expiry", 3, 4, false, "", "", 32⟩, ⟨ "Amount", 3, 5, false, "", "", 40⟩], 6, 48, .agg #[.int .i64 0, .int .i64 0, .int .i64 0, .int .i64 0, .int .i64 0, .int .i64 0]⟩),
  (58, ⟨.struct #[⟨ "No", 3, 0, false, "", "", 0⟩, ⟨ "Item", 3, 1, false, "", "", 8⟩, ⟨ "Plant", 3, 2, false, "", "", 16⟩, ⟨ "Ready", 3, 3, false, "", "", 24⟩, ⟨ "Expiry", 3, 4, false, "", "", 32⟩, ⟨ "Amount", 3, 5, false, "", "", 40⟩], 6, 48, .agg #[.int .i64 0, .int .i64 0, .int .i64 0, .int .i64 0, .int .i64 0, .int .i64 0]⟩),
  (59, ⟨.func #[] #[27] false, 1, 8, .nilFunc⟩),
  (60, ⟨.slice 4, 1, 24, .slice none 0 0⟩),
  (61, ⟨.func #[1] #[31] false, 1, 8, .nilFunc⟩),
  (62, ⟨.func #[27, 64] #[27] false, 1, 8, .nilFunc⟩),
  (63, ⟨.struct #[⟨ "fits", 24, 0, false, "", "backflush/honour", 0⟩, ⟨ "amounts", 45, 1, false, "", "backflush/honour", 24⟩, ⟨ "days", 45, 2, false, "", "backflush/honour", 48⟩, ⟨ "needs", 45, 3, false, "", "backflush/honour", 72⟩, ⟨ "due", 45, 4, false, "", "backflush/honour", 96⟩, ⟨ "broken", 45, 5, false, "", "backflush/honour", 120⟩], 6, 144, .agg #[.slice none 0 0, .slice none 0 0, .slice none 0 0, .slice none 0 0, .slice none 0 0, .slice none 0 0]⟩),
  (64, ⟨.struct #[⟨ "fits", 24, 0, false, "", "backflush/honour", 0⟩, ⟨ "amounts", 45, 1, false, "", "backflush/honour", 24⟩, ⟨ "days", 45, 2, false, "", "backflush/honour", 48⟩, ⟨ "needs", 45, 3, false, "", "backflush/honour", 72⟩, ⟨ "due", 45, 4, false, "", "backflush/honour", 96⟩, ⟨ "broken", 45, 5, false, "", "backflush/honour", 120⟩], 6, 144, .agg #[.slice none 0 0, .slice none 0 0, .slice none 0 0, .slice none 0 0, .slice none 0 0, .slice none 0 0]⟩),
  (65, ⟨.func #[27, 28] #[64] false, 1, 8, .nilFunc⟩),
  (66, ⟨.struct #[⟨ "Have", 45, 0, false, "", "", 0⟩, ⟨ "Ready", 45, 1, false, "", "", 24⟩, ⟨ "Want", 45, 2, false, "", "", 48⟩, ⟨ "By", 45, 3, false, "", "", 72⟩], 4, 96, .agg #[.slice none 0 0, .slice none 0 0, .slice none 0 0, .slice none 0 0]⟩),
  (67, ⟨.struct #[⟨ "Have", 45, 0, false, "", "", 0⟩, ⟨ "Ready", 45, 1, false, "", "", 24⟩, ⟨ "Want", 45, 2, false, "", "", 48⟩, ⟨ "By", 45, 3, false, "", "", 72⟩], 4, 96, .agg #[.slice none 0 0, .slice none 0 0, .slice none 0 0, .slice none 0 0]⟩),
  (68, ⟨.tuple #[67, 4], 1, 0, .tuple #[.agg #[.slice none 0 0, .slice none 0 0, .slice none 0 0, .slice none 0 0], .bool false]⟩),
  (69, ⟨.func #[27, 28] #[67, 4] false, 1, 8, .nilFunc⟩),
  (70, ⟨.func #[27, 67] #[24] false, 1, 8, .nilFunc⟩),
  (71, ⟨.func #[27, 28, 64, 3] #[45] false, 1, 8, .nilFunc⟩),
  (72, ⟨.func #[27, 28, 45, 3, 60] #[4] false, 1, 8, .nilFunc⟩),
  (73, ⟨.func #[3, 3, 3] #[4] false, 1, 8, .nilFunc⟩),
  (74, ⟨.func #[27] #[64] false, 1, 8, .nilFunc⟩),
  (75, ⟨.func #[27] #[67] false, 1, 8, .nilFunc⟩),
  (76, ⟨.func #[45, 45] #[4] false, 1, 8, .nilFunc⟩),
  (77, ⟨.func #[24, 45, 45] #[4] false, 1, 8, .nilFunc⟩),
  (78, ⟨.pointer 84, 1, 8, .pointer none⟩),
  (79, ⟨.func #[24, 45, 45] #[78] false, 1, 8, .nilFunc⟩),
  (80, ⟨.func #[45] #[3] false, 1, 8, .nilFunc⟩),
  (81, ⟨.array 64 3, 64, 512, .agg #[.int .i64 0, .int .i64 0, .int .i64 0, .int .i64 0, .int .i64 0, .int .i64 0, .int .i64 0, .int .i64 0, .int .i64 0, .int .i64 0, .int .i64 0, .int .i64 0, .int .i64 0, .int .i64 0, .int .i64 0, .int .i64 0, .int .i64 0, .int .i64 0, .int .i64 0, .int .i64 0, .int .i64 0, .int .i64 0, .int .i64 0, .int .i64 0, .int .i64 0, .int .i64 0, .int .i64 0, .int .i64 0, .int .i64 0, .int .i64 0, .int .i64 0, .int .i64 0, .int .i64 0, .int .i64 0, .int .i64 0, .int .i64 0, .int .i64 0, .int .i64 0, .int .i64 0, .int .i64 0, .int .i64 0, .int .i64 0, .int .i64 0, .int .i64 0, .int .i64 0, .int .i64 0, .int .i64 0, .int .i64 0, .int .i64 0, .int .i64 0, .int .i64 0, .int .i64 0, .int .i64 0, .int .i64 0, .int .i64 0, .int .i64 0, .int .i64 0, .int .i64 0, .int .i64 0, .int .i64 0, .int .i64 0, .int .i64 0, .int .i64 0, .int .i64 0]⟩),
  (82, ⟨.array 65 3, 65, 520, .agg #[.int .i64 0, .int .i64 0, .int .i64 0, .int .i64 0, .int .i64 0, .int .i64 0, .int .i64 0, .int .i64 0, .int .i64 0, .int .i64 0, .int .i64 0, .int .i64 0, .int .i64 0, .int .i64 0, .int .i64 0, .int .i64 0, .int .i64 0, .int .i64 0, .int .i64 0, .int .i64 0, .int .i64 0, .int .i64 0, .int .i64 0, .int .i64 0, .int .i64 0, .int .i64 0, .int .i64 0, .int .i64 0, .int .i64 0, .int .i64 0, .int .i64 0, .int .i64 0, .int .i64 0, .int .i64 0, .int .i64 0, .int .i64 0, .int .i64 0, .int .i64 0, .int .i64 0, .int .i64 0, .int .i64 0, .int .i64 0, .int .i64 0, .int .i64 0, .int .i64 0, .int .i64 0, .int .i64 0, .int .i64 0, .int .i64 0, .int .i64 0, .int .i64 0, .int .i64 0, .int .i64 0, .int .i64 0, .int .i64 0, .int .i64 0, .int .i64 0, .int .i64 0, .int .i64 0, .int .i64 0, .int .i64 0, .int .i64 0, .int .i64 0, .int .i64 0, .int .i64 0]⟩),
  (83, ⟨.struct #[⟨ "fits", 24, 0, false, "", "backflush/matching", 0⟩, ⟨ "amounts", 48, 1, false, "", "backflush/matching", 24⟩, ⟨ "lack", 45, 2, false, "", "backflush/matching", 48⟩, ⟨ "taken", 81, 3, false, "", "backflush/matching", 72⟩, ⟨ "given", 82, 67, false, "", "backflush/matching", 584⟩], 132, 1104, .agg #[.slice none 0 0, .slice none 0 0, .slice none 0 0, .int .i64 0, .int .i64 0, .int .i64 0, .int .i64 0, .int .i64 0, .int .i64 0, .int .i64 0, .int .i64 0, .int .i64 0, .int .i64 0, .int .i64 0, .int .i64 0, .int .i64 0, .int .i64 0, .int .i64 0, .int .i64 0, .int .i64 0, .int .i64 0, .int .i64 0, .int .i64 0, .int .i64 0, .int .i64 0, .int .i64 0, .int .i64 0, .int .i64 0, .int .i64 0, .int .i64 0, .int .i64 0, .int .i64 0, .int .i64 0, .int .i64 0, .int .i64 0, .int .i64 0, .int .i64 0, .int .i64 0, .int .i64 0, .int .i64 0, .int .i64 0, .int .i64 0, .int .i64 0, .int .i64 0, .int .i64 0, .int .i64 0, .int .i64 0, .int .i64 0, .int .i64 0, .int .i64 0, .int .i64 0, .int .i64 0, .int .i64 0, .int .i64 0, .int .i64 0, .int .i64 0, .int .i64 0, .int .i64 0, .int .i64 0, .int .i64 0, .int .i64 0, .int .i64 0, .int .i64 0, .int .i64 0, .int .i64 0, .int .i64 0, .int .i64 0, .int .i64 0, .int .i64 0, .int .i64 0, .int .i64 0, .int .i64 0, .int .i64 0, .int .i64 0, .int .i64 0, .int .i64 0, .int .i64 0, .int .i64 0, .int .i64 0, .int .i64 0, .int .i64 0, .int .i64 0, .int .i64 0, .int .i64 0, .int .i64 0, .int .i64 0, .int .i64 0, .int .i64 0, .int .i64 0, .int .i64 0, .int .i64 0, .int .i64 0, .int .i64 0, .int .i64 0, .int .i64 0, .int .i64 0, .int .i64 0, .int .i64 0, .int .i64 0, .int .i64 0, .int .i64 0, .int .i64 0, .int .i64 0, .int .i64 0, .int .i64 0, .int .i64 0, .int .i64 0, .int .i64 0, .int .i64 0, .int .i64 0, .int .i64 0, .int .i64 0, .int .i64 0, .int .i64 0, .int .i64 0, .int .i64 0, .int .i64 0, .int .i64 0, .int .i64 0, .int .i64 0, .int .i64 0, .int .i64 0, .int .i64 0, .int .i64 0, .int .i64 0, .int .i64 0, .int .i64 0, .int .i64 0, .int .i64 0, .int .i64 0, .int .i64 0, .int .i64 0]⟩),
  (84, ⟨.struct #[⟨ "fits", 24, 0, false, "", "backflush/matching", 0⟩, ⟨ "amounts", 48, 1, false, "", "backflush/matching", 24⟩, ⟨ "lack", 45, 2, false, "", "backflush/matching", 48⟩, ⟨ "taken", 81, 3, false, "", "backflush/matching", 72⟩, ⟨ "given", 82, 67, false, "", "backflush/matching", 584⟩], 132, 1104, .agg #[.slice none 0 0, .slice none 0 0, .slice none 0 0, .int .i64 0, .int .i64 0, .int .i64 0, .int .i64 0, .int .i64 0, .int .i64 0, .int .i64 0, .int .i64 0, .int .i64 0, .int .i64 0, .int .i64 0, .int .i64 0, .int .i64 0, .int .i64 0, .int .i64 0, .int .i64 0, .int .i64 0, .int .i64 0, .int .i64 0, .int .i64 0, .int .i64 0, .int .i64 0, .int .i64 0, .int .i64 0, .int .i64 0, .int .i64 0, .int .i64 0, .int .i64 0, .int .i64 0, .int .i64 0, .int .i64 0, .int .i64 0, .int .i64 0, .int .i64 0, .int .i64 0, .int .i64 0, .int .i64 0, .int .i64 0, .int .i64 0, .int .i64 0, .int .i64 0, .int .i64 0, .int .i64 0, .int .i64 0, .int .i64 0, .int .i64 0, .int .i64 0, .int .i64 0, .int .i64 0, .int .i64 0, .int .i64 0, .int .i64 0, .int .i64 0, .int .i64 0, .int .i64 0, .int .i64 0, .int .i64 0, .int .i64 0, .int .i64 0, .int .i64 0, .int .i64 0, .int .i64 0, .int .i64 0, .int .i64 0, .int .i64 0, .int .i64 0, .int .i64 0, .int .i64 0, .int .i64 0, .int .i64 0, .int .i64 0, .int .i64 0, .int .i64 0, .int .i64 0, .int .i64 0, .int .i64 0, .int .i64 0, .int .i64 0, .int .i64 0, .int .i64 0, .int .i64 0, .int .i64 0, .int .i64 0, .int .i64 0, .int .i64 0, .int .i64 0, .int .i64 0, .int .i64 0, .int .i64 0, .int .i64 0, .int .i64 0, .int .i64 0, .int .i64 0, .int .i64 0, .int .i64 0, .int .i64 0, .int .i64 0, .int .i64 0, .int .i64 0, .int .i64 0, .int .i64 0, .int .i64 0, .int .i64 0, .int .i64 0, .int .i64 0, .int .i64 0, .int .i64 0, .int .i64 0, .int .i64 0, .int .i64 0, .int .i64 0, .int .i64 0, .int .i64 0, .int .i64 0, .int .i64 0, .int .i64 0, .int .i64 0, .int .i64 0, .int .i64 0, .int .i64 0, .int .i64 0, .int .i64 0, .int .i64 0, .int .i64 0, .int .i64 0, .int .i64 0, .int .i64 0, .int .i64 0, .int .i64 0]⟩),
  (85, ⟨.func #[24, 45, 45] #[45] false, 1, 8, .nilFunc⟩),
  (86, ⟨.func #[3, 3] #[] false, 1, 8, .nilFunc⟩),
  (87, ⟨.func #[45] #[45] false, 1, 8, .nilFunc⟩),
  (88, ⟨.func #[22] #[22] false, 1, 8, .nilFunc⟩),
  (89, ⟨.func #[23] #[23] false, 1, 8, .nilFunc⟩),
  (90, ⟨.func #[] #[24] false, 1, 8, .nilFunc⟩),
  (91, ⟨.func #[27] #[] false, 1, 8, .nilFunc⟩),
  (92, ⟨.map 3 94, 1, 8, .map none⟩),
  (93, ⟨.func #[] #[92] false, 1, 8, .nilFunc⟩),
  (94, ⟨.func #[64, 44, 3] #[64] false, 1, 8, .nilFunc⟩),
  (95, ⟨.tuple #[94, 4], 1, 0, .tuple #[.nilFunc, .bool false]⟩),
  (96, ⟨.func #[4] #[] false, 1, 8, .nilFunc⟩),
  (97, ⟨.func #[27] #[4] false, 1, 8, .nilFunc⟩),
  (98, ⟨.func #[27, 67, 44, 3] #[67, 4] false, 1, 8, .nilFunc⟩),
  (99, ⟨.func #[27, 67, 3, 3] #[4] false, 1, 8, .nilFunc⟩),
  (100, ⟨.func #[45, 3, 3] #[45] false, 1, 8, .nilFunc⟩),
  (101, ⟨.func #[27, 28, 64, 3, 45] #[64] false, 1, 8, .nilFunc⟩),
  (102, ⟨.func #[45, 3] #[4] false, 1, 8, .nilFunc⟩),
  (103, ⟨.func #[3] #[45] false, 1, 8, .nilFunc⟩),
  (104, ⟨.func #[27, 67] #[60] false, 1, 8, .nilFunc⟩),
  (105, ⟨.tuple #[45, 4], 1, 0, .tuple #[.slice none 0 0, .bool false]⟩),
  (106, ⟨.func #[24, 45, 45] #[45, 4] false, 1, 8, .nilFunc⟩),
  (107, ⟨.func #[24] #[24] false, 1, 8, .nilFunc⟩),
  (108, ⟨.func #[24, 45, 45, 3, 3] #[3] false, 1, 8, .nilFunc⟩),
  (109, ⟨.func #[45] #[4] false, 1, 8, .nilFunc⟩),
  (110, ⟨.func #[3] #[4] false, 1, 8, .nilFunc⟩),
  (111, ⟨.tuple #[3, 4], 1, 0, .tuple #[.int .i64 0, .bool false]⟩),
  (112, ⟨.func #[3, 3, 110] #[3, 4] false, 1, 8, .nilFunc⟩),
  (113, ⟨.func #[3, 3] #[3] false, 1, 8, .nilFunc⟩),
  (114, ⟨.func #[129] #[] false, 1, 8, .nilFunc⟩),
  (115, ⟨.func #[129] #[] false, 1, 8, .nilFunc⟩),
  (116, ⟨.func #[45, 60] #[115] false, 1, 8, .nilFunc⟩),
  (117, ⟨.func #[24, 45, 45] #[3] false, 1, 8, .nilFunc⟩),
  (118, ⟨.func #[3, 3] #[4] false, 1, 8, .nilFunc⟩),
  (119, ⟨.func #[44, 3] #[64] false, 1, 8, .nilFunc⟩),
  (120, ⟨.func #[60] #[4] false, 1, 8, .nilFunc⟩),
  (121, ⟨.func #[45, 3] #[3] false, 1, 8, .nilFunc⟩),
  (122, ⟨.tuple #[3, 31], 1, 0, .tuple #[.int .i64 0, .int .i64 0]⟩),
  (123, ⟨.func #[24, 45, 45] #[3, 31] false, 1, 8, .nilFunc⟩),
  (124, ⟨.func #[24, 45, 45, 3] #[4] false, 1, 8, .nilFunc⟩),
  (125, ⟨.func #[3, 3] #[45] false, 1, 8, .nilFunc⟩),
  (126, ⟨.func #[60, 3] #[4] false, 1, 8, .nilFunc⟩),
  (127, ⟨.func #[24, 45, 45, 3] #[3] false, 1, 8, .nilFunc⟩),
  (128, ⟨.func #[45, 110] #[4] false, 1, 8, .nilFunc⟩),
  (129, ⟨.func #[3, 45] #[4] false, 1, 8, .nilFunc⟩),
  (130, ⟨.func #[] #[64] false, 1, 8, .nilFunc⟩),
  (131, ⟨.func #[3] #[] false, 1, 8, .nilFunc⟩),
  (132, ⟨.func #[45, 110] #[3] false, 1, 8, .nilFunc⟩),
  (133, ⟨.func #[] #[9] false, 1, 8, .nilFunc⟩),
  (134, ⟨.struct #[⟨ "_interface", 17, 0, false, "", "runtime", 0⟩, ⟨ "concrete", 17, 1, false, "", "runtime", 8⟩, ⟨ "asserted", 17, 2, false, "", "runtime", 16⟩, ⟨ "missingMethod", 9, 3, false, "", "runtime", 24⟩], 4, 40, .agg #[.pointer none, .pointer none, .pointer none, .string ⟨#[]⟩]⟩),
  (135, ⟨.struct #[⟨ "_interface", 17, 0, false, "", "runtime", 0⟩, ⟨ "concrete", 17, 1, false, "", "runtime", 8⟩, ⟨ "asserted", 17, 2, false, "", "runtime", 16⟩, ⟨ "missingMethod", 9, 3, false, "", "runtime", 24⟩], 4, 40, .agg #[.pointer none, .pointer none, .pointer none, .string ⟨#[]⟩]⟩),
  (136, ⟨.array 0 16, 0, 0, .agg #[]⟩),
  (137, ⟨.struct #[⟨ "_", 136, 0, false, "", "runtime", 0⟩], 0, 0, .agg #[]⟩),
  (138, ⟨.struct #[⟨ "_", 136, 0, false, "", "runtime", 0⟩], 0, 0, .agg #[]⟩),
  (139, ⟨.func #[] #[3] false, 1, 8, .nilFunc⟩),
  (140, ⟨.int .u32, 1, 4, .int .u32 0⟩),
  (141, ⟨.int .u8, 1, 1, .int .u8 0⟩),
  (142, ⟨.int .u8, 1, 1, .int .u8 0⟩),
  (143, ⟨.func #[153, 153] #[4] false, 1, 8, .nilFunc⟩),
  (144, ⟨.pointer 5, 1, 8, .pointer none⟩),
  (145, ⟨.int .i32, 1, 4, .int .i32 0⟩),
  (146, ⟨.int .i32, 1, 4, .int .i32 0⟩),
  (147, ⟨.struct #[⟨ "Size_", 12, 0, false, "", "", 0⟩, ⟨ "PtrBytes", 12, 1, false, "", "", 8⟩, ⟨ "Hash", 140, 2, false, "", "", 16⟩, ⟨ "TFlag", 141, 3, false, "", "", 20⟩, ⟨ "Align_", 5, 4, false, "", "", 21⟩, ⟨ "FieldAlign_", 5, 5, false, "", "", 22⟩, ⟨ "Kind_", 142, 6, false, "", "", 23⟩, ⟨ "Equal", 143, 7, false, "", "", 24⟩, ⟨ "GCData", 144, 8, false, "", "", 32⟩, ⟨ "Str", 145, 9, false, "", "", 40⟩, ⟨ "PtrToThis", 146, 10, false, "", "", 44⟩], 11, 48, .agg #[.int .u64 0, .int .u64 0, .int .u32 0, .int .u8 0, .int .u8 0, .int .u8 0, .int .u8 0, .nilFunc, .pointer none, .int .i32 0, .int .i32 0]⟩),
  (148, ⟨.struct #[⟨ "Size_", 12, 0, false, "", "", 0⟩, ⟨ "PtrBytes", 12, 1, false, "", "", 8⟩, ⟨ "Hash", 140, 2, false, "", "", 16⟩, ⟨ "TFlag", 141, 3, false, "", "", 20⟩, ⟨ "Align_", 5, 4, false, "", "", 21⟩, ⟨ "FieldAlign_", 5, 5, false, "", "", 22⟩, ⟨ "Kind_", 142, 6, false, "", "", 23⟩, ⟨ "Equal", 143, 7, false, "", "", 24⟩, ⟨ "GCData", 144, 8, false, "", "", 32⟩, ⟨ "Str", 145, 9, false, "", "", 40⟩, ⟨ "PtrToThis", 146, 10, false, "", "", 44⟩], 11, 48, .agg #[.int .u64 0, .int .u64 0, .int .u32 0, .int .u8 0, .int .u8 0, .int .u8 0, .int .u8 0, .nilFunc, .pointer none, .int .i32 0, .int .i32 0]⟩),
  (149, ⟨.struct #[⟨ "Kind", 3, 0, false, "", "", 0⟩, ⟨ "Subject", 3, 1, false, "", "", 8⟩, ⟨ "Object", 3, 2, false, "", "", 16⟩], 3, 24, .agg #[.int .i64 0, .int .i64 0, .int .i64 0]⟩),
  (150, ⟨.struct #[⟨ "Kind", 3, 0, false, "", "", 0⟩, ⟨ "Subject", 3, 1, false, "", "", 8⟩, ⟨ "Object", 3, 2, false, "", "", 16⟩], 3, 24, .agg #[.int .i64 0, .int .i64 0, .int .i64 0]⟩),
  (151, ⟨.struct #[⟨ "Key", 150, 0, false, "", "", 0⟩, ⟨ "From", 3, 3, false, "", "", 24⟩, ⟨ "To", 3, 4, false, "", "", 32⟩], 5, 40, .agg #[.int .i64 0, .int .i64 0, .int .i64 0, .int .i64 0, .int .i64 0]⟩),
  (152, ⟨.struct #[⟨ "Key", 150, 0, false, "", "", 0⟩, ⟨ "From", 3, 3, false, "", "", 24⟩, ⟨ "To", 3, 4, false, "", "", 32⟩], 5, 40, .agg #[.int .i64 0, .int .i64 0, .int .i64 0, .int .i64 0, .int .i64 0]⟩)]
theorem tysOk : TysOk Try.prog tys := by
  unfold tys
  refine TysOk.cons (by kernel_rfl) (by kernel_rfl) ?_
  refine TysOk.cons (by kernel_rfl) (by kernel_rfl) ?_
  refine TysOk.cons (by kernel_rfl) (by kernel_rfl) ?_
  refine TysOk.cons (by kernel_rfl) (by kernel_rfl) ?_
  refine TysOk.cons (by kernel_rfl) (by kernel_rfl) ?_
  refine TysOk.cons (by kernel_rfl) (by kernel_rfl) ?_
  refine TysOk.cons (by kernel_rfl) (by kernel_rfl) ?_
  refine TysOk.cons (by kernel_rfl) (by kernel_rfl) ?_
  refine TysOk.cons (by kernel_rfl) (by kernel_rfl) ?_
  refine TysOk.cons (by kernel_rfl) (by kernel_rfl) ?_
  refine TysOk.cons (by kernel_rfl) (by kernel_rfl) ?_
  refine TysOk.cons (by kernel_rfl) (by kernel_rfl) ?_
  refine TysOk.cons (by kernel_rfl) (by kernel_rfl) ?_
  refine TysOk.cons (by kernel_rfl) (by kernel_rfl) ?_
  refine TysOk.cons (by kernel_rfl) (by kernel_rfl) ?_
  refine TysOk.cons (by kernel_rfl) (by kernel_rfl) ?_
  refine TysOk.cons (by kernel_rfl) (by kernel_rfl) ?_
  refine TysOk.cons (by kernel_rfl) (by kernel_rfl) ?_
  refine TysOk.cons (by kernel_rfl) (by kernel_rfl) ?_
  refine TysOk.cons (by kernel_rfl) (by kernel_rfl) ?_
  refine TysOk.cons (by kernel_rfl) (by kernel_rfl) ?_
  refine TysOk.cons (by kernel_rfl) (by kernel_rfl) ?_
  refine TysOk.cons (by kernel_rfl) (by kernel_rfl) ?_
  refine TysOk.cons (by kernel_rfl) (by kernel_rfl) ?_
  refine TysOk.cons (by kernel_rfl) (by kernel_rfl) ?_
  refine TysOk.cons (by kernel_rfl) (by kernel_rfl) ?_
  refine TysOk.cons (by kernel_rfl) (by kernel_rfl) ?_
  refine TysOk.cons (by kernel_rfl) (by kernel_rfl) ?_
  refine TysOk.cons (by kernel_rfl) (by kernel_rfl) ?_
  refine TysOk.cons (by kernel_rfl) (by kernel_rfl) ?_
  refine TysOk.cons (by kernel_rfl) (by kernel_rfl) ?_
  refine TysOk.cons (by kernel_rfl) (by kernel_rfl) ?_
  refine TysOk.cons (by kernel_rfl) (by kernel_rfl) ?_
  refine TysOk.cons (by kernel_rfl) (by kernel_rfl) ?_
  refine TysOk.cons (by kernel_rfl) (by kernel_rfl) ?_
  refine TysOk.cons (by kernel_rfl) (by kernel_rfl) ?_
  refine TysOk.cons (by kernel_rfl) (by kernel_rfl) ?_
  refine TysOk.cons (by kernel_rfl) (by kernel_rfl) ?_
  refine TysOk.cons (by kernel_rfl) (by kernel_rfl) ?_
  refine TysOk.cons (by kernel_rfl) (by kernel_rfl) ?_
  refine TysOk.cons (by kernel_rfl) (by kernel_rfl) ?_
  refine TysOk.cons (by kernel_rfl) (by kernel_rfl) ?_
  refine TysOk.cons (by kernel_rfl) (by kernel_rfl) ?_
  refine TysOk.cons (by kernel_rfl) (by kernel_rfl) ?_
  refine TysOk.cons (by kernel_rfl) (by kernel_rfl) ?_
  refine TysOk.cons (by kernel_rfl) (by kernel_rfl) ?_
  refine TysOk.cons (by kernel_rfl) (by kernel_rfl) ?_
  refine TysOk.cons (by kernel_rfl) (by kernel_rfl) ?_
  refine TysOk.cons (by kernel_rfl) (by kernel_rfl) ?_
  refine TysOk.cons (by kernel_rfl) (by kernel_rfl) ?_
  refine TysOk.cons (by kernel_rfl) (by kernel_rfl) ?_
  refine TysOk.cons (by kernel_rfl) (by kernel_rfl) ?_
  refine TysOk.cons (by kernel_rfl) (by kernel_rfl) ?_
  refine TysOk.cons (by kernel_rfl) (by kernel_rfl) ?_
  refine TysOk.cons (by kernel_rfl) (by kernel_rfl) ?_
  refine TysOk.cons (by kernel_rfl) (by kernel_rfl) ?_
  refine TysOk.cons (by kernel_rfl) (by kernel_rfl) ?_
  refine TysOk.cons (by kernel_rfl) (by kernel_rfl) ?_
  refine TysOk.cons (by kernel_rfl) (by kernel_rfl) ?_
  refine TysOk.cons (by kernel_rfl) (by kernel_rfl) ?_
  refine TysOk.cons (by kernel_rfl) (by kernel_rfl) ?_
  refine TysOk.cons (by kernel_rfl) (by kernel_rfl) ?_
  refine TysOk.cons (by kernel_rfl) (by kernel_rfl) ?_
  refine TysOk.cons (by kernel_rfl) (by kernel_rfl) ?_
  refine TysOk.cons (by kernel_rfl) (by kernel_rfl) ?_
  refine TysOk.cons (by kernel_rfl) (by kernel_rfl) ?_
  refine TysOk.cons (by kernel_rfl) (by kernel_rfl) ?_
  refine TysOk.cons (by kernel_rfl) (by kernel_rfl) ?_
  refine TysOk.cons (by kernel_rfl) (by kernel_rfl) ?_
  refine TysOk.cons (by kernel_rfl) (by kernel_rfl) ?_
  refine TysOk.cons (by kernel_rfl) (by kernel_rfl) ?_
  refine TysOk.cons (by kernel_rfl) (by kernel_rfl) ?_
  refine TysOk.cons (by kernel_rfl) (by kernel_rfl) ?_
  refine TysOk.cons (by kernel_rfl) (by kernel_rfl) ?_
  refine TysOk.cons (by kernel_rfl) (by kernel_rfl) ?_
  refine TysOk.cons (by kernel_rfl) (by kernel_rfl) ?_
  refine TysOk.cons (by kernel_rfl) (by kernel_rfl) ?_
  refine TysOk.cons (by kernel_rfl) (by kernel_rfl) ?_
  refine TysOk.cons (by kernel_rfl) (by kernel_rfl) ?_
  refine TysOk.cons (by kernel_rfl) (by kernel_rfl) ?_
  refine TysOk.cons (by kernel_rfl) (by kernel_rfl) ?_
  refine TysOk.cons (by kernel_rfl) (by kernel_rfl) ?_
  refine TysOk.cons (by kernel_rfl) (by kernel_rfl) ?_
  refine TysOk.cons (by kernel_rfl) (by kernel_rfl) ?_
  refine TysOk.cons (by kernel_rfl) (by kernel_rfl) ?_
  refine TysOk.cons (by kernel_rfl) (by kernel_rfl) ?_
  refine TysOk.cons (by kernel_rfl) (by kernel_rfl) ?_
  refine TysOk.cons (by kernel_rfl) (by kernel_rfl) ?_
  refine TysOk.cons (by kernel_rfl) (by kernel_rfl) ?_
  refine TysOk.cons (by kernel_rfl) (by kernel_rfl) ?_
  refine TysOk.cons (by kernel_rfl) (by kernel_rfl) ?_
  refine TysOk.cons (by kernel_rfl) (by kernel_rfl) ?_
  refine TysOk.cons (by kernel_rfl) (by kernel_rfl) ?_
  refine TysOk.cons (by kernel_rfl) (by kernel_rfl) ?_
  refine TysOk.cons (by kernel_rfl) (by kernel_rfl) ?_
  refine TysOk.cons (by kernel_rfl) (by kernel_rfl) ?_
  refine TysOk.cons (by kernel_rfl) (by kernel_rfl) ?_
  refine TysOk.cons (by kernel_rfl) (by kernel_rfl) ?_
  refine TysOk.cons (by kernel_rfl) (by kernel_rfl) ?_
  refine TysOk.cons (by kernel_rfl) (by kernel_rfl) ?_
  refine TysOk.cons (by kernel_rfl) (by kernel_rfl) ?_
  refine TysOk.cons (by kernel_rfl) (by kernel_rfl) ?_
  refine TysOk.cons (by kernel_rfl) (by kernel_rfl) ?_
  refine TysOk.cons (by kernel_rfl) (by kernel_rfl) ?_
  refine TysOk.cons (by kernel_rfl) (by kernel_rfl) ?_
  refine TysOk.cons (by kernel_rfl) (by kernel_rfl) ?_
  refine TysOk.cons (by kernel_rfl) (by kernel_rfl) ?_
  refine TysOk.cons (by kernel_rfl) (by kernel_rfl) ?_
  refine TysOk.cons (by kernel_rfl) (by kernel_rfl) ?_
  refine TysOk.cons (by kernel_rfl) (by kernel_rfl) ?_
  refine TysOk.cons (by kernel_rfl) (by kernel_rfl) ?_
  refine TysOk.cons (by kernel_rfl) (by kernel_rfl) ?_
  refine TysOk.cons (by kernel_rfl) (by kernel_rfl) ?_
  refine TysOk.cons (by kernel_rfl) (by kernel_rfl) ?_
  refine TysOk.cons (by kernel_rfl) (by kernel_rfl) ?_
  refine TysOk.cons (by kernel_rfl) (by kernel_rfl) ?_
  refine TysOk.cons (by kernel_rfl) (by kernel_rfl) ?_
  refine TysOk.cons (by kernel_rfl) (by kernel_rfl) ?_
  refine TysOk.cons (by kernel_rfl) (by kernel_rfl) ?_
  refine TysOk.cons (by kernel_rfl) (by kernel_rfl) ?_
  refine TysOk.cons (by kernel_rfl) (by kernel_rfl) ?_
  refine TysOk.cons (by kernel_rfl) (by kernel_rfl) ?_
  refine TysOk.cons (by kernel_rfl) (by kernel_rfl) ?_
  refine TysOk.cons (by kernel_rfl) (by kernel_rfl) ?_
  refine TysOk.cons (by kernel_rfl) (by kernel_rfl) ?_
  refine TysOk.cons (by kernel_rfl) (by kernel_rfl) ?_
  refine TysOk.cons (by kernel_rfl) (by kernel_rfl) ?_
  refine TysOk.cons (by kernel_rfl) (by kernel_rfl) ?_
  refine TysOk.cons (by kernel_rfl) (by kernel_rfl) ?_
  refine TysOk.cons (by kernel_rfl) (by kernel_rfl) ?_
  refine TysOk.cons (by kernel_rfl) (by kernel_rfl) ?_
  refine TysOk.cons (by kernel_rfl) (by kernel_rfl) ?_
  refine TysOk.cons (by kernel_rfl) (by kernel_rfl) ?_
  refine TysOk.cons (by kernel_rfl) (by kernel_rfl) ?_
  refine TysOk.cons (by kernel_rfl) (by kernel_rfl) ?_
  refine TysOk.cons (by kernel_rfl) (by kernel_rfl) ?_
  refine TysOk.cons (by kernel_rfl) (by kernel_rfl) ?_
  refine TysOk.cons (by kernel_rfl) (by kernel_rfl) ?_
  refine TysOk.cons (by kernel_rfl) (by kernel_rfl) ?_
  refine TysOk.cons (by kernel_rfl) (by kernel_rfl) ?_
  refine TysOk.cons (by kernel_rfl) (by kernel_rfl) ?_
  refine TysOk.cons (by kernel_rfl) (by kernel_rfl) ?_
  refine TysOk.cons (by kernel_rfl) (by kernel_rfl) ?_
  refine TysOk.cons (by kernel_rfl) (by kernel_rfl) ?_
  refine TysOk.cons (by kernel_rfl) (by kernel_rfl) ?_
  refine TysOk.cons (by kernel_rfl) (by kernel_rfl) ?_
  refine TysOk.cons (by kernel_rfl) (by kernel_rfl) ?_
  refine TysOk.cons (by kernel_rfl) (by kernel_rfl) ?_
  refine TysOk.cons (by kernel_rfl) (by kernel_rfl) ?_
  refine TysOk.cons (by kernel_rfl) (by kernel_rfl) ?_
  refine TysOk.cons (by kernel_rfl) (by kernel_rfl) ?_
  refine TysOk.cons (by kernel_rfl) (by kernel_rfl) ?_
  refine TysOk.cons (by kernel_rfl) (by kernel_rfl) ?_
  exact TysOk.nil _
end Go.Proofs.Ytgnipfjjkliibaa

