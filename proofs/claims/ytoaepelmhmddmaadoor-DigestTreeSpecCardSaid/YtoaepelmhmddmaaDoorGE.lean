/-
  The digest: two hashes.
  Conditions: none.
-/
import Derived.Test.YtoaepelmhmddmaaDoorG4
namespace Go.Proofs.YtoaepelmhmddmaaDoor
open Go Bf
set_option maxRecDepth 100000 in
theorem sum_nil : (sumF []).take 4 = [0xe3, 0xb0, 0xc4, 0x42] := by decide +kernel
set_option maxRecDepth 100000 in
theorem sum_abc : (sumF [97, 98, 99]).take 4 = [0xba, 0x78, 0x16, 0xbf] := by decide +kernel
end Go.Proofs.YtoaepelmhmddmaaDoor
