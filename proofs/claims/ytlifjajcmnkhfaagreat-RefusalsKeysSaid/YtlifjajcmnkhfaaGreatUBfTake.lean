/-
 Parts of what is owned, taken out for a call.
 Conditions: none; plain laws.
-/
import Derived.Test.YtlifjajcmnkhfaaGreatUBfLend
namespace Bf
open Go
theorem take1 {a : Res} {L L1 : List Res} (h : Del L a L1) : ([a] ++ L1).Perm L := h.perm
theorem take2 {a b : Res} {L L1 L2 : List Res} (h : Del L a L1) (h2 : Del L1 b L2) : ([a, b] ++ L2).Perm L := (h2.perm.cons a).trans h.perm
theorem take3 {a b c : Res} {L L1 L2 L3 : List Res} (h : Del L a L1) (h2 : Del L1 b L2) (h3 : Del L2 c L3) : ([a, b, c] ++ L3).Perm L := ((take2 h2 h3).cons a).trans h.perm
theorem take4 {a b c d : Res} {L L1 L2 L3 L4 : List Res} (h : Del L a L1) (h2 : Del L1 b L2) (h3 : Del L2 c L3) (h4 : Del L3 d L4) : ([a, b, c, d] ++ L4).Perm L := ((take3 h2 h3 h4).cons a).trans h.perm
theorem take5 {a b c d e : Res} {L L1 L2 L3 L4 L5 : List Res} (h : Del L a L1) (h2 : Del L1 b L2) (h3 : Del L2 c L3) (h4 : Del L3 d L4) (h5 : Del L4 e L5) : ([a, b, c, d, e] ++ L5).Perm L := ((take4 h2 h3 h4 h5).cons a).trans h.perm
theorem take6 {a b c d e f : Res} {L L1 L2 L3 L4 L5 L6 : List Res} (h : Del L a L1) (h2 : Del L1 b L2) (h3 : Del L2 c L3) (h4 : Del L3 d L4) (h5 : Del L4 e L5) (h6 : Del L5 f L6) : ([a, b, c, d, e, f] ++ L6).Perm L := ((take5 h2 h3 h4 h5 h6).cons a).trans h.perm
end Bf

