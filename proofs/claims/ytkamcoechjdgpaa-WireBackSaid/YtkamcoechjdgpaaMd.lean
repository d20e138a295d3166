/-
  Several texts in one: Tab, Rep, OctetSpec, Br, Ot, Oi, Ka, Or, Om, Len, Ox, Pa, Pb, Pc, Pd, Pf, Pg, Ph, Kb.
-/
import Derived.Test.YtkamcoechjdgpaaMb
import Derived.Test.YtkamcoechjdgpaaRows
import Derived.Test.YtkamcoechjdgpaaMa
import Derived.Deep.Slices
import Derived.Deep.AppendLies
import Derived.Laws.OwnMore
import Derived.Laws.AppendOwnNone
import Derived.Maps.AppendAt
import Derived.Lib.BitFns
import Derived.Test.YtkamcoechjdgpaaMc
import Derived.Shelf.Strconv.Itoa0
import Derived.Test.YtkamcoechjdgpaaProg
set_option maxRecDepth 20000
set_option maxHeartbeats 8000000
/-
  The table of the types that this seat's texts meet, and that it is the program's.
-/
namespace Go.Proofs.Ytkamcoechjdgpaa
set_option maxHeartbeats 4000000 in
def tab : Nat → Option TI
  | 1 => some ⟨.fn, 1, 8, 0, [], [.nilf], [], false⟩
  | 2 => some ⟨.int .i64, 1, 8, 0, [], [.int .i64 0], [], false⟩
  | 3 => some ⟨.int .i64, 1, 8, 0, [], [.int .i64 0], [], false⟩
  | 4 => some ⟨.bool, 1, 1, 0, [], [.bool false], [], false⟩
  | 5 => some ⟨.int .u8, 1, 1, 0, [], [.int .u8 0], [], false⟩
  | 6 => some ⟨.int .u8, 1, 1, 0, [], [.int .u8 0], [], false⟩
  | 7 => some ⟨.st, 4, 24, 0, [(0, 2), (1, 3), (2, 4), (3, 6)], [.int .i64 0, .int .i64 0, .bool false, .int .u8 0], [], false⟩
  | 8 => some ⟨.st, 4, 24, 0, [(0, 2), (1, 3), (2, 4), (3, 6)], [.int .i64 0, .int .i64 0, .bool false, .int .u8 0], [], false⟩
  | 9 => some ⟨.str, 1, 16, 0, [], [.str []], [], false⟩
  | 10 => some ⟨.str, 1, 16, 0, [], [.str []], [], false⟩
  | 11 => some ⟨.str, 1, 16, 0, [], [.str []], [], false⟩
  | 12 => some ⟨.int .u64, 1, 8, 0, [], [.int .u64 0], [], false⟩
  | 13 => some ⟨.st, 2, 24, 0, [(0, 9), (1, 12)], [.str [], .int .u64 0], [], false⟩
  | 14 => some ⟨.st, 2, 24, 0, [(0, 9), (1, 12)], [.str [], .int .u64 0], [], false⟩
  | 15 => some ⟨.ptr, 1, 8, 202, [], [.nilp], [], false⟩
  | 16 => some ⟨.ptr, 1, 8, 205, [], [.nilp], [], false⟩
  | 17 => some ⟨.ptr, 1, 8, 215, [], [.nilp], [], false⟩
  | 18 => some ⟨.st, 1, 8, 0, [(0, 17)], [.nilp], [], false⟩
  | 19 => some ⟨.st, 1, 8, 0, [(0, 17)], [.nilp], [], false⟩
  | 20 => some ⟨.iface, 1, 16, 0, [], [.nilI], [], false⟩
  | 21 => some ⟨.int .i32, 1, 4, 0, [], [.int .i32 0], [], false⟩
  | 22 => some ⟨.st, 2, 16, 0, [(0, 3), (1, 3)], [.int .i64 0, .int .i64 0], [], false⟩
  | 23 => some ⟨.st, 2, 16, 0, [(0, 3), (1, 3)], [.int .i64 0, .int .i64 0], [.int .i64, .int .i64], false⟩
  | 24 => some ⟨.sl, 1, 24, 4, [], [.nils], [], false⟩
  | 25 => some ⟨.st, 4, 48, 0, [(0, 23), (2, 3), (3, 24)], [.int .i64 0, .int .i64 0, .int .i64 0, .nils], [], false⟩
  | 26 => some ⟨.st, 4, 48, 0, [(0, 23), (2, 3), (3, 24)], [.int .i64 0, .int .i64 0, .int .i64 0, .nils], [], false⟩
  | 27 => some ⟨.sl, 1, 24, 45, [], [.nils], [], false⟩
  | 28 => some ⟨.st, 8, 80, 0, [(0, 3), (1, 3), (2, 3), (3, 9), (4, 9), (5, 3), (6, 3), (7, 3)], [.int .i64 0, .int .i64 0, .int .i64 0, .str [], .str [], .int .i64 0, .int .i64 0, .int .i64 0], [], false⟩
  | 29 => some ⟨.st, 8, 80, 0, [(0, 3), (1, 3), (2, 3), (3, 9), (4, 9), (5, 3), (6, 3), (7, 3)], [.int .i64 0, .int .i64 0, .int .i64 0, .str [], .str [], .int .i64 0, .int .i64 0, .int .i64 0], [.int .i64, .int .i64, .int .i64, .str, .str, .int .i64, .int .i64, .int .i64], false⟩
  | 30 => some ⟨.sl, 1, 24, 105, [], [.nils], [], false⟩
  | 31 => some ⟨.sl, 1, 24, 54, [], [.nils], [], false⟩
  | 32 => some ⟨.st, 13, 152, 0, [(0, 3), (1, 3), (2, 4), (3, 29), (11, 30), (12, 31)], [.int .i64 0, .int .i64 0, .bool false, .int .i64 0, .int .i64 0, .int .i64 0, .str [], .str [], .int .i64 0, .int .i64 0, .int .i64 0, .nils, .nils], [], false⟩
  | 33 => some ⟨.st, 13, 152, 0, [(0, 3), (1, 3), (2, 4), (3, 29), (11, 30), (12, 31)], [.int .i64 0, .int .i64 0, .bool false, .int .i64 0, .int .i64 0, .int .i64 0, .str [], .str [], .int .i64 0, .int .i64 0, .int .i64 0, .nils, .nils], [], false⟩
  | 34 => some ⟨.int .i64, 1, 8, 0, [], [.int .i64 0], [], false⟩
  | 36 => some ⟨.fn, 1, 8, 0, [], [.nilf], [], false⟩
  | 37 => some ⟨.fn, 1, 8, 0, [], [.nilf], [], false⟩
  | 38 => some ⟨.fn, 1, 8, 0, [], [.nilf], [], false⟩
  | 39 => some ⟨.fn, 1, 8, 0, [], [.nilf], [], false⟩
  | 40 => some ⟨.fn, 1, 8, 0, [], [.nilf], [], false⟩
  | 41 => some ⟨.sl, 1, 24, 9, [], [.nils], [], false⟩
  | 42 => some ⟨.st, 6, 72, 0, [(0, 3), (1, 3), (2, 34), (3, 9), (4, 3), (5, 41)], [.int .i64 0, .int .i64 0, .int .i64 0, .str [], .int .i64 0, .nils], [], false⟩
  | 43 => some ⟨.st, 6, 72, 0, [(0, 3), (1, 3), (2, 34), (3, 9), (4, 3), (5, 41)], [.int .i64 0, .int .i64 0, .int .i64 0, .str [], .int .i64 0, .nils], [], false⟩
  | 44 => some ⟨.st, 16, 168, 0, [(0, 3), (1, 3), (2, 29), (10, 43)], [.int .i64 0, .int .i64 0, .int .i64 0, .int .i64 0, .int .i64 0, .str [], .str [], .int .i64 0, .int .i64 0, .int .i64 0, .int .i64 0, .int .i64 0, .int .i64 0, .str [], .int .i64 0, .nils], [], false⟩
  | 45 => some ⟨.st, 16, 168, 0, [(0, 3), (1, 3), (2, 29), (10, 43)], [.int .i64 0, .int .i64 0, .int .i64 0, .int .i64 0, .int .i64 0, .str [], .str [], .int .i64 0, .int .i64 0, .int .i64 0, .int .i64 0, .int .i64 0, .int .i64 0, .str [], .int .i64 0, .nils], [], false⟩
  | 47 => some ⟨.fn, 1, 8, 0, [], [.nilf], [], false⟩
  | 49 => some ⟨.fn, 1, 8, 0, [], [.nilf], [], false⟩
  | 50 => some ⟨.fn, 1, 8, 0, [], [.nilf], [], false⟩
  | 51 => some ⟨.st, 6, 72, 0, [(0, 3), (1, 3), (2, 34), (3, 9), (4, 3), (5, 41)], [.int .i64 0, .int .i64 0, .int .i64 0, .str [], .int .i64 0, .nils], [], false⟩
  | 52 => some ⟨.fn, 1, 8, 0, [], [.nilf], [], false⟩
  | 53 => some ⟨.st, 14, 152, 0, [(0, 29), (8, 43)], [.int .i64 0, .int .i64 0, .int .i64 0, .str [], .str [], .int .i64 0, .int .i64 0, .int .i64 0, .int .i64 0, .int .i64 0, .int .i64 0, .str [], .int .i64 0, .nils], [], false⟩
  | 54 => some ⟨.st, 14, 152, 0, [(0, 29), (8, 43)], [.int .i64 0, .int .i64 0, .int .i64 0, .str [], .str [], .int .i64 0, .int .i64 0, .int .i64 0, .int .i64 0, .int .i64 0, .int .i64 0, .str [], .int .i64 0, .nils], [], false⟩
  | 55 => some ⟨.fn, 1, 8, 0, [], [.nilf], [], false⟩
  | 56 => some ⟨.fn, 1, 8, 0, [], [.nilf], [], false⟩
  | 57 => some ⟨.st, 2, 16, 0, [(0, 3), (1, 3)], [.int .i64 0, .int .i64 0], [.int .i64, .int .i64], false⟩
  | 58 => some ⟨.fn, 1, 8, 0, [], [.nilf], [], false⟩
  | 59 => some ⟨.st, 8, 80, 0, [(0, 3), (1, 3), (2, 3), (3, 9), (4, 9), (5, 3), (6, 3), (7, 3)], [.int .i64 0, .int .i64 0, .int .i64 0, .str [], .str [], .int .i64 0, .int .i64 0, .int .i64 0], [.int .i64, .int .i64, .int .i64, .str, .str, .int .i64, .int .i64, .int .i64], false⟩
  | 60 => some ⟨.sl, 1, 24, 114, [], [.nils], [], false⟩
  | 61 => some ⟨.sl, 1, 24, 116, [], [.nils], [], false⟩
  | 62 => some ⟨.st, 13, 152, 0, [(0, 3), (1, 3), (2, 4), (3, 59), (11, 60), (12, 61)], [.int .i64 0, .int .i64 0, .bool false, .int .i64 0, .int .i64 0, .int .i64 0, .str [], .str [], .int .i64 0, .int .i64 0, .int .i64 0, .nils, .nils], [], false⟩
  | 63 => some ⟨.st, 13, 152, 0, [(0, 3), (1, 3), (2, 4), (3, 59), (11, 60), (12, 61)], [.int .i64 0, .int .i64 0, .bool false, .int .i64 0, .int .i64 0, .int .i64 0, .str [], .str [], .int .i64 0, .int .i64 0, .int .i64 0, .nils, .nils], [], false⟩
  | 65 => some ⟨.fn, 1, 8, 0, [], [.nilf], [], false⟩
  | 66 => some ⟨.fn, 1, 8, 0, [], [.nilf], [], false⟩
  | 67 => some ⟨.fn, 1, 8, 0, [], [.nilf], [], false⟩
  | 69 => some ⟨.fn, 1, 8, 0, [], [.nilf], [], false⟩
  | 70 => some ⟨.fn, 1, 8, 0, [], [.nilf], [], false⟩
  | 72 => some ⟨.fn, 1, 8, 0, [], [.nilf], [], false⟩
  | 73 => some ⟨.fn, 1, 8, 0, [], [.nilf], [], false⟩
  | 74 => some ⟨.fn, 1, 8, 0, [], [.nilf], [], false⟩
  | 75 => some ⟨.sl, 1, 24, 80, [], [.nils], [], false⟩
  | 76 => some ⟨.st, 3, 32, 0, [(0, 3), (1, 3), (2, 9)], [.int .i64 0, .int .i64 0, .str []], [], false⟩
  | 77 => some ⟨.st, 3, 32, 0, [(0, 3), (1, 3), (2, 9)], [.int .i64 0, .int .i64 0, .str []], [.int .i64, .int .i64, .str], false⟩
  | 78 => some ⟨.sl, 1, 24, 77, [], [.nils], [], false⟩
  | 79 => some ⟨.st, 6, 72, 0, [(0, 3), (1, 3), (2, 4), (3, 3), (4, 9), (5, 78)], [.int .i64 0, .int .i64 0, .bool false, .int .i64 0, .str [], .nils], [], false⟩
  | 80 => some ⟨.st, 6, 72, 0, [(0, 3), (1, 3), (2, 4), (3, 3), (4, 9), (5, 78)], [.int .i64 0, .int .i64 0, .bool false, .int .i64 0, .str [], .nils], [], false⟩
  | 81 => some ⟨.arr 32, 32, 32, 5, [], [.int .u8 0, .int .u8 0, .int .u8 0, .int .u8 0, .int .u8 0, .int .u8 0, .int .u8 0, .int .u8 0, .int .u8 0, .int .u8 0, .int .u8 0, .int .u8 0, .int .u8 0, .int .u8 0, .int .u8 0, .int .u8 0, .int .u8 0, .int .u8 0, .int .u8 0, .int .u8 0, .int .u8 0, .int .u8 0, .int .u8 0, .int .u8 0, .int .u8 0, .int .u8 0, .int .u8 0, .int .u8 0, .int .u8 0, .int .u8 0, .int .u8 0, .int .u8 0], [.int .u8, .int .u8, .int .u8, .int .u8, .int .u8, .int .u8, .int .u8, .int .u8, .int .u8, .int .u8, .int .u8, .int .u8, .int .u8, .int .u8, .int .u8, .int .u8, .int .u8, .int .u8, .int .u8, .int .u8, .int .u8, .int .u8, .int .u8, .int .u8, .int .u8, .int .u8, .int .u8, .int .u8, .int .u8, .int .u8, .int .u8, .int .u8], false⟩
  | 82 => some ⟨.st, 62, 384, 0, [(0, 3), (1, 3), (2, 3), (3, 3), (4, 9), (5, 75), (6, 77), (9, 78), (10, 80), (16, 81), (48, 29), (56, 43)], [.int .i64 0, .int .i64 0, .int .i64 0, .int .i64 0, .str [], .nils, .int .i64 0, .int .i64 0, .str [], .nils, .int .i64 0, .int .i64 0, .bool false, .int .i64 0, .str [], .nils, .int .u8 0, .int .u8 0, .int .u8 0, .int .u8 0, .int .u8 0, .int .u8 0, .int .u8 0, .int .u8 0, .int .u8 0, .int .u8 0, .int .u8 0, .int .u8 0, .int .u8 0, .int .u8 0, .int .u8 0, .int .u8 0, .int .u8 0, .int .u8 0, .int .u8 0, .int .u8 0, .int .u8 0, .int .u8 0, .int .u8 0, .int .u8 0, .int .u8 0, .int .u8 0, .int .u8 0, .int .u8 0, .int .u8 0, .int .u8 0, .int .u8 0, .int .u8 0, .int .i64 0, .int .i64 0, .int .i64 0, .str [], .str [], .int .i64 0, .int .i64 0, .int .i64 0, .int .i64 0, .int .i64 0, .int .i64 0, .str [], .int .i64 0, .nils], [], false⟩
  | 83 => some ⟨.st, 62, 384, 0, [(0, 3), (1, 3), (2, 3), (3, 3), (4, 9), (5, 75), (6, 77), (9, 78), (10, 80), (16, 81), (48, 29), (56, 43)], [.int .i64 0, .int .i64 0, .int .i64 0, .int .i64 0, .str [], .nils, .int .i64 0, .int .i64 0, .str [], .nils, .int .i64 0, .int .i64 0, .bool false, .int .i64 0, .str [], .nils, .int .u8 0, .int .u8 0, .int .u8 0, .int .u8 0, .int .u8 0, .int .u8 0, .int .u8 0, .int .u8 0, .int .u8 0, .int .u8 0, .int .u8 0, .int .u8 0, .int .u8 0, .int .u8 0, .int .u8 0, .int .u8 0, .int .u8 0, .int .u8 0, .int .u8 0, .int .u8 0, .int .u8 0, .int .u8 0, .int .u8 0, .int .u8 0, .int .u8 0, .int .u8 0, .int .u8 0, .int .u8 0, .int .u8 0, .int .u8 0, .int .u8 0, .int .u8 0, .int .i64 0, .int .i64 0, .int .i64 0, .str [], .str [], .int .i64 0, .int .i64 0, .int .i64 0, .int .i64 0, .int .i64 0, .int .i64 0, .str [], .int .i64 0, .nils], [], false⟩
  | 84 => some ⟨.fn, 1, 8, 0, [], [.nilf], [], false⟩
  | 85 => some ⟨.sl, 1, 24, 5, [], [.nils], [], false⟩
  | 87 => some ⟨.fn, 1, 8, 0, [], [.nilf], [], false⟩
  | 89 => some ⟨.fn, 1, 8, 0, [], [.nilf], [], false⟩
  | 90 => some ⟨.fn, 1, 8, 0, [], [.nilf], [], false⟩
  | 91 => some ⟨.st, 62, 384, 0, [(0, 3), (1, 3), (2, 3), (3, 3), (4, 9), (5, 75), (6, 77), (9, 78), (10, 80), (16, 81), (48, 59), (56, 51)], [.int .i64 0, .int .i64 0, .int .i64 0, .int .i64 0, .str [], .nils, .int .i64 0, .int .i64 0, .str [], .nils, .int .i64 0, .int .i64 0, .bool false, .int .i64 0, .str [], .nils, .int .u8 0, .int .u8 0, .int .u8 0, .int .u8 0, .int .u8 0, .int .u8 0, .int .u8 0, .int .u8 0, .int .u8 0, .int .u8 0, .int .u8 0, .int .u8 0, .int .u8 0, .int .u8 0, .int .u8 0, .int .u8 0, .int .u8 0, .int .u8 0, .int .u8 0, .int .u8 0, .int .u8 0, .int .u8 0, .int .u8 0, .int .u8 0, .int .u8 0, .int .u8 0, .int .u8 0, .int .u8 0, .int .u8 0, .int .u8 0, .int .u8 0, .int .u8 0, .int .i64 0, .int .i64 0, .int .i64 0, .str [], .str [], .int .i64 0, .int .i64 0, .int .i64 0, .int .i64 0, .int .i64 0, .int .i64 0, .str [], .int .i64 0, .nils], [], false⟩
  | 92 => some ⟨.st, 62, 384, 0, [(0, 3), (1, 3), (2, 3), (3, 3), (4, 9), (5, 75), (6, 77), (9, 78), (10, 80), (16, 81), (48, 59), (56, 51)], [.int .i64 0, .int .i64 0, .int .i64 0, .int .i64 0, .str [], .nils, .int .i64 0, .int .i64 0, .str [], .nils, .int .i64 0, .int .i64 0, .bool false, .int .i64 0, .str [], .nils, .int .u8 0, .int .u8 0, .int .u8 0, .int .u8 0, .int .u8 0, .int .u8 0, .int .u8 0, .int .u8 0, .int .u8 0, .int .u8 0, .int .u8 0, .int .u8 0, .int .u8 0, .int .u8 0, .int .u8 0, .int .u8 0, .int .u8 0, .int .u8 0, .int .u8 0, .int .u8 0, .int .u8 0, .int .u8 0, .int .u8 0, .int .u8 0, .int .u8 0, .int .u8 0, .int .u8 0, .int .u8 0, .int .u8 0, .int .u8 0, .int .u8 0, .int .u8 0, .int .i64 0, .int .i64 0, .int .i64 0, .str [], .str [], .int .i64 0, .int .i64 0, .int .i64 0, .int .i64 0, .int .i64 0, .int .i64 0, .str [], .int .i64 0, .nils], [], false⟩
  | 93 => some ⟨.fn, 1, 8, 0, [], [.nilf], [], false⟩
  | 94 => some ⟨.fn, 1, 8, 0, [], [.nilf], [], false⟩
  | 95 => some ⟨.fn, 1, 8, 0, [], [.nilf], [], false⟩
  | 96 => some ⟨.fn, 1, 8, 0, [], [.nilf], [], false⟩
  | 97 => some ⟨.fn, 1, 8, 0, [], [.nilf], [], false⟩
  | 98 => some ⟨.fn, 1, 8, 0, [], [.nilf], [], false⟩
  | 100 => some ⟨.fn, 1, 8, 0, [], [.nilf], [], false⟩
  | 101 => some ⟨.fn, 1, 8, 0, [], [.nilf], [], false⟩
  | 103 => some ⟨.fn, 1, 8, 0, [], [.nilf], [], false⟩
  | 104 => some ⟨.st, 7, 80, 0, [(0, 3), (1, 43)], [.int .i64 0, .int .i64 0, .int .i64 0, .int .i64 0, .str [], .int .i64 0, .nils], [], false⟩
  | 105 => some ⟨.st, 7, 80, 0, [(0, 3), (1, 43)], [.int .i64 0, .int .i64 0, .int .i64 0, .int .i64 0, .str [], .int .i64 0, .nils], [], false⟩
  | 106 => some ⟨.fn, 1, 8, 0, [], [.nilf], [], false⟩
  | 107 => some ⟨.fn, 1, 8, 0, [], [.nilf], [], false⟩
  | 108 => some ⟨.fn, 1, 8, 0, [], [.nilf], [], false⟩
  | 109 => some ⟨.fn, 1, 8, 0, [], [.nilf], [], false⟩
  | 110 => some ⟨.fn, 1, 8, 0, [], [.nilf], [], false⟩
  | 111 => some ⟨.fn, 1, 8, 0, [], [.nilf], [], false⟩
  | 112 => some ⟨.fn, 1, 8, 0, [], [.nilf], [], false⟩
  | 113 => some ⟨.st, 7, 80, 0, [(0, 3), (1, 51)], [.int .i64 0, .int .i64 0, .int .i64 0, .int .i64 0, .str [], .int .i64 0, .nils], [], false⟩
  | 114 => some ⟨.st, 7, 80, 0, [(0, 3), (1, 51)], [.int .i64 0, .int .i64 0, .int .i64 0, .int .i64 0, .str [], .int .i64 0, .nils], [], false⟩
  | 115 => some ⟨.st, 14, 152, 0, [(0, 59), (8, 51)], [.int .i64 0, .int .i64 0, .int .i64 0, .str [], .str [], .int .i64 0, .int .i64 0, .int .i64 0, .int .i64 0, .int .i64 0, .int .i64 0, .str [], .int .i64 0, .nils], [], false⟩
  | 116 => some ⟨.st, 14, 152, 0, [(0, 59), (8, 51)], [.int .i64 0, .int .i64 0, .int .i64 0, .str [], .str [], .int .i64 0, .int .i64 0, .int .i64 0, .int .i64 0, .int .i64 0, .int .i64 0, .str [], .int .i64 0, .nils], [], false⟩
  | 117 => some ⟨.fn, 1, 8, 0, [], [.nilf], [], false⟩
  | 118 => some ⟨.fn, 1, 8, 0, [], [.nilf], [], false⟩
  | 119 => some ⟨.fn, 1, 8, 0, [], [.nilf], [], false⟩
  | 120 => some ⟨.fn, 1, 8, 0, [], [.nilf], [], false⟩
  | 121 => some ⟨.fn, 1, 8, 0, [], [.nilf], [], false⟩
  | 122 => some ⟨.fn, 1, 8, 0, [], [.nilf], [], false⟩
  | 123 => some ⟨.fn, 1, 8, 0, [], [.nilf], [], false⟩
  | 124 => some ⟨.fn, 1, 8, 0, [], [.nilf], [], false⟩
  | 125 => some ⟨.fn, 1, 8, 0, [], [.nilf], [], false⟩
  | 126 => some ⟨.fn, 1, 8, 0, [], [.nilf], [], false⟩
  | 127 => some ⟨.fn, 1, 8, 0, [], [.nilf], [], false⟩
  | 129 => some ⟨.fn, 1, 8, 0, [], [.nilf], [], false⟩
  | 130 => some ⟨.fn, 1, 8, 0, [], [.nilf], [], false⟩
  | 131 => some ⟨.fn, 1, 8, 0, [], [.nilf], [], false⟩
  | 132 => some ⟨.fn, 1, 8, 0, [], [.nilf], [], false⟩
  | 133 => some ⟨.fn, 1, 8, 0, [], [.nilf], [], false⟩
  | 134 => some ⟨.fn, 1, 8, 0, [], [.nilf], [], false⟩
  | 136 => some ⟨.fn, 1, 8, 0, [], [.nilf], [], false⟩
  | 137 => some ⟨.int .u64, 1, 8, 0, [], [.int .u64 0], [], false⟩
  | 138 => some ⟨.fn, 1, 8, 0, [], [.nilf], [], false⟩
  | 139 => some ⟨.fn, 1, 8, 0, [], [.nilf], [], false⟩
  | 140 => some ⟨.fn, 1, 8, 0, [], [.nilf], [], false⟩
  | 141 => some ⟨.fn, 1, 8, 0, [], [.nilf], [], false⟩
  | 142 => some ⟨.fn, 1, 8, 0, [], [.nilf], [], false⟩
  | 143 => some ⟨.ptr, 1, 8, 145, [], [.nilp], [], false⟩
  | 144 => some ⟨.st, 3, 40, 0, [(0, 85), (1, 4), (2, 34)], [.nils, .bool false, .int .i64 0], [], false⟩
  | 145 => some ⟨.st, 3, 40, 0, [(0, 85), (1, 4), (2, 34)], [.nils, .bool false, .int .i64 0], [], false⟩
  | 146 => some ⟨.ptr, 1, 8, 3, [], [.nilp], [], false⟩
  | 147 => some ⟨.st, 1, 8, 0, [(0, 146)], [.nilp], [], false⟩
  | 148 => some ⟨.st, 1, 8, 0, [(0, 146)], [.nilp], [], false⟩
  | 149 => some ⟨.fn, 1, 8, 0, [], [.nilf], [], false⟩
  | 150 => some ⟨.iface, 1, 16, 0, [], [.nilI], [], false⟩
  | 151 => some ⟨.iface, 1, 16, 0, [], [.nilI], [], false⟩
  | 152 => some ⟨.fn, 1, 8, 0, [], [.nilf], [], false⟩
  | 153 => some ⟨.fn, 1, 8, 0, [], [.nilf], [], false⟩
  | 154 => some ⟨.fn, 1, 8, 0, [], [.nilf], [], false⟩
  | 155 => some ⟨.fn, 1, 8, 0, [], [.nilf], [], false⟩
  | 156 => some ⟨.fn, 1, 8, 0, [], [.nilf], [], false⟩
  | 157 => some ⟨.fn, 1, 8, 0, [], [.nilf], [], false⟩
  | 158 => some ⟨.fn, 1, 8, 0, [], [.nilf], [], false⟩
  | 160 => some ⟨.fn, 1, 8, 0, [], [.nilf], [], false⟩
  | 161 => some ⟨.fn, 1, 8, 0, [], [.nilf], [], false⟩
  | 162 => some ⟨.ptr, 1, 8, 83, [], [.nilp], [], false⟩
  | 163 => some ⟨.ptr, 1, 8, 9, [], [.nilp], [], false⟩
  | 164 => some ⟨.st, 1, 8, 0, [(0, 163)], [.nilp], [], false⟩
  | 165 => some ⟨.st, 1, 8, 0, [(0, 163)], [.nilp], [], false⟩
  | 166 => some ⟨.ptr, 1, 8, 75, [], [.nilp], [], false⟩
  | 167 => some ⟨.fn, 1, 8, 0, [], [.nilf], [], false⟩
  | 168 => some ⟨.st, 2, 16, 0, [(0, 166), (1, 167)], [.nilp, .nilf], [], false⟩
  | 169 => some ⟨.st, 2, 16, 0, [(0, 166), (1, 167)], [.nilp, .nilf], [], false⟩
  | 170 => some ⟨.sl, 1, 24, 151, [], [.nils], [], false⟩
  | 171 => some ⟨.sl, 1, 24, 151, [], [.nils], [], false⟩
  | 172 => some ⟨.fn, 1, 8, 0, [], [.nilf], [], false⟩
  | 173 => some ⟨.ptr, 1, 8, 77, [], [.nilp], [], false⟩
  | 174 => some ⟨.fn, 1, 8, 0, [], [.nilf], [], false⟩
  | 175 => some ⟨.ptr, 1, 8, 78, [], [.nilp], [], false⟩
  | 176 => some ⟨.ptr, 1, 8, 80, [], [.nilp], [], false⟩
  | 177 => some ⟨.ptr, 1, 8, 81, [], [.nilp], [], false⟩
  | 178 => some ⟨.st, 1, 8, 0, [(0, 177)], [.nilp], [], false⟩
  | 179 => some ⟨.st, 1, 8, 0, [(0, 177)], [.nilp], [], false⟩
  | 180 => some ⟨.ptr, 1, 8, 29, [], [.nilp], [], false⟩
  | 181 => some ⟨.st, 1, 8, 0, [(0, 180)], [.nilp], [], false⟩
  | 182 => some ⟨.st, 1, 8, 0, [(0, 180)], [.nilp], [], false⟩
  | 183 => some ⟨.ptr, 1, 8, 43, [], [.nilp], [], false⟩
  | 184 => some ⟨.st, 1, 8, 0, [(0, 183)], [.nilp], [], false⟩
  | 185 => some ⟨.st, 1, 8, 0, [(0, 183)], [.nilp], [], false⟩
  | 186 => some ⟨.fn, 1, 8, 0, [], [.nilf], [], false⟩
  | 187 => some ⟨.fn, 1, 8, 0, [], [.nilf], [], false⟩
  | 188 => some ⟨.fn, 1, 8, 0, [], [.nilf], [], false⟩
  | 189 => some ⟨.int .u64, 1, 8, 0, [], [.int .u64 0], [], false⟩
  | 191 => some ⟨.fn, 1, 8, 0, [], [.nilf], [], false⟩
  | 192 => some ⟨.fn, 1, 8, 0, [], [.nilf], [], false⟩
  | 193 => some ⟨.ptr, 1, 8, 4, [], [.nilp], [], false⟩
  | 194 => some ⟨.st, 1, 8, 0, [(0, 193)], [.nilp], [], false⟩
  | 195 => some ⟨.st, 1, 8, 0, [(0, 193)], [.nilp], [], false⟩
  | 196 => some ⟨.st, 2, 16, 0, [(0, 175), (1, 172)], [.nilp, .nilf], [], false⟩
  | 197 => some ⟨.st, 2, 16, 0, [(0, 175), (1, 172)], [.nilp, .nilf], [], false⟩
  | 198 => some ⟨.fn, 1, 8, 0, [], [.nilf], [], false⟩
  | 199 => some ⟨.fn, 1, 8, 0, [], [.nilf], [], false⟩
  | 200 => some ⟨.fn, 1, 8, 0, [], [.nilf], [], false⟩
  | 201 => some ⟨.st, 4, 40, 0, [(0, 17), (1, 17), (2, 17), (3, 9)], [.nilp, .nilp, .nilp, .str []], [], false⟩
  | 202 => some ⟨.st, 4, 40, 0, [(0, 17), (1, 17), (2, 17), (3, 9)], [.nilp, .nilp, .nilp, .str []], [], false⟩
  | 203 => some ⟨.arr 0, 0, 0, 16, [], [], [], false⟩
  | 206 => some ⟨.fn, 1, 8, 0, [], [.nilf], [], false⟩
  | 207 => some ⟨.int .u32, 1, 4, 0, [], [.int .u32 0], [], false⟩
  | 208 => some ⟨.int .u8, 1, 1, 0, [], [.int .u8 0], [], false⟩
  | 209 => some ⟨.int .u8, 1, 1, 0, [], [.int .u8 0], [], false⟩
  | 210 => some ⟨.fn, 1, 8, 0, [], [.nilf], [], false⟩
  | 211 => some ⟨.ptr, 1, 8, 5, [], [.nilp], [], false⟩
  | 212 => some ⟨.int .i32, 1, 4, 0, [], [.int .i32 0], [], false⟩
  | 213 => some ⟨.int .i32, 1, 4, 0, [], [.int .i32 0], [], false⟩
  | 214 => some ⟨.st, 11, 48, 0, [(0, 12), (1, 12), (2, 207), (3, 208), (4, 5), (5, 5), (6, 209), (7, 210), (8, 211), (9, 212), (10, 213)], [.int .u64 0, .int .u64 0, .int .u32 0, .int .u8 0, .int .u8 0, .int .u8 0, .int .u8 0, .nilf, .nilp, .int .i32 0, .int .i32 0], [], false⟩
  | 215 => some ⟨.st, 11, 48, 0, [(0, 12), (1, 12), (2, 207), (3, 208), (4, 5), (5, 5), (6, 209), (7, 210), (8, 211), (9, 212), (10, 213)], [.int .u64 0, .int .u64 0, .int .u32 0, .int .u8 0, .int .u8 0, .int .u8 0, .int .u8 0, .nilf, .nilp, .int .i32 0, .int .i32 0], [], false⟩
  | 217 => some ⟨.fn, 1, 8, 0, [], [.nilf], [], false⟩
  | 218 => some ⟨.fn, 1, 8, 0, [], [.nilf], [], false⟩
  | 220 => some ⟨.fn, 1, 8, 0, [], [.nilf], [], false⟩
  | 221 => some ⟨.fn, 1, 8, 0, [], [.nilf], [], false⟩
  | 222 => some ⟨.ptr, 1, 8, 224, [], [.nilp], [], false⟩
  | 223 => some ⟨.st, 2, 32, 0, [(0, 85), (1, 34)], [.nils, .int .i64 0], [], false⟩
  | 224 => some ⟨.st, 2, 32, 0, [(0, 85), (1, 34)], [.nils, .int .i64 0], [], false⟩
  | 225 => some ⟨.fn, 1, 8, 0, [], [.nilf], [], false⟩
  | 226 => some ⟨.fn, 1, 8, 0, [], [.nilf], [], false⟩
  | 227 => some ⟨.fn, 1, 8, 0, [], [.nilf], [], false⟩
  | 228 => some ⟨.sl, 1, 24, 146, [], [.nils], [], false⟩
  | 229 => some ⟨.sl, 1, 24, 3, [], [.nils], [], false⟩
  | 231 => some ⟨.fn, 1, 8, 0, [], [.nilf], [], false⟩
  | 232 => some ⟨.fn, 1, 8, 0, [], [.nilf], [], false⟩
  | 234 => some ⟨.fn, 1, 8, 0, [], [.nilf], [], false⟩
  | 235 => some ⟨.fn, 1, 8, 0, [], [.nilf], [], false⟩
  | _ => none
theorem tab_3 : tab 3 = some ⟨.int .i64, 1, 8, 0, [], [.int .i64 0], [], false⟩ := rfl
theorem tab_4 : tab 4 = some ⟨.bool, 1, 1, 0, [], [.bool false], [], false⟩ := rfl
theorem tab_5 : tab 5 = some ⟨.int .u8, 1, 1, 0, [], [.int .u8 0], [], false⟩ := rfl
theorem tab_9 : tab 9 = some ⟨.str, 1, 16, 0, [], [.str []], [], false⟩ := rfl
theorem tab_29 : tab 29 = some ⟨.st, 8, 80, 0, [(0, 3), (1, 3), (2, 3), (3, 9), (4, 9), (5, 3), (6, 3), (7, 3)], [.int .i64 0, .int .i64 0, .int .i64 0, .str [], .str [], .int .i64 0, .int .i64 0, .int .i64 0], [.int .i64, .int .i64, .int .i64, .str, .str, .int .i64, .int .i64, .int .i64], false⟩ := rfl
theorem tab_34 : tab 34 = some ⟨.int .i64, 1, 8, 0, [], [.int .i64 0], [], false⟩ := rfl
theorem tab_41 : tab 41 = some ⟨.sl, 1, 24, 9, [], [.nils], [], false⟩ := rfl
theorem tab_43 : tab 43 = some ⟨.st, 6, 72, 0, [(0, 3), (1, 3), (2, 34), (3, 9), (4, 3), (5, 41)], [.int .i64 0, .int .i64 0, .int .i64 0, .str [], .int .i64 0, .nils], [], false⟩ := rfl
theorem tab_51 : tab 51 = some ⟨.st, 6, 72, 0, [(0, 3), (1, 3), (2, 34), (3, 9), (4, 3), (5, 41)], [.int .i64 0, .int .i64 0, .int .i64 0, .str [], .int .i64 0, .nils], [], false⟩ := rfl
theorem tab_59 : tab 59 = some ⟨.st, 8, 80, 0, [(0, 3), (1, 3), (2, 3), (3, 9), (4, 9), (5, 3), (6, 3), (7, 3)], [.int .i64 0, .int .i64 0, .int .i64 0, .str [], .str [], .int .i64 0, .int .i64 0, .int .i64 0], [.int .i64, .int .i64, .int .i64, .str, .str, .int .i64, .int .i64, .int .i64], false⟩ := rfl
theorem tab_75 : tab 75 = some ⟨.sl, 1, 24, 80, [], [.nils], [], false⟩ := rfl
theorem tab_77 : tab 77 = some ⟨.st, 3, 32, 0, [(0, 3), (1, 3), (2, 9)], [.int .i64 0, .int .i64 0, .str []], [.int .i64, .int .i64, .str], false⟩ := rfl
theorem tab_78 : tab 78 = some ⟨.sl, 1, 24, 77, [], [.nils], [], false⟩ := rfl
theorem tab_80 : tab 80 = some ⟨.st, 6, 72, 0, [(0, 3), (1, 3), (2, 4), (3, 3), (4, 9), (5, 78)], [.int .i64 0, .int .i64 0, .bool false, .int .i64 0, .str [], .nils], [], false⟩ := rfl
theorem tab_81 : tab 81 = some ⟨.arr 32, 32, 32, 5, [], [.int .u8 0, .int .u8 0, .int .u8 0, .int .u8 0, .int .u8 0, .int .u8 0, .int .u8 0, .int .u8 0, .int .u8 0, .int .u8 0, .int .u8 0, .int .u8 0, .int .u8 0, .int .u8 0, .int .u8 0, .int .u8 0, .int .u8 0, .int .u8 0, .int .u8 0, .int .u8 0, .int .u8 0, .int .u8 0, .int .u8 0, .int .u8 0, .int .u8 0, .int .u8 0, .int .u8 0, .int .u8 0, .int .u8 0, .int .u8 0, .int .u8 0, .int .u8 0], [.int .u8, .int .u8, .int .u8, .int .u8, .int .u8, .int .u8, .int .u8, .int .u8, .int .u8, .int .u8, .int .u8, .int .u8, .int .u8, .int .u8, .int .u8, .int .u8, .int .u8, .int .u8, .int .u8, .int .u8, .int .u8, .int .u8, .int .u8, .int .u8, .int .u8, .int .u8, .int .u8, .int .u8, .int .u8, .int .u8, .int .u8, .int .u8], false⟩ := rfl
theorem tab_83 : tab 83 = some ⟨.st, 62, 384, 0, [(0, 3), (1, 3), (2, 3), (3, 3), (4, 9), (5, 75), (6, 77), (9, 78), (10, 80), (16, 81), (48, 29), (56, 43)], [.int .i64 0, .int .i64 0, .int .i64 0, .int .i64 0, .str [], .nils, .int .i64 0, .int .i64 0, .str [], .nils, .int .i64 0, .int .i64 0, .bool false, .int .i64 0, .str [], .nils, .int .u8 0, .int .u8 0, .int .u8 0, .int .u8 0, .int .u8 0, .int .u8 0, .int .u8 0, .int .u8 0, .int .u8 0, .int .u8 0, .int .u8 0, .int .u8 0, .int .u8 0, .int .u8 0, .int .u8 0, .int .u8 0, .int .u8 0, .int .u8 0, .int .u8 0, .int .u8 0, .int .u8 0, .int .u8 0, .int .u8 0, .int .u8 0, .int .u8 0, .int .u8 0, .int .u8 0, .int .u8 0, .int .u8 0, .int .u8 0, .int .u8 0, .int .u8 0, .int .i64 0, .int .i64 0, .int .i64 0, .str [], .str [], .int .i64 0, .int .i64 0, .int .i64 0, .int .i64 0, .int .i64 0, .int .i64 0, .str [], .int .i64 0, .nils], [], false⟩ := rfl
theorem tab_85 : tab 85 = some ⟨.sl, 1, 24, 5, [], [.nils], [], false⟩ := rfl
theorem tab_92 : tab 92 = some ⟨.st, 62, 384, 0, [(0, 3), (1, 3), (2, 3), (3, 3), (4, 9), (5, 75), (6, 77), (9, 78), (10, 80), (16, 81), (48, 59), (56, 51)], [.int .i64 0, .int .i64 0, .int .i64 0, .int .i64 0, .str [], .nils, .int .i64 0, .int .i64 0, .str [], .nils, .int .i64 0, .int .i64 0, .bool false, .int .i64 0, .str [], .nils, .int .u8 0, .int .u8 0, .int .u8 0, .int .u8 0, .int .u8 0, .int .u8 0, .int .u8 0, .int .u8 0, .int .u8 0, .int .u8 0, .int .u8 0, .int .u8 0, .int .u8 0, .int .u8 0, .int .u8 0, .int .u8 0, .int .u8 0, .int .u8 0, .int .u8 0, .int .u8 0, .int .u8 0, .int .u8 0, .int .u8 0, .int .u8 0, .int .u8 0, .int .u8 0, .int .u8 0, .int .u8 0, .int .u8 0, .int .u8 0, .int .u8 0, .int .u8 0, .int .i64 0, .int .i64 0, .int .i64 0, .str [], .str [], .int .i64 0, .int .i64 0, .int .i64 0, .int .i64 0, .int .i64 0, .int .i64 0, .str [], .int .i64 0, .nils], [], false⟩ := rfl
theorem tab_145 : tab 145 = some ⟨.st, 3, 40, 0, [(0, 85), (1, 4), (2, 34)], [.nils, .bool false, .int .i64 0], [], false⟩ := rfl
theorem tab_146 : tab 146 = some ⟨.ptr, 1, 8, 3, [], [.nilp], [], false⟩ := rfl
theorem tab_148 : tab 148 = some ⟨.st, 1, 8, 0, [(0, 146)], [.nilp], [], false⟩ := rfl
theorem tab_151 : tab 151 = some ⟨.iface, 1, 16, 0, [], [.nilI], [], false⟩ := rfl
theorem tab_163 : tab 163 = some ⟨.ptr, 1, 8, 9, [], [.nilp], [], false⟩ := rfl
theorem tab_165 : tab 165 = some ⟨.st, 1, 8, 0, [(0, 163)], [.nilp], [], false⟩ := rfl
theorem tab_166 : tab 166 = some ⟨.ptr, 1, 8, 75, [], [.nilp], [], false⟩ := rfl
theorem tab_167 : tab 167 = some ⟨.fn, 1, 8, 0, [], [.nilf], [], false⟩ := rfl
theorem tab_169 : tab 169 = some ⟨.st, 2, 16, 0, [(0, 166), (1, 167)], [.nilp, .nilf], [], false⟩ := rfl
theorem tab_171 : tab 171 = some ⟨.sl, 1, 24, 151, [], [.nils], [], false⟩ := rfl
theorem tab_172 : tab 172 = some ⟨.fn, 1, 8, 0, [], [.nilf], [], false⟩ := rfl
theorem tab_175 : tab 175 = some ⟨.ptr, 1, 8, 78, [], [.nilp], [], false⟩ := rfl
theorem tab_177 : tab 177 = some ⟨.ptr, 1, 8, 81, [], [.nilp], [], false⟩ := rfl
theorem tab_179 : tab 179 = some ⟨.st, 1, 8, 0, [(0, 177)], [.nilp], [], false⟩ := rfl
theorem tab_180 : tab 180 = some ⟨.ptr, 1, 8, 29, [], [.nilp], [], false⟩ := rfl
theorem tab_182 : tab 182 = some ⟨.st, 1, 8, 0, [(0, 180)], [.nilp], [], false⟩ := rfl
theorem tab_183 : tab 183 = some ⟨.ptr, 1, 8, 43, [], [.nilp], [], false⟩ := rfl
theorem tab_185 : tab 185 = some ⟨.st, 1, 8, 0, [(0, 183)], [.nilp], [], false⟩ := rfl
theorem tab_189 : tab 189 = some ⟨.int .u64, 1, 8, 0, [], [.int .u64 0], [], false⟩ := rfl
theorem tab_193 : tab 193 = some ⟨.ptr, 1, 8, 4, [], [.nilp], [], false⟩ := rfl
theorem tab_195 : tab 195 = some ⟨.st, 1, 8, 0, [(0, 193)], [.nilp], [], false⟩ := rfl
theorem tab_197 : tab 197 = some ⟨.st, 2, 16, 0, [(0, 175), (1, 172)], [.nilp, .nilf], [], false⟩ := rfl
theorem tab_224 : tab 224 = some ⟨.st, 2, 32, 0, [(0, 85), (1, 34)], [.nils, .int .i64 0], [], false⟩ := rfl
theorem tab_228 : tab 228 = some ⟨.sl, 1, 24, 146, [], [.nils], [], false⟩ := rfl
theorem tab_229 : tab 229 = some ⟨.sl, 1, 24, 3, [], [.nils], [], false⟩ := rfl
theorem follows_ok : Try.prog.follows .mixedOrders = true := by kernel_rfl
set_option maxHeartbeats 4000000 in
set_option maxRecDepth 100000 in
theorem tab_ok : TabOk Try.prog tab := by
  intro t ti h
  unfold tab at h
  split at h <;> first | (cases h; done) | (cases h; exact tiB_ok (by kernel_rfl))
end Go.Proofs.Ytkamcoechjdgpaa
/-
  Words for memory: how cells read as a thing (Rep); a slice that reads as a list (Sl); a row of the call's own (Own); append. Nothing here speaks of the program.
-/
namespace Go.Proofs.Ytkamcoechjdgpaa
open Go.ChangeShapes Go.WideShapes Go.ChangeAt Go.RowKit Go.Deep

structure Rep (α : Type) where
  at_ : Nat → World → List Value → α → Prop
  mono : ∀ {B B' w cs a}, B ≤ B' → at_ B w cs a → at_ B' w cs a
  stable : ∀ {B w w' cs a}, Below B w w' → at_ B w cs a → at_ B w' cs a

def Cs {α : Type} (R : Rep α) (k B : Nat) (w : World) (xs : List Value) (l : List α) : Prop :=
  xs.length = l.length * k ∧ ∀ (j : Nat) a, l[j]? = some a → R.at_ B w ((xs.drop (j * k)).take k) a
def Sl {α : Type} (R : Rep α) (k B : Nat) (w : World) (A : Option Addr) (l : List α) : Prop :=
  l ≠ [] → ∃ b o, A = some ⟨b, o, none⟩ ∧ b < B ∧ ∀ (j : Nat) a, l[j]? = some a → ∃ cs, cs.length = k ∧ R.at_ B w cs a ∧ ∀ i u, cs[i]? = some u → w.cell? ⟨b, o + j * k + i, none⟩ = some u
def Own {α : Type} (R : Rep α) (k : Nat) (e : TypeId) (base B : Nat) (w : World) (v : Value) (l : List α) : Prop :=
  ∃ xs, w.ownsRow base e k v l.length xs ∧ Cs R k B w xs l

section
variable {α : Type} {R : Rep α} {k B B' : Nat} {w w' : World} {A : Option Addr} {l l2 : List α}
theorem Sl.drop {b o : Nat} (h : Sl R k B w (some ⟨b, o, none⟩) l) (n : Nat) : Sl R k B w (some ⟨b, o + n * k, none⟩) (l.drop n) := fun hn => by
  obtain ⟨b', o', he, hlt, hc⟩ := h (by rintro rfl; simp at hn)
  simp only [Option.some.injEq, Addr.mk.injEq, Yu] at he
  obtain ⟨rfl, rfl⟩ := he
  refine ⟨b, _, rfl, hlt, fun j a hj => ?_⟩
  rw [List.getElem?_drop] at hj
  obtain ⟨cs, hl, hr, hcs⟩ := hc _ a hj
  refine ⟨cs, hl, hr, fun i u hu => ?_⟩
  rw [← hcs i u hu]
  congr 2
  rw [Nat.add_mul]
  omega

/-! ### cells -/
/-! ### rows of the call's own -/
variable {e : TypeId} {base : Nat} {v : Value}
end

/-! ### append -/
structure Tab (P : Program) (t e : TypeId) (k bytes : Nat) : Prop where
  ht : P.underlying t = some (.slice e)
  hi : ∃ i z, P.info? e = some i ∧ i.zero = some z ∧ i.size = k ∧ i.bytes = bytes ∧ z.cells.size = k
  hk : 0 < k
section
variable {P : Program} {α : Type} {R : Rep α} {k B : Nat} {w : World} {l l2 : List α} {e : TypeId} {base bytes : Nat} {v : Value}

end

/-! ### one element behind -/
/-! ### append as a call's walk meets it: W is the world in which the call began -/
section
variable {P : Program} {α : Type} {R : Rep α} {k B : Nat} {w W : World} {e : TypeId} {bytes : Nat}
end

section
variable {P : Program} {α : Type} {R : Rep α} {k B : Nat} {w W : World} {e : TypeId} {bytes : Nat}
end

/-! ### bytes -/
end Go.Proofs.Ytkamcoechjdgpaa
/-
  Numbers, texts and rows as bytes: the plain functions, and what they obey. No program in sight.
-/
namespace Go.Proofs.Ytkamcoechjdgpaa
abbrev Bytes := List UInt8

def nbF : Nat → Nat → Nat
  | 0, _ => 0
  | f + 1, n => if n = 0 then 0 else nbF f (n / 256) + 1
def nb (n : Nat) : Nat := nbF 9 n
def be : Nat → Nat → Bytes
  | 0, _ => []
  | k + 1, n => UInt8.ofNat (n / 256 ^ k) :: be k n
def encN (n : Nat) : Bytes := UInt8.ofNat (nb n) :: be (nb n) n
def encT (s : Bytes) : Bytes := encN s.length ++ s
def encL (l : List Bytes) : Bytes := encN l.length ++ (l.map encT).flatten
def zig (n : Int) : Nat := if n < 0 then (-2 * n - 1).toNat else (2 * n).toNat

theorem be_length (k n : Nat) : (be k n).length = k := by
  induction k with
  | zero => rfl
  | succ k ih => simp [be, ih]
theorem be_get (k n j : Nat) (h : j < k) : (be k n)[j]? = some (UInt8.ofNat (n / 256 ^ (k - 1 - j))) := by
  induction k generalizing j with
  | zero => omega
  | succ k ih =>
    cases j with
    | zero => simp [be]
    | succ j =>
      simp only [be, Y2]
      rw [ih j (by omega), show k + 1 - 1 - (j + 1) = k - 1 - j by omega]
theorem be_take (k n j : Nat) (h : j < k) : (be k n).take (j + 1) = (be k n).take j ++ [UInt8.ofNat (n / 256 ^ (k - 1 - j))] := by
  rw [List.take_add_one, be_get k n j h]
  rfl
theorem nbF_le (f n : Nat) : nbF f n ≤ f := by
  induction f generalizing n with
  | zero => simp [nbF]
  | succ f ih =>
    unfold nbF
    split
    · omega
    · have := ih (n / 256)
      omega
theorem nbF_more (f n : Nat) (h : n < 256 ^ f) : nbF (f + 1) n = nbF f n := by
  induction f generalizing n with
  | zero => simp at h; simp [nbF, h]
  | succ f ih =>
    unfold nbF
    split
    · rfl
    · rw [ih (n / 256) (by rw [Nat.pow_succ] at h; omega)]
theorem nb_zero : nb 0 = 0 := rfl
theorem nb_step (n : Nat) (h0 : n ≠ 0) (h : n < 18446744073709551616) : nb n = nb (n / 256) + 1 := by
  have : nb n = nbF 8 (n / 256) + 1 := by show (if n = 0 then 0 else nbF 8 (n / 256) + 1) = _; rw [if_neg h0]
  rw [this, nb, nbF_more 8 (n / 256) (by omega)]
theorem nb_le (n : Nat) (h : n < 18446744073709551616) : nb n ≤ 8 := by
  have : nb n = nbF 8 n := nbF_more 8 n (by omega)
  rw [this]
  exact nbF_le 8 n
theorem nb_lt (n : Nat) (h : n < 18446744073709551616) : n < 256 ^ nb n := by
  have key : ∀ f n, n < 256 ^ f → n < 256 ^ nbF f n := by
    intro f
    induction f with
    | zero => intro n h; simp at h; subst h; simp [nbF]
    | succ f ih =>
      intro n h
      unfold nbF
      split
      · rename_i h0; subst h0; simp
      · have := ih (n / 256) (by rw [Nat.pow_succ] at h; omega)
        rw [Nat.pow_succ]
        omega
  exact key 9 n (by omega)
theorem nb_ge (n : Nat) (h0 : n ≠ 0) (h : n < 18446744073709551616) : 256 ^ (nb n - 1) ≤ n := by
  have key : ∀ f n, n ≠ 0 → n < 256 ^ f → 256 ^ (nbF f n - 1) ≤ n := by
    intro f
    induction f with
    | zero => intro n h0 h; simp at h; exact absurd h h0
    | succ f ih =>
      intro n h0 h
      unfold nbF
      rw [if_neg h0]
      simp only [Nat.add_sub_cancel]
      by_cases hz : n / 256 = 0
      · rw [hz]
        have : nbF f 0 = 0 := by cases f <;> simp [nbF]
        rw [this]; simp; omega
      · have hi := ih (n / 256) hz (by rw [Nat.pow_succ] at h; omega)
        have hp : 0 < nbF f (n / 256) := by
          cases f with
          | zero => simp at h; omega
          | succ f => unfold nbF; rw [if_neg hz]; omega
        obtain ⟨q, hq⟩ : ∃ q, nbF f (n / 256) = q + 1 := ⟨nbF f (n / 256) - 1, by omega⟩
        rw [hq] at hi ⊢
        simp only [Nat.add_sub_cancel] at hi
        rw [Nat.pow_succ]
        omega
  exact key 9 n h0 (by omega)
theorem nb_pos (n : Nat) (h0 : n ≠ 0) : 1 ≤ nb n := by show 1 ≤ (if n = 0 then 0 else nbF 8 (n / 256) + 1); rw [if_neg h0]; omega
theorem bitLen_nb (n : Nat) (h : n < 18446744073709551616) : (Lib.bitLen n + 7) / 8 = nb n := by
  induction n using Nat.strongRecOn with
  | _ n ih =>
    by_cases h0 : n = 0
    · subst h0; rfl
    · by_cases h1 : n < 256
      · have h8 : Lib.bitLen n ≤ 8 := Lib.bitLen_le8 ⟨n, h1⟩
        have hp : 1 ≤ Lib.bitLen n := by
          have := Lib.bitLen_half n h0 (by omega)
          omega
        rw [nb_step n h0 h, show n / 256 = 0 by omega, nb_zero]
        omega
      · have hs := Lib.bitLen_shift8 n (by omega) h
        have := ih (n / 256) (by omega) (by omega)
        rw [nb_step n h0 h, ← this, hs]
        omega
theorem shr_byte (n p : Nat) : (n : Int) / 2 ^ (8 * p) % 256 = ((n / 256 ^ p) % 256 : Nat) := by
  have h : (2 : Int) ^ (8 * p) = ((256 ^ p : Nat) : Int) := by rw [Int.pow_mul]; simp
  rw [h]
  rw [Int.natCast_emod, Int.natCast_ediv]; rfl
theorem encN_length (n : Nat) : (encN n).length = 1 + nb n := by simp [encN, be_length]; omega
theorem encN_le (n : Nat) (h : n < 18446744073709551616) : (encN n).length ≤ 9 := by have := nb_le n h; rw [encN_length]; omega
theorem zig_lt (n : Int) (h : -9223372036854775808 ≤ n) (h' : n ≤ 9223372036854775807) : zig n < 18446744073709551616 := by unfold zig; split <;> omega
def encRow (l : List Bytes) : Bytes := (l.map encT).flatten
theorem encL_row (l : List Bytes) : encL l = encN l.length ++ encRow l := rfl
theorem encRow_succ (l : List Bytes) (k : Nat) (a : Bytes) (h : l[k]? = some a) : encRow (l.take (k + 1)) = encRow (l.take k) ++ encT a := by
  rw [encRow, encRow, List.take_add_one, h]
  simp
theorem encT_le (s : Bytes) (h : s.length < 18446744073709551616) : (encT s).length ≤ s.length + 9 := by
  have := encN_le s.length h
  simp [encT]
  omega
def tot (l : List Bytes) : Nat := (l.map fun s => s.length + 9).sum
theorem tot_cons (x : Bytes) (l : List Bytes) : tot (x :: l) = x.length + 9 + tot l := by simp [tot]
theorem tot_take (l : List Bytes) (k : Nat) : tot (l.take k) ≤ tot l := by
  induction l generalizing k with
  | nil => simp
  | cons x l ih =>
    cases k with
    | zero => simp [tot]
    | succ k =>
      have := ih k
      rw [List.take_succ_cons, tot_cons, tot_cons]
      omega
theorem tot_mem {l : List Bytes} {k : Nat} {a : Bytes} (h : l[k]? = some a) : a.length + 9 ≤ tot l := by
  induction l generalizing k with
  | nil => simp at h
  | cons x l ih =>
    cases k with
    | zero => simp at h; subst h; rw [tot_cons]; omega
    | succ k => have := ih (k := k) (by simpa using h); rw [tot_cons]; omega
theorem encRow_le (l : List Bytes) (h : tot l < 18446744073709551616) : (encRow l).length ≤ tot l := by
  induction l with
  | nil => simp [encRow, tot]
  | cons x l ih =>
    simp only [tot, Yf, List.sum_cons] at h ⊢
    have h1 := encT_le x (by omega)
    have h2 := ih (by unfold tot; omega)
    simp only [encRow, Yf, List.flatten_cons, List.length_append] at h2 ⊢
    unfold tot at h2
    omega
theorem tot_length (l : List Bytes) : 9 * l.length ≤ tot l := by
  induction l with
  | nil => simp
  | cons x l ih => simp [tot] at ih ⊢; omega
/-! ### taking -/
def fromBE (l : Bytes) : Nat := l.foldl (fun n c => n * 256 + c.toNat) 0
theorem fromBE_snoc (l : Bytes) (c : UInt8) : fromBE (l ++ [c]) = fromBE l * 256 + c.toNat := by simp [fromBE]
theorem fromBE_lt (l : Bytes) : fromBE l < 256 ^ l.length := by
  have key : ∀ (l : Bytes) (n : Nat), l.foldl (fun n c => n * 256 + c.toNat) n < (n + 1) * 256 ^ l.length := by
    intro l
    induction l with
    | nil => intro n; simp
    | cons c l ih =>
      intro n
      have h := ih (n * 256 + c.toNat)
      have hc := c.toNat_lt
      simp only [List.foldl_cons, Ya]
      refine Nat.lt_of_lt_of_le h ?_
      rw [Nat.pow_succ, Nat.mul_comm (256 ^ l.length) 256, ← Nat.mul_assoc]
      exact Nat.mul_le_mul_right _ (by omega)
  have := key l 0
  rw [Nat.zero_add, Nat.one_mul] at this
  exact this
def takeN : Bytes → Except Int (Nat × Bytes)
  | [] => .error 2
  | k :: r => if 8 < k.toNat ∨ (0 < k.toNat ∧ r.head? = some 0) then .error 3 else if r.length < k.toNat then .error 2 else .ok (fromBE (r.take k.toNat), r.drop k.toNat)
def takeT (b : Bytes) (most : Int) : Except Int (Bytes × Bytes) :=
  match takeN b with
  | .error z => .error z
  | .ok (n, r) => if (max most 0).toNat < n then .error 5 else if r.length < n then .error 2 else .ok (r.take n, r.drop n)
def takeTs (most : Int) : Nat → Bytes → Except Int (List Bytes × Bytes)
  | 0, b => .ok ([], b)
  | n + 1, b => match takeT b most with
    | .error z => .error z
    | .ok (s, r) => match takeTs most n r with
      | .error z => .error z
      | .ok (l, r') => .ok (s :: l, r')
def takeL (b : Bytes) (many most : Int) : Except Int (List Bytes × Bytes) :=
  match takeN b with
  | .error z => .error z
  | .ok (n, r) => if (max many 0).toNat < n then .error 5 else takeTs most n r
def unzig (u : Nat) : Int := if u % 2 = 1 then -(u / 2 : Nat) - 1 else (u / 2 : Nat)
def glue (l : List Bytes) : Except Int (List Bytes × Bytes) → Except Int (List Bytes × Bytes)
  | .error z => .error z
  | .ok (l', r) => .ok (l ++ l', r)
theorem takeTs_ok {most : Int} {n : Nat} {b s r : Bytes} (h : takeT b most = .ok (s, r)) (l : List Bytes) : glue l (takeTs most (n + 1) b) = glue (l ++ [s]) (takeTs most n r) := by
  simp only [takeTs, h]
  cases takeTs most n r with
  | error z => rfl
  | ok p => obtain ⟨l', r'⟩ := p; simp [glue]
theorem takeTs_err {most : Int} {n : Nat} {b : Bytes} {z : Int} (h : takeT b most = .error z) (l : List Bytes) : glue l (takeTs most (n + 1) b) = .error z := by
  simp only [takeTs, h, glue]
theorem takeN_shorter {b r : Bytes} {n : Nat} (h : takeN b = .ok (n, r)) : r.length + 1 ≤ b.length := by
  unfold takeN at h
  split at h
  · cases h
  · split at h
    · cases h
    · split at h
      · cases h
      · simp only [Except.ok.injEq, Prod.mk.injEq] at h
        obtain ⟨_, rfl⟩ := h
        simp
theorem takeT_shorter {b s r : Bytes} {most : Int} (h : takeT b most = .ok (s, r)) : s.length + r.length + 1 ≤ b.length ∧ s.length ≤ (max most 0).toNat := by
  unfold takeT at h
  split at h
  · cases h
  · rename_i n q hq
    have := takeN_shorter hq
    split at h
    · cases h
    · split at h
      · cases h
      · simp only [Except.ok.injEq, Prod.mk.injEq] at h
        obtain ⟨rfl, rfl⟩ := h
        simp only [List.length_take, List.length_drop]
        omega
theorem takeN_err {b : Bytes} {z : Int} (h : takeN b = .error z) : z = 2 ∨ z = 3 := by
  unfold takeN at h
  split at h
  · cases h; simp
  · split at h
    · cases h; simp
    · split at h
      · cases h; simp
      · cases h
theorem takeT_err {b : Bytes} {z most : Int} (h : takeT b most = .error z) : z = 2 ∨ z = 3 ∨ z = 5 := by
  unfold takeT at h
  split at h
  · rename_i q
    cases h
    rcases takeN_err q with h | h <;> simp [h]
  · split at h
    · cases h; simp
    · split at h
      · cases h; simp
      · cases h
end Go.Proofs.Ytkamcoechjdgpaa
/-
  From contracts told with addresses to those told without: rows of bytes, rows of rows; a call that leaves the world. Nothing here speaks of the program but for the types' numbers.
-/
namespace Go.Proofs.Ytkamcoechjdgpaa
open Go.RowKit
theorem still_spec {P : Program} {f : FuncId} {args : List AV} {res : AV} {v : Value} (hfn : Callable P f) (hv : ∀ c, RV c v res) (h : ∀ (c : Cx) (vs : Array Value), TRel c vs args → Calls P f vs c.w fun e w' => e = .returned v ∧ w' = c.w) : ASpec P f args res := by
  refine ⟨hfn, fun c vs hh hc ht => (h c vs ht).mono ?_⟩
  rintro e w' ⟨rfl, rfl⟩
  exact ⟨_, c.ρ, _, c.h, rfl, hc, Ev.refl c, hv _, .one (.refl _)⟩
end Go.Proofs.Ytkamcoechjdgpaa
/-
  Package octet's readers, told by their shadows.
-/
namespace Go.Proofs.Ytkamcoechjdgpaa
open Go.RowKit
def takeA : Except Int (Nat × Bytes) → AV
  | .error z => .tup [.int .u64 0, bytesA [], .int .i64 z]
  | .ok (n, r) => .tup [.int .u64 n, bytesA r, .int .i64 0]
theorem shl8 (a : Int) : ashift .shl .u64 a 8 = some ⟨(0 : Int) ≤ 8, .int .u64 (IntKind.u64.wrap (a * 256)), none⟩ := rfl
theorem wrap_u8 (k : UInt8) : IntKind.i64.wrap (k.toNat : Int) = k.toNat := by
  have := k.toNat_lt
  have e : (2 : Int) ^ IntKind.i64.bits = 18446744073709551616 := by decide
  have e' : (2 : Int) ^ (IntKind.i64.bits - 1) = 9223372036854775808 := by decide
  simp only [IntKind.wrap, e, e', show IntKind.i64.signed = true from rfl, Bool.true_and, decide_eq_true_eq]
  split <;> omega
theorem wrap_nat (n : Nat) (h : n < 18446744073709551616) : IntKind.u64.wrap (n : Int) = n := by
  have e : (2 : Int) ^ IntKind.u64.bits = 18446744073709551616 := by decide
  simp only [IntKind.wrap, e, show IntKind.u64.signed = false from rfl, Bool.false_and, Y8, Yr]
  omega
theorem or_acc (n : Nat) (c : UInt8) (hn : n < 72057594037927936) : bits .or .u64 (IntKind.u64.wrap ((n : Int) * 256)) (IntKind.u64.wrap (c.toNat : Int)) = (n * 256 + c.toNat : Nat) := by
  have hc := c.toNat_lt
  have e1 : IntKind.u64.wrap ((n : Int) * 256) = ((n * 256 : Nat) : Int) := by rw [← wrap_nat (n * 256) (by omega)]; simp
  have e2 : IntKind.u64.wrap (c.toNat : Int) = (c.toNat : Int) := wrap_nat _ (by omega)
  rw [e1, e2, u64_or_nat (n * 256) c.toNat (by omega) (by omega)]
  have := Nat.shiftLeft_add_eq_or_of_lt (i := 8) (show c.toNat < 2 ^ 8 by omega) n
  rw [Nat.shiftLeft_eq] at this
  rw [← this]
theorem take_nil_s : ASpec Try.prog 94 [bytesA []] (takeA (.error 2)) := by
  refine ⟨⟨_, Try.func94, by kernel_rfl, rfl⟩, ACall.of Try.func94 rfl fun c0 hc0 => ?_⟩; simp only [Try.ntmps94, Ya, Y9, Nat.reduceAdd, Nat.reduceSub, Ym, Yn, Y5, Y3]; refine Run.god tab_ok follows_ok Try.func94 60 ?_; simp only [Try.results94, bytesA, takeA, Int.natCast_zero, ↓alt_t, drun, aops, aone, afin, ares, aresL, ares1, aresOk, aresOk1, aop, needs, ext, aev, aconst, aput, aupd, acmp, ashift, abin, alen, tab_3, tab_85, ok1, Y4, Yb, Yc, Y6, Y7, Y9, Y1, Y2, Ye, Y3, Yt, Yu, Ys, Yr, decide_true, Y0, Y8]
  (repeat' first | exact .refl _ | apply LeR.tup | apply Le.agg | constructor)
theorem succ_ne (n : Nat) : (((n + 1 : Nat) : Int) = 0) = False := by simp; omega
theorem succ_pos' (n : Nat) : ((0 : Int) < ((n + 1 : Nat) : Int)) = True := by simp
theorem take_form_s (k : UInt8) (r : Bytes) (h : (8 : Int) < k.toNat) : ASpec Try.prog 94 [bytesA (k :: r)] (takeA (.error 3)) := by
  refine ⟨⟨_, Try.func94, by kernel_rfl, rfl⟩, ACall.of Try.func94 rfl fun c0 hc0 => ?_⟩; simp only [Try.ntmps94, Ya, Y9, Nat.reduceAdd, Nat.reduceSub, Ym, Yn, Y5, Y3]; refine Run.god tab_ok follows_ok Try.func94 60 ?_; simp only [Try.results94, bytesA, takeA, byteC, wrap_u8, h, succ_ne, decide_true, Int.toNat_zero, Int.reduceToNat, ↓alt_t, ↓alt_f, ↓alts_t, ↓gone_ft, gslot, Int.reduceLE, drun, adops, adone, places, mayNeed, freeOk, rdOf, AV.id, wrOf, aops, aone, afin, ares, aresL, ares1, aresOk, aresOk1, aop, needs, ext, aev, aconst, aput, aupd, aload, aindexAddr, acmp, ashift, abin, aconv, alen, aslice, tab_3, tab_5, tab_85, ok1, cellsAs, TI.agg, Y4, Yb, Yc, Option.map_none, Y6, Y7, Ya, Y9, Y1, Y2, Yw, Yi, Yh, Yg, Yk, Yf, Ye, Yo, Y5, Y3, Yd, Yt, Yu, Ys, Yr, Yp, decide_false, Nat.reduceLT, Yv, Y0, Option.isSome_none, Y8]
  exact ⟨rfl, by omega, by omega, rfl, by (repeat' first | exact .refl _ | apply LeR.tup | apply Le.agg | constructor)⟩
theorem take_short0_s (k : UInt8) (h : ¬ (8 : Int) < k.toNat) (h0 : (0 : Int) < k.toNat) : ASpec Try.prog 94 [bytesA [k]] (takeA (.error 2)) := by
  refine ⟨⟨_, Try.func94, by kernel_rfl, rfl⟩, ACall.of Try.func94 rfl fun c0 hc0 => ?_⟩; simp only [Try.ntmps94, Ya, Y9, Nat.reduceAdd, Nat.reduceSub, Ym, Yn, Y5, Y3]; refine Run.god tab_ok follows_ok Try.func94 60 ?_; simp only [Try.results94, bytesA, takeA, byteC, wrap_u8, h, h0, succ_ne, decide_true, Int.natCast_zero, Int.toNat_zero, Int.reduceToNat, ↓alt_t, ↓alt_f, ↓alts_t, ↓alts_f, ↓gone_tt, ↓gone_tf, ↓gone_ff, gslot, Int.reduceLT, Int.reduceLE, drun, adops, adone, places, mayNeed, freeOk, rdOf, AV.id, wrOf, aops, aone, afin, ares, aresL, ares1, aresOk, aresOk1, aop, needs, ext, aev, aconst, aput, aupd, aload, aindexAddr, acmp, ashift, abin, aconv, alen, aslice, tab_3, tab_5, tab_85, ok1, cellsAs, TI.agg, Y4, Yb, Yc, Option.map_none, Y6, Y7, Ya, Y9, Y1, Y2, Yw, Yh, Yg, Yk, Yl, Yf, Ye, Y5, Y3, Yd, Yt, Yu, Ys, Yr, Yp, decide_false, Nat.reduceLT, Yv, Y0, Option.isSome_none, Y8]
  exact ⟨rfl, by omega, by omega, rfl, by (repeat' first | exact .refl _ | apply LeR.tup | apply Le.agg | constructor)⟩
theorem take_zero_s (k c : UInt8) (r : Bytes) (h : ¬ (8 : Int) < k.toNat) (h0 : (0 : Int) < k.toNat) (hc : (c.toNat : Int) = 0) : ASpec Try.prog 94 [bytesA (k :: c :: r)] (takeA (.error 3)) := by
  refine ⟨⟨_, Try.func94, by kernel_rfl, rfl⟩, ACall.of Try.func94 rfl fun c0 hc0 => ?_⟩; simp only [Try.ntmps94, Ya, Y9, Nat.reduceAdd, Nat.reduceSub, Ym, Yn, Y5, Y3]; refine Run.god tab_ok follows_ok Try.func94 60 ?_; simp only [Try.results94, bytesA, takeA, byteC, wrap_u8, h, h0, hc, succ_ne, succ_pos', decide_true, Int.toNat_zero, Int.reduceToNat, ↓alt_t, ↓alt_f, ↓alts_t, ↓alts_f, ↓gone_tt, ↓gone_ff, gslot, Int.reduceLE, drun, adops, adone, places, mayNeed, freeOk, rdOf, AV.id, wrOf, aops, aone, afin, ares, aresL, ares1, aresOk, aresOk1, aop, needs, ext, aev, aconst, aput, aupd, aload, aindexAddr, acmp, ashift, abin, aconv, alen, aslice, tab_3, tab_5, tab_85, ok1, cellsAs, TI.agg, Y4, Yb, Yc, Option.map_none, Y6, Y7, Ya, Y9, Y1, Y2, Yw, Yi, Yh, Yg, Yk, Yf, Ye, Yo, Y5, Y3, Yd, Yt, Yu, Ys, Yr, Yp, decide_false, Nat.reduceLT, Yv, Y0, Option.isSome_none, Y8]
  exact ⟨rfl, by omega, rfl, by (repeat' first | exact .refl _ | apply LeR.tup | apply Le.agg | constructor)⟩
theorem take_short_s (k c : UInt8) (r : Bytes) (h : ¬ (8 : Int) < k.toNat) (h0 : (0 : Int) < k.toNat) (hc : ¬ (c.toNat : Int) = 0) (hl : ((r.length + 1 : Nat) : Int) < k.toNat) : ASpec Try.prog 94 [bytesA (k :: c :: r)] (takeA (.error 2)) := by
  refine ⟨⟨_, Try.func94, by kernel_rfl, rfl⟩, ACall.of Try.func94 rfl fun c0 hc0 => ?_⟩; simp only [Try.ntmps94, Ya, Y9, Nat.reduceAdd, Nat.reduceSub, Ym, Yn, Y5, Y3]; refine Run.god tab_ok follows_ok Try.func94 60 ?_; simp only [Try.results94, bytesA, takeA, byteC, wrap_u8, h, h0, hc, hl, succ_ne, succ_pos', decide_true, Int.toNat_zero, Int.reduceToNat, ↓alt_t, ↓alt_f, ↓alts_t, ↓alts_f, ↓gone_tt, ↓gone_ff, gslot, Int.reduceLE, drun, adops, adone, places, mayNeed, freeOk, rdOf, AV.id, wrOf, aops, aone, afin, ares, aresL, ares1, aresOk, aresOk1, aop, needs, ext, aev, aconst, aput, aupd, aload, aindexAddr, acmp, ashift, abin, aconv, alen, aslice, tab_3, tab_5, tab_85, ok1, cellsAs, TI.agg, Y4, Yb, Yc, Option.map_none, Y6, Y7, Ya, Y9, Y1, Y2, Yw, Yi, Yh, Yg, Yk, Yf, Ye, Yo, Y5, Y3, Yd, Yt, Yu, Ys, Yr, Yp, decide_false, Nat.reduceLT, Yv, Y0, Option.isSome_none, Y8]
  exact ⟨rfl, by omega, rfl, by (repeat' first | exact .refl _ | apply LeR.tup | apply Le.agg | constructor)⟩
theorem take_none_s (k : UInt8) (r : Bytes) (h0 : (k.toNat : Int) = 0) : ASpec Try.prog 94 [bytesA (k :: r)] (takeA (.ok (0, r))) := by
  have hl : ¬ (r.length : Int) < 0 := by omega
  refine ⟨⟨_, Try.func94, by kernel_rfl, rfl⟩, ACall.of Try.func94 rfl fun c0 hc0 => ?_⟩; simp only [Try.ntmps94, Ya, Y9, Nat.reduceAdd, Nat.reduceSub, Ym, Yn, Y5, Y3]; refine Run.god tab_ok follows_ok Try.func94 60 ?_; simp only [bytesA, takeA, byteC, h0, hl, show IntKind.i64.wrap 0 = 0 from rfl, succ_ne, succ_pos', Int.natCast_zero, Int.toNat_zero, Int.reduceToNat, ↓alt_f, ↓alts_f, ↓gone_tf, ↓gone_ff, gslot, Int.reduceLT, Int.reduceLE, drun, adops, adone, places, mayNeed, freeOk, rdOf, AV.id, wrOf, aops, aone, aop, needs, ext, aev, aconst, aput, aupd, aload, aindexAddr, acmp, ashift, abin, aconv, alen, aslice, tab_3, tab_5, tab_85, ok1, cellsAs, TI.agg, Y4, Yb, Yc, Option.map_none, Y6, Y7, Ya, Y9, Y1, Y2, Yw, Yi, Yh, Yg, Yj, Yk, Yf, Yo, Y5, Y3, Yd, Yt, Yu, Ys, Yr, Yp, decide_false, Nat.reduceLT, Yv, Y0, Option.isSome_none, Y8]
  refine ⟨rfl, by omega, rfl, by omega, Run.unloop ?_⟩
  refine Run.god tab_ok follows_ok Try.func94 60 ?_; simp only [Try.results94, Int.toNat_zero, ↓alt_f, Int.reduceLT, Int.reduceLE, drun, adops, adone, places, mayNeed, freeOk, rdOf, wrOf, aops, aone, afin, ares, aresL, ares1, aresOk, aresOk1, aop, needs, ext, aev, aconst, aput, aupd, acmp, ashift, abin, aslice, tab_3, tab_5, tab_85, ok1, exitTo, Y4, Yb, Yc, Option.map_none, Y6, Y7, Y9, Y1, Y2, Yi, Yo, Y5, Y3, Yd, Yt, Yu, Ys, Yr, Yp, beq_self_eq_true, decide_false, Y0, Option.isSome_none, Y8]
  exact ⟨rfl, by omega, rfl, by (repeat' first | exact .refl _ | apply LeR.tup | apply Le.agg | constructor)⟩
theorem take_some_s (k c : UInt8) (r : Bytes) (h : ¬ (8 : Int) < k.toNat) (h0 : (0 : Int) < k.toNat) (hc : ¬ (c.toNat : Int) = 0) (hl : ¬ ((r.length + 1 : Nat) : Int) < k.toNat) : ASpec Try.prog 94 [bytesA (k :: c :: r)] (takeA (.ok (fromBE ((c :: r).take k.toNat), (c :: r).drop k.toNat))) := by
  refine ⟨⟨_, Try.func94, by kernel_rfl, rfl⟩, ACall.of Try.func94 rfl fun c0 hc0 => ?_⟩; simp only [Try.ntmps94, Ya, Y9, Nat.reduceAdd, Nat.reduceSub, Ym, Yn, Y5, Y3]; refine Run.god tab_ok follows_ok Try.func94 60 ?_; simp only [bytesA, takeA, byteC, wrap_u8, h, h0, hc, hl, succ_ne, succ_pos', decide_true, Int.toNat_zero, Int.reduceToNat, ↓alt_f, ↓alts_t, ↓alts_f, ↓gone_tt, ↓gone_ff, gslot, Int.reduceLE, drun, adops, adone, places, mayNeed, freeOk, rdOf, AV.id, wrOf, aops, aone, aop, needs, ext, aev, aconst, aput, aupd, aload, aindexAddr, acmp, ashift, abin, aconv, alen, aslice, tab_3, tab_5, tab_85, ok1, cellsAs, TI.agg, Y4, Yb, Yc, Option.map_none, Y6, Y7, Ya, Y9, Y1, Y2, Yw, Yi, Yh, Yg, Yk, Yf, Yo, Y5, Y3, Yd, Yt, Yu, Ys, Yr, Yp, decide_false, Nat.reduceLT, Yv, Int.toNat_natCast, Y0, Option.isSome_none, Y8]
  refine ⟨rfl, by omega, rfl, by omega, ?_⟩
  have hlen : (List.take k.toNat ([AV.int .u8 c.toNat] :: List.map byteC r)).length = k.toNat := by simp; omega
  refine Run.loopV (α := Nat) (fun j => j ≤ k.toNat) (fun j => [(7, .int .u64 (fromBE ((c :: r).take j) : Nat)), (46, .int .i64 j)]) 0 (fun _ => []) (fun j => k.toNat - j) 0 (Nat.zero_le _) ?_ ?_
  · simp only [writes, junks, puts, hputs, List.filterMap_cons, List.filterMap_nil, Int.natCast_zero, Int.natCast_add, Int.natCast_one, Y6, Y7, Yj, Yk, Y5, Y3, Yd]
    (refine Weak.of (by simp [hc0]) ?_ ?_ <;> (repeat' first | exact .refl _ | exact .junk _ | exact .nil | exact .nil _ | exact .tok _ _ _ | rfl | apply WkT.cons | apply WkH.cons | apply LeB.same | apply LeB.box | apply Le1L.cons | apply Le.agg | apply Le.one))
  · intro j hj ih
    simp only [writes, junks, puts, hputs, List.filterMap_cons, List.filterMap_nil, Int.natCast_add, Int.natCast_one, Y6, Y7, Yk, Y5, Y3, Yd, hlen] at ih ⊢
    by_cases hjk : j < k.toNat
    · have hjr : j < (c :: r).length := by simp; omega
      have hg : (c :: r)[j]? = some ((c :: r)[j]) := List.getElem?_eq_getElem hjr
      have hsn : fromBE ((c :: r).take (j + 1)) = fromBE ((c :: r).take j) * 256 + ((c :: r)[j]).toNat := by
        rw [List.take_add_one, hg, ← fromBE_snoc]; rfl
      have hF := fromBE_lt ((c :: r).take j)
      have hFl : ((c :: r).take j).length = j := by rw [List.length_take]; omega
      rw [hFl] at hF
      have hpow : 256 ^ j ≤ 256 ^ 7 := Nat.pow_le_pow_right (by omega) (by omega)
      have hx : (List.take k.toNat ([AV.int .u8 c.toNat] :: List.map byteC r))[j]? = some [.int .u8 ((c :: r)[j]).toNat] := by
        have e : ([AV.int .u8 c.toNat] :: List.map byteC r) = (c :: r).map byteC := rfl
        rw [e, ← List.map_take, List.getElem?_map, List.getElem?_take_of_lt hjk, hg]; rfl
      have hor := or_acc (fromBE ((c :: r).take j)) ((c :: r)[j]) (by omega)
      rw [← hsn] at hor
      obtain ⟨G, hG⟩ : ∃ G, G = fromBE ((c :: r).take (j + 1)) := ⟨_, rfl⟩
      rw [← hG] at hor
      generalize (c :: r)[j] = x at *
      have hjj : (j : Int) < k.toNat := by omega
      refine Run.god tab_ok follows_ok Try.func94 60 ?_; simp only [hx, hjj, hlen, ↓shl8, hor, decide_true, Int.toNat_natCast, ↓alt_t, Int.reduceLE, drun, aops, aone, aop, needs, ext, aev, aconst, aput, aupd, aload, aindexAddr, acmp, aarith, ashift, abin, aconv, tab_3, tab_5, tab_85, tab_189, ok1, cellsAs, TI.agg, Y4, Yb, Yc, Y6, Y7, Ya, Y9, Y1, Y2, Yg, Yk, Y3, Yt, Yu, Ys, Yr, Yp, Nat.reduceLT, Yv, Y0, Y8]
      refine ⟨by omega, by unfold I64; omega, ih (j + 1) _ (by omega) (by omega) ?_⟩
      rw [← hG]
      simp only [Int.natCast_add, Int.natCast_one]
      (refine Weak.of (by simp [hc0]) ?_ ?_ <;> (repeat' first | exact .refl _ | exact .junk _ | exact .nil | exact .nil _ | exact .tok _ _ _ | rfl | apply WkT.cons | apply WkH.cons | apply LeB.same | apply LeB.box | apply Le1L.cons | apply Le.agg | apply Le.one))
    · obtain rfl : j = k.toNat := by omega
      have hjj : ¬ (k.toNat : Int) < k.toNat := by omega
      refine Run.god tab_ok follows_ok Try.func94 60 ?_; simp only [Try.results94, hjj, ↓alt_f, drun, adops, adone, places, mayNeed, freeOk, rdOf, wrOf, aops, aone, afin, ares, aresL, ares1, aresOk, aresOk1, aop, needs, ext, aev, aconst, aput, aupd, acmp, ashift, abin, aslice, tab_3, tab_5, tab_85, ok1, exitTo, Y4, Yb, Yc, Option.map_none, Y6, Y7, Ya, Y9, Y1, Y2, Yo, Y5, Y3, Yd, Yt, Yu, Ys, Yr, Yp, beq_self_eq_true, decide_false, Int.toNat_natCast, Y0, Option.isSome_none, Y8]
      have e : List.drop k.toNat ([AV.int .u8 c.toNat] :: List.map byteC r) = List.map byteC (List.drop k.toNat (c :: r)) := by rw [List.map_drop]; rfl
      rw [e]
      exact ⟨rfl, by omega, rfl, by (repeat' first | exact .refl _ | apply LeR.tup | apply Le.agg | constructor)⟩
theorem take_spec (b : Bytes) : ASpec Try.prog 94 [bytesA b] (takeA (takeN b)) := by
  match b with
  | [] => exact take_nil_s
  | k :: r =>
    by_cases h8 : (8 : Int) < k.toNat
    · have e : takeN (k :: r) = .error 3 := by
        have q : 8 < k.toNat := by omega
        simp [takeN, q]
      rw [e]
      exact take_form_s k r h8
    · have q : ¬ 8 < k.toNat := by omega
      by_cases h0 : (0 : Int) < k.toNat
      · have q2 : 0 < k.toNat := by omega
        match r with
        | [] =>
          have e : takeN [k] = .error 2 := by simp [takeN, q, q2]
          rw [e]
          exact take_short0_s k h8 h0
        | c :: r =>
          by_cases hc : (c.toNat : Int) = 0
          · have hz : c = 0 := by apply UInt8.toNat_inj.1; simpa using hc
            have e : takeN (k :: c :: r) = .error 3 := by subst hz; simp [takeN, q2]
            rw [e]
            exact take_zero_s k c r h8 h0 hc
          · have hz : ¬ c = 0 := by intro h; subst h; exact hc rfl
            by_cases hl : ((r.length + 1 : Nat) : Int) < k.toNat
            · have q3 : r.length + 1 < k.toNat := by omega
              have e : takeN (k :: c :: r) = .error 2 := by simp [takeN, hz, q, q3]
              rw [e]
              exact take_short_s k c r h8 h0 hc hl
            · have q3 : ¬ r.length + 1 < k.toNat := by omega
              have e : takeN (k :: c :: r) = .ok (fromBE ((c :: r).take k.toNat), (c :: r).drop k.toNat) := by simp [takeN, hz, q, q3]
              rw [e]
              exact take_some_s k c r h8 h0 hc hl
      · have hk : (k.toNat : Int) = 0 := by omega
        have hk' : k.toNat = 0 := by omega
        have e : takeN (k :: r) = .ok (0, r) := by simp [takeN, hk', fromBE]
        rw [e]
        exact take_none_s k r hk
end Go.Proofs.Ytkamcoechjdgpaa
/-
  octet.TakeInt and octet.TakeText, told by their shadows.
-/
namespace Go.Proofs.Ytkamcoechjdgpaa
open Go.RowKit
def takeZ (b : Bytes) : Except Int (Int × Bytes) := match takeN b with
  | .error z => .error z
  | .ok (n, r) => .ok (unzig n, r)
theorem taken_small {b : Bytes} {n : Nat} {r : Bytes} (h : takeN b = .ok (n, r)) : n < 18446744073709551616 ∧ r.length ≤ b.length := by
  cases b with
  | nil => simp [takeN] at h
  | cons k t =>
    simp only [takeN] at h
    split at h
    · cases h
    · split at h
      · cases h
      · rename_i h1 h2
        simp only [Except.ok.injEq, Prod.mk.injEq] at h
        obtain ⟨rfl, rfl⟩ := h
        have hF := fromBE_lt (t.take k.toNat)
        rw [List.length_take] at hF
        have : 256 ^ (min k.toNat t.length) ≤ 256 ^ 8 := Nat.pow_le_pow_right (by omega) (by omega)
        exact ⟨by omega, by simp; omega⟩
theorem ofInt_small (a : Nat) (ha : a < 9223372036854775808) : (BitVec.ofInt 64 (a : Int)).toNat = a := by
  rw [BitVec.ofInt_natCast, BitVec.toNat_ofNat]
  exact Nat.mod_eq_of_lt (by omega)
theorem and_one (n : Nat) (hn : n < 18446744073709551616) : bits .and .u64 (n : Int) 1 = ((n % 2 : Nat) : Int) := by
  have := u64_and_nat n 1 hn (by omega)
  rw [Nat.and_one_is_mod] at this
  exact this
theorem xor_unzig (n : Nat) (hn : n < 18446744073709551616) : bits .xor .i64 ((n / 2 : Nat) : Int) (-((n % 2 : Nat) : Int)) = unzig n := by
  have hd : n / 2 < 9223372036854775808 := by omega
  generalize hx : n / 2 = x at *
  show IntKind.i64.wrap ((BitVec.ofInt 64 (x : Int) ^^^ BitVec.ofInt 64 _).toNat : Int) = _
  rcases (by omega : n % 2 = 0 ∨ n % 2 = 1) with h | h
  · rw [h]
    have e0 : (-((0 : Nat) : Int)) = 0 := by omega
    rw [e0, BitVec.toNat_xor, ofInt_small x hd, show (BitVec.ofInt 64 0).toNat = 0 from rfl, Nat.xor_zero, IntKind.wrap_i64, unzig, if_neg (by omega), hx]
    omega
  · rw [h]
    have e0 : (-((1 : Nat) : Int)) = -1 := by omega
    rw [e0, show BitVec.ofInt 64 (-1) = BitVec.allOnes 64 by decide, BitVec.xor_allOnes, BitVec.toNat_not, ofInt_small x hd, IntKind.wrap_i64, unzig, if_pos h, hx]
    omega
theorem wrap_n64 (n : Nat) (h : n < 9223372036854775808) : IntKind.i64.wrap (n : Int) = n := by
  have e : (2 : Int) ^ IntKind.i64.bits = 18446744073709551616 := by decide
  have e' : (2 : Int) ^ (IntKind.i64.bits - 1) = 9223372036854775808 := by decide
  simp only [IntKind.wrap, e, e', show IntKind.i64.signed = true from rfl, Bool.true_and, decide_eq_true_eq]
  split <;> omega
def takeZA : Except Int (Int × Bytes) → AV
  | .error z => .tup [.int .i64 0, bytesA [], .int .i64 z]
  | .ok (n, r) => .tup [.int .i64 n, bytesA r, .int .i64 0]
theorem shr1 (a : Int) : ashift .shr .u64 a 1 = some ⟨(0 : Int) ≤ 1, .int .u64 (a.fdiv 2), none⟩ := rfl
theorem takeint_spec (b : Bytes) : ASpec Try.prog 86 [bytesA b] (takeZA (takeZ b)) := by
  have hsp := take_spec b
  cases ht : takeN b with
  | error z =>
    rw [ht] at hsp
    refine ⟨⟨_, Try.func86, by kernel_rfl, rfl⟩, ACall.of Try.func86 rfl fun c0 hc0 => ?_⟩; simp only [Try.ntmps86, Ya, Y9, Nat.reduceAdd, Nat.reduceSub, Ym, Yn, Y5, Y3]; refine Run.god tab_ok follows_ok Try.func86 60 ?_; simp only [bytesA, drun, aops, aone, aop, needs, ext, aev, aconst, aput, aupd, ok1, Y4, Y6, Y7, Y1, Y3, Yt, Yr, Yp, Y0, Y8]
    refine Ops.pure .free rfl rfl (hsp) (by simp only [bytesA, aev, Y4, Y1, Y2, Yf, Ye, Y3, Yd, Y0]; (repeat' first | exact .refl _ | apply LeR.tup | apply Le.agg | constructor)) rfl rfl ?_
    refine Ops.god tab_ok follows_ok Try.func86 60 ?_; simp only [Try.results86, takeA, bytesA, ↓shr1, Int.reduceLE, drun, aops, aone, afin, ares, aresL, ares1, aresOk, aresOk1, aop, needs, ext, aev, aconst, aput, aupd, acmp, aarith, ashift, abin, aconv, tab_3, tab_189, ok1, Y4, Yb, Yc, Y6, Y7, Y1, Y2, Ye, Y3, Yt, Yu, Ys, Yr, Y0, Y8]
    have e1 : IntKind.i64.wrap (Int.fdiv 0 2) = ((0 / 2 : Nat) : Int) := rfl
    have e2 : IntKind.i64.wrap (bits .and .u64 0 1) = ((0 % 2 : Nat) : Int) := by decide
    have e3 := xor_unzig 0 (by omega)
    rw [e1, e2, e3, takeZ, ht]
    exact ⟨by unfold I64; omega, by simp only [takeZA]; (repeat' first | exact .refl _ | apply LeR.tup | apply Le.agg | constructor)⟩
  | ok p =>
    obtain ⟨n, r⟩ := p
    obtain ⟨hn, _⟩ := taken_small ht
    rw [ht] at hsp
    refine ⟨⟨_, Try.func86, by kernel_rfl, rfl⟩, ACall.of Try.func86 rfl fun c0 hc0 => ?_⟩; simp only [Try.ntmps86, Ya, Y9, Nat.reduceAdd, Nat.reduceSub, Ym, Yn, Y5, Y3]; refine Run.god tab_ok follows_ok Try.func86 60 ?_; simp only [bytesA, drun, aops, aone, aop, needs, ext, aev, aconst, aput, aupd, ok1, Y4, Y6, Y7, Y1, Y3, Yt, Yr, Yp, Y0, Y8]
    refine Ops.pure .free rfl rfl (hsp) (by simp only [bytesA, aev, Y4, Y1, Y2, Yf, Ye, Y3, Yd, Y0]; (repeat' first | exact .refl _ | apply LeR.tup | apply Le.agg | constructor)) rfl rfl ?_
    refine Ops.god tab_ok follows_ok Try.func86 60 ?_; simp only [Try.results86, takeA, bytesA, ↓shr1, and_one n hn, Int.reduceLE, drun, aops, aone, afin, ares, aresL, ares1, aresOk, aresOk1, aop, needs, ext, aev, aconst, aput, aupd, acmp, aarith, ashift, abin, aconv, tab_3, tab_189, ok1, Y4, Yb, Yc, Y6, Y7, Y1, Y2, Y3, Yt, Yu, Ys, Yr, Y0, Y8]
    have e1 : IntKind.i64.wrap ((n : Int).fdiv 2) = ((n / 2 : Nat) : Int) := by
      rw [Int.fdiv_eq_ediv_of_nonneg _ (by decide), show (n : Int) / 2 = ((n / 2 : Nat) : Int) by omega, wrap_n64 _ (by omega)]
    have e2 : IntKind.i64.wrap ((n % 2 : Nat) : Int) = ((n % 2 : Nat) : Int) := wrap_n64 _ (by omega)
    rw [e1, e2, xor_unzig n hn, takeZ, ht]
    exact ⟨by unfold I64; omega, by simp only [takeZA]; (repeat' first | exact .refl _ | apply LeR.tup | apply Le.agg | constructor)⟩
def takeTA : Except Int (Bytes × Bytes) → AV
  | .error z => .tup [.str [], bytesA [], .int .i64 z]
  | .ok (s, r) => .tup [.str s, bytesA r, .int .i64 0]
theorem taketext_spec (b : Bytes) (most : Int) (hb : b.length ≤ 1000000) (hm : 0 ≤ most ∧ most ≤ 1000000) : ASpec Try.prog 115 [bytesA b, .int .i64 most] (takeTA (takeT b most)) := by
  have hsp := take_spec b
  cases ht : takeN b with
  | error z =>
    rw [ht] at hsp
    have hz : ¬ z = 0 := by rcases takeN_err ht with h | h <;> omega
    refine ⟨⟨_, Try.func115, by kernel_rfl, rfl⟩, ACall.of Try.func115 rfl fun c0 hc0 => ?_⟩; simp only [Try.ntmps115, Ya, Y9, Nat.reduceAdd, Nat.reduceSub, Ym, Yn, Y5, Y3]; refine Run.god tab_ok follows_ok Try.func115 60 ?_; simp only [bytesA, drun, aops, aone, aop, needs, ext, aev, aconst, aput, aupd, ok1, Y4, Y6, Y7, Y1, Y3, Yt, Yr, Yp, Y0, Y8]
    refine Ops.pure .free rfl rfl (hsp) (by simp only [bytesA, aev, Y4, Y1, Y2, Yf, Ye, Y3, Yd, Y0]; (repeat' first | exact .refl _ | apply LeR.tup | apply Le.agg | constructor)) rfl rfl ?_
    refine Ops.god tab_ok follows_ok Try.func115 60 ?_; simp only [Try.results115, takeA, bytesA, hz, ↓alt_t, drun, aops, aone, afin, ares, aresL, ares1, aresOk, aresOk1, aop, needs, ext, aev, aconst, aput, aupd, acmp, ashift, abin, tab_34, ok1, Y4, Yb, Yc, Y6, Y7, Y1, Y2, Ye, Y3, Yt, Yu, Ys, Yr, Bool.not_false, decide_false, Y0, Y8]
    rw [takeT, ht]
    simp only [takeTA]
    (repeat' first | exact .refl _ | apply LeR.tup | apply Le.agg | constructor)
  | ok p =>
    obtain ⟨n, r⟩ := p
    obtain ⟨hn, hl⟩ := taken_small ht
    rw [ht] at hsp
    have hw : IntKind.u64.wrap most = most := by
      obtain ⟨m, rfl⟩ := Int.eq_ofNat_of_zero_le hm.1
      exact wrap_nat m (by omega)
    have hw2 : IntKind.u64.wrap (r.length : Int) = r.length := wrap_nat _ (by omega)
    have hmx : max most 0 = most := by omega
    by_cases h1 : most < (n : Int)
    · refine ⟨⟨_, Try.func115, by kernel_rfl, rfl⟩, ACall.of Try.func115 rfl fun c0 hc0 => ?_⟩; simp only [Try.ntmps115, Ya, Y9, Nat.reduceAdd, Nat.reduceSub, Ym, Yn, Y5, Y3]; refine Run.god tab_ok follows_ok Try.func115 60 ?_; simp only [bytesA, drun, aops, aone, aop, needs, ext, aev, aconst, aput, aupd, ok1, Y4, Y6, Y7, Y1, Y3, Yt, Yr, Yp, Y0, Y8]
      refine Ops.pure .free rfl rfl (hsp) (by simp only [bytesA, aev, Y4, Y1, Y2, Yf, Ye, Y3, Yd, Y0]; (repeat' first | exact .refl _ | apply LeR.tup | apply Le.agg | constructor)) rfl rfl ?_
      refine Ops.god tab_ok follows_ok Try.func115 60 ?_; simp only [Try.results115, takeA, bytesA, hw, hmx, h1, ↓alt_t, ↓alt_f, drun, aops, aone, afin, ares, aresL, ares1, aresOk, aresOk1, aop, needs, ext, aev, aconst, aput, aupd, acmp, ashift, abin, aconv, tab_3, tab_34, tab_189, ok1, Y4, Yb, Yc, Y6, Y7, Y1, Y2, Yf, Ye, Y3, Yt, Yu, Ys, Yr, Bool.not_true, decide_true, Y0, Y8]
      rw [takeT, ht]
      simp only [if_pos (show (max most 0).toNat < n by omega), takeTA]
      (repeat' first | exact .refl _ | apply LeR.tup | apply Le.agg | constructor)
    · by_cases h2 : (r.length : Int) < (n : Int)
      · refine ⟨⟨_, Try.func115, by kernel_rfl, rfl⟩, ACall.of Try.func115 rfl fun c0 hc0 => ?_⟩; simp only [Try.ntmps115, Ya, Y9, Nat.reduceAdd, Nat.reduceSub, Ym, Yn, Y5, Y3]; refine Run.god tab_ok follows_ok Try.func115 60 ?_; simp only [bytesA, drun, aops, aone, aop, needs, ext, aev, aconst, aput, aupd, ok1, Y4, Y6, Y7, Y1, Y3, Yt, Yr, Yp, Y0, Y8]
        refine Ops.pure .free rfl rfl (hsp) (by simp only [bytesA, aev, Y4, Y1, Y2, Yf, Ye, Y3, Yd, Y0]; (repeat' first | exact .refl _ | apply LeR.tup | apply Le.agg | constructor)) rfl rfl ?_
        refine Ops.god tab_ok follows_ok Try.func115 60 ?_; simp only [Try.results115, takeA, bytesA, hw, hw2, hmx, h1, h2, ↓alt_t, ↓alt_f, drun, aops, aone, afin, ares, aresL, ares1, aresOk, aresOk1, aop, needs, ext, aev, aconst, aput, aupd, acmp, ashift, abin, aconv, alen, tab_3, tab_34, tab_85, tab_189, ok1, Y4, Yb, Yc, Y6, Y7, Y1, Y2, Yf, Ye, Yo, Y3, Yt, Yu, Ys, Yr, Bool.not_true, decide_true, decide_false, Y0, Y8]
        rw [takeT, ht]
        simp only [if_neg (show ¬ (max most 0).toNat < n by omega), if_pos (show r.length < n by omega), takeTA]
        (repeat' first | exact .refl _ | apply LeR.tup | apply Le.agg | constructor)
      · refine ⟨⟨_, Try.func115, by kernel_rfl, rfl⟩, ACall.of Try.func115 rfl fun c0 hc0 => ?_⟩; simp only [Try.ntmps115, Ya, Y9, Nat.reduceAdd, Nat.reduceSub, Ym, Yn, Y5, Y3]; refine Run.god tab_ok follows_ok Try.func115 60 ?_; simp only [bytesA, drun, aops, aone, aop, needs, ext, aev, aconst, aput, aupd, ok1, Y4, Y6, Y7, Y1, Y3, Yt, Yr, Yp, Y0, Y8]
        refine Ops.pure .free rfl rfl (hsp) (by simp only [bytesA, aev, Y4, Y1, Y2, Yf, Ye, Y3, Yd, Y0]; (repeat' first | exact .refl _ | apply LeR.tup | apply Le.agg | constructor)) rfl rfl ?_
        refine Ops.god tab_ok follows_ok Try.func115 60 ?_; simp only [Try.results115, takeA, bytesA, hw, hw2, hmx, h1, h2, ↓alt_f, drun, adops, adone, places, mayNeed, freeOk, rdOf, wrOf, aops, aone, afin, ares, aresL, ares1, aresOk, aresOk1, aop, needs, ext, aev, aconst, aput, aupd, acmp, ashift, abin, aconv, alen, aslice, tab_3, tab_5, tab_9, tab_34, tab_85, tab_189, ok1, Y4, Yb, Yc, Option.map_none, Y6, Y7, Y9, Y1, Y2, Yf, Ye, Yo, Y5, Y3, Yd, Yt, Yu, Ys, Yr, Yp, Bool.not_true, decide_true, decide_false, Int.toNat_natCast, Y0, Option.isSome_none, Y8]
        rw [takeT, ht]
        simp only [if_neg (show ¬ (max most 0).toNat < n by omega), if_neg (show ¬ r.length < n by omega), takeTA]
        rw [← List.map_take, ← List.map_drop, bytesOf_map]
        exact ⟨rfl, by omega, rfl, by omega, rfl, by (repeat' first | exact .refl _ | apply LeR.tup | apply Le.agg | constructor)⟩
end Go.Proofs.Ytkamcoechjdgpaa
/-
  What is written is taken as it was; what is taken is what would be written. No program in sight.
-/
namespace Go.Proofs.Ytkamcoechjdgpaa
theorem fromBE_be (k n : Nat) : fromBE (be k n) = n % 256 ^ k := by
  have key : ∀ (k a n : Nat), (be k n).foldl (fun n c => n * 256 + c.toNat) a = a * 256 ^ k + n % 256 ^ k := by
    intro k
    induction k with
    | zero => intro a n; simp [be, Nat.mod_one]
    | succ k ih =>
      intro a n
      rw [be, List.foldl_cons, ih, Nat.mod_pow_succ]
      have : (UInt8.ofNat (n / 256 ^ k)).toNat = n / 256 ^ k % 256 := by simp
      rw [this, Nat.add_mul, Nat.pow_succ, Nat.mul_assoc, Nat.mul_comm 256 (256 ^ k), Nat.mul_comm (n / 256 ^ k % 256)]
      omega
  have := key k 0 n
  simpa [fromBE] using this
theorem head_be (n : Nat) (h0 : n ≠ 0) (h : n < 18446744073709551616) (r : Bytes) : (be (nb n) n ++ r).head? ≠ some 0 := by
  have h1 := nb_pos n h0
  have h2 := nb_ge n h0 h
  have h3 := nb_lt n h
  obtain ⟨k, hk⟩ : ∃ k, nb n = k + 1 := ⟨nb n - 1, by omega⟩
  rw [hk] at h2 h3 ⊢
  rw [Nat.add_sub_cancel] at h2
  rw [Nat.pow_succ] at h3
  simp only [be, Y5, List.head?_cons, ne_eq, Option.some.injEq]
  intro hc
  have hc' : (UInt8.ofNat (n / 256 ^ k)).toNat = 0 := by rw [hc]; rfl
  have hp : 0 < 256 ^ k := Nat.pos_of_ne_zero (by simp)
  have h4 : n / 256 ^ k < 256 := Nat.div_lt_of_lt_mul h3
  have h5 : 1 ≤ n / 256 ^ k := (Nat.one_le_div_iff hp).2 h2
  simp at hc'
  omega
theorem takeN_enc (n : Nat) (h : n < 18446744073709551616) (r : Bytes) : takeN (encN n ++ r) = .ok (n, r) := by
  have h8 := nb_le n h
  have hk : (UInt8.ofNat (nb n)).toNat = nb n := by simp; omega
  rw [encN, List.cons_append, takeN, hk, if_neg, if_neg]
  · rw [List.take_left' (be_length _ _), List.drop_left' (be_length _ _), fromBE_be, Nat.mod_eq_of_lt (nb_lt n h)]
  · rw [List.length_append, be_length]; omega
  · rintro (h1 | ⟨h1, h2⟩)
    · omega
    · exact head_be n (by rintro rfl; rw [nb_zero] at h1; omega) h r h2
theorem unzig_zig (n : Int) (h : -9223372036854775808 ≤ n) (h' : n ≤ 9223372036854775807) : unzig (zig n) = n := by
  unfold zig unzig
  split <;> split <;> omega
theorem takeZ_enc (n : Int) (h : -9223372036854775808 ≤ n) (h' : n ≤ 9223372036854775807) (r : Bytes) : takeZ (encN (zig n) ++ r) = .ok (n, r) := by
  rw [takeZ, takeN_enc _ (zig_lt n h h')]
  simp only [unzig_zig n h h']
theorem takeT_enc (s : Bytes) (most : Int) (h : s.length < 18446744073709551616) (hm : s.length ≤ max most 0) (r : Bytes) : takeT (encT s ++ r) most = .ok (s, r) := by
  rw [takeT, encT, List.append_assoc, takeN_enc _ h]
  simp only
  rw [if_neg (by omega), if_neg (by simp), List.take_left, List.drop_left]
theorem encRow_cons (s : Bytes) (l : List Bytes) : encRow (s :: l) = encT s ++ encRow l := by simp [encRow]
theorem takeTs_enc (l : List Bytes) (most : Int) (h : tot l < 18446744073709551616) (hm : ∀ s ∈ l, (s.length : Int) ≤ max most 0) (r : Bytes) : takeTs most l.length (encRow l ++ r) = .ok (l, r) := by
  induction l with
  | nil => rfl
  | cons s l ih =>
    rw [tot_cons] at h
    rw [List.length_cons, takeTs, encRow_cons, List.append_assoc, takeT_enc s most (by omega) (hm s (by simp))]
    simp only
    rw [ih (by omega) fun x hx => hm x (by simp [hx])]
theorem takeL_enc (l : List Bytes) (many most : Int) (h : tot l < 18446744073709551616) (hl : l.length ≤ max many 0) (hm : ∀ s ∈ l, (s.length : Int) ≤ max most 0) (r : Bytes) : takeL (encL l ++ r) many most = .ok (l, r) := by
  have := tot_length l
  rw [takeL, encL_row, List.append_assoc, takeN_enc _ (by omega)]
  simp only
  rw [if_neg (by omega), takeTs_enc l most h hm]
/-! ### what is taken, written again -/
theorem be_add (k a n : Nat) (j : Nat) (h : j ≤ k) : be j (n + a * 256 ^ k) = be j n := by
  induction j with
  | zero => rfl
  | succ j ih =>
    rw [be, be, ih (by omega)]
    congr 1
    have hp : 0 < 256 ^ j := Nat.pos_of_ne_zero (by simp)
    obtain ⟨d, hd⟩ : ∃ d, k = j + (d + 1) := ⟨k - j - 1, by omega⟩
    have : a * 256 ^ k = (a * 256 ^ d * 256) * 256 ^ j := by rw [hd, Nat.pow_add, Nat.pow_succ]; ac_rfl
    rw [this, Nat.add_mul_div_right _ _ hp]
    apply UInt8.toNat_inj.1
    simp
theorem fold_be (l : Bytes) (a : Nat) : l.foldl (fun n c => n * 256 + c.toNat) a = a * 256 ^ l.length + fromBE l := by
  induction l generalizing a with
  | nil => simp [fromBE]
  | cons c l ih =>
    have hf : fromBE (c :: l) = (0 * 256 + c.toNat) * 256 ^ l.length + fromBE l := by rw [← ih]; rfl
    rw [List.foldl_cons, ih, hf, List.length_cons, Nat.pow_succ, Nat.add_mul, Nat.add_mul, Nat.mul_assoc, Nat.mul_comm 256]
    omega
theorem fromBE_cons (c : UInt8) (l : Bytes) : fromBE (c :: l) = c.toNat * 256 ^ l.length + fromBE l := by
  rw [fromBE, List.foldl_cons, fold_be]; simp
theorem be_fromBE (l : Bytes) : be l.length (fromBE l) = l := by
  induction l with
  | nil => rfl
  | cons c l ih =>
    have hp : 0 < 256 ^ l.length := Nat.pos_of_ne_zero (by simp)
    rw [List.length_cons, be, fromBE_cons, Nat.add_comm, Nat.add_mul_div_right _ _ hp, Nat.div_eq_of_lt (fromBE_lt l), Nat.zero_add, be_add _ _ _ _ (Nat.le_refl _), ih]
    simp
theorem nb_fromBE (l : Bytes) (hl : l.length ≤ 8) (h : l = [] ∨ l.head? ≠ some 0) : nb (fromBE l) = l.length := by
  match l, hl, h with
  | [], _, _ => rfl
  | c :: l, hl, h =>
    have h : c ≠ 0 := by rcases h with h | h <;> simp at h; exact h
    have hc : 1 ≤ c.toNat := by
      have : c.toNat ≠ 0 := fun h0 => h (UInt8.toNat_inj.1 h0)
      omega
    have hlt := fromBE_lt (c :: l)
    have hge : 256 ^ l.length ≤ fromBE (c :: l) := by rw [fromBE_cons]; have := Nat.mul_le_mul_right (256 ^ l.length) hc; omega
    have hp : 0 < 256 ^ l.length := Nat.pos_of_ne_zero (by simp)
    have h64 : fromBE (c :: l) < 18446744073709551616 := Nat.lt_of_lt_of_le hlt (Nat.le_trans (Nat.pow_le_pow_right (by omega) hl) (by decide))
    have h1 := nb_lt _ h64
    have h2 := nb_ge _ (by omega) h64
    rw [List.length_cons] at hlt ⊢
    generalize fromBE (c :: l) = n at *
    rcases Nat.lt_trichotomy (nb n) (l.length + 1) with h3 | h3 | h3
    · have : 256 ^ nb n ≤ 256 ^ l.length := Nat.pow_le_pow_right (by omega) (by omega)
      omega
    · exact h3
    · have : 256 ^ (l.length + 1) ≤ 256 ^ (nb n - 1) := Nat.pow_le_pow_right (by omega) (by omega)
      omega
theorem takeN_only {b r : Bytes} {n : Nat} (h : takeN b = .ok (n, r)) : encN n ++ r = b := by
  match b, h with
  | k :: t, h =>
    rw [takeN] at h
    split at h
    · cases h
    · rename_i h1
      split at h
      · cases h
      · rename_i h2
        simp only [Except.ok.injEq, Prod.mk.injEq] at h
        obtain ⟨rfl, rfl⟩ := h
        have hlen : (t.take k.toNat).length = k.toNat := by rw [List.length_take]; omega
        have hnb := nb_fromBE (t.take k.toNat) (by omega) (by
          by_cases h0 : k.toNat = 0
          · left; rw [h0]; rfl
          · right
            intro hh
            apply h1
            right
            refine ⟨by omega, ?_⟩
            cases t with
            | nil => simp at hh
            | cons c t' =>
              obtain ⟨q, hq⟩ : ∃ q, k.toNat = q + 1 := ⟨k.toNat - 1, by omega⟩
              rw [hq, List.take_succ_cons] at hh
              exact hh)
        rw [hlen] at hnb
        have hbe := be_fromBE (t.take k.toNat)
        rw [hlen] at hbe
        rw [encN, hnb, hbe, List.cons_append, List.take_append_drop, UInt8.ofNat_toNat]
theorem zig_unzig (n : Nat) (h : n < 18446744073709551616) : zig (unzig n) = n := by
  unfold zig unzig
  split <;> split <;> omega
theorem takeZ_only {b r : Bytes} {n : Int} (h : takeZ b = .ok (n, r)) : encN (zig n) ++ r = b := by
  unfold takeZ at h
  split at h
  · cases h
  · rename_i m q hm
    simp only [Except.ok.injEq, Prod.mk.injEq] at h
    obtain ⟨rfl, rfl⟩ := h
    rw [zig_unzig m (taken_small hm).1]
    exact takeN_only hm
theorem takeT_only {b s r : Bytes} {most : Int} (h : takeT b most = .ok (s, r)) : encT s ++ r = b := by
  unfold takeT at h
  split at h
  · cases h
  · rename_i n q hn
    split at h
    · cases h
    · split at h
      · cases h
      · simp only [Except.ok.injEq, Prod.mk.injEq] at h
        obtain ⟨rfl, rfl⟩ := h
        rw [encT, List.length_take, Nat.min_eq_left (by omega), List.append_assoc, List.take_append_drop]
        exact takeN_only hn
theorem takeTs_only {n : Nat} {b r : Bytes} {l : List Bytes} {most : Int} (h : takeTs most n b = .ok (l, r)) : l.length = n ∧ encRow l ++ r = b := by
  induction n generalizing b l r with
  | zero => simp only [takeTs, Except.ok.injEq, Prod.mk.injEq] at h; obtain ⟨rfl, rfl⟩ := h; exact ⟨rfl, rfl⟩
  | succ n ih =>
    rw [takeTs] at h
    split at h
    · cases h
    · rename_i s q hs
      split at h
      · cases h
      · rename_i l' r' hl
        simp only [Except.ok.injEq, Prod.mk.injEq] at h
        obtain ⟨rfl, rfl⟩ := h
        obtain ⟨h1, h2⟩ := ih hl
        exact ⟨by rw [List.length_cons, h1], by rw [encRow_cons, List.append_assoc, h2, takeT_only hs]⟩
theorem takeL_only {b r : Bytes} {l : List Bytes} {many most : Int} (h : takeL b many most = .ok (l, r)) : encL l ++ r = b := by
  unfold takeL at h
  split at h
  · cases h
  · rename_i n q hn
    split at h
    · cases h
    · obtain ⟨h1, h2⟩ := takeTs_only h
      rw [encL_row, h1, List.append_assoc, h2]
      exact takeN_only hn
end Go.Proofs.Ytkamcoechjdgpaa
/-
  Package order: what an order may be, told by its shadow.
-/
namespace Go.Proofs.Ytkamcoechjdgpaa
open Go.RowKit
structure Ord where
  a : Int
  b : Int
  kind : Int
  s : Bytes
  t : Bytes
  x : Int
  y : Int
  z : Int
deriving DecidableEq
def encO (o : Ord) : AV := .agg [.int .i64 o.a, .int .i64 o.b, .int .i64 o.kind, .str o.s, .str o.t, .int .i64 o.x, .int .i64 o.y, .int .i64 o.z]
def usedO (o : Ord) : Ord :=
  if o.kind = 1 then ⟨o.a, o.b, o.kind, o.s, o.t, 0, o.y, 0⟩
  else if o.kind = 2 ∨ o.kind = 5 ∨ o.kind = 10 ∨ o.kind = 11 then ⟨o.a, o.b, o.kind, o.s, [], 0, 0, 0⟩
  else if o.kind = 3 then ⟨o.a, o.b, o.kind, o.s, o.t, o.x, 0, 0⟩
  else if o.kind = 4 then ⟨o.a, o.b, o.kind, o.s, [], o.x, 0, 0⟩
  else if o.kind = 6 then ⟨o.a, o.b, o.kind, [], [], 0, o.y, o.z⟩
  else if o.kind = 7 ∨ o.kind = 8 then ⟨o.a, o.b, o.kind, [], [], 0, o.y, 0⟩
  else if o.kind = 9 then ⟨o.a, o.b, o.kind, [], [], 0, 0, o.z⟩
  else ⟨o.a, o.b, o.kind, [], [], 0, 0, 0⟩
theorem used_1 (o : Ord) (h : o.kind = 1) : ASpec Try.prog 68 [encO o] (encO (usedO o)) := by
  refine ⟨⟨_, Try.func68, by kernel_rfl, rfl⟩, ACall.of Try.func68 rfl fun c0 hc0 => ?_⟩; simp only [Try.ntmps68, Ya, Y9, Nat.reduceAdd, Nat.reduceSub, Ym, Yn, Y5, Y3]; refine Run.god tab_ok follows_ok Try.func68 60 ?_; simp only [Try.results68, encO, h, ↓alt_t, drun, adops, adone, places, mayNeed, freeOk, rdOf, AV.id, wrOf, aops, aone, afin, ares, aresL, ares1, aresOk, aresOk1, aop, needs, ext, aev, aconst, aput, aupd, aload, astore, afieldAddr, acmp, ashift, abin, abuild, tab_3, tab_9, tab_29, ok1, lay, cellsAs, TI.agg, AV.cells, AV.whole, exitTo, Y4, Yb, Yc, Y6, Y7, Ya, Y9, Y1, Y2, Yi, Yh, Yg, Yj, Yk, Yl, Yf, Ye, Y5, Y3, Yd, Yt, Yu, Ys, Yr, Nat.reduceAdd, Nat.reduceLeDiff, Nat.reduceBEq, Yp, Yq, beq_self_eq_true, decide_true, Yv, Y0, Y8]
  refine ⟨rfl, rfl, ?_⟩
  simp only [usedO, h, Int.reduceEq, reduceIte, or_self]
  (repeat' first | exact .refl _ | apply LeR.tup | apply Le.agg | constructor)
theorem used_2 (o : Ord) (h : o.kind = 2) : ASpec Try.prog 68 [encO o] (encO (usedO o)) := by
  refine ⟨⟨_, Try.func68, by kernel_rfl, rfl⟩, ACall.of Try.func68 rfl fun c0 hc0 => ?_⟩; simp only [Try.ntmps68, Ya, Y9, Nat.reduceAdd, Nat.reduceSub, Ym, Yn, Y5, Y3]; refine Run.god tab_ok follows_ok Try.func68 60 ?_; simp only [Try.results68, encO, h, ↓alt_t, ↓alt_f, Int.reduceEq, drun, aops, aone, afin, ares, aresL, ares1, aresOk, aresOk1, aop, needs, ext, aev, aconst, aput, aupd, aload, astore, afieldAddr, acmp, ashift, abin, abuild, tab_3, tab_9, tab_29, ok1, lay, cellsAs, TI.agg, AV.cells, AV.whole, exitTo, Y4, Yb, Yc, Y6, Y7, Ya, Y9, Y1, Y2, Yi, Yh, Yg, Yj, Yk, Yl, Yf, Ye, Y5, Y3, Yd, Yt, Yu, Ys, Yr, Nat.reduceAdd, Nat.reduceLeDiff, Nat.reduceBEq, Yp, Yq, beq_self_eq_true, decide_true, decide_false, Yv, Y0, Y8]
  simp only [usedO, h, Int.reduceEq, reduceIte, or_false, or_self]
  (repeat' first | exact .refl _ | apply LeR.tup | apply Le.agg | constructor)
theorem used_3 (o : Ord) (h : o.kind = 3) : ASpec Try.prog 68 [encO o] (encO (usedO o)) := by
  refine ⟨⟨_, Try.func68, by kernel_rfl, rfl⟩, ACall.of Try.func68 rfl fun c0 hc0 => ?_⟩; simp only [Try.ntmps68, Ya, Y9, Nat.reduceAdd, Nat.reduceSub, Ym, Yn, Y5, Y3]; refine Run.god tab_ok follows_ok Try.func68 60 ?_; simp only [Try.results68, encO, h, ↓alt_t, ↓alt_f, Int.reduceEq, drun, adops, adone, places, mayNeed, freeOk, rdOf, AV.id, wrOf, aops, aone, afin, ares, aresL, ares1, aresOk, aresOk1, aop, needs, ext, aev, aconst, aput, aupd, aload, astore, afieldAddr, acmp, ashift, abin, abuild, tab_3, tab_9, tab_29, ok1, lay, cellsAs, TI.agg, AV.cells, AV.whole, exitTo, Y4, Yb, Yc, Y6, Y7, Ya, Y9, Y1, Y2, Yi, Yh, Yg, Yj, Yk, Yl, Yf, Ye, Y5, Y3, Yd, Yt, Yu, Ys, Yr, Nat.reduceAdd, Nat.reduceLeDiff, Nat.reduceBEq, Yp, Yq, beq_self_eq_true, decide_true, decide_false, Yv, Y0, Y8]
  refine ⟨rfl, rfl, ?_⟩
  simp only [usedO, h, Int.reduceEq, reduceIte, or_self]
  (repeat' first | exact .refl _ | apply LeR.tup | apply Le.agg | constructor)
theorem used_4 (o : Ord) (h : o.kind = 4) : ASpec Try.prog 68 [encO o] (encO (usedO o)) := by
  refine ⟨⟨_, Try.func68, by kernel_rfl, rfl⟩, ACall.of Try.func68 rfl fun c0 hc0 => ?_⟩; simp only [Try.ntmps68, Ya, Y9, Nat.reduceAdd, Nat.reduceSub, Ym, Yn, Y5, Y3]; refine Run.god tab_ok follows_ok Try.func68 60 ?_; simp only [Try.results68, encO, h, ↓alt_t, ↓alt_f, Int.reduceEq, drun, adops, adone, places, mayNeed, freeOk, rdOf, AV.id, wrOf, aops, aone, afin, ares, aresL, ares1, aresOk, aresOk1, aop, needs, ext, aev, aconst, aput, aupd, aload, astore, afieldAddr, acmp, ashift, abin, abuild, tab_3, tab_9, tab_29, ok1, lay, cellsAs, TI.agg, AV.cells, AV.whole, exitTo, Y4, Yb, Yc, Y6, Y7, Ya, Y9, Y1, Y2, Yi, Yh, Yg, Yj, Yk, Yl, Yf, Ye, Y5, Y3, Yd, Yt, Yu, Ys, Yr, Nat.reduceAdd, Nat.reduceLeDiff, Nat.reduceBEq, Yp, Yq, beq_self_eq_true, decide_true, decide_false, Yv, Y0, Y8]
  refine ⟨rfl, rfl, ?_⟩
  simp only [usedO, h, Int.reduceEq, reduceIte, or_self]
  (repeat' first | exact .refl _ | apply LeR.tup | apply Le.agg | constructor)
theorem used_5 (o : Ord) (h : o.kind = 5) : ASpec Try.prog 68 [encO o] (encO (usedO o)) := by
  refine ⟨⟨_, Try.func68, by kernel_rfl, rfl⟩, ACall.of Try.func68 rfl fun c0 hc0 => ?_⟩; simp only [Try.ntmps68, Ya, Y9, Nat.reduceAdd, Nat.reduceSub, Ym, Yn, Y5, Y3]; refine Run.god tab_ok follows_ok Try.func68 60 ?_; simp only [Try.results68, encO, h, ↓alt_t, ↓alt_f, Int.reduceEq, drun, aops, aone, afin, ares, aresL, ares1, aresOk, aresOk1, aop, needs, ext, aev, aconst, aput, aupd, aload, astore, afieldAddr, acmp, ashift, abin, abuild, tab_3, tab_9, tab_29, ok1, lay, cellsAs, TI.agg, AV.cells, AV.whole, exitTo, Y4, Yb, Yc, Y6, Y7, Ya, Y9, Y1, Y2, Yi, Yh, Yg, Yj, Yk, Yl, Yf, Ye, Y5, Y3, Yd, Yt, Yu, Ys, Yr, Nat.reduceAdd, Nat.reduceLeDiff, Nat.reduceBEq, Yp, Yq, beq_self_eq_true, decide_true, decide_false, Yv, Y0, Y8]
  simp only [usedO, h, Int.reduceEq, reduceIte, or_true, or_false, or_self]
  (repeat' first | exact .refl _ | apply LeR.tup | apply Le.agg | constructor)
theorem used_6 (o : Ord) (h : o.kind = 6) : ASpec Try.prog 68 [encO o] (encO (usedO o)) := by
  refine ⟨⟨_, Try.func68, by kernel_rfl, rfl⟩, ACall.of Try.func68 rfl fun c0 hc0 => ?_⟩; simp only [Try.ntmps68, Ya, Y9, Nat.reduceAdd, Nat.reduceSub, Ym, Yn, Y5, Y3]; refine Run.god tab_ok follows_ok Try.func68 60 ?_; simp only [encO, h, ↓alt_t, ↓alt_f, Int.reduceEq, drun, aops, aone, aop, needs, ext, aev, aconst, aput, aupd, aload, astore, afieldAddr, acmp, ashift, abin, abuild, tab_3, tab_29, ok1, lay, cellsAs, TI.agg, AV.cells, AV.whole, exitTo, Y4, Yb, Yc, Y6, Y7, Ya, Y9, Y1, Y2, Yi, Yh, Yg, Yj, Yk, Yl, Yf, Ye, Y5, Y3, Yd, Yt, Yu, Ys, Yr, Nat.reduceAdd, Nat.reduceLeDiff, Nat.reduceBEq, Yp, Yq, beq_self_eq_true, decide_true, decide_false, Yv, Y0, Y8]
  refine Run.god tab_ok follows_ok Try.func68 60 ?_; simp only [Try.results68, drun, aops, aone, afin, ares, aresL, ares1, aresOk, aresOk1, aop, needs, ext, aev, aput, aupd, aload, astore, afieldAddr, tab_3, tab_29, ok1, lay, cellsAs, TI.agg, AV.cells, AV.whole, exitTo, Y4, Yb, Yc, Y6, Y7, Ya, Y9, Y1, Y2, Yi, Yh, Yg, Yj, Yk, Yl, Y5, Y3, Yd, Yt, Yu, Ys, Yr, Nat.reduceAdd, Nat.reduceLeDiff, Nat.reduceBEq, Yp, beq_self_eq_true, Yv, Y0, Y8]
  simp only [usedO, h, Int.reduceEq, reduceIte, or_self]
  (repeat' first | exact .refl _ | apply LeR.tup | apply Le.agg | constructor)
theorem used_7 (o : Ord) (h : o.kind = 7) : ASpec Try.prog 68 [encO o] (encO (usedO o)) := by
  refine ⟨⟨_, Try.func68, by kernel_rfl, rfl⟩, ACall.of Try.func68 rfl fun c0 hc0 => ?_⟩; simp only [Try.ntmps68, Ya, Y9, Nat.reduceAdd, Nat.reduceSub, Ym, Yn, Y5, Y3]; refine Run.god tab_ok follows_ok Try.func68 60 ?_; simp only [encO, h, ↓alt_f, Int.reduceEq, drun, aops, aone, aop, needs, ext, aev, aconst, aput, aupd, aload, astore, afieldAddr, acmp, ashift, abin, abuild, tab_3, tab_29, ok1, lay, cellsAs, TI.agg, AV.cells, AV.whole, Y4, Yb, Yc, Y6, Y7, Ya, Y9, Y1, Y2, Yi, Yh, Yg, Yj, Yl, Yf, Ye, Y5, Y3, Yd, Yt, Yu, Ys, Yr, Nat.reduceAdd, Nat.reduceLeDiff, Yp, Yq, decide_false, Yv, Y0, Y8]
  refine Run.god tab_ok follows_ok Try.func68 60 ?_; simp only [Try.results68, ↓alt_t, drun, aops, aone, afin, ares, aresL, ares1, aresOk, aresOk1, aop, needs, ext, aev, aconst, aput, aupd, aload, astore, afieldAddr, acmp, ashift, abin, tab_3, tab_29, ok1, lay, cellsAs, TI.agg, AV.cells, AV.whole, exitTo, Y4, Yb, Yc, Y6, Y7, Ya, Y9, Y1, Y2, Yi, Yh, Yg, Yj, Yk, Yl, Y5, Y3, Yd, Yt, Yu, Ys, Yr, Nat.reduceAdd, Nat.reduceLeDiff, Nat.reduceBEq, Yp, beq_self_eq_true, decide_true, Yv, Y0, Y8]
  simp only [usedO, h, Int.reduceEq, reduceIte, or_false, or_self]
  (repeat' first | exact .refl _ | apply LeR.tup | apply Le.agg | constructor)
theorem used_8 (o : Ord) (h : o.kind = 8) : ASpec Try.prog 68 [encO o] (encO (usedO o)) := by
  refine ⟨⟨_, Try.func68, by kernel_rfl, rfl⟩, ACall.of Try.func68 rfl fun c0 hc0 => ?_⟩; simp only [Try.ntmps68, Ya, Y9, Nat.reduceAdd, Nat.reduceSub, Ym, Yn, Y5, Y3]; refine Run.god tab_ok follows_ok Try.func68 60 ?_; simp only [encO, h, ↓alt_f, Int.reduceEq, drun, aops, aone, aop, needs, ext, aev, aconst, aput, aupd, aload, astore, afieldAddr, acmp, ashift, abin, abuild, tab_3, tab_29, ok1, lay, cellsAs, TI.agg, AV.cells, AV.whole, Y4, Yb, Yc, Y6, Y7, Ya, Y9, Y1, Y2, Yi, Yh, Yg, Yj, Yl, Yf, Ye, Y5, Y3, Yd, Yt, Yu, Ys, Yr, Nat.reduceAdd, Nat.reduceLeDiff, Yp, Yq, decide_false, Yv, Y0, Y8]
  refine Run.god tab_ok follows_ok Try.func68 60 ?_; simp only [Try.results68, ↓alt_t, ↓alt_f, Int.reduceEq, drun, aops, aone, afin, ares, aresL, ares1, aresOk, aresOk1, aop, needs, ext, aev, aconst, aput, aupd, aload, astore, afieldAddr, acmp, ashift, abin, tab_3, tab_29, ok1, lay, cellsAs, TI.agg, AV.cells, AV.whole, exitTo, Y4, Yb, Yc, Y6, Y7, Ya, Y9, Y1, Y2, Yi, Yh, Yg, Yj, Yk, Yl, Y5, Y3, Yd, Yt, Yu, Ys, Yr, Nat.reduceAdd, Nat.reduceLeDiff, Nat.reduceBEq, Yp, beq_self_eq_true, decide_true, decide_false, Yv, Y0, Y8]
  simp only [usedO, h, Int.reduceEq, reduceIte, or_true, or_self]
  (repeat' first | exact .refl _ | apply LeR.tup | apply Le.agg | constructor)
theorem used_9 (o : Ord) (h : o.kind = 9) : ASpec Try.prog 68 [encO o] (encO (usedO o)) := by
  refine ⟨⟨_, Try.func68, by kernel_rfl, rfl⟩, ACall.of Try.func68 rfl fun c0 hc0 => ?_⟩; simp only [Try.ntmps68, Ya, Y9, Nat.reduceAdd, Nat.reduceSub, Ym, Yn, Y5, Y3]; refine Run.god tab_ok follows_ok Try.func68 60 ?_; simp only [encO, h, ↓alt_f, Int.reduceEq, drun, aops, aone, aop, needs, ext, aev, aconst, aput, aupd, aload, astore, afieldAddr, acmp, ashift, abin, abuild, tab_3, tab_29, ok1, lay, cellsAs, TI.agg, AV.cells, AV.whole, Y4, Yb, Yc, Y6, Y7, Ya, Y9, Y1, Y2, Yi, Yh, Yg, Yj, Yl, Yf, Ye, Y5, Y3, Yd, Yt, Yu, Ys, Yr, Nat.reduceAdd, Nat.reduceLeDiff, Yp, Yq, decide_false, Yv, Y0, Y8]
  refine Run.god tab_ok follows_ok Try.func68 60 ?_; simp only [Try.results68, ↓alt_t, ↓alt_f, Int.reduceEq, drun, aops, aone, afin, ares, aresL, ares1, aresOk, aresOk1, aop, needs, ext, aev, aconst, aput, aupd, aload, astore, afieldAddr, acmp, ashift, abin, tab_3, tab_29, ok1, lay, cellsAs, TI.agg, AV.cells, AV.whole, exitTo, Y4, Yb, Yc, Y6, Y7, Ya, Y9, Y1, Y2, Yi, Yh, Yg, Yj, Yk, Yl, Y5, Y3, Yd, Yt, Yu, Ys, Yr, Nat.reduceAdd, Nat.reduceBEq, Yp, beq_self_eq_true, decide_true, decide_false, Yv, Y0, Y8]
  simp only [usedO, h, Int.reduceEq, reduceIte, or_self]
  (repeat' first | exact .refl _ | apply LeR.tup | apply Le.agg | constructor)
theorem used_10 (o : Ord) (h : o.kind = 10) : ASpec Try.prog 68 [encO o] (encO (usedO o)) := by
  refine ⟨⟨_, Try.func68, by kernel_rfl, rfl⟩, ACall.of Try.func68 rfl fun c0 hc0 => ?_⟩; simp only [Try.ntmps68, Ya, Y9, Nat.reduceAdd, Nat.reduceSub, Ym, Yn, Y5, Y3]; refine Run.god tab_ok follows_ok Try.func68 60 ?_; simp only [Try.results68, encO, h, ↓alt_t, ↓alt_f, Int.reduceEq, drun, aops, aone, afin, ares, aresL, ares1, aresOk, aresOk1, aop, needs, ext, aev, aconst, aput, aupd, aload, astore, afieldAddr, acmp, ashift, abin, abuild, tab_3, tab_9, tab_29, ok1, lay, cellsAs, TI.agg, AV.cells, AV.whole, exitTo, Y4, Yb, Yc, Y6, Y7, Ya, Y9, Y1, Y2, Yi, Yh, Yg, Yj, Yk, Yl, Yf, Ye, Y5, Y3, Yd, Yt, Yu, Ys, Yr, Nat.reduceAdd, Nat.reduceLeDiff, Nat.reduceBEq, Yp, Yq, beq_self_eq_true, decide_true, decide_false, Yv, Y0, Y8]
  simp only [usedO, h, Int.reduceEq, reduceIte, or_true, or_false, or_self]
  (repeat' first | exact .refl _ | apply LeR.tup | apply Le.agg | constructor)
theorem used_11 (o : Ord) (h : o.kind = 11) : ASpec Try.prog 68 [encO o] (encO (usedO o)) := by
  refine ⟨⟨_, Try.func68, by kernel_rfl, rfl⟩, ACall.of Try.func68 rfl fun c0 hc0 => ?_⟩; simp only [Try.ntmps68, Ya, Y9, Nat.reduceAdd, Nat.reduceSub, Ym, Yn, Y5, Y3]; refine Run.god tab_ok follows_ok Try.func68 60 ?_; simp only [Try.results68, encO, h, ↓alt_t, ↓alt_f, Int.reduceEq, drun, aops, aone, afin, ares, aresL, ares1, aresOk, aresOk1, aop, needs, ext, aev, aconst, aput, aupd, aload, astore, afieldAddr, acmp, ashift, abin, abuild, tab_3, tab_9, tab_29, ok1, lay, cellsAs, TI.agg, AV.cells, AV.whole, exitTo, Y4, Yb, Yc, Y6, Y7, Ya, Y9, Y1, Y2, Yi, Yh, Yg, Yj, Yk, Yl, Yf, Ye, Y5, Y3, Yd, Yt, Yu, Ys, Yr, Nat.reduceAdd, Nat.reduceLeDiff, Nat.reduceBEq, Yp, Yq, beq_self_eq_true, decide_true, decide_false, Yv, Y0, Y8]
  simp only [usedO, h, Int.reduceEq, reduceIte, or_true, or_self]
  (repeat' first | exact .refl _ | apply LeR.tup | apply Le.agg | constructor)
theorem used_0 (o : Ord) (h1 : ¬ o.kind = 1) (h2 : ¬ o.kind = 2) (h3 : ¬ o.kind = 3) (h4 : ¬ o.kind = 4) (h5 : ¬ o.kind = 5) (h6 : ¬ o.kind = 6) (h7 : ¬ o.kind = 7) (h8 : ¬ o.kind = 8) (h9 : ¬ o.kind = 9) (h10 : ¬ o.kind = 10) (h11 : ¬ o.kind = 11) : ASpec Try.prog 68 [encO o] (encO (usedO o)) := by
  refine ⟨⟨_, Try.func68, by kernel_rfl, rfl⟩, ACall.of Try.func68 rfl fun c0 hc0 => ?_⟩; simp only [Try.ntmps68, Ya, Y9, Nat.reduceAdd, Nat.reduceSub, Ym, Yn, Y5, Y3]; refine Run.god tab_ok follows_ok Try.func68 60 ?_; simp only [encO, h1, h2, h3, h4, h5, h6, h10, h11, ↓alt_f, drun, aops, aone, aop, needs, ext, aev, aconst, aput, aupd, aload, astore, afieldAddr, acmp, ashift, abin, abuild, tab_3, tab_29, ok1, lay, cellsAs, TI.agg, AV.cells, AV.whole, Y4, Yb, Yc, Y6, Y7, Ya, Y9, Y1, Y2, Yi, Yh, Yg, Yj, Yl, Yf, Ye, Y5, Y3, Yd, Yt, Yu, Ys, Yr, Nat.reduceAdd, Nat.reduceLeDiff, Yp, Yq, decide_false, Yv, Y0, Y8]
  refine Run.god tab_ok follows_ok Try.func68 60 ?_; simp only [Try.results68, h7, h8, h9, ↓alt_f, drun, aops, aone, afin, ares, aresL, ares1, aresOk, aresOk1, aop, needs, ext, aev, aconst, aput, aupd, aload, astore, acmp, ashift, abin, tab_3, tab_29, ok1, lay, cellsAs, TI.agg, AV.cells, AV.whole, exitTo, Y4, Yb, Yc, Y6, Y7, Ya, Y9, Y1, Y2, Yi, Yh, Yg, Yj, Yk, Yl, Y5, Y3, Yd, Yt, Yu, Ys, Yr, Nat.reduceAdd, Nat.reduceBEq, Yp, beq_self_eq_true, decide_false, Yv, Y0, Y8]
  simp only [usedO, h1, h2, h3, h4, h5, h6, h7, h8, h9, h10, h11, Yr, or_self]
  (repeat' first | exact .refl _ | apply LeR.tup | apply Le.agg | constructor)
theorem used_spec (o : Ord) : ASpec Try.prog 68 [encO o] (encO (usedO o)) :=
  if h1 : o.kind = 1 then used_1 o h1 else
  if h2 : o.kind = 2 then used_2 o h2 else
  if h3 : o.kind = 3 then used_3 o h3 else
  if h4 : o.kind = 4 then used_4 o h4 else
  if h5 : o.kind = 5 then used_5 o h5 else
  if h6 : o.kind = 6 then used_6 o h6 else
  if h7 : o.kind = 7 then used_7 o h7 else
  if h8 : o.kind = 8 then used_8 o h8 else
  if h9 : o.kind = 9 then used_9 o h9 else
  if h10 : o.kind = 10 then used_10 o h10 else
  if h11 : o.kind = 11 then used_11 o h11 else
  used_0 o h1 h2 h3 h4 h5 h6 h7 h8 h9 h10 h11
end Go.Proofs.Ytkamcoechjdgpaa
/-
  order.May, told by its shadow.
-/
namespace Go.Proofs.Ytkamcoechjdgpaa
open Go.RowKit
def mayO (o : Ord) : Bool := decide (0 ≤ o.a) && decide (o.a ≤ 1000) && decide (1 ≤ o.b) && decide (o.b ≤ 1000000000) && decide (0 ≤ o.kind) && decide (o.kind ≤ 11) && decide ((o.s.length : Int) ≤ 100) && decide ((o.t.length : Int) ≤ 1000) && decide (o = usedO o)
theorem may_0 (o : Ord)  (q1 : ¬ 0 ≤ o.a) : ASpec Try.prog 37 [encO o] (.bool (mayO o)) := by
  have e : mayO o = false := by simp [mayO, q1]
  rw [e]
  refine ⟨⟨_, Try.func37, by kernel_rfl, rfl⟩, ACall.of Try.func37 rfl fun c0 hc0 => ?_⟩; simp only [Try.ntmps37, Ya, Y9, Nat.reduceAdd, Nat.reduceSub, Ym, Yn, Y5, Y3]; refine Run.god tab_ok follows_ok Try.func37 60 ?_; simp only [Try.results37, encO, q1, ↓alts_f, ↓gone_tf, ↓gdone_tf, gslot, drun, adops, adone, places, mayNeed, freeOk, rdOf, wrOf, aops, aone, afin, ares, aresL, ares1, aresOk, aresOk1, aop, needs, ext, aev, aconst, aput, aupd, aload, afieldAddr, acmp, ashift, abin, tab_3, tab_29, ok1, cellsAs, TI.agg, AV.cells, AV.whole, Y4, Yb, Yc, Y6, Y7, Ya, Y9, Y1, Y2, Yw, Yi, Yg, Yj, Y5, Y3, Yt, Yu, Ys, Yr, Nat.reduceAdd, Nat.reduceLeDiff, Yp, Yq, decide_false, Y0, Y8]
  exact ⟨rfl, rfl, .one (.refl _)⟩
theorem may_1 (o : Ord) (q1 : 0 ≤ o.a) (q2 : ¬ o.a ≤ 1000) : ASpec Try.prog 37 [encO o] (.bool (mayO o)) := by
  have e : mayO o = false := by simp [mayO, q1, q2]
  rw [e]
  refine ⟨⟨_, Try.func37, by kernel_rfl, rfl⟩, ACall.of Try.func37 rfl fun c0 hc0 => ?_⟩; simp only [Try.ntmps37, Ya, Y9, Nat.reduceAdd, Nat.reduceSub, Ym, Yn, Y5, Y3]; refine Run.god tab_ok follows_ok Try.func37 60 ?_; simp only [Try.results37, encO, q1, q2, ↓alts_t, ↓alts_f, ↓gone_tt, ↓gone_tf, ↓gdone_tf, gslot, drun, adops, adone, places, mayNeed, freeOk, rdOf, wrOf, aops, aone, afin, ares, aresL, ares1, aresOk, aresOk1, aop, needs, ext, aev, aconst, aput, aupd, aload, afieldAddr, acmp, ashift, abin, tab_3, tab_29, ok1, cellsAs, TI.agg, AV.cells, AV.whole, Y4, Yb, Yc, Y6, Y7, Ya, Y9, Y1, Y2, Yw, Yi, Yg, Yj, Y5, Y3, Yt, Yu, Ys, Yr, Nat.reduceAdd, Nat.reduceLeDiff, Yp, Yq, decide_true, decide_false, Y0, Y8]
  exact ⟨rfl, rfl, .one (.refl _)⟩
theorem may_2 (o : Ord) (q1 : 0 ≤ o.a) (q2 : o.a ≤ 1000) (q3 : ¬ 1 ≤ o.b) : ASpec Try.prog 37 [encO o] (.bool (mayO o)) := by
  have e : mayO o = false := by simp [mayO, q1, q2, q3]
  rw [e]
  refine ⟨⟨_, Try.func37, by kernel_rfl, rfl⟩, ACall.of Try.func37 rfl fun c0 hc0 => ?_⟩; simp only [Try.ntmps37, Ya, Y9, Nat.reduceAdd, Nat.reduceSub, Ym, Yn, Y5, Y3]; refine Run.god tab_ok follows_ok Try.func37 60 ?_; simp only [Try.results37, encO, q1, q2, q3, ↓alts_t, ↓alts_f, ↓gone_tt, ↓gone_tf, ↓gdone_tf, gslot, drun, adops, adone, places, mayNeed, freeOk, rdOf, wrOf, aops, aone, afin, ares, aresL, ares1, aresOk, aresOk1, aop, needs, ext, aev, aconst, aput, aupd, aload, afieldAddr, acmp, ashift, abin, tab_3, tab_29, ok1, cellsAs, TI.agg, AV.cells, AV.whole, Y4, Yb, Yc, Y6, Y7, Ya, Y9, Y1, Y2, Yw, Yi, Yh, Yg, Yj, Y5, Y3, Yt, Yu, Ys, Yr, Nat.reduceAdd, Nat.reduceLeDiff, Yp, Yq, decide_true, decide_false, Y0, Y8]
  exact ⟨rfl, rfl, .one (.refl _)⟩
theorem may_3 (o : Ord) (q1 : 0 ≤ o.a) (q2 : o.a ≤ 1000) (q3 : 1 ≤ o.b) (q4 : ¬ o.b ≤ 1000000000) : ASpec Try.prog 37 [encO o] (.bool (mayO o)) := by
  have e : mayO o = false := by simp [mayO, q1, q2, q3, q4]
  rw [e]
  refine ⟨⟨_, Try.func37, by kernel_rfl, rfl⟩, ACall.of Try.func37 rfl fun c0 hc0 => ?_⟩; simp only [Try.ntmps37, Ya, Y9, Nat.reduceAdd, Nat.reduceSub, Ym, Yn, Y5, Y3]; refine Run.god tab_ok follows_ok Try.func37 60 ?_; simp only [Try.results37, encO, q1, q2, q3, q4, ↓alts_t, ↓alts_f, ↓gone_tt, ↓gdone_tf, gslot, drun, adops, adone, places, mayNeed, freeOk, rdOf, wrOf, aops, aone, afin, ares, aresL, ares1, aresOk, aresOk1, aop, needs, ext, aev, aconst, aput, aupd, aload, afieldAddr, acmp, ashift, abin, tab_3, tab_29, ok1, cellsAs, TI.agg, AV.cells, AV.whole, Y4, Yb, Yc, Y6, Y7, Ya, Y9, Y1, Y2, Yw, Yi, Yh, Yg, Yj, Y5, Y3, Yt, Yu, Ys, Yr, Nat.reduceAdd, Nat.reduceLeDiff, Yp, Yq, decide_true, decide_false, Y0, Y8]
  exact ⟨rfl, rfl, .one (.refl _)⟩
theorem may_4 (o : Ord) (q1 : 0 ≤ o.a) (q2 : o.a ≤ 1000) (q3 : 1 ≤ o.b) (q4 : o.b ≤ 1000000000) (q5 : ¬ 0 ≤ o.kind) : ASpec Try.prog 37 [encO o] (.bool (mayO o)) := by
  have e : mayO o = false := by simp [mayO, q1, q2, q3, q4, q5]
  rw [e]
  refine ⟨⟨_, Try.func37, by kernel_rfl, rfl⟩, ACall.of Try.func37 rfl fun c0 hc0 => ?_⟩; simp only [Try.ntmps37, Ya, Y9, Nat.reduceAdd, Nat.reduceSub, Ym, Yn, Y5, Y3]; refine Run.god tab_ok follows_ok Try.func37 60 ?_; simp only [Try.results37, encO, q1, q2, q3, q4, q5, ↓alts_t, ↓alts_f, ↓gone_tt, ↓gdone_tt, ↓gdone_tf, gslot, drun, adops, adone, places, mayNeed, freeOk, rdOf, AV.id, wrOf, aops, aone, afin, ares, aresL, ares1, aresOk, aresOk1, aop, needs, ext, aev, aconst, aput, aupd, aload, afieldAddr, acmp, ashift, abin, tab_3, tab_29, ok1, cellsAs, TI.agg, AV.cells, AV.whole, Y4, Yb, Yc, Y6, Y7, Ya, Y9, Y1, Y2, Yw, Yi, Yh, Yg, Yj, Y5, Y3, Yt, Yu, Ys, Yr, Nat.reduceAdd, Nat.reduceLeDiff, Yp, Yq, decide_true, decide_false, Y0, Y8]
  exact ⟨rfl, rfl, .one (.refl _)⟩
theorem may_5 (o : Ord) (q1 : 0 ≤ o.a) (q2 : o.a ≤ 1000) (q3 : 1 ≤ o.b) (q4 : o.b ≤ 1000000000) (q5 : 0 ≤ o.kind) (q6 : ¬ o.kind ≤ 11) : ASpec Try.prog 37 [encO o] (.bool (mayO o)) := by
  have e : mayO o = false := by simp [mayO, q1, q2, q3, q4, q5, q6]
  rw [e]
  refine ⟨⟨_, Try.func37, by kernel_rfl, rfl⟩, ACall.of Try.func37 rfl fun c0 hc0 => ?_⟩; simp only [Try.ntmps37, Ya, Y9, Nat.reduceAdd, Nat.reduceSub, Ym, Yn, Y5, Y3]; refine Run.god tab_ok follows_ok Try.func37 60 ?_; simp only [Try.results37, encO, q1, q2, q3, q4, q5, q6, ↓alts_t, ↓alts_f, ↓gone_tt, ↓gdone_tt, ↓gdone_tf, gslot, drun, adops, adone, places, mayNeed, freeOk, rdOf, AV.id, wrOf, aops, aone, afin, ares, aresL, ares1, aresOk, aresOk1, aop, needs, ext, aev, aconst, aput, aupd, aload, afieldAddr, acmp, ashift, abin, tab_3, tab_29, ok1, cellsAs, TI.agg, AV.cells, AV.whole, Y4, Yb, Yc, Y6, Y7, Ya, Y9, Y1, Y2, Yw, Yi, Yh, Yg, Yj, Y5, Y3, Yt, Yu, Ys, Yr, Nat.reduceAdd, Nat.reduceLeDiff, Yp, Yq, decide_true, decide_false, Y0, Y8]
  exact ⟨rfl, rfl, .one (.refl _)⟩
theorem may_6 (o : Ord) (q1 : 0 ≤ o.a) (q2 : o.a ≤ 1000) (q3 : 1 ≤ o.b) (q4 : o.b ≤ 1000000000) (q5 : 0 ≤ o.kind) (q6 : o.kind ≤ 11) (q7 : ¬ (o.s.length : Int) ≤ 100) : ASpec Try.prog 37 [encO o] (.bool (mayO o)) := by
  have e : mayO o = false := by simp [mayO, q1, q2, q3, q4, q5, q6, q7]
  rw [e]
  refine ⟨⟨_, Try.func37, by kernel_rfl, rfl⟩, ACall.of Try.func37 rfl fun c0 hc0 => ?_⟩; simp only [Try.ntmps37, Ya, Y9, Nat.reduceAdd, Nat.reduceSub, Ym, Yn, Y5, Y3]; refine Run.god tab_ok follows_ok Try.func37 60 ?_; simp only [Try.results37, encO, q1, q2, q3, q4, q5, q6, q7, ↓alts_t, ↓alts_f, ↓gone_tt, ↓gdone_tt, ↓gdone_tf, gslot, drun, adops, adone, places, mayNeed, freeOk, rdOf, AV.id, wrOf, aops, aone, afin, ares, aresL, ares1, aresOk, aresOk1, aop, needs, ext, aev, aconst, aput, aupd, aload, afieldAddr, acmp, ashift, abin, alen, tab_3, tab_9, tab_29, ok1, cellsAs, TI.agg, AV.cells, AV.whole, Y4, Yb, Yc, Y6, Y7, Ya, Y9, Y1, Y2, Yw, Yi, Yh, Yg, Yj, Y5, Y3, Yt, Yu, Ys, Yr, Nat.reduceAdd, Nat.reduceLeDiff, Yp, Yq, decide_true, decide_false, Y0, Y8]
  exact ⟨rfl, rfl, .one (.refl _)⟩
theorem may_7 (o : Ord) (q1 : 0 ≤ o.a) (q2 : o.a ≤ 1000) (q3 : 1 ≤ o.b) (q4 : o.b ≤ 1000000000) (q5 : 0 ≤ o.kind) (q6 : o.kind ≤ 11) (q7 : (o.s.length : Int) ≤ 100) (q8 : ¬ (o.t.length : Int) ≤ 1000) : ASpec Try.prog 37 [encO o] (.bool (mayO o)) := by
  have e : mayO o = false := by simp [mayO, q1, q2, q3, q4, q5, q6, q7, q8]
  rw [e]
  refine ⟨⟨_, Try.func37, by kernel_rfl, rfl⟩, ACall.of Try.func37 rfl fun c0 hc0 => ?_⟩; simp only [Try.ntmps37, Ya, Y9, Nat.reduceAdd, Nat.reduceSub, Ym, Yn, Y5, Y3]; refine Run.god tab_ok follows_ok Try.func37 60 ?_; simp only [Try.results37, encO, q1, q2, q3, q4, q5, q6, q7, q8, ↓alts_t, ↓alts_f, ↓gone_tt, ↓gdone_tt, ↓gdone_tf, gslot, drun, adops, adone, places, mayNeed, freeOk, rdOf, AV.id, wrOf, aops, aone, afin, ares, aresL, ares1, aresOk, aresOk1, aop, needs, ext, aev, aconst, aput, aupd, aload, afieldAddr, acmp, ashift, abin, alen, tab_3, tab_9, tab_29, ok1, cellsAs, TI.agg, AV.cells, AV.whole, Y4, Yb, Yc, Y6, Y7, Ya, Y9, Y1, Y2, Yw, Yi, Yh, Yg, Yj, Y5, Y3, Yt, Yu, Ys, Yr, Nat.reduceAdd, Nat.reduceLeDiff, Yp, Yq, decide_true, decide_false, Y0, Y8]
  exact ⟨rfl, rfl, .one (.refl _)⟩
theorem ord_eq (o p : Ord) : (decide (o.a = p.a) && (decide (o.b = p.b) && (decide (o.kind = p.kind) && (decide (o.s = p.s) && (decide (o.t = p.t) && (decide (o.x = p.x) && (decide (o.y = p.y) && (decide (o.z = p.z) && true)))))))) = decide (o = p) := by
  obtain ⟨a, b, k, s, t, x, y, z⟩ := o
  obtain ⟨a', b', k', s', t', x', y', z'⟩ := p
  rw [Bool.eq_iff_iff]; simp
theorem may_8 (o : Ord) (q1 : 0 ≤ o.a) (q2 : o.a ≤ 1000) (q3 : 1 ≤ o.b) (q4 : o.b ≤ 1000000000) (q5 : 0 ≤ o.kind) (q6 : o.kind ≤ 11) (q7 : (o.s.length : Int) ≤ 100) (q8 : (o.t.length : Int) ≤ 1000) : ASpec Try.prog 37 [encO o] (.bool (mayO o)) := by
  have e : mayO o = decide (o = usedO o) := by simp [mayO, q1, q2, q3, q4, q5, q6, q7, q8]
  rw [e, ← ord_eq]
  refine ⟨⟨_, Try.func37, by kernel_rfl, rfl⟩, ACall.of Try.func37 rfl fun c0 hc0 => ?_⟩; simp only [Try.ntmps37, Ya, Y9, Nat.reduceAdd, Nat.reduceSub, Ym, Yn, Y5, Y3]; refine Run.god tab_ok follows_ok Try.func37 60 ?_; simp only [encO, q1, q2, q3, q4, q5, q6, q7, q8, ↓alts_t, ↓gone_tt, ↓gdone_tt, gslot, drun, adops, adone, places, mayNeed, freeOk, rdOf, AV.id, wrOf, aops, aone, aop, needs, ext, aev, aconst, aput, aupd, aload, afieldAddr, acmp, ashift, abin, alen, tab_3, tab_9, tab_29, ok1, cellsAs, TI.agg, AV.cells, AV.whole, Y4, Yb, Yc, Y6, Y7, Ya, Y9, Y1, Y2, Yw, Yi, Yh, Yg, Yj, Yk, Y5, Y3, Yt, Yu, Ys, Yr, Nat.reduceAdd, Nat.reduceLeDiff, Yp, Yq, Bool.and_true, decide_true, Yv, Y0, Y8]
  refine ⟨rfl, ?_⟩
  refine DOps.pure rfl (Wanted.test 23 true true rfl) rfl rfl (used_spec o) (by simp only [encO, aev, Y4, Y1, Y2, Yf, Ye, Y3, Yd, Y0]; (repeat' first | exact .refl _ | apply LeR.tup | apply Le.agg | constructor)) rfl rfl ?_
  refine DOps.god tab_ok follows_ok Try.func37 60 rfl ?_; simp only [Try.results37, encO, ↓alts_t, ↓gdone_tt, gslot, drun, adops, adone, mayNeed, freeOk, rdOf, wrOf, afin, ares, aresL, ares1, aresOk, aresOk1, aop, needs, aev, aput, aupd, aeqs, abin, tab_29, ok1, Y4, Yb, Yc, Y6, Y7, Y1, Y2, Yw, Y5, Y3, Yt, Yu, Ys, Yr, Nat.reduceAdd, Bool.and_true, Y0, Y8]
  exact ⟨rfl, .one (.refl _)⟩
theorem may_spec (o : Ord) : ASpec Try.prog 37 [encO o] (.bool (mayO o)) :=
  if q1 : 0 ≤ o.a then
  if q2 : o.a ≤ 1000 then
  if q3 : 1 ≤ o.b then
  if q4 : o.b ≤ 1000000000 then
  if q5 : 0 ≤ o.kind then
  if q6 : o.kind ≤ 11 then
  if q7 : (o.s.length : Int) ≤ 100 then
  if q8 : (o.t.length : Int) ≤ 1000 then
  may_8 o q1 q2 q3 q4 q5 q6 q7 q8
  else may_7 o q1 q2 q3 q4 q5 q6 q7 q8
  else may_6 o q1 q2 q3 q4 q5 q6 q7
  else may_5 o q1 q2 q3 q4 q5 q6
  else may_4 o q1 q2 q3 q4 q5
  else may_3 o q1 q2 q3 q4
  else may_2 o q1 q2 q3
  else may_1 o q1 q2
  else may_0 o q1
end Go.Proofs.Ytkamcoechjdgpaa
/-
  math/bits.Len64 at this translation, by the shelf's contract.
-/
namespace Go.Proofs.Ytkamcoechjdgpaa
open Go.Shelf
def lays129_ren : Go.Shelf.Ren := ⟨fun | 129 => 98 | n => n, fun | 53 => 189 | 3 => 3 | 4 => 4 | 46 => 137 | 5 => 5 | 9 => 9 | n => n, fun | n => n⟩
theorem lays129 : Go.Proofs.Lays.n129 Try.prog lays129_ren := {
  mixed := by kernel_rfl
  f129 := Try.func98.trans (congrArg some (by kernel_rfl))
  t3 := Try.underlying3
  a3 := Try.isAgg3
  z3 := Try.sizeOf3
  v3 := Try.zeroValue3
  t4 := Try.underlying4
  a4 := Try.isAgg4
  z4 := Try.sizeOf4
  v4 := Try.zeroValue4
  t5 := Try.underlying5
  a5 := Try.isAgg5
  z5 := Try.sizeOf5
  v5 := Try.zeroValue5
  t9 := Try.underlying9
  a9 := Try.isAgg9
  z9 := Try.sizeOf9
  v9 := Try.zeroValue9
  t46 := Try.underlying137
  a46 := Try.isAgg137
  z46 := Try.sizeOf137
  v46 := Try.zeroValue137
  t53 := Try.underlying189
  a53 := Try.isAgg189
  z53 := Try.sizeOf189
  v53 := Try.zeroValue189 }
theorem len64_any (x : Int) (w : World) (h0 : 0 ≤ x) (h1 : x ≤ 18446744073709551615) :
    Calls Try.prog 98 #[.int .u64 x] w fun e w' => e = .returned (.int .i64 (Lib.bitLen x.toNat)) ∧ w' = w := Any.bits_Len64 lays129 x w h0 h1
end Go.Proofs.Ytkamcoechjdgpaa
/-
  Package octet's writers, told by their shadows.
-/
namespace Go.Proofs.Ytkamcoechjdgpaa
open Go.RowKit
theorem len64_spec (n : Nat) (h : n < 18446744073709551616) : ASpec Try.prog 98 [.int .u64 n] (.int .i64 (Lib.bitLen n)) := by
  refine still_spec ⟨_, Try.func98, by kernel_rfl, rfl⟩ (v := .int .i64 (Lib.bitLen n)) (fun c => .int _ _) fun c vs ht => ?_
  obtain ⟨h1, h2⟩ := ht
  obtain ⟨vs⟩ := vs
  match vs, h1 with
  | [v], _ =>
    have hv := h2 0 v _ rfl rfl
    cases hv
    exact len64_any n c.w (by omega) (by omega)
theorem sizeN_spec (n : Nat) (h : n < 18446744073709551616) : ASpec Try.prog 96 [.int .u64 n] (.int .i64 (1 + nb n : Nat)) := by
  have hb := bitLen_nb n h
  have hl := nb_le n h
  have h1 := len64_spec n h
  have hq : ((Lib.bitLen n : Int) + 7).tdiv 8 = (nb n : Int) := by rw [Int.tdiv_eq_ediv_of_nonneg (by omega)]; omega
  refine ⟨⟨_, Try.func96, by kernel_rfl, rfl⟩, ACall.of Try.func96 rfl fun c0 hc0 => ?_⟩; simp only [Try.ntmps96, Ya, Y9, Nat.reduceAdd, Nat.reduceSub, Ym, Yn, Y5, Y3]; refine Run.god tab_ok follows_ok Try.func96 60 ?_; simp only [drun, aops, aone, aop, needs, ext, aev, aconst, aput, aupd, ok1, Y4, Y6, Y7, Y1, Y3, Yt, Yr, Yp, Y0, Y8]
  refine Ops.pure .free rfl rfl (h1) (by simp only [aev, Y4, Y1, Y2, Yf, Ye, Y3, Yd, Y0]; (repeat' first | exact .refl _ | apply LeR.tup | apply Le.agg | constructor)) rfl rfl ?_
  refine Ops.god tab_ok follows_ok Try.func96 60 ?_; simp only [Try.results96, hq, drun, aops, aone, afin, ares, aresL, ares1, aresOk, aresOk1, aop, needs, ext, aev, aconst, aput, aupd, acmp, aarith, ashift, abin, tab_3, ok1, Y4, Yb, Yc, Y6, Y7, Y1, Y2, Y3, Yt, Yu, Ys, Yr, Y0, Y8]
  unfold I64
  refine ⟨by omega, ⟨by omega, by omega⟩, by omega, ?_⟩
  rw [show (1 + (nb n : Int)) = ((1 + nb n : Nat) : Int) by omega]
  (repeat' first | exact .refl _ | apply LeR.tup | apply Le.agg | constructor)
theorem clip_spec (b : Bytes) : OSpec Try.prog 97 [bytesA b] 1 (b.map byteC) := by
  refine ⟨⟨_, Try.func97, by kernel_rfl, rfl⟩, ACall.of Try.func97 rfl fun c0 hc0 => ?_⟩; simp only [Try.ntmps97, Ya, Y9, Nat.reduceAdd, Nat.reduceSub, Ym, Yn, Y5, Y3]; refine Run.god tab_ok follows_ok Try.func97 60 ?_; simp only [Try.results97, bytesA, Yo, aslice3, drun, aops, aone, afin, ares, aresL, ares1, aresOk, aresOk1, aop, needs, ext, aev, aconst, aput, aupd, alen, tab_5, tab_85, ok1, Y4, Yb, Yc, Option.map_none, Y6, Y7, Y9, Y1, Y2, Y5, Y3, Yt, Yu, Ys, Yr, Int.toNat_natCast, Y0, Option.isSome_some, Y8]
  refine ⟨by omega, 0, ?_, ?_⟩
  · rw [List.take_of_length_le (by simp)]
  · simp
theorem put_byte (n q : Nat) (h : n < 18446744073709551616) (hq : q ≤ 7) : IntKind.u8.wrap ((n : Int).fdiv (2 ^ min (8 * (q : Int)).toNat IntKind.u64.bits)) = ((UInt8.ofNat (n / 256 ^ q)).toNat : Int) := by
  have e1 : (8 * (q : Int)).toNat = 8 * q := by omega
  have e2 : min (8 * q) IntKind.u64.bits = 8 * q := by show min (8 * q) 64 = 8 * q; omega
  rw [e1, e2, Int.fdiv_eq_ediv_of_nonneg _ (by exact Int.le_of_lt (Int.pow_pos (by omega)))]
  have h3 := shr_byte n q
  have e3 : IntKind.u8.wrap ((n : Int) / 2 ^ (8 * q)) = (n : Int) / 2 ^ (8 * q) % 256 := by
    unfold IntKind.wrap
    simp [IntKind.bits, IntKind.signed]
  rw [e3, h3]
  simp
theorem put_spec (b : Bytes) (n : Nat) (hb : b.length ≤ 1000000) (h1 : n < 18446744073709551616) : OSpec Try.prog 95 [bytesA b, .int .u64 n] 1 ((b ++ encN n).map byteC) := by
  have hs := sizeN_spec n h1
  have hl := nb_le n h1
  have hw : IntKind.u8.wrap (nb n : Int) = ((UInt8.ofNat (nb n)).toNat : Int) := by
    unfold IntKind.wrap
    simp [IntKind.bits, IntKind.signed]
  have he : ((1 + nb n : Nat) : Int) - 1 = (nb n : Int) := by omega
  have hci : encN n = UInt8.ofNat (nb n) :: be (nb n) n := rfl
  generalize hk : nb n = k at *
  refine ⟨⟨_, Try.func95, by kernel_rfl, rfl⟩, ACall.of Try.func95 rfl fun c0 hc0 => ?_⟩; simp only [Try.ntmps95, Ya, Y9, Nat.reduceAdd, Nat.reduceSub, Ym, Yn, Y5, Y3]; refine Run.god tab_ok follows_ok Try.func95 60 ?_; simp only [bytesA, drun, aops, aone, aop, needs, ext, aev, aconst, aput, aupd, ok1, Y4, Y6, Y7, Y1, Y2, Yo, Y3, Yt, Yr, Yp, Y0, Y8]
  refine Ops.pure .free rfl rfl (hs) (by simp only [aev, Y4, Y1, Y2, Yf, Ye, Y3, Yd, Y0]; (repeat' first | exact .refl _ | apply LeR.tup | apply Le.agg | constructor)) rfl rfl ?_
  refine Ops.god tab_ok follows_ok Try.func95 60 ?_; simp only [he, drun, aops, aone, aop, needs, ext, aev, aconst, aput, aupd, acmp, aarith, ashift, abin, tab_3, ok1, Y4, Yb, Y6, Y7, Y1, Y2, Y3, Yt, Ys, Yr, Yp, Y0, Y8]
  refine ⟨by unfold I64; omega, ?_⟩
  refine Ops.own .free rfl rfl (clip_spec b) (by simp only [bytesA, aev, Y4, Y1, Y2, Yf, Ye, Y3, Yd, Y0]; (repeat' first | exact .refl _ | apply LeR.tup | apply Le.agg | constructor)) rfl ?_
  refine Ops.god tab_ok follows_ok Try.func95 60 ?_; simp only [hw, aappendM, drun, aops, aone, aop, needs, ext, aev, aconst, aput, aupd, acmp, aarith, ashift, abin, aconv, aelems, plains, asrc, aappend, tab_3, tab_5, tab_85, ok1, AV.cells, AV.whole, AV.plain, AV.bare, Y4, Yb, Yc, Y6, Y7, Ya, Y9, Y1, Y2, Yw, Yf, Ye, Yo, Y5, Y3, List.all_cons, List.all_nil, Ym, Yn, Yt, Yu, Ys, Yr, Nat.reduceLeDiff, Nat.reduceMul, Nat.reduceBEq, Yp, Bool.and_self, Bool.and_false, Nat.reduceLT, Y0, Y8]
  ((repeat' apply And.intro) <;> try first | rfl | omega | (unfold I64; omega))
  refine Run.loopV (α := Nat) (fun p => p ≤ k) (fun p => [(6, .sl 1 ((b ++ UInt8.ofNat k :: (be k n).take p).map byteC) (.own 0)), (7, .int .i64 ((k : Int) - 1 - p)), (15, .junk)]) 1 (fun p => [(0, .tok 1 (b ++ UInt8.ofNat k :: (be k n).take p).length)]) (fun p => k - p) 0 (Nat.zero_le _) ?_ ?_
  · simp only [writes, junks, puts, hputs, List.filterMap_cons, List.filterMap_nil, Int.natCast_zero, Int.natCast_add, Int.natCast_one, Y6, Y7, Ya, Y9, Yg, Yj, Yf, Ye, Y5, Y3, Yd, Yp, List.map_append, List.length_append, Int.sub_zero, byteC]
    (refine Weak.of (by simp [hc0]) ?_ ?_ <;> (repeat' first | exact .refl _ | exact .junk _ | exact .nil | exact .nil _ | exact .tok _ _ _ | rfl | apply WkT.cons | apply WkH.cons | apply LeB.same | apply LeB.box | apply Le1L.cons | apply Le.agg | apply Le.one))
  rintro q hq ih
  simp only [writes, junks, puts, hputs, List.filterMap_cons, List.filterMap_nil, Int.natCast_add, Int.natCast_one, Y6, Y7, Yg, Yj, Y5, Y3, Yd] at hq ih ⊢
  by_cases hlt : q < k
  · obtain ⟨r, hr⟩ : ∃ r, r = k - 1 - q := ⟨_, rfl⟩
    have hr' : (k : Int) - 1 - (q : Int) = (r : Int) := by omega
    have hbt := put_byte n r h1 (by omega)
    have h0 : (0 : Int) ≤ (r : Int) := by omega
    have htk := be_take k n q hlt
    rw [← hr] at htk
    have hbl := be_length k n
    refine Run.god tab_ok follows_ok Try.func95 60 ?_; simp only [hr', h0, hbt, decide_true, ↓alt_t, aappendM, drun, aops, aone, aop, needs, ext, aev, aconst, aput, aupd, acmp, aarith, ashift, abin, aconv, aelems, plains, asrc, aappend, tab_3, tab_5, tab_85, tab_189, ok1, AV.cells, AV.whole, AV.plain, AV.bare, Y4, Yb, Yc, Y6, Y7, Ya, Y9, Y1, Y2, Yw, Yf, Ye, Yo, Y5, Y3, List.all_cons, List.all_nil, Ym, Yn, Yt, Yu, Ys, Yr, Nat.reduceLeDiff, Nat.reduceMul, Nat.reduceBEq, Yp, Bool.and_self, Bool.and_false, Nat.reduceLT, Y0, Y8]
    refine ⟨by unfold I64; omega, by omega, ⟨by simp only [List.length_append, Ya, List.length_take, hbl]; omega, by simp only [List.length_append, Ya, List.length_take, hbl]; omega⟩, by unfold I64; omega, ?_⟩
    refine ih (q + 1) _ (by omega) (by omega) ?_
    rw [htk]
    simp only [Int.natCast_add, Int.natCast_one, Ya, Y9, Yf, Ye, Y5, Yp, List.map_append, List.length_append, List.length_take, hbl, byteC, List.append_assoc, ← hr', Int.sub_sub]
    (refine Weak.of (by simp [hc0]) ?_ ?_ <;> (repeat' first | exact .refl _ | exact .junk _ | exact .nil | exact .nil _ | exact .tok _ _ _ | rfl | apply WkT.cons | apply WkH.cons | apply LeB.same | apply LeB.box | apply Le1L.cons | apply Le.agg | apply Le.one))
  · obtain rfl : q = k := by omega
    have h0 : ¬ (0 : Int) ≤ (q : Int) - 1 - q := by omega
    rw [show (be q n).take q = be q n from List.take_of_length_le (by rw [be_length]; omega)]
    refine Run.god tab_ok follows_ok Try.func95 60 ?_; simp only [Try.results95, h0, decide_false, ↓alt_f, drun, aops, aone, afin, ares, aresL, ares1, aresOk, aresOk1, aop, needs, ext, aev, aconst, aput, aupd, acmp, ashift, abin, tab_3, ok1, exitTo, Y4, Yb, Yc, Y6, Y7, Y1, Y2, Y5, Y3, Yt, Yu, Ys, Yr, beq_self_eq_true, Y0, Y8]
    rw [hci]
    exact ⟨0, rfl, rfl⟩
theorem xor_ones (x : Nat) (h : x < 18446744073709551616) : x ^^^ 18446744073709551615 = 18446744073709551615 - x := by
  have h1 : (BitVec.ofNat 64 x ^^^ BitVec.allOnes 64).toNat = x ^^^ 18446744073709551615 := by
    rw [BitVec.toNat_xor, BitVec.toNat_ofNat, BitVec.toNat_allOnes, Nat.mod_eq_of_lt (by omega)]
  rw [← h1, BitVec.xor_allOnes, BitVec.toNat_not, BitVec.toNat_ofNat, Nat.mod_eq_of_lt (by omega)]
theorem zig_eq (n : Int) (h : I64 n) : bits .xor .u64 (IntKind.u64.wrap (IntKind.u64.wrap n * 2 ^ min 1 IntKind.u64.bits)) (IntKind.u64.wrap (n.fdiv (2 ^ min 63 IntKind.i64.bits))) = (zig n : Int) := by
  unfold I64 at h
  have e1 : min 1 IntKind.u64.bits = 1 := rfl
  have e2 : min 63 IntKind.i64.bits = 63 := rfl
  rw [e1, e2, IntKind.wrap_u64, IntKind.wrap_u64, IntKind.wrap_u64, Int.fdiv_eq_ediv_of_nonneg _ (by decide)]
  by_cases h0 : n < 0
  · obtain ⟨x, hx⟩ := Int.eq_ofNat_of_zero_le (show 0 ≤ n % 18446744073709551616 * 2 ^ 1 % 18446744073709551616 by omega)
    rw [hx, show n / 2 ^ 63 % 18446744073709551616 = ((18446744073709551615 : Nat) : Int) by omega, u64_xor_nat _ _ (by omega) (by omega), xor_ones _ (by omega)]
    unfold zig
    rw [if_pos h0]
    omega
  · obtain ⟨x, hx⟩ := Int.eq_ofNat_of_zero_le (show 0 ≤ n % 18446744073709551616 * 2 ^ 1 % 18446744073709551616 by omega)
    rw [hx, show n / 2 ^ 63 % 18446744073709551616 = ((0 : Nat) : Int) by omega, u64_xor_nat _ _ (by omega) (by omega), Nat.xor_zero]
    unfold zig
    rw [if_neg h0]
    omega
theorem int_spec (b : Bytes) (n : Int) (hb : b.length ≤ 1000000) (h1 : I64 n) : OSpec Try.prog 87 [bytesA b, .int .i64 n] 1 ((b ++ encN (zig n)).map byteC) := by
  have hz := zig_eq n h1
  have hp := put_spec b (zig n) hb (by unfold I64 at h1; exact zig_lt n h1.1 h1.2)
  refine ⟨⟨_, Try.func87, by kernel_rfl, rfl⟩, ACall.of Try.func87 rfl fun c0 hc0 => ?_⟩; simp only [Try.ntmps87, Ya, Y9, Nat.reduceAdd, Nat.reduceSub, Ym, Yn, Y5, Y3]; refine Run.god tab_ok follows_ok Try.func87 60 ?_; simp only [bytesA, hz, Int.reduceToNat, Int.reduceLE, drun, aops, aone, aop, needs, ext, aev, aconst, aput, aupd, acmp, aarith, ashift, abin, aconv, tab_3, tab_189, ok1, Y4, Yb, Y6, Y7, Y1, Y2, Yo, Y3, Yt, Ys, Yr, Nat.reduceAdd, Yp, Y0, Y8]
  refine Ops.own .free rfl rfl (hp) (by simp only [bytesA, aev, Y4, Y1, Y2, Yf, Ye, Y3, Yd, Y0]; (repeat' first | exact .refl _ | apply LeR.tup | apply Le.agg | constructor)) rfl ?_
  refine Ops.god tab_ok follows_ok Try.func87 60 ?_; simp only [Try.results87, drun, aops, aone, afin, ares, aresL, ares1, aresOk, aresOk1, aop, needs, ext, aev, aput, aupd, ok1, Y4, Yb, Yc, Y6, Y7, Y9, Y1, Y2, Yo, Y5, Y3, Yt, Yu, Yr, Y0, Y8]
  exact ⟨0, rfl, by simp⟩
theorem text_spec (b s : Bytes) (hb : b.length ≤ 1000000) (h1 : s.length ≤ 1000000) : OSpec Try.prog 116 [bytesA b, .str s] 1 ((b ++ encT s).map byteC) := by
  have hp := put_spec b s.length hb (by omega)
  have hw : IntKind.u64.wrap (s.length : Int) = s.length := wrap_nat s.length (by omega)
  have hl := encN_le s.length (by omega)
  have he : (b ++ encT s).map byteC = (b ++ encN s.length).map byteC ++ s.map byteC := by unfold encT; simp
  have hel : (b ++ encT s).length = (b ++ encN s.length).length + s.length := by unfold encT; simp; omega
  refine ⟨⟨_, Try.func116, by kernel_rfl, rfl⟩, ACall.of Try.func116 rfl fun c0 hc0 => ?_⟩; simp only [Try.ntmps116, Ya, Y9, Nat.reduceAdd, Nat.reduceSub, Ym, Yn, Y5, Y3]; refine Run.god tab_ok follows_ok Try.func116 60 ?_; simp only [bytesA, hw, drun, aops, aone, aop, needs, ext, aev, aconst, aput, aupd, aconv, alen, tab_3, tab_9, tab_189, ok1, Y4, Yb, Y6, Y7, Y1, Y2, Yo, Y3, Yt, Yr, Nat.reduceAdd, Yp, Y0, Y8]
  refine Ops.own .free rfl rfl (hp) (by simp only [bytesA, aev, Y4, Y1, Y2, Yf, Ye, Y3, Yd, Y0]; (repeat' first | exact .refl _ | apply LeR.tup | apply Le.agg | constructor)) rfl ?_
  refine Ops.god tab_ok follows_ok Try.func116 60 ?_; simp only [Try.results116, Yo, aappendM, drun, aops, aone, afin, ares, aresL, ares1, aresOk, aresOk1, aop, needs, ext, aev, aput, aupd, asrc, aappend, tab_5, tab_9, tab_85, ok1, Y4, Yb, Yc, Y6, Y7, Y9, Y1, Y2, Yw, Y5, Y3, Yt, Yu, Ys, Yr, Y0, Y8]
  refine ⟨⟨by simp; omega, by simp; omega⟩, 0, ?_, ?_⟩
  · rw [he]
  · rw [hel]; rfl
end Go.Proofs.Ytkamcoechjdgpaa
/-
  octet.Int, octet.Text as rows of their own; order's ints and Put, told by their shadows.
-/
namespace Go.Proofs.Ytkamcoechjdgpaa
open Go.RowKit
def intC (n : Int) : List AV := [.int .i64 n]
def encZs (l : List Int) : Bytes := (l.map fun n => encN (zig n)).flatten
theorem encZs_le : ∀ (l : List Int), (∀ n ∈ l, I64 n) → (encZs l).length ≤ 9 * l.length
  | [], _ => by simp [encZs]
  | n :: l, h => by
    have ih := encZs_le l fun m hm => h m (List.mem_cons_of_mem _ hm)
    have h0 := h n List.mem_cons_self
    unfold I64 at h0
    have h1 := encN_le (zig n) (zig_lt n (by omega) (by omega))
    unfold encZs at ih ⊢
    simp only [Yf, List.flatten_cons, List.length_append, Ya]
    omega
theorem ints_spec (b : Bytes) (l : List Int) (hb : b.length ≤ 900000) (hl : l.length ≤ 1000) (hz : ∀ n ∈ l, I64 n) : ASpec Try.prog 125 [bytesA b, .sl 1 (l.map intC) .no] (bytesA (b ++ encZs l)) := by
  refine ⟨⟨_, Try.func125, by kernel_rfl, rfl⟩, ACall.of Try.func125 rfl fun c0 hc0 => ?_⟩; simp only [Try.ntmps125, Ya, Y9, Nat.reduceAdd, Nat.reduceSub, Ym, Yn, Y5, Y3]; refine Run.god tab_ok follows_ok Try.func125 60 ?_; simp only [bytesA, drun, aops, aone, aop, needs, ext, aev, aconst, aput, aupd, alen, tab_229, ok1, Y4, Yb, Y6, Y7, Y1, Y2, Yo, Y3, Yt, Yr, Y0, Y8]
  refine Run.loopV (α := Nat) (fun k => k ≤ l.length) (fun k => [(0, bytesA (b ++ encZs (l.take k))), (9, .int .i64 k)]) 0 (fun _ => []) (fun k => l.length - k) 0 (Nat.zero_le _) ?_ ?_
  · simp only [writes, junks, puts, hputs, List.filterMap_cons, List.filterMap_nil, Int.natCast_zero, Y6, Y7, Yj, Yk, Ye, Y5, Y3, Yd, bytesA, encZs, List.flatten_nil]
    (refine Weak.of (by simp [hc0]) ?_ ?_ <;> (repeat' first | exact .refl _ | exact .junk _ | exact .nil | exact .nil _ | exact .tok _ _ _ | rfl | apply WkT.cons | apply WkH.cons | apply LeB.same | apply LeB.box | apply Le1L.cons | apply Le.agg | apply Le.one))
  · intro k hI ih
    simp only [writes, junks, puts, hputs, List.filterMap_cons, List.filterMap_nil, Y6, Y7, Yk, Y5, Y3, Yd] at ih ⊢
    by_cases hk : k < l.length
    · obtain ⟨x, hx⟩ : ∃ x, l[k]? = some x := ⟨_, List.getElem?_eq_getElem hk⟩
      have hkk : (k : Int) < l.length := by omega
      have hxm := List.mem_of_getElem? hx
      have hle := encZs_le (l.take k) fun n hn => hz n (List.mem_of_mem_take hn)
      rw [List.length_take] at hle
      have hsn : encZs (l.take (k + 1)) = encZs (l.take k) ++ encN (zig x) := by
        rw [List.take_add_one, hx]
        simp [encZs]
      refine Run.god tab_ok follows_ok Try.func125 60 ?_; simp only [hx, hkk, intC, List.getElem?_map, Yo, ↓alt_t, drun, aops, aone, aop, needs, ext, aev, aput, aupd, aload, aindexAddr, acmp, ashift, abin, tab_3, tab_229, ok1, cellsAs, TI.agg, Y4, Yb, Yc, Y6, Y7, Ya, Y9, Y1, Y2, Yg, Yk, Y3, Yt, Yu, Ys, Yr, Nat.reduceAdd, Yp, decide_true, Nat.reduceLT, Yv, Int.toNat_natCast, Y0, Y8]
      refine ⟨by omega, ?_⟩
      refine Ops.own .free rfl rfl (int_spec (b ++ encZs (l.take k)) x (by rw [List.length_append]; omega) (hz x hxm)) (by simp only [bytesA, aev, Y4, Y1, Y2, Yf, Ye, Y3, Yd, Y0]; (repeat' first | exact .refl _ | apply LeR.tup | apply Le.agg | constructor)) rfl ?_
      refine Ops.god tab_ok follows_ok Try.func125 60 ?_; simp only [bytesA, drun, aops, aone, aop, needs, ext, aev, aconst, aput, aupd, acmp, aarith, ashift, abin, tab_3, ok1, Y4, Yb, Y6, Y7, Y9, Y1, Y2, Yo, Y5, Y3, Yt, Ys, Yr, Y0, Y8]
      refine ⟨by unfold I64; omega, ih (k + 1) _ (by omega) (by omega) ?_⟩
      rw [hsn, ← List.append_assoc]
      simp only [Int.natCast_add, Int.natCast_one, bytesA]
      (refine Weak.of (by simp [hc0]) ?_ ?_ <;> (repeat' first | exact .refl _ | exact .junk _ | exact .nil | exact .nil _ | exact .tok _ _ _ | rfl | apply WkT.cons | apply WkH.cons | apply LeB.same | apply LeB.box | apply Le1L.cons | apply Le.agg | apply Le.one))
    · obtain rfl : k = l.length := by omega
      have hkk : ¬ (l.length : Int) < l.length := by omega
      refine Run.god tab_ok follows_ok Try.func125 60 ?_; simp only [Try.results125, hkk, bytesA, ↓alt_f, drun, aops, aone, afin, ares, aresL, ares1, aresOk, aresOk1, aop, needs, ext, aev, aput, aupd, acmp, ashift, abin, tab_3, ok1, exitTo, Y4, Yb, Yc, Y6, Y7, Y1, Y2, Y3, Yt, Yu, Ys, Yr, beq_self_eq_true, decide_false, Y0, Y8]
      rw [List.take_length]
      (repeat' first | exact .refl _ | apply LeR.tup | apply Le.agg | constructor)
end Go.Proofs.Ytkamcoechjdgpaa
/-
  order's reader: its ints and its text, in the caller's blocks.
-/
namespace Go.Proofs.Ytkamcoechjdgpaa
open Go.RowKit
theorem takeN_err' {b : Bytes} {z : Int} (h : takeN b = .error z) : ¬ z = 0 := by rcases takeN_err h with h | h <;> omega
theorem takeZ_err {b : Bytes} {z : Int} (h : takeZ b = .error z) : ¬ z = 0 := by
  unfold takeZ at h
  split at h
  · rename_i z' h'
    cases h
    exact takeN_err' h'
  · cases h
def rdI : List Nat → List AV → Bytes → Int → List AV × Bytes × Int
  | [], cs, b, e => (cs, b, e)
  | o :: os, cs, b, e => if e = 0 then match takeZ b with
      | .ok (n, r) => rdI os (lay cs o [.int .i64 n]) r 0
      | .error z => rdI os (lay cs o [.int .i64 0]) [] z
    else rdI os cs b e
theorem bel_ps (n i : Nat) (h : i < n) : ∀ offs : List Nat, belLL n (offs.map fun o => [.ptr i o]) = true
  | [] => rfl
  | o :: offs => by simp [belLL, belL, AV.bel, h, bel_ps n i h offs]
theorem bel_app {n : Nat} : ∀ {a b : List AV}, belL n a = true → belL n b = true → belL n (a ++ b) = true
  | [], b, _, h => h
  | x :: a, b, h, h' => by
    simp only [belL, Bool.and_eq_true, Y5] at h ⊢
    exact ⟨h.1, bel_app h.2 h'⟩
theorem bel_sub {n : Nat} {l : List AV} (h : belL n l = true) (o : Nat) : belL n (l.take o) = true ∧ belL n (l.drop o) = true := by
  induction l generalizing o with
  | nil => simp [belL]
  | cons x l ih =>
    simp only [belL, Bool.and_eq_true] at h
    cases o with
    | zero => exact ⟨rfl, by simp [belL, h.1, h.2]⟩
    | succ o =>
      obtain ⟨h1, h2⟩ := ih h.2 o
      exact ⟨by simp [belL, h.1, h1], by simpa using h2⟩
theorem bel_lay {n : Nat} {cs xs : List AV} (o : Nat) (h : belL n cs = true) (h' : belL n xs = true) : belL n (lay cs o xs) = true := bel_app (bel_app (bel_sub h _).1 h') (bel_sub h _).2
theorem lay_length {cs xs : List AV} {o : Nat} (h : o + xs.length ≤ cs.length) : (lay cs o xs).length = cs.length := by simp [lay]; omega
theorem rdI_ok {o : Nat} {os : List Nat} {cs : List AV} {b : Bytes} {n : Int} {r : Bytes} (h : takeZ b = .ok (n, r)) : rdI (o :: os) cs b 0 = rdI os (lay cs o [.int .i64 n]) r 0 := by simp [rdI, h]
theorem rdI_error {o : Nat} {os : List Nat} {cs : List AV} {b : Bytes} {z : Int} (h : takeZ b = .error z) : rdI (o :: os) cs b 0 = rdI os (lay cs o [.int .i64 0]) [] z := by simp [rdI, h]
theorem rdI_no {o : Nat} {os : List Nat} {cs : List AV} {b : Bytes} {e : Int} (h : ¬ e = 0) : rdI (o :: os) cs b e = rdI os cs b e := by simp [rdI, h]
theorem rints_call (offs : List Nat) (ho : offs.length ≤ 1000) (hoo : ∀ o ∈ offs, o < 8) (z : ABlk) (hz : z.bel 4 = true) (q : ABlk) (hq : q.bel 4 = true) (b : Bytes) (cs : List AV) (hcs : cs.length = 8) (hbe : belL 4 cs = true) (R : AV → List ABlk → Prop)
    (hR : R (.tup []) [z, .box [bytesA (rdI offs cs b 0).2.1, .int .i64 (rdI offs cs b 0).2.2], .box (rdI offs cs b 0).1, q]) :
    ACall Try.prog 123 [.ptr 1 0, .psl 1 (offs.map fun o => [.ptr 2 o])] [z, .box [bytesA b, .int .i64 0], .box cs, q] R := by
  refine ACall.of Try.func123 rfl fun c1 hc1 => ?_; simp only [Try.ntmps123, Ya, Y9, Nat.reduceAdd, Nat.reduceSub, Ym, Yn, Y5, Y3]; refine Run.god tab_ok follows_ok Try.func123 60 ?_; simp only [drun, aops, aone, aop, needs, ext, aev, aconst, aput, aupd, alen, tab_228, ok1, Y4, Yb, Y6, Y7, Y1, Y2, Yo, Y5, Y3, Yt, Yr, Y0, Y8]
  refine Run.loopV (α := Nat × List AV × Bytes × Int) (fun x => x.1 ≤ offs.length ∧ x.2.1.length = 8 ∧ belL 4 x.2.1 = true ∧ rdI (offs.drop x.1) x.2.1 x.2.2.1 x.2.2.2 = rdI offs cs b 0) (fun x => [(8, .int .i64 x.1)]) 4 (fun x => [(1, .box [bytesA x.2.2.1, .int .i64 x.2.2.2]), (2, .box x.2.1)]) (fun x => offs.length - x.1) (0, cs, b, 0) ⟨Nat.zero_le _, hcs, hbe, rfl⟩ ?_ ?_
  · simp only [writes, junks, puts, hputs, List.filterMap_cons, List.filterMap_nil, Int.natCast_zero, Y6, Y7, Yg, Yk, Y5, Y3, Yd]
    (refine Weak.of (by simp [hc1]) ?_ ?_ <;> (repeat' (first | exact WkT.nil | exact WkH.nil _ | exact Le.refl _ | exact Le.junk _ | exact Le1.refl _ | exact Le1.nil _ | exact Le1.tok _ _ _ | exact Le1L.nil | rfl | assumption | exact bel_ps 4 2 (by omega) offs | exact hbl | apply WkT.cons | apply WkH.cons | apply LeB.same | apply LeB.box | apply Le1L.cons | apply Le.agg | apply Le.one)))
  · rintro ⟨k, xs, y, e⟩ ⟨hI, hxs, hxb, hrd⟩ ih
    simp only [writes, junks, puts, hputs, List.filterMap_cons, List.filterMap_nil, Y6, Y7, Yg, Yk, Y5, Y3, Yd] at hI hxs hxb hrd ih ⊢
    by_cases hk : k < offs.length
    · obtain ⟨o, hx⟩ : ∃ x, offs[k]? = some x := ⟨_, List.getElem?_eq_getElem hk⟩
      have hkk : (k : Int) < offs.length := by omega
      have ho8 := hoo o (List.mem_of_getElem? hx)
      have hd : offs.drop k = o :: offs.drop (k + 1) := by
        obtain ⟨hk', rfl⟩ := List.getElem?_eq_some_iff.1 hx
        exact List.drop_eq_getElem_cons hk'
      rw [hd] at hrd
      by_cases he : e = 0
      · subst he
        cases ht : takeZ y with
        | error z =>
          rw [rdI_error ht] at hrd
          have hsp := takeint_spec y
          rw [ht] at hsp
          refine Run.god tab_ok follows_ok Try.func123 60 ?_; simp only [hx, hkk, bytesA, List.getElem?_map, Yo, ↓alt_t, drun, aops, aone, aop, needs, ext, aev, aconst, aput, aupd, aload, afieldAddr, aindexAddr, acmp, ashift, abin, tab_3, tab_34, tab_85, tab_146, tab_224, tab_228, ok1, cellsAs, TI.agg, Y4, Yb, Yc, Y6, Y7, Ya, Y9, Y1, Y2, Yi, Yh, Yg, Yj, Yk, Y5, Y3, Yt, Yu, Ys, Yr, Nat.reduceAdd, Nat.reduceLeDiff, Yp, Yq, decide_true, Nat.reduceLT, Yv, Int.toNat_natCast, Y0, Y8]
          refine ⟨by omega, ?_⟩
          refine Ops.pure .free rfl rfl (hsp) (by simp only [bytesA, aev, Y4, Y1, Y2, Yf, Ye, Y3, Yd, Y0]; (repeat' first | exact .refl _ | apply LeR.tup | apply Le.agg | constructor)) rfl rfl ?_
          refine Ops.god tab_ok follows_ok Try.func123 60 ?_; simp only [takeZA, bytesA, drun, aops, aone, aop, needs, ext, aev, aconst, aput, aupd, astore, afieldAddr, acmp, aarith, ashift, abin, tab_3, tab_34, tab_85, tab_224, ok1, lay, AV.cells, AV.whole, Y4, Yb, Yc, Y6, Y7, Ya, Y9, Y1, Y2, Yi, Yh, Yg, Yj, Yl, Ye, Y5, Y3, Yd, Yt, Yu, Ys, Yr, Nat.reduceAdd, Nat.reduceLeDiff, Yp, Yq, Yv, Y0, Y8]
          have hbl : belL 4 (lay xs o [.int .i64 0]) = true := bel_lay o hxb rfl
          refine ⟨by omega, by unfold I64; omega, ih (k + 1, lay xs o [.int .i64 0], [], z) _ ⟨by omega, by rw [lay_length (by simp; omega)]; exact hxs, hbl, hrd⟩ (by simp; omega) ?_⟩
          simp only [lay, Int.natCast_add, Int.natCast_one, Ya, Y9, Ye, Yp, bytesA] at hbl ⊢
          (refine Weak.of (by simp [hc1]) ?_ ?_ <;> (repeat' (first | exact WkT.nil | exact WkH.nil _ | exact Le.refl _ | exact Le.junk _ | exact Le1.refl _ | exact Le1.nil _ | exact Le1.tok _ _ _ | exact Le1L.nil | rfl | assumption | exact bel_ps 4 2 (by omega) offs | exact hbl | apply WkT.cons | apply WkH.cons | apply LeB.same | apply LeB.box | apply Le1L.cons | apply Le.agg | apply Le.one)))
        | ok p =>
          obtain ⟨n, r⟩ := p
          rw [rdI_ok ht] at hrd
          have hsp := takeint_spec y
          rw [ht] at hsp
          refine Run.god tab_ok follows_ok Try.func123 60 ?_; simp only [hx, hkk, bytesA, List.getElem?_map, Yo, ↓alt_t, drun, aops, aone, aop, needs, ext, aev, aconst, aput, aupd, aload, afieldAddr, aindexAddr, acmp, ashift, abin, tab_3, tab_34, tab_85, tab_146, tab_224, tab_228, ok1, cellsAs, TI.agg, Y4, Yb, Yc, Y6, Y7, Ya, Y9, Y1, Y2, Yi, Yh, Yg, Yj, Yk, Y5, Y3, Yt, Yu, Ys, Yr, Nat.reduceAdd, Nat.reduceLeDiff, Yp, Yq, decide_true, Nat.reduceLT, Yv, Int.toNat_natCast, Y0, Y8]
          refine ⟨by omega, ?_⟩
          refine Ops.pure .free rfl rfl (hsp) (by simp only [bytesA, aev, Y4, Y1, Y2, Yf, Ye, Y3, Yd, Y0]; (repeat' first | exact .refl _ | apply LeR.tup | apply Le.agg | constructor)) rfl rfl ?_
          refine Ops.god tab_ok follows_ok Try.func123 60 ?_; simp only [takeZA, bytesA, drun, aops, aone, aop, needs, ext, aev, aconst, aput, aupd, astore, afieldAddr, acmp, aarith, ashift, abin, tab_3, tab_34, tab_85, tab_224, ok1, lay, AV.cells, AV.whole, Y4, Yb, Yc, Y6, Y7, Ya, Y9, Y1, Y2, Yi, Yh, Yg, Yj, Yl, Y5, Y3, Yd, Yt, Yu, Ys, Yr, Nat.reduceAdd, Nat.reduceLeDiff, Yp, Yq, Yv, Y0, Y8]
          have hbl : belL 4 (lay xs o [.int .i64 n]) = true := bel_lay o hxb rfl
          refine ⟨by omega, by unfold I64; omega, ih (k + 1, lay xs o [.int .i64 n], r, 0) _ ⟨by omega, by rw [lay_length (by simp; omega)]; exact hxs, hbl, hrd⟩ (by simp; omega) ?_⟩
          simp only [lay, Int.natCast_add, Int.natCast_one, Ya, Y9, Yp, bytesA] at hbl ⊢
          (refine Weak.of (by simp [hc1]) ?_ ?_ <;> (repeat' (first | exact WkT.nil | exact WkH.nil _ | exact Le.refl _ | exact Le.junk _ | exact Le1.refl _ | exact Le1.nil _ | exact Le1.tok _ _ _ | exact Le1L.nil | rfl | assumption | exact bel_ps 4 2 (by omega) offs | exact hbl | apply WkT.cons | apply WkH.cons | apply LeB.same | apply LeB.box | apply Le1L.cons | apply Le.agg | apply Le.one)))
      · rw [rdI_no he] at hrd
        refine Run.god tab_ok follows_ok Try.func123 60 ?_; simp only [hx, hkk, he, bytesA, List.getElem?_map, Yo, ↓alt_t, ↓alt_f, drun, aops, aone, aop, needs, ext, aev, aconst, aput, aupd, aload, afieldAddr, aindexAddr, acmp, aarith, ashift, abin, tab_3, tab_34, tab_146, tab_224, tab_228, ok1, cellsAs, TI.agg, Y4, Yb, Yc, Y6, Y7, Ya, Y9, Y1, Y2, Yi, Yh, Yg, Yk, Y5, Y3, Yt, Yu, Ys, Yr, Nat.reduceAdd, Yp, decide_true, decide_false, Nat.reduceLT, Yv, Int.toNat_natCast, Y0, Y8]
        refine ⟨by omega, by unfold I64; omega, ih (k + 1, xs, y, e) _ ⟨by omega, hxs, hxb, hrd⟩ (by simp; omega) ?_⟩
        simp only [Int.natCast_add, Int.natCast_one, bytesA]
        (refine Weak.of (by simp [hc1]) ?_ ?_ <;> (repeat' (first | exact WkT.nil | exact WkH.nil _ | exact Le.refl _ | exact Le.junk _ | exact Le1.refl _ | exact Le1.nil _ | exact Le1.tok _ _ _ | exact Le1L.nil | rfl | assumption | exact bel_ps 4 2 (by omega) offs | exact hbl | apply WkT.cons | apply WkH.cons | apply LeB.same | apply LeB.box | apply Le1L.cons | apply Le.agg | apply Le.one)))
    · obtain rfl : k = offs.length := by omega
      rw [List.drop_length] at hrd
      have hkk : ¬ (offs.length : Int) < offs.length := by omega
      refine Run.god tab_ok follows_ok Try.func123 60 ?_; simp only [Try.results123, hkk, bytesA, ↓alt_f, drun, aops, aone, afin, ares, aresL, aresOk, aop, needs, ext, aev, aput, aupd, acmp, ashift, abin, tab_3, ok1, exitTo, Y4, Yb, Yc, Y6, Y7, Y1, Y2, Y5, Y3, Yt, Ys, Yr, beq_self_eq_true, decide_false, Y0, Y8]
      rw [← hrd] at hR
      exact hR
end Go.Proofs.Ytkamcoechjdgpaa
/-
  order.Take, told by its shadow.
-/
namespace Go.Proofs.Ytkamcoechjdgpaa
open Go.RowKit
def seqZ : Nat → Bytes → Except Int (List Int × Bytes)
  | 0, b => .ok ([], b)
  | k + 1, b => match takeZ b with
    | .error z => .error z
    | .ok (n, r) => match seqZ k r with
      | .error z => .error z
      | .ok (l, r') => .ok (n :: l, r')
def layAll : List Nat → List AV → List Int → List AV
  | o :: os, cs, n :: l => layAll os (lay cs o [.int .i64 n]) l
  | _, cs, _ => cs
theorem seqZ_len : ∀ (k : Nat) (b : Bytes) (l : List Int) (r : Bytes), seqZ k b = .ok (l, r) → l.length = k
  | 0, b, l, r, h => by simp only [seqZ, Except.ok.injEq, Prod.mk.injEq] at h; rw [← h.1]; rfl
  | k + 1, b, l, r, h => by
    simp only [seqZ] at h
    split at h
    · cases h
    · split at h
      · cases h
      · rename_i h2
        simp only [Except.ok.injEq, Prod.mk.injEq] at h
        rw [← h.1, List.length_cons, seqZ_len k _ _ _ h2]
theorem takeZ_len {b r : Bytes} {n : Int} (h : takeZ b = .ok (n, r)) : r.length ≤ b.length := by
  unfold takeZ at h
  split at h
  · cases h
  · rename_i h'
    cases h
    exact (taken_small h').2
theorem seqZ_rest : ∀ (k : Nat) (b : Bytes) (l : List Int) (r : Bytes), seqZ k b = .ok (l, r) → r.length ≤ b.length
  | 0, b, l, r, h => by simp only [seqZ, Except.ok.injEq, Prod.mk.injEq] at h; rw [← h.2]; exact Nat.le_refl _
  | k + 1, b, l, r, h => by
    simp only [seqZ] at h
    split at h
    · cases h
    · rename_i h1
      split at h
      · cases h
      · rename_i h2
        simp only [Except.ok.injEq, Prod.mk.injEq] at h
        rw [← h.2]
        exact Nat.le_trans (seqZ_rest k _ _ _ h2) (takeZ_len h1)
theorem seqZ_err : ∀ (k : Nat) (b : Bytes) (z : Int), seqZ k b = .error z → ¬ z = 0
  | 0, b, z, h => by simp [seqZ] at h
  | k + 1, b, z, h => by
    simp only [seqZ] at h
    split at h
    · rename_i h1; cases h; exact takeZ_err h1
    · split at h
      · rename_i h2; cases h; exact seqZ_err k _ _ h2
      · cases h
theorem rdI_stop : ∀ (offs : List Nat) (cs : List AV) (b : Bytes) (z : Int), ¬ z = 0 → rdI offs cs b z = (cs, b, z)
  | [], _, _, _, _ => rfl
  | _ :: offs, cs, b, z, h => by rw [rdI_no h]; exact rdI_stop offs cs b z h
theorem rdI_seq : ∀ (offs : List Nat) (cs : List AV) (b : Bytes) (l : List Int) (r : Bytes), seqZ offs.length b = .ok (l, r) → rdI offs cs b 0 = (layAll offs cs l, r, 0)
  | [], cs, b, l, r, h => by
    simp only [Y9, seqZ, Except.ok.injEq, Prod.mk.injEq] at h
    rw [← h.1, ← h.2]; rfl
  | o :: offs, cs, b, l, r, h => by
    simp only [Ya, seqZ] at h
    split at h
    · cases h
    · rename_i h1
      split at h
      · cases h
      · rename_i h2
        simp only [Except.ok.injEq, Prod.mk.injEq] at h
        rw [rdI_ok h1, rdI_seq offs _ _ _ _ h2, ← h.1, ← h.2]
        rfl
theorem rdI_seqE : ∀ (offs : List Nat) (cs : List AV) (b : Bytes) (z : Int), seqZ offs.length b = .error z → ∃ cs', rdI offs cs b 0 = (cs', [], z)
  | [], cs, b, z, h => by simp [seqZ] at h
  | o :: offs, cs, b, z, h => by
    simp only [Ya, seqZ] at h
    split at h
    · rename_i h1
      cases h
      exact ⟨_, by rw [rdI_error h1, rdI_stop _ _ _ _ (takeZ_err h1)]⟩
    · rename_i h1
      split at h
      · rename_i h2
        cases h
        rw [rdI_ok h1]
        exact rdI_seqE offs _ _ _ h2
      · cases h
def takeO (b : Bytes) : Except Int (Ord × Bytes) := match seqZ 6 b with
  | .error z => .error z
  | .ok (l, r) => match takeT r 100 with
    | .error z => .error z
    | .ok (s, r2) => match takeT r2 1000 with
      | .error z => .error z
      | .ok (t, r3) =>
        if mayO ⟨l.getD 0 0, l.getD 1 0, l.getD 2 0, s, t, l.getD 3 0, l.getD 4 0, l.getD 5 0⟩ then .ok (⟨l.getD 0 0, l.getD 1 0, l.getD 2 0, s, t, l.getD 3 0, l.getD 4 0, l.getD 5 0⟩, r3) else .error 3
def takeOA : Except Int (Ord × Bytes) → AV
  | .error z => .tup [encO ⟨0, 0, 0, [], [], 0, 0, 0⟩, bytesA [], .int .i64 z]
  | .ok (o, r) => .tup [encO o, bytesA r, .int .i64 0]
theorem takeT_err' {b : Bytes} {m z : Int} (h : takeT b m = .error z) : ¬ z = 0 := by rcases takeT_err h with h | h | h <;> omega
theorem take12_spec (b : Bytes) (hb : b.length ≤ 1000000) : ASpec Try.prog 121 [bytesA b] (takeOA (takeO b)) := by
  cases hq : seqZ 6 b with
  | error z =>
    obtain ⟨cs', hrd⟩ := rdI_seqE [0, 1, 2, 5, 6, 7] [.int .i64 0, .int .i64 0, .int .i64 0, .str [], .str [], .int .i64 0, .int .i64 0, .int .i64 0] b z hq
    have hz := seqZ_err _ _ _ hq
    have e : takeO b = .error z := by rw [takeO, hq]
    rw [e]
    refine ⟨⟨_, Try.func121, by kernel_rfl, rfl⟩, ACall.of Try.func121 rfl fun c0 hc0 => ?_⟩; simp only [Try.ntmps121, Ya, Y9, Nat.reduceAdd, Nat.reduceSub, Ym, Yn, Y5, Y3]; refine Run.god tab_ok follows_ok Try.func121 60 ?_; simp only [bytesA, drun, aops, aone, aop, needs, ext, aev, aconst, aput, aupd, astore, afieldAddr, abuild, aelems, plains, tab_29, tab_85, tab_146, tab_224, tab_228, ok1, lay, AV.cells, AV.whole, AV.plain, AV.bare, Y4, Yb, Yc, Y6, Y7, Ya, Y9, Y1, Y2, Yi, Yh, Yj, Yl, Yf, Ye, Y5, Y3, Yd, List.all_cons, List.all_nil, Ym, Yn, Yt, Yu, Ys, Yr, Nat.reduceAdd, Nat.reduceLeDiff, Nat.reduceMul, Nat.reduceBEq, Yp, Yq, Bool.and_self, Bool.and_true, Bool.and_false, Nat.reduceLT, Yv, Y0, Y8]
    refine Ops.call .free rfl rfl ⟨_, Try.func123, by kernel_rfl, rfl⟩ (rints_call [0, 1, 2, 5, 6, 7] (by decide) (by decide) _ rfl _ rfl b _ rfl rfl _ ?_)
    rw [hrd]
    refine Ops.god tab_ok follows_ok Try.func121 60 ?_; simp only [bytesA, drun, aops, aone, aop, needs, ext, aev, aput, aupd, afieldAddr, tab_29, ok1, Y4, Yb, Y6, Y7, Y1, Y2, Ye, Y5, Y3, Yt, Yr, Nat.reduceAdd, Yp, Y0, Y8]
    refine Ops.call .free rfl rfl ⟨_, Try.func124, by kernel_rfl, rfl⟩ ?_
    refine ACall.of Try.func124 rfl fun c1 hc1 => ?_; simp only [Try.ntmps124, Nat.reduceAdd, Y3]; refine Run.god tab_ok follows_ok Try.func124 60 ?_; simp only [Try.results124, hz, ↓alt_f, drun, aops, aone, afin, ares, aresL, aresOk, aop, needs, ext, aev, aconst, aput, aupd, aload, afieldAddr, acmp, ashift, abin, tab_34, tab_224, ok1, cellsAs, TI.agg, Y4, Yb, Yc, Y6, Y7, Ya, Y9, Y1, Y2, Yi, Yh, Yg, Yk, Yf, Ye, Y5, Y3, Yd, Ym, Yn, Yt, Ys, Yr, Nat.reduceAdd, Nat.reduceSub, Yp, decide_false, Yv, Y0, Y8]
    refine Ops.god tab_ok follows_ok Try.func121 60 ?_; simp only [drun, aops, aone, aop, needs, ext, aev, aput, aupd, afieldAddr, tab_29, ok1, Y4, Yb, Y6, Y7, Y1, Y2, Y5, Y3, Yt, Yr, Nat.reduceAdd, Yp, Y0, Y8]
    refine Ops.call .free rfl rfl ⟨_, Try.func124, by kernel_rfl, rfl⟩ ?_
    refine ACall.of Try.func124 rfl fun c1 hc1 => ?_; simp only [Try.ntmps124, Nat.reduceAdd, Y3]; refine Run.god tab_ok follows_ok Try.func124 60 ?_; simp only [Try.results124, hz, ↓alt_f, drun, aops, aone, afin, ares, aresL, aresOk, aop, needs, ext, aev, aconst, aput, aupd, aload, afieldAddr, acmp, ashift, abin, tab_34, tab_224, ok1, cellsAs, TI.agg, Y4, Yb, Yc, Y6, Y7, Ya, Y9, Y1, Y2, Yi, Yh, Yg, Yk, Yf, Ye, Y5, Y3, Yd, Ym, Yn, Yt, Ys, Yr, Nat.reduceAdd, Nat.reduceSub, Yp, decide_false, Yv, Y0, Y8]
    refine Ops.god tab_ok follows_ok Try.func121 60 ?_; simp only [Try.results121, hz, ↓alt_t, drun, adops, adone, places, mayNeed, freeOk, rdOf, AV.id, wrOf, aops, aone, afin, ares, aresL, ares1, aresOk, aresOk1, aop, needs, ext, aev, aconst, aput, aupd, aload, astore, afieldAddr, acmp, ashift, abin, abuild, tab_29, tab_34, tab_224, ok1, lay, cellsAs, TI.agg, AV.cells, AV.whole, Y4, Yb, Yc, Y6, Y7, Ya, Y9, Y1, Y2, Yi, Yh, Yg, Yj, Yk, Yl, Ye, Y5, Y3, Yd, Yt, Yu, Ys, Yr, Nat.reduceAdd, Yp, Bool.not_false, decide_false, Yv, Y0, Y8]
    refine ⟨rfl, rfl, ?_⟩
    simp only [takeOA, encO, bytesA, Ye]
    (repeat' first | exact .refl _ | apply LeR.tup | apply Le.agg | constructor)
  | ok p =>
    obtain ⟨l, r⟩ := p
    have hrd := rdI_seq [0, 1, 2, 5, 6, 7] [.int .i64 0, .int .i64 0, .int .i64 0, .str [], .str [], .int .i64 0, .int .i64 0, .int .i64 0] b l r hq
    have hl := seqZ_len _ _ _ _ hq
    have hr := seqZ_rest _ _ _ _ hq
    obtain ⟨n0, n1, n2, n3, n4, n5, rfl⟩ : ∃ n0 n1 n2 n3 n4 n5, l = [n0, n1, n2, n3, n4, n5] := by
      match l, hl with
      | [n0, n1, n2, n3, n4, n5], _ => exact ⟨n0, n1, n2, n3, n4, n5, rfl⟩
    simp only [layAll, lay, Ya, Y9, Yi, Yh, Yg, Yj, Yl, Y5, Y3, Yd, Nat.reduceAdd, Yp] at hrd
    have hs1 := taketext_spec r 100 (by omega) (by omega)
    refine ⟨⟨_, Try.func121, by kernel_rfl, rfl⟩, ACall.of Try.func121 rfl fun c0 hc0 => ?_⟩; simp only [Try.ntmps121, Ya, Y9, Nat.reduceAdd, Nat.reduceSub, Ym, Yn, Y5, Y3]; refine Run.god tab_ok follows_ok Try.func121 60 ?_; simp only [bytesA, drun, aops, aone, aop, needs, ext, aev, aconst, aput, aupd, astore, afieldAddr, abuild, aelems, plains, tab_29, tab_85, tab_146, tab_224, tab_228, ok1, lay, AV.cells, AV.whole, AV.plain, AV.bare, Y4, Yb, Yc, Y6, Y7, Ya, Y9, Y1, Y2, Yi, Yh, Yj, Yl, Yf, Ye, Y5, Y3, Yd, List.all_cons, List.all_nil, Ym, Yn, Yt, Yu, Ys, Yr, Nat.reduceAdd, Nat.reduceLeDiff, Nat.reduceMul, Nat.reduceBEq, Yp, Yq, Bool.and_self, Bool.and_true, Bool.and_false, Nat.reduceLT, Yv, Y0, Y8]
    refine Ops.call .free rfl rfl ⟨_, Try.func123, by kernel_rfl, rfl⟩ (rints_call [0, 1, 2, 5, 6, 7] (by decide) (by decide) _ rfl _ rfl b _ rfl rfl _ ?_)
    rw [hrd]
    refine Ops.god tab_ok follows_ok Try.func121 60 ?_; simp only [bytesA, drun, aops, aone, aop, needs, ext, aev, aput, aupd, afieldAddr, tab_29, ok1, Y4, Yb, Y6, Y7, Y1, Y2, Y5, Y3, Yt, Yr, Nat.reduceAdd, Yp, Y0, Y8]
    refine Ops.call .free rfl rfl ⟨_, Try.func124, by kernel_rfl, rfl⟩ ?_
    refine ACall.of Try.func124 rfl fun c1 hc1 => ?_; simp only [Try.ntmps124, Nat.reduceAdd, Y3]; refine Run.god tab_ok follows_ok Try.func124 60 ?_; simp only [↓alt_t, drun, aops, aone, aop, needs, ext, aev, aconst, aput, aupd, aload, afieldAddr, acmp, ashift, abin, tab_34, tab_85, tab_224, ok1, cellsAs, TI.agg, Y4, Yb, Yc, Y6, Y7, Ya, Y9, Y1, Y2, Yi, Yh, Yg, Yj, Yk, Yf, Ye, Y5, Y3, Yd, Ym, Yn, Yt, Ys, Yr, Nat.reduceAdd, Nat.reduceLeDiff, Nat.reduceSub, Yp, Yq, decide_true, Yv, Y0, Y8]
    cases ht : takeT r 100 with
    | error z =>
      have e : takeO b = .error z := by rw [takeO, hq]; simp only [ht]
      have hz := takeT_err' ht
      rw [e]
      rw [ht] at hs1
      refine Ops.pure .free rfl rfl (hs1) (by simp only [bytesA, aev, Y4, Y1, Y2, Yf, Ye, Y3, Yd, Y0]; (repeat' first | exact .refl _ | apply LeR.tup | apply Le.agg | constructor)) rfl rfl ?_
      refine Ops.god tab_ok follows_ok Try.func124 60 ?_; simp only [Try.results124, takeTA, bytesA, drun, aops, aone, afin, ares, aresL, aresOk, aop, needs, ext, aev, aput, aupd, astore, afieldAddr, tab_9, tab_34, tab_85, tab_224, ok1, lay, AV.cells, AV.whole, Y4, Yb, Yc, Y6, Y7, Ya, Y9, Y1, Y2, Yi, Yh, Yg, Yj, Yl, Ye, Y5, Y3, Yd, Yt, Yu, Yr, Nat.reduceAdd, Nat.reduceLeDiff, Yp, Yq, Yv, Y0, Y8]
      refine Ops.god tab_ok follows_ok Try.func121 60 ?_; simp only [drun, aops, aone, aop, needs, ext, aev, aput, aupd, afieldAddr, tab_29, ok1, Y4, Yb, Y6, Y7, Y1, Y2, Y5, Y3, Yt, Yr, Nat.reduceAdd, Yp, Y0, Y8]
      refine Ops.call .free rfl rfl ⟨_, Try.func124, by kernel_rfl, rfl⟩ ?_
      refine ACall.of Try.func124 rfl fun c1 hc1 => ?_; simp only [Try.ntmps124, Nat.reduceAdd, Y3]; refine Run.god tab_ok follows_ok Try.func124 60 ?_; simp only [Try.results124, hz, ↓alt_f, drun, aops, aone, afin, ares, aresL, aresOk, aop, needs, ext, aev, aconst, aput, aupd, aload, afieldAddr, acmp, ashift, abin, tab_34, tab_224, ok1, cellsAs, TI.agg, Y4, Yb, Yc, Y6, Y7, Ya, Y9, Y1, Y2, Yi, Yh, Yg, Yk, Yf, Ye, Y5, Y3, Yd, Ym, Yn, Yt, Ys, Yr, Nat.reduceAdd, Nat.reduceSub, Yp, decide_false, Yv, Y0, Y8]
      refine Ops.god tab_ok follows_ok Try.func121 60 ?_; simp only [Try.results121, hz, ↓alt_t, drun, adops, adone, places, mayNeed, freeOk, rdOf, AV.id, wrOf, aops, aone, afin, ares, aresL, ares1, aresOk, aresOk1, aop, needs, ext, aev, aconst, aput, aupd, aload, astore, afieldAddr, acmp, ashift, abin, abuild, tab_29, tab_34, tab_224, ok1, lay, cellsAs, TI.agg, AV.cells, AV.whole, Y4, Yb, Yc, Y6, Y7, Ya, Y9, Y1, Y2, Yi, Yh, Yg, Yj, Yk, Yl, Ye, Y5, Y3, Yd, Yt, Yu, Ys, Yr, Nat.reduceAdd, Yp, Bool.not_false, decide_false, Yv, Y0, Y8]
      refine ⟨rfl, rfl, ?_⟩
      simp only [takeOA, encO, bytesA, Ye]
      (repeat' first | exact .refl _ | apply LeR.tup | apply Le.agg | constructor)
    | ok p =>
      obtain ⟨t, r2⟩ := p
      rw [ht] at hs1
      have h2 := takeT_shorter ht
      have hs2 := taketext_spec r2 1000 (by omega) (by omega)
      refine Ops.pure .free rfl rfl (hs1) (by simp only [bytesA, aev, Y4, Y1, Y2, Yf, Ye, Y3, Yd, Y0]; (repeat' first | exact .refl _ | apply LeR.tup | apply Le.agg | constructor)) rfl rfl ?_
      refine Ops.god tab_ok follows_ok Try.func124 60 ?_; simp only [Try.results124, takeTA, bytesA, drun, aops, aone, afin, ares, aresL, aresOk, aop, needs, ext, aev, aput, aupd, astore, afieldAddr, tab_9, tab_34, tab_85, tab_224, ok1, lay, AV.cells, AV.whole, Y4, Yb, Yc, Y6, Y7, Ya, Y9, Y1, Y2, Yi, Yh, Yg, Yj, Yl, Y5, Y3, Yd, Yt, Yu, Yr, Nat.reduceAdd, Nat.reduceLeDiff, Yp, Yq, Yv, Y0, Y8]
      refine Ops.god tab_ok follows_ok Try.func121 60 ?_; simp only [drun, aops, aone, aop, needs, ext, aev, aput, aupd, afieldAddr, tab_29, ok1, Y4, Yb, Y6, Y7, Y1, Y2, Y5, Y3, Yt, Yr, Nat.reduceAdd, Yp, Y0, Y8]
      refine Ops.call .free rfl rfl ⟨_, Try.func124, by kernel_rfl, rfl⟩ ?_
      refine ACall.of Try.func124 rfl fun c1 hc1 => ?_; simp only [Try.ntmps124, Nat.reduceAdd, Y3]; refine Run.god tab_ok follows_ok Try.func124 60 ?_; simp only [↓alt_t, drun, aops, aone, aop, needs, ext, aev, aconst, aput, aupd, aload, afieldAddr, acmp, ashift, abin, tab_34, tab_85, tab_224, ok1, cellsAs, TI.agg, Y4, Yb, Yc, Y6, Y7, Ya, Y9, Y1, Y2, Yi, Yh, Yg, Yj, Yk, Yf, Ye, Y5, Y3, Yd, Ym, Yn, Yt, Ys, Yr, Nat.reduceAdd, Nat.reduceLeDiff, Nat.reduceSub, Yp, Yq, decide_true, Yv, Y0, Y8]
      cases hu : takeT r2 1000 with
      | error z =>
        have e : takeO b = .error z := by rw [takeO, hq]; simp only [ht, hu]
        have hz := takeT_err' hu
        rw [e]
        rw [hu] at hs2
        refine Ops.pure .free rfl rfl (hs2) (by simp only [bytesA, aev, Y4, Y1, Y2, Yf, Ye, Y3, Yd, Y0]; (repeat' first | exact .refl _ | apply LeR.tup | apply Le.agg | constructor)) rfl rfl ?_
        refine Ops.god tab_ok follows_ok Try.func124 60 ?_; simp only [Try.results124, takeTA, bytesA, drun, aops, aone, afin, ares, aresL, aresOk, aop, needs, ext, aev, aput, aupd, astore, afieldAddr, tab_9, tab_34, tab_85, tab_224, ok1, lay, AV.cells, AV.whole, Y4, Yb, Yc, Y6, Y7, Ya, Y9, Y1, Y2, Yi, Yh, Yg, Yj, Yl, Ye, Y5, Y3, Yd, Yt, Yu, Yr, Nat.reduceAdd, Nat.reduceLeDiff, Yp, Yq, Yv, Y0, Y8]
        refine Ops.god tab_ok follows_ok Try.func121 60 ?_; simp only [Try.results121, hz, ↓alt_t, drun, adops, adone, places, mayNeed, freeOk, rdOf, AV.id, wrOf, aops, aone, afin, ares, aresL, ares1, aresOk, aresOk1, aop, needs, ext, aev, aconst, aput, aupd, aload, astore, afieldAddr, acmp, ashift, abin, abuild, tab_29, tab_34, tab_224, ok1, lay, cellsAs, TI.agg, AV.cells, AV.whole, Y4, Yb, Yc, Y6, Y7, Ya, Y9, Y1, Y2, Yi, Yh, Yg, Yj, Yk, Yl, Ye, Y5, Y3, Yd, Yt, Yu, Ys, Yr, Nat.reduceAdd, Yp, Bool.not_false, decide_false, Yv, Y0, Y8]
        refine ⟨rfl, rfl, ?_⟩
        simp only [takeOA, encO, bytesA, Ye]
        (repeat' first | exact .refl _ | apply LeR.tup | apply Le.agg | constructor)
      | ok p =>
        obtain ⟨u, r3⟩ := p
        rw [hu] at hs2
        refine Ops.pure .free rfl rfl (hs2) (by simp only [bytesA, aev, Y4, Y1, Y2, Yf, Ye, Y3, Yd, Y0]; (repeat' first | exact .refl _ | apply LeR.tup | apply Le.agg | constructor)) rfl rfl ?_
        refine Ops.god tab_ok follows_ok Try.func124 60 ?_; simp only [Try.results124, takeTA, bytesA, drun, aops, aone, afin, ares, aresL, aresOk, aop, needs, ext, aev, aput, aupd, astore, afieldAddr, tab_9, tab_34, tab_85, tab_224, ok1, lay, AV.cells, AV.whole, Y4, Yb, Yc, Y6, Y7, Ya, Y9, Y1, Y2, Yi, Yh, Yg, Yj, Yl, Y5, Y3, Yd, Yt, Yu, Yr, Nat.reduceAdd, Nat.reduceLeDiff, Yp, Yq, Yv, Y0, Y8]
        refine Ops.god tab_ok follows_ok Try.func121 60 ?_; simp only [↓alt_f, drun, aops, aone, aop, needs, ext, aev, aconst, aput, aupd, aload, afieldAddr, acmp, ashift, abin, tab_29, tab_34, tab_224, ok1, cellsAs, TI.agg, Y4, Yb, Yc, Y6, Y7, Ya, Y9, Y1, Y2, Yi, Yh, Yg, Yk, Y5, Y3, Yt, Ys, Yr, Nat.reduceAdd, Yp, Bool.not_true, decide_true, Yv, Y0, Y8]
        have hm := may_spec ⟨n0, n1, n2, t, u, n3, n4, n5⟩
        cases hmm : mayO ⟨n0, n1, n2, t, u, n3, n4, n5⟩ with
        | true =>
          have e : takeO b = .ok (⟨n0, n1, n2, t, u, n3, n4, n5⟩, r3) := by rw [takeO, hq]; simp [ht, hu, hmm]
          rw [e]
          rw [hmm] at hm
          refine Ops.pure .free rfl rfl (hm) (by simp only [encO, aev, Y4, Y1, Y2, Yf, Ye, Y3, Yd, Y0]; (repeat' first | exact .refl _ | apply LeR.tup | apply Le.agg | constructor)) rfl rfl ?_
          refine Ops.god tab_ok follows_ok Try.func121 60 ?_; simp only [Try.results121, ↓alt_f, drun, adops, adone, places, mayNeed, freeOk, rdOf, AV.id, wrOf, aops, aone, afin, ares, aresL, ares1, aresOk, aresOk1, aop, needs, ext, aev, aconst, aput, aupd, aload, astore, afieldAddr, tab_29, tab_85, tab_224, ok1, lay, cellsAs, TI.agg, AV.cells, AV.whole, Y4, Yb, Yc, Y6, Y7, Ya, Y9, Y1, Y2, Yi, Yh, Yg, Yj, Yk, Yl, Y5, Y3, Yd, Yt, Yu, Ys, Yr, Nat.reduceAdd, Nat.reduceLeDiff, Yp, Yq, Bool.not_true, Yv, Y0, Y8]
          refine ⟨rfl, rfl, ?_⟩
          simp only [takeOA, encO, bytesA]
          (repeat' first | exact .refl _ | apply LeR.tup | apply Le.agg | constructor)
        | false =>
          have e : takeO b = .error 3 := by rw [takeO, hq]; simp [ht, hu, hmm]
          rw [e]
          rw [hmm] at hm
          refine Ops.pure .free rfl rfl (hm) (by simp only [encO, aev, Y4, Y1, Y2, Yf, Ye, Y3, Yd, Y0]; (repeat' first | exact .refl _ | apply LeR.tup | apply Le.agg | constructor)) rfl rfl ?_
          refine Ops.god tab_ok follows_ok Try.func121 60 ?_; simp only [Try.results121, ↓alt_t, drun, aops, aone, afin, ares, aresL, ares1, aresOk, aresOk1, aop, needs, ext, aev, aconst, aput, aupd, aload, astore, abuild, tab_29, ok1, lay, cellsAs, TI.agg, AV.cells, AV.whole, Y4, Yb, Yc, Y6, Y7, Ya, Y9, Y1, Y2, Yi, Yh, Yg, Yj, Yk, Yl, Ye, Y5, Y3, Yd, Yt, Yu, Ys, Yr, Nat.reduceAdd, Yp, Bool.not_false, Yv, Y0, Y8]
          simp only [takeOA, encO, bytesA, Ye]
          (repeat' first | exact .refl _ | apply LeR.tup | apply Le.agg | constructor)
end Go.Proofs.Ytkamcoechjdgpaa
/-
  order.Put, told by its shadow; the law's alive.
-/
namespace Go.Proofs.Ytkamcoechjdgpaa
open Go.RowKit
def putO (o : Ord) : Bytes := encZs [o.a, o.b, o.kind, o.x, o.y, o.z] ++ encT o.s ++ encT o.t
def smO (o : Ord) : Prop := I64 o.a ∧ I64 o.b ∧ I64 o.kind ∧ I64 o.x ∧ I64 o.y ∧ I64 o.z ∧ o.s.length ≤ 100000 ∧ o.t.length ≤ 100000
theorem put12_spec (b : Bytes) (o : Ord) (hb : b.length ≤ 100000) (ho : smO o) : ASpec Try.prog 122 [bytesA b, encO o] (bytesA (b ++ putO o)) := by
  obtain ⟨h1, h2, h3, h4, h5, h6, h7, h8⟩ := ho
  have hi := ints_spec b [o.a, o.b, o.kind, o.x, o.y, o.z] (by omega) (by simp) (by simp; exact ⟨h1, h2, h3, h4, h5, h6⟩)
  have hl := encZs_le [o.a, o.b, o.kind, o.x, o.y, o.z] (by simp; exact ⟨h1, h2, h3, h4, h5, h6⟩)
  simp only [Ya, Y9, Nat.reduceAdd, Nat.reduceMul] at hl
  have ht := encT_le o.s (by omega)
  refine ⟨⟨_, Try.func122, by kernel_rfl, rfl⟩, ACall.of Try.func122 rfl fun c0 hc0 => ?_⟩; simp only [Try.ntmps122, Ya, Y9, Nat.reduceAdd, Nat.reduceSub, Ym, Yn, Y5, Y3]; refine Run.god tab_ok follows_ok Try.func122 60 ?_; simp only [encO, bytesA, drun, adops, adone, places, mayNeed, freeOk, rdOf, AV.id, wrOf, aops, aone, aop, needs, ext, aev, aconst, aput, aupd, aload, afieldAddr, aelems, plains, tab_3, tab_29, tab_229, ok1, cellsAs, TI.agg, AV.cells, AV.whole, AV.plain, AV.bare, Y4, Yb, Yc, Y6, Y7, Ya, Y9, Y1, Y2, Yi, Yh, Yg, Yj, Yk, Yf, Ye, Y5, Y3, List.all_cons, List.all_nil, Ym, Yn, Yt, Yu, Ys, Yr, Nat.reduceAdd, Nat.reduceLeDiff, Nat.reduceMul, Nat.reduceBEq, Yp, Yq, Bool.and_self, Bool.and_false, Nat.reduceLT, Yv, Y0, Y8]
  refine ⟨rfl, ?_⟩
  refine DOps.pure rfl .free rfl rfl (hi) (by simp only [bytesA, intC, aev, Y4, Y1, Y2, Yf, Ye, Y3, Yd, Y0]; (repeat' first | exact .refl _ | apply LeR.tup | apply Le.agg | constructor)) rfl rfl ?_
  refine DOps.god tab_ok follows_ok Try.func122 60 rfl ?_; simp only [bytesA, adops, adone, mayNeed, freeOk, rdOf, AV.id, wrOf, aop, needs, aev, aput, aupd, aload, afieldAddr, tab_9, tab_29, ok1, cellsAs, TI.agg, Y4, Yb, Yc, Y6, Y7, Ya, Y9, Y1, Y2, Yi, Yh, Yg, Yj, Y5, Y3, Yt, Yu, Yr, Nat.reduceAdd, Nat.reduceLeDiff, Yp, Y0, Y8]
  have hs1 := (text_spec (b ++ encZs [o.a, o.b, o.kind, o.x, o.y, o.z]) o.s (by rw [List.length_append]; omega) (by omega)).spec
  refine DOps.pure rfl .free rfl rfl (hs1) (by simp only [bytesA, aev, Y4, Y1, Y2, Yf, Ye, Y3, Yd, Y0]; (repeat' first | exact .refl _ | apply LeR.tup | apply Le.agg | constructor)) rfl rfl ?_
  refine DOps.god tab_ok follows_ok Try.func122 60 rfl ?_; simp only [adops, adone, mayNeed, freeOk, rdOf, AV.id, wrOf, aop, needs, aev, aput, aupd, aload, afieldAddr, tab_9, tab_29, ok1, cellsAs, TI.agg, Y4, Yb, Yc, Y6, Y7, Ya, Y9, Y1, Y2, Yi, Yh, Yg, Yj, Y5, Y3, Yt, Yu, Yr, Nat.reduceAdd, Nat.reduceLeDiff, Yp, Y0, Y8]
  have hs2 := (text_spec (b ++ encZs [o.a, o.b, o.kind, o.x, o.y, o.z] ++ encT o.s) o.t (by simp only [List.length_append]; omega) (by omega)).spec
  refine DOps.pure rfl .free rfl rfl (hs2) (by simp only [bytesA, aev, Y4, Y1, Y2, Yf, Ye, Y3, Yd, Y0]; (repeat' first | exact .refl _ | apply LeR.tup | apply Le.agg | constructor)) rfl rfl ?_
  refine DOps.god tab_ok follows_ok Try.func122 60 rfl ?_; simp only [Try.results122, drun, adops, adone, freeOk, rdOf, wrOf, afin, ares, aresL, ares1, aresOk, aresOk1, aop, needs, aev, aput, aupd, ok1, Y4, Yb, Yc, Y6, Y7, Y1, Y2, Y5, Y3, Yt, Yu, Yr, Nat.reduceAdd, Y0, Y8]
  refine ⟨rfl, ?_⟩
  simp only [putO, List.append_assoc]
  (repeat' first | exact .refl _ | apply LeR.tup | apply Le.agg | constructor)
end Go.Proofs.Ytkamcoechjdgpaa
/-
  octet.List and octet.TakeList, told by their shadows; order.PutReply.
-/
namespace Go.Proofs.Ytkamcoechjdgpaa
open Go.RowKit
def textC (s : Bytes) : List AV := [.str s]
def textsA (l : List Bytes) : AV := .sl 1 (l.map textC) .no
theorem list_spec (b : Bytes) (l : List Bytes) (hb : b.length + tot l ≤ 900000) : ASpec Try.prog 130 [bytesA b, textsA l] (bytesA (b ++ encL l)) := by
  have hll := tot_length l
  have hn := encN_le l.length (by omega)
  have hw : IntKind.u64.wrap (l.length : Int) = l.length := wrap_nat _ (by omega)
  refine ⟨⟨_, Try.func130, by kernel_rfl, rfl⟩, ACall.of Try.func130 rfl fun c0 hc0 => ?_⟩; simp only [Try.ntmps130, Ya, Y9, Nat.reduceAdd, Nat.reduceSub, Ym, Yn, Y5, Y3]; refine Run.god tab_ok follows_ok Try.func130 60 ?_; simp only [bytesA, textsA, hw, Yo, drun, aops, aone, aop, needs, ext, aev, aconst, aput, aupd, aconv, alen, tab_3, tab_41, tab_189, ok1, Y4, Yb, Y6, Y7, Y1, Y2, Y3, Yt, Yr, Nat.reduceAdd, Yp, Y0, Y8]
  refine Ops.pure .free rfl rfl ((put_spec b l.length (by omega) (by omega)).spec) (by simp only [bytesA, aev, Y4, Y1, Y2, Yf, Ye, Y3, Yd, Y0]; (repeat' first | exact .refl _ | apply LeR.tup | apply Le.agg | constructor)) rfl rfl ?_
  refine Ops.god tab_ok follows_ok Try.func130 60 ?_; simp only [Yo, drun, aops, aone, aop, needs, ext, aev, aconst, aput, aupd, alen, tab_41, ok1, Y4, Yb, Y6, Y7, Y1, Y2, Y3, Yt, Yr, Y0, Y8]
  refine Run.loopV (α := Nat) (fun k => k ≤ l.length) (fun k => [(5, bytesA (b ++ encN l.length ++ encRow (l.take k))), (15, .int .i64 k)]) 0 (fun _ => []) (fun k => l.length - k) 0 (Nat.zero_le _) ?_ ?_
  · simp only [writes, junks, puts, hputs, List.filterMap_cons, List.filterMap_nil, Int.natCast_zero, Y6, Y7, Yj, Yk, Ye, Y5, Y3, Yd, bytesA, encRow, List.flatten_nil]
    (refine Weak.of (by simp [hc0]) ?_ ?_ <;> (repeat' first | exact .refl _ | exact .junk _ | exact .nil | exact .nil _ | exact .tok _ _ _ | rfl | apply WkT.cons | apply WkH.cons | apply LeB.same | apply LeB.box | apply Le1L.cons | apply Le.agg | apply Le.one))
  · intro k hI ih
    simp only [writes, junks, puts, hputs, List.filterMap_cons, List.filterMap_nil, Y6, Y7, Yk, Y5, Y3, Yd] at ih ⊢
    by_cases hk : k < l.length
    · obtain ⟨x, hx⟩ : ∃ x, l[k]? = some x := ⟨_, List.getElem?_eq_getElem hk⟩
      have hkk : (k : Int) < l.length := by omega
      have hxt := tot_mem hx
      have hle := encRow_le (l.take k) (by have := tot_take l k; omega)
      have htk := tot_take l k
      have hsn := encRow_succ l k x hx
      refine Run.god tab_ok follows_ok Try.func130 60 ?_; simp only [hx, hkk, textC, List.getElem?_map, Yo, ↓alt_t, drun, aops, aone, aop, needs, ext, aev, aput, aupd, aload, aindexAddr, acmp, ashift, abin, tab_3, tab_9, tab_41, ok1, cellsAs, TI.agg, Y4, Yb, Yc, Y6, Y7, Ya, Y9, Y1, Y2, Yg, Yk, Y3, Yt, Yu, Ys, Yr, Nat.reduceAdd, Yp, decide_true, Nat.reduceLT, Yv, Int.toNat_natCast, Y0, Y8]
      refine ⟨by omega, ?_⟩
      refine Ops.own .free rfl rfl (text_spec (b ++ encN l.length ++ encRow (l.take k)) x (by simp only [List.length_append]; omega) (by omega)) (by simp only [bytesA, aev, Y4, Y1, Y2, Yf, Ye, Y3, Yd, Y0]; (repeat' first | exact .refl _ | apply LeR.tup | apply Le.agg | constructor)) rfl ?_
      refine Ops.god tab_ok follows_ok Try.func130 60 ?_; simp only [bytesA, drun, aops, aone, aop, needs, ext, aev, aconst, aput, aupd, acmp, aarith, ashift, abin, tab_3, ok1, Y4, Yb, Y6, Y7, Y9, Y1, Y2, Yo, Y5, Y3, Yt, Ys, Yr, Y0, Y8]
      refine ⟨by unfold I64; omega, ih (k + 1) _ (by omega) (by omega) ?_⟩
      rw [hsn, ← List.append_assoc]
      simp only [Int.natCast_add, Int.natCast_one, bytesA]
      (refine Weak.of (by simp [hc0]) ?_ ?_ <;> (repeat' first | exact .refl _ | exact .junk _ | exact .nil | exact .nil _ | exact .tok _ _ _ | rfl | apply WkT.cons | apply WkH.cons | apply LeB.same | apply LeB.box | apply Le1L.cons | apply Le.agg | apply Le.one))
    · obtain rfl : k = l.length := by omega
      have hkk : ¬ (l.length : Int) < l.length := by omega
      refine Run.god tab_ok follows_ok Try.func130 60 ?_; simp only [Try.results130, hkk, bytesA, ↓alt_f, drun, aops, aone, afin, ares, aresL, ares1, aresOk, aresOk1, aop, needs, ext, aev, aput, aupd, acmp, ashift, abin, tab_3, ok1, exitTo, Y4, Yb, Yc, Y6, Y7, Y1, Y2, Y3, Yt, Yu, Ys, Yr, beq_self_eq_true, decide_false, Y0, Y8]
      rw [List.take_length, encL_row, ← List.append_assoc]
      (repeat' first | exact .refl _ | apply LeR.tup | apply Le.agg | constructor)
structure Rpl where
  a : Int
  b : Int
  e : Int
  s : Bytes
  x : Int
  l : List Bytes
deriving DecidableEq
def encR (r : Rpl) : AV := .agg [.int .i64 r.a, .int .i64 r.b, .int .i64 r.e, .str r.s, .int .i64 r.x, textsA r.l]
def putR (r : Rpl) : Bytes := encZs [r.a, r.b, r.e, r.x] ++ encT r.s ++ encL r.l
def smR (r : Rpl) : Prop := I64 r.a ∧ I64 r.b ∧ I64 r.e ∧ I64 r.x ∧ r.s.length ≤ 100000 ∧ tot r.l ≤ 100000
theorem putreply_spec (b : Bytes) (r : Rpl) (hb : b.length ≤ 100000) (ho : smR r) : ASpec Try.prog 128 [bytesA b, encR r] (bytesA (b ++ putR r)) := by
  obtain ⟨h1, h2, h3, h4, h7, h8⟩ := ho
  have hi := ints_spec b [r.a, r.b, r.e, r.x] (by omega) (by simp) (by simp; exact ⟨h1, h2, h3, h4⟩)
  have hl := encZs_le [r.a, r.b, r.e, r.x] (by simp; exact ⟨h1, h2, h3, h4⟩)
  simp only [Ya, Y9, Nat.reduceAdd, Nat.reduceMul] at hl
  have ht := encT_le r.s (by omega)
  refine ⟨⟨_, Try.func128, by kernel_rfl, rfl⟩, ACall.of Try.func128 rfl fun c0 hc0 => ?_⟩; simp only [Try.ntmps128, Ya, Y9, Nat.reduceAdd, Nat.reduceSub, Ym, Yn, Y5, Y3]; refine Run.god tab_ok follows_ok Try.func128 60 ?_; simp only [encR, textsA, bytesA, drun, adops, adone, places, mayNeed, freeOk, rdOf, AV.id, wrOf, aops, aone, aop, needs, ext, aev, aconst, aput, aupd, aload, afieldAddr, aelems, plains, tab_3, tab_34, tab_43, tab_229, ok1, cellsAs, TI.agg, AV.cells, AV.whole, AV.plain, AV.bare, Y4, Yb, Yc, Y6, Y7, Ya, Y9, Y1, Y2, Yi, Yh, Yg, Yj, Yf, Ye, Y5, Y3, List.all_cons, List.all_nil, Ym, Yn, Yt, Yu, Ys, Yr, Nat.reduceAdd, Nat.reduceLeDiff, Nat.reduceMul, Nat.reduceBEq, Yp, Yq, Bool.and_self, Bool.and_false, Nat.reduceLT, Y0, Y8]
  refine ⟨rfl, ?_⟩
  refine DOps.pure rfl .free rfl rfl (hi) (by simp only [bytesA, intC, aev, Y4, Y1, Y2, Yf, Ye, Y3, Yd, Y0]; (repeat' first | exact .refl _ | apply LeR.tup | apply Le.agg | constructor)) rfl rfl ?_
  refine DOps.god tab_ok follows_ok Try.func128 60 rfl ?_; simp only [bytesA, adops, adone, mayNeed, freeOk, rdOf, AV.id, wrOf, aop, needs, aev, aput, aupd, aload, afieldAddr, tab_9, tab_43, ok1, cellsAs, TI.agg, Y4, Yb, Yc, Y6, Y7, Ya, Y9, Y1, Y2, Yi, Yh, Yg, Yj, Y5, Y3, Yt, Yu, Yr, Nat.reduceAdd, Nat.reduceLeDiff, Yp, Y0, Y8]
  have hs1 := (text_spec (b ++ encZs [r.a, r.b, r.e, r.x]) r.s (by rw [List.length_append]; omega) (by omega)).spec
  refine DOps.pure rfl .free rfl rfl (hs1) (by simp only [bytesA, aev, Y4, Y1, Y2, Yf, Ye, Y3, Yd, Y0]; (repeat' first | exact .refl _ | apply LeR.tup | apply Le.agg | constructor)) rfl rfl ?_
  refine DOps.god tab_ok follows_ok Try.func128 60 rfl ?_; simp only [adops, adone, mayNeed, freeOk, rdOf, AV.id, wrOf, aop, needs, aev, aput, aupd, aload, afieldAddr, tab_41, tab_43, ok1, cellsAs, TI.agg, Y4, Yb, Yc, Y6, Y7, Ya, Y9, Y1, Y2, Yi, Yh, Yg, Yk, Y5, Y3, Yt, Yu, Yr, Nat.reduceAdd, Yp, Yv, Y0, Y8]
  have hs2 := list_spec (b ++ encZs [r.a, r.b, r.e, r.x] ++ encT r.s) r.l (by simp only [List.length_append]; omega)
  refine DOps.pure rfl .free rfl rfl (hs2) (by simp only [bytesA, textsA, aev, Y4, Y1, Y2, Yf, Ye, Y3, Yd, Y0]; (repeat' first | exact .refl _ | apply LeR.tup | apply Le.agg | constructor)) rfl rfl ?_
  refine DOps.god tab_ok follows_ok Try.func128 60 rfl ?_; simp only [Try.results128, bytesA, drun, adops, adone, freeOk, rdOf, wrOf, afin, ares, aresL, ares1, aresOk, aresOk1, aop, needs, aev, aput, aupd, ok1, Y4, Yb, Yc, Y6, Y7, Y1, Y2, Y5, Y3, Yt, Yu, Yr, Nat.reduceAdd, Y0, Y8]
  refine ⟨rfl, ?_⟩
  simp only [putR, List.append_assoc]
  (repeat' first | exact .refl _ | apply LeR.tup | apply Le.agg | constructor)
def takeLA : Except Int (List Bytes × Bytes) → AV
  | .error z => .tup [textsA [], bytesA [], .int .i64 z]
  | .ok (s, r) => .tup [textsA s, bytesA r, .int .i64 0]
theorem takelist_spec (b : Bytes) (many most : Int) (hb : b.length ≤ 1000000) (hma : 0 ≤ many ∧ many ≤ 1000000) (hm : 0 ≤ most ∧ most ≤ 1000000) : ASpec Try.prog 129 [bytesA b, .int .i64 many, .int .i64 most] (takeLA (takeL b many most)) := by
  have hsp := take_spec b
  cases ht : takeN b with
  | error z =>
    rw [ht] at hsp
    have hz := takeN_err' ht
    refine ⟨⟨_, Try.func129, by kernel_rfl, rfl⟩, ACall.of Try.func129 rfl fun c0 hc0 => ?_⟩; simp only [Try.ntmps129, Ya, Y9, Nat.reduceAdd, Nat.reduceSub, Ym, Yn, Y5, Y3]; refine Run.god tab_ok follows_ok Try.func129 60 ?_; simp only [bytesA, drun, aops, aone, aop, needs, ext, aev, aconst, aput, aupd, ok1, Y4, Y6, Y7, Y1, Y3, Yt, Yr, Yp, Y0, Y8]
    refine Ops.pure .free rfl rfl (hsp) (by simp only [bytesA, aev, Y4, Y1, Y2, Yf, Ye, Y3, Yd, Y0]; (repeat' first | exact .refl _ | apply LeR.tup | apply Le.agg | constructor)) rfl rfl ?_
    refine Ops.god tab_ok follows_ok Try.func129 60 ?_; simp only [Try.results129, takeA, bytesA, hz, ↓alt_t, drun, aops, aone, afin, ares, aresL, ares1, aresOk, aresOk1, aop, needs, ext, aev, aconst, aput, aupd, acmp, ashift, abin, tab_34, ok1, Y4, Yb, Yc, Y6, Y7, Y1, Y2, Ye, Y3, Yt, Yu, Ys, Yr, Bool.not_false, decide_false, Y0, Y8]
    rw [takeL, ht]
    simp only [takeLA, textsA, bytesA, Ye]
    (repeat' first | exact .refl _ | apply LeR.tup | apply Le.agg | constructor)
  | ok p =>
    obtain ⟨n, r⟩ := p
    obtain ⟨hn, hl⟩ := taken_small ht
    rw [ht] at hsp
    have hw : IntKind.u64.wrap many = many := by
      obtain ⟨m, rfl⟩ := Int.eq_ofNat_of_zero_le hma.1
      exact wrap_nat m (by omega)
    have hmx : max many 0 = many := by omega
    by_cases h1 : many < (n : Int)
    · refine ⟨⟨_, Try.func129, by kernel_rfl, rfl⟩, ACall.of Try.func129 rfl fun c0 hc0 => ?_⟩; simp only [Try.ntmps129, Ya, Y9, Nat.reduceAdd, Nat.reduceSub, Ym, Yn, Y5, Y3]; refine Run.god tab_ok follows_ok Try.func129 60 ?_; simp only [bytesA, drun, aops, aone, aop, needs, ext, aev, aconst, aput, aupd, ok1, Y4, Y6, Y7, Y1, Y3, Yt, Yr, Yp, Y0, Y8]
      refine Ops.pure .free rfl rfl (hsp) (by simp only [bytesA, aev, Y4, Y1, Y2, Yf, Ye, Y3, Yd, Y0]; (repeat' first | exact .refl _ | apply LeR.tup | apply Le.agg | constructor)) rfl rfl ?_
      refine Ops.god tab_ok follows_ok Try.func129 60 ?_; simp only [Try.results129, takeA, bytesA, hw, hmx, h1, ↓alt_t, ↓alt_f, drun, aops, aone, afin, ares, aresL, ares1, aresOk, aresOk1, aop, needs, ext, aev, aconst, aput, aupd, acmp, ashift, abin, aconv, tab_3, tab_34, tab_189, ok1, Y4, Yb, Yc, Y6, Y7, Y1, Y2, Yf, Ye, Y3, Yt, Yu, Ys, Yr, Bool.not_true, decide_true, Y0, Y8]
      rw [takeL, ht]
      simp only [if_pos (show (max many 0).toNat < n by omega), takeLA, textsA, bytesA, Ye]
      (repeat' first | exact .refl _ | apply LeR.tup | apply Le.agg | constructor)
    · have e : takeL b many most = takeTs most n r := by
        rw [takeL, ht]
        simp only [if_neg (show ¬ (max many 0).toNat < n by omega)]
      rw [e]
      refine ⟨⟨_, Try.func129, by kernel_rfl, rfl⟩, ACall.of Try.func129 rfl fun c0 hc0 => ?_⟩; simp only [Try.ntmps129, Ya, Y9, Nat.reduceAdd, Nat.reduceSub, Ym, Yn, Y5, Y3]; refine Run.god tab_ok follows_ok Try.func129 60 ?_; simp only [bytesA, drun, aops, aone, aop, needs, ext, aev, aconst, aput, aupd, ok1, Y4, Y6, Y7, Y1, Y3, Yt, Yr, Yp, Y0, Y8]
      refine Ops.pure .free rfl rfl (hsp) (by simp only [bytesA, aev, Y4, Y1, Y2, Yf, Ye, Y3, Yd, Y0]; (repeat' first | exact .refl _ | apply LeR.tup | apply Le.agg | constructor)) rfl rfl ?_
      refine Ops.god tab_ok follows_ok Try.func129 60 ?_; simp only [takeA, bytesA, hw, hmx, h1, ↓alt_f, drun, aops, aone, aop, needs, ext, aev, aconst, aput, aupd, acmp, ashift, abin, aconv, tab_3, tab_34, tab_189, ok1, Y4, Yb, Yc, Y6, Y7, Y1, Y2, Yf, Ye, Y3, Yt, Ys, Yr, Bool.not_true, decide_true, decide_false, Y0, Y8]
      refine Run.weak (Weak.own 12 1 rfl) ?_
      simp only [Y6, Y7, Y9, Y3]
      refine Run.loopV (α := Nat × List Bytes × Bytes) (fun x => x.1 ≤ n ∧ x.2.1.length = x.1 ∧ x.2.2.length ≤ r.length ∧ takeTs most n r = glue x.2.1 (takeTs most (n - x.1) x.2.2)) (fun x => [(10, bytesA x.2.2), (12, .sl 1 (x.2.1.map textC) (.own 0)), (33, .int .u64 x.1)]) 1 (fun x => [(0, .tok 1 x.2.1.length)]) (fun x => n - x.1) (0, [], r) ⟨Nat.zero_le _, rfl, Nat.le_refl _, by simp only [Nat.sub_zero]; cases takeTs most n r <;> rfl⟩ ?_ ?_
      · simp only [writes, junks, puts, hputs, List.filterMap_cons, List.filterMap_nil, Int.natCast_zero, Y6, Y7, Y9, Yg, Yk, Ye, Y5, Y3, Yd, bytesA]
        (refine Weak.of (by simp [hc0]) ?_ ?_ <;> (repeat' first | exact .refl _ | exact .junk _ | exact .nil | exact .nil _ | exact .tok _ _ _ | rfl | apply WkT.cons | apply WkH.cons | apply LeB.same | apply LeB.box | apply Le1L.cons | apply Le.agg | apply Le.one))
      · rintro ⟨k, l, y⟩ ⟨hI, hll, hyl, hrd⟩ ih
        simp only [writes, junks, puts, hputs, List.filterMap_cons, List.filterMap_nil, Y6, Y7, Yg, Yk, Y5, Y3, Yd] at hI hll hyl hrd ih ⊢
        by_cases hk : k < n
        · have hkk : (k : Int) < n := by omega
          have hs := taketext_spec y most (by omega) hm
          obtain ⟨m, hm⟩ : ∃ m, n - k = m + 1 := ⟨n - k - 1, by omega⟩
          rw [hm] at hrd
          cases hty : takeT y most with
          | error z =>
            rw [takeTs_err hty] at hrd
            rw [hty] at hs
            have hz := takeT_err' hty
            refine Run.god tab_ok follows_ok Try.func129 60 ?_; simp only [hkk, bytesA, ↓alt_t, drun, aops, aone, aop, needs, ext, aev, aput, aupd, acmp, ashift, abin, tab_189, ok1, Y4, Yb, Y6, Y7, Y1, Y2, Y5, Y3, Yt, Ys, Yr, Nat.reduceAdd, Yp, decide_true, Y0, Y8]
            refine Ops.pure .free rfl rfl (hs) (by simp only [bytesA, aev, Y4, Y1, Y2, Yf, Ye, Y3, Yd, Y0]; (repeat' first | exact .refl _ | apply LeR.tup | apply Le.agg | constructor)) rfl rfl ?_
            refine Ops.god tab_ok follows_ok Try.func129 60 ?_; simp only [Try.results129, takeTA, bytesA, hz, ↓alt_t, drun, aops, aone, afin, ares, aresL, ares1, aresOk, aresOk1, aop, needs, ext, aev, aconst, aput, aupd, acmp, ashift, abin, tab_34, ok1, Y4, Yb, Yc, Y6, Y7, Y1, Y2, Ye, Y5, Y3, Yt, Yu, Ys, Yr, Bool.not_false, decide_false, Y0, Y8]
            rw [hrd]
            simp only [takeLA, textsA, bytesA, Ye]
            (repeat' first | exact .refl _ | apply LeR.tup | apply Le.agg | constructor)
          | ok p =>
            obtain ⟨s, y2⟩ := p
            rw [takeTs_ok hty] at hrd
            rw [hty] at hs
            have hsh := (takeT_shorter hty).1
            refine Run.god tab_ok follows_ok Try.func129 60 ?_; simp only [hkk, bytesA, ↓alt_t, drun, aops, aone, aop, needs, ext, aev, aput, aupd, acmp, ashift, abin, tab_189, ok1, Y4, Yb, Y6, Y7, Y1, Y2, Y5, Y3, Yt, Ys, Yr, Nat.reduceAdd, Yp, decide_true, Y0, Y8]
            refine Ops.pure .free rfl rfl (hs) (by simp only [bytesA, aev, Y4, Y1, Y2, Yf, Ye, Y3, Yd, Y0]; (repeat' first | exact .refl _ | apply LeR.tup | apply Le.agg | constructor)) rfl rfl ?_
            have hwk : IntKind.u64.wrap ((k : Int) + 1) = (k : Int) + 1 := wrap_nat (k + 1) (by omega)
            refine Ops.god tab_ok follows_ok Try.func129 60 ?_; simp only [takeTA, bytesA, hwk, Yo, ↓alt_f, aappendM, drun, aops, aone, aop, needs, ext, aev, aconst, aput, aupd, acmp, aarith, ashift, abin, aelems, plains, asrc, aappend, tab_9, tab_34, tab_41, tab_189, ok1, AV.cells, AV.whole, AV.plain, AV.bare, Y4, Yb, Yc, Y6, Y7, Ya, Y9, Y1, Y2, Yw, Yf, Ye, Y5, Y3, List.all_cons, List.all_nil, Ym, Yn, Yt, Yu, Ys, Yr, Nat.reduceLeDiff, Nat.reduceMul, Nat.reduceBEq, Yp, Bool.and_self, Bool.and_false, Bool.not_true, decide_true, Nat.reduceLT, reduceCtorEq, Y0, Y8]
            refine ⟨by omega, ih (k + 1, l ++ [s], y2) _ ⟨by dsimp only; omega, by simp; omega, by dsimp only; omega, ?_⟩ (by dsimp only; omega) ?_⟩
            · rw [hrd]
              show _ = glue (l ++ [s]) (takeTs most (n - (k + 1)) y2)
              rw [show n - (k + 1) = m by omega]
            · simp only [Int.natCast_add, Int.natCast_one, Ya, Y9, Yf, Ye, Yp, bytesA, List.map_append, textC, List.length_append]
              (refine Weak.of (by simp [hc0]) ?_ ?_ <;> (repeat' first | exact .refl _ | exact .junk _ | exact .nil | exact .nil _ | exact .tok _ _ _ | rfl | apply WkT.cons | apply WkH.cons | apply LeB.same | apply LeB.box | apply Le1L.cons | apply Le.agg | apply Le.one))
        · obtain rfl : k = n := by omega
          have hkk : ¬ (k : Int) < k := by omega
          rw [Nat.sub_self] at hrd
          refine Run.god tab_ok follows_ok Try.func129 60 ?_; simp only [Try.results129, hkk, bytesA, ↓alt_f, drun, aops, aone, afin, ares, aresL, ares1, aresOk, aresOk1, aop, needs, ext, aev, aconst, aput, aupd, acmp, ashift, abin, tab_189, ok1, exitTo, Y4, Yb, Yc, Y6, Y7, Y1, Y2, Y5, Y3, Yt, Yu, Ys, Yr, beq_self_eq_true, decide_false, Y0, Y8]
          rw [hrd]
          simp only [takeTs, glue, Yd, takeLA, textsA, bytesA]
          (repeat' first | exact .refl _ | apply LeR.tup | apply Le.agg | constructor)
end Go.Proofs.Ytkamcoechjdgpaa
/-
  order's reader, for a reply; order.TakeReply.
-/
namespace Go.Proofs.Ytkamcoechjdgpaa
open Go.RowKit
theorem bel_pss (n : Nat) (hn : 3 < n) : ∀ ps : List (Nat × Nat), (∀ p ∈ ps, (p.1 = 2 ∧ p.2 < 6) ∨ (p.1 = 3 ∧ p.2 < 1)) → belLL n (ps.map fun p => [.ptr p.1 p.2]) = true
  | [], _ => rfl
  | p :: ps, h => by
    have h1 := h p List.mem_cons_self
    have h2 := bel_pss n hn ps fun q hq => h q (List.mem_cons_of_mem _ hq)
    have h3 : p.1 < n := by omega
    simp [belLL, belL, AV.bel, h2, h3]
def layP (c : List AV × List AV) (p : Nat × Nat) (n : Int) : List AV × List AV := if p.1 = 2 then (lay c.1 p.2 [.int .i64 n], c.2) else (c.1, lay c.2 p.2 [.int .i64 n])
def rdP : List (Nat × Nat) → List AV × List AV → Bytes → Int → (List AV × List AV) × Bytes × Int
  | [], cs, b, e => (cs, b, e)
  | o :: os, cs, b, e => if e = 0 then match takeZ b with
      | .ok (n, r) => rdP os (layP cs o n) r 0
      | .error z => rdP os (layP cs o 0) [] z
    else rdP os cs b e
theorem rdP_ok {o : Nat × Nat} {os : List (Nat × Nat)} {cs : List AV × List AV} {b : Bytes} {n : Int} {r : Bytes} (h : takeZ b = .ok (n, r)) : rdP (o :: os) cs b 0 = rdP os (layP cs o n) r 0 := by simp [rdP, h]
theorem rdP_error {o : Nat × Nat} {os : List (Nat × Nat)} {cs : List AV × List AV} {b : Bytes} {z : Int} (h : takeZ b = .error z) : rdP (o :: os) cs b 0 = rdP os (layP cs o 0) [] z := by simp [rdP, h]
theorem rdP_no {o : Nat × Nat} {os : List (Nat × Nat)} {cs : List AV × List AV} {b : Bytes} {e : Int} (h : ¬ e = 0) : rdP (o :: os) cs b e = rdP os cs b e := by simp [rdP, h]
theorem rdP_stop : ∀ (ps : List (Nat × Nat)) (cs : List AV × List AV) (b : Bytes) (z : Int), ¬ z = 0 → rdP ps cs b z = (cs, b, z)
  | [], _, _, _, _ => rfl
  | _ :: ps, cs, b, z, h => by rw [rdP_no h]; exact rdP_stop ps cs b z h
def layPs : List (Nat × Nat) → List AV × List AV → List Int → List AV × List AV
  | o :: os, cs, n :: l => layPs os (layP cs o n) l
  | _, cs, _ => cs
theorem rdP_seq : ∀ (ps : List (Nat × Nat)) (cs : List AV × List AV) (b : Bytes) (l : List Int) (r : Bytes), seqZ ps.length b = .ok (l, r) → rdP ps cs b 0 = (layPs ps cs l, r, 0)
  | [], cs, b, l, r, h => by
    simp only [Y9, seqZ, Except.ok.injEq, Prod.mk.injEq] at h
    rw [← h.1, ← h.2]; rfl
  | o :: ps, cs, b, l, r, h => by
    simp only [Ya, seqZ] at h
    split at h
    · cases h
    · rename_i h1
      split at h
      · cases h
      · rename_i h2
        simp only [Except.ok.injEq, Prod.mk.injEq] at h
        rw [rdP_ok h1, rdP_seq ps _ _ _ _ h2, ← h.1, ← h.2]
        rfl
theorem rdP_seqE : ∀ (ps : List (Nat × Nat)) (cs : List AV × List AV) (b : Bytes) (z : Int), seqZ ps.length b = .error z → (∀ p ∈ ps, (p.1 = 2 ∧ p.2 < 6) ∨ (p.1 = 3 ∧ p.2 < 1)) → cs.1.length = 6 → cs.2.length = 1 → ∃ c1 c2, rdP ps cs b 0 = ((c1, c2), [], z) ∧ c1.length = 6 ∧ ∃ n, c2 = [.int .i64 n] ∨ c2 = cs.2
  | [], cs, b, z, h, _, _, _ => by simp [seqZ] at h
  | o :: ps, (c1, c2), b, z, h, hp, l1, l2 => by
    have ho := hp o List.mem_cons_self
    have hps := fun q hq => hp q (List.mem_cons_of_mem _ hq)
    have hlay : ∀ n, (layP (c1, c2) o n).1.length = 6 ∧ ((layP (c1, c2) o n).2 = [.int .i64 n] ∨ (layP (c1, c2) o n).2 = c2) := fun n => by
      unfold layP
      simp only at l1 l2
      rcases ho with ⟨e1, e2⟩ | ⟨e1, e2⟩
      · rw [if_pos e1]
        exact ⟨by rw [lay_length (by simp; omega)]; exact l1, .inr rfl⟩
      · rw [if_neg (by omega)]
        refine ⟨l1, .inl ?_⟩
        have : o.2 = 0 := by omega
        match c2, l2 with
        | [c], _ => rw [this]; rfl
    simp only [Ya, seqZ] at h
    split at h
    · rename_i h1
      cases h
      rw [rdP_error h1, rdP_stop _ _ _ _ (takeZ_err h1)]
      obtain ⟨g1, g2⟩ := hlay 0
      exact ⟨_, _, rfl, g1, 0, g2⟩
    · rename_i n r h1
      split at h
      · rename_i h2
        cases h
        rw [rdP_ok h1]
        obtain ⟨g1, g2⟩ := hlay n
        obtain ⟨d1, d2, e1, e2, m, e3⟩ := rdP_seqE ps (layP (c1, c2) o n) r _ h2 hps g1 (by rcases g2 with g | g <;> rw [g]; exact rfl; exact l2)
        refine ⟨d1, d2, e1, e2, ?_⟩
        rcases e3 with e3 | e3
        · exact ⟨m, .inl e3⟩
        · rcases g2 with g | g
          · exact ⟨n, .inl (e3.trans g)⟩
          · exact ⟨0, .inr (e3.trans g)⟩
      · cases h
theorem rints2_call (ps : List (Nat × Nat)) (ho : ps.length ≤ 1000) (hpp : ∀ p ∈ ps, (p.1 = 2 ∧ p.2 < 6) ∨ (p.1 = 3 ∧ p.2 < 1)) (z : ABlk) (hz : z.bel 5 = true) (q : ABlk) (hq : q.bel 5 = true) (b : Bytes) (cs es : List AV) (hcs : cs.length = 6) (hes : es.length = 1) (hbe : belL 5 cs = true) (hbf : belL 5 es = true) (R : AV → List ABlk → Prop)
    (hR : R (.tup []) [z, .box [bytesA (rdP ps (cs, es) b 0).2.1, .int .i64 (rdP ps (cs, es) b 0).2.2], .box (rdP ps (cs, es) b 0).1.1, .box (rdP ps (cs, es) b 0).1.2, q]) :
    ACall Try.prog 123 [.ptr 1 0, .psl 1 (ps.map fun p => [.ptr p.1 p.2])] [z, .box [bytesA b, .int .i64 0], .box cs, .box es, q] R := by
  refine ACall.of Try.func123 rfl fun c1 hc1 => ?_; simp only [Try.ntmps123, Ya, Y9, Nat.reduceAdd, Nat.reduceSub, Ym, Yn, Y5, Y3]; refine Run.god tab_ok follows_ok Try.func123 60 ?_; simp only [drun, aops, aone, aop, needs, ext, aev, aconst, aput, aupd, alen, tab_228, ok1, Y4, Yb, Y6, Y7, Y1, Y2, Yo, Y5, Y3, Yt, Yr, Y0, Y8]
  refine Run.loopV (α := Nat × (List AV × List AV) × Bytes × Int) (fun x => x.1 ≤ ps.length ∧ x.2.1.1.length = 6 ∧ x.2.1.2.length = 1 ∧ belL 5 x.2.1.1 = true ∧ belL 5 x.2.1.2 = true ∧ rdP (ps.drop x.1) x.2.1 x.2.2.1 x.2.2.2 = rdP ps (cs, es) b 0) (fun x => [(8, .int .i64 x.1)]) 5 (fun x => [(1, .box [bytesA x.2.2.1, .int .i64 x.2.2.2]), (2, .box x.2.1.1), (3, .box x.2.1.2)]) (fun x => ps.length - x.1) (0, (cs, es), b, 0) ⟨Nat.zero_le _, hcs, hes, hbe, hbf, rfl⟩ ?_ ?_
  · simp only [writes, junks, puts, hputs, List.filterMap_cons, List.filterMap_nil, Int.natCast_zero, Y6, Y7, Yg, Yk, Y5, Y3, Yd]
    (refine Weak.of (by simp [hc1]) ?_ ?_ <;> (repeat' (first | exact WkT.nil | exact WkH.nil _ | exact Le.refl _ | exact Le.junk _ | exact Le1.refl _ | exact Le1.nil _ | exact Le1.tok _ _ _ | exact Le1L.nil | rfl | assumption | exact bel_pss 5 (by decide) ps hpp | exact hbl | apply WkT.cons | apply WkH.cons | apply LeB.same | apply LeB.box | apply Le1L.cons | apply Le.agg | apply Le.one)))
  · rintro ⟨k, ⟨xs, ys⟩, y, e⟩ ⟨hI, hxs, hys, hxb, hyb, hrd⟩ ih
    simp only [writes, junks, puts, hputs, List.filterMap_cons, List.filterMap_nil, Y6, Y7, Yg, Yk, Y5, Y3, Yd] at hI hxs hys hxb hyb hrd ih ⊢
    by_cases hk : k < ps.length
    · obtain ⟨⟨o1, o⟩, hx⟩ : ∃ x, ps[k]? = some x := ⟨_, List.getElem?_eq_getElem hk⟩
      have hkk : (k : Int) < ps.length := by omega
      have ho8 := hpp _ (List.mem_of_getElem? hx)
      have hd : ps.drop k = (o1, o) :: ps.drop (k + 1) := by
        obtain ⟨hk', e⟩ := List.getElem?_eq_some_iff.1 hx
        rw [← e]
        exact List.drop_eq_getElem_cons hk'
      rw [hd] at hrd
      by_cases he : e = 0
      · subst he
        have hsp := takeint_spec y
        rcases ho8 with ⟨w1, w2⟩ | ⟨w1, w2⟩
        · simp only at w1 w2
          subst w1
          cases ht : takeZ y with
          | error z =>
            rw [rdP_error ht, layP, if_pos rfl] at hrd
            rw [ht] at hsp
            refine Run.god tab_ok follows_ok Try.func123 60 ?_; simp only [hx, hkk, bytesA, List.getElem?_map, Yo, ↓alt_t, drun, aops, aone, aop, needs, ext, aev, aconst, aput, aupd, aload, afieldAddr, aindexAddr, acmp, ashift, abin, tab_3, tab_34, tab_85, tab_146, tab_224, tab_228, ok1, cellsAs, TI.agg, Y4, Yb, Yc, Y6, Y7, Ya, Y9, Y1, Y2, Yi, Yh, Yg, Yj, Yk, Y5, Y3, Yt, Yu, Ys, Yr, Nat.reduceAdd, Nat.reduceLeDiff, Yp, Yq, decide_true, Nat.reduceLT, Yv, Int.toNat_natCast, Y0, Y8]
            refine ⟨by omega, ?_⟩
            refine Ops.pure .free rfl rfl (hsp) (by simp only [bytesA, aev, Y4, Y1, Y2, Yf, Ye, Y3, Yd, Y0]; (repeat' first | exact .refl _ | apply LeR.tup | apply Le.agg | constructor)) rfl rfl ?_
            refine Ops.god tab_ok follows_ok Try.func123 60 ?_; simp only [takeZA, bytesA, drun, aops, aone, aop, needs, ext, aev, aconst, aput, aupd, astore, afieldAddr, acmp, aarith, ashift, abin, tab_3, tab_34, tab_85, tab_224, ok1, lay, AV.cells, AV.whole, Y4, Yb, Yc, Y6, Y7, Ya, Y9, Y1, Y2, Yi, Yh, Yg, Yj, Yl, Ye, Y5, Y3, Yd, Yt, Yu, Ys, Yr, Nat.reduceAdd, Nat.reduceLeDiff, Yp, Yq, Yv, Y0, Y8]
            have hbl : belL 5 (lay xs o [.int .i64 0]) = true := bel_lay o hxb rfl
            refine ⟨by omega, by unfold I64; omega, ih (k + 1, (lay xs o [.int .i64 0], ys), [], z) _ ⟨by dsimp only; omega, by rw [lay_length (by simp; omega)]; exact hxs, hys, hbl, hyb, hrd⟩ (by dsimp only; omega) ?_⟩
            simp only [lay, Int.natCast_add, Int.natCast_one, Ya, Y9, Ye, Yp, bytesA] at hbl ⊢
            (refine Weak.of (by simp [hc1]) ?_ ?_ <;> (repeat' (first | exact WkT.nil | exact WkH.nil _ | exact Le.refl _ | exact Le.junk _ | exact Le1.refl _ | exact Le1.nil _ | exact Le1.tok _ _ _ | exact Le1L.nil | rfl | assumption | exact bel_pss 5 (by decide) ps hpp | exact hbl | apply WkT.cons | apply WkH.cons | apply LeB.same | apply LeB.box | apply Le1L.cons | apply Le.agg | apply Le.one)))
          | ok p =>
            obtain ⟨n, r⟩ := p
            rw [rdP_ok ht, layP, if_pos rfl] at hrd
            rw [ht] at hsp
            refine Run.god tab_ok follows_ok Try.func123 60 ?_; simp only [hx, hkk, bytesA, List.getElem?_map, Yo, ↓alt_t, drun, aops, aone, aop, needs, ext, aev, aconst, aput, aupd, aload, afieldAddr, aindexAddr, acmp, ashift, abin, tab_3, tab_34, tab_85, tab_146, tab_224, tab_228, ok1, cellsAs, TI.agg, Y4, Yb, Yc, Y6, Y7, Ya, Y9, Y1, Y2, Yi, Yh, Yg, Yj, Yk, Y5, Y3, Yt, Yu, Ys, Yr, Nat.reduceAdd, Nat.reduceLeDiff, Yp, Yq, decide_true, Nat.reduceLT, Yv, Int.toNat_natCast, Y0, Y8]
            refine ⟨by omega, ?_⟩
            refine Ops.pure .free rfl rfl (hsp) (by simp only [bytesA, aev, Y4, Y1, Y2, Yf, Ye, Y3, Yd, Y0]; (repeat' first | exact .refl _ | apply LeR.tup | apply Le.agg | constructor)) rfl rfl ?_
            refine Ops.god tab_ok follows_ok Try.func123 60 ?_; simp only [takeZA, bytesA, drun, aops, aone, aop, needs, ext, aev, aconst, aput, aupd, astore, afieldAddr, acmp, aarith, ashift, abin, tab_3, tab_34, tab_85, tab_224, ok1, lay, AV.cells, AV.whole, Y4, Yb, Yc, Y6, Y7, Ya, Y9, Y1, Y2, Yi, Yh, Yg, Yj, Yl, Y5, Y3, Yd, Yt, Yu, Ys, Yr, Nat.reduceAdd, Nat.reduceLeDiff, Yp, Yq, Yv, Y0, Y8]
            have hbl : belL 5 (lay xs o [.int .i64 n]) = true := bel_lay o hxb rfl
            refine ⟨by omega, by unfold I64; omega, ih (k + 1, (lay xs o [.int .i64 n], ys), r, 0) _ ⟨by dsimp only; omega, by rw [lay_length (by simp; omega)]; exact hxs, hys, hbl, hyb, hrd⟩ (by dsimp only; omega) ?_⟩
            simp only [lay, Int.natCast_add, Int.natCast_one, Ya, Y9, Yp, bytesA] at hbl ⊢
            (refine Weak.of (by simp [hc1]) ?_ ?_ <;> (repeat' (first | exact WkT.nil | exact WkH.nil _ | exact Le.refl _ | exact Le.junk _ | exact Le1.refl _ | exact Le1.nil _ | exact Le1.tok _ _ _ | exact Le1L.nil | rfl | assumption | exact bel_pss 5 (by decide) ps hpp | exact hbl | apply WkT.cons | apply WkH.cons | apply LeB.same | apply LeB.box | apply Le1L.cons | apply Le.agg | apply Le.one)))
        · simp only at w1 w2
          subst w1
          cases ht : takeZ y with
          | error z =>
            rw [rdP_error ht, layP, if_neg (show ¬ (3 : Nat) = 2 by decide)] at hrd
            rw [ht] at hsp
            refine Run.god tab_ok follows_ok Try.func123 60 ?_; simp only [hx, hkk, bytesA, List.getElem?_map, Yo, ↓alt_t, drun, aops, aone, aop, needs, ext, aev, aconst, aput, aupd, aload, afieldAddr, aindexAddr, acmp, ashift, abin, tab_3, tab_34, tab_85, tab_146, tab_224, tab_228, ok1, cellsAs, TI.agg, Y4, Yb, Yc, Y6, Y7, Ya, Y9, Y1, Y2, Yi, Yh, Yg, Yj, Yk, Y5, Y3, Yt, Yu, Ys, Yr, Nat.reduceAdd, Nat.reduceLeDiff, Yp, Yq, decide_true, Nat.reduceLT, Yv, Int.toNat_natCast, Y0, Y8]
            refine ⟨by omega, ?_⟩
            refine Ops.pure .free rfl rfl (hsp) (by simp only [bytesA, aev, Y4, Y1, Y2, Yf, Ye, Y3, Yd, Y0]; (repeat' first | exact .refl _ | apply LeR.tup | apply Le.agg | constructor)) rfl rfl ?_
            refine Ops.god tab_ok follows_ok Try.func123 60 ?_; simp only [takeZA, bytesA, drun, aops, aone, aop, needs, ext, aev, aconst, aput, aupd, astore, afieldAddr, acmp, aarith, ashift, abin, tab_3, tab_34, tab_85, tab_224, ok1, lay, AV.cells, AV.whole, Y4, Yb, Yc, Y6, Y7, Ya, Y9, Y1, Y2, Yi, Yh, Yg, Yj, Yl, Ye, Y5, Y3, Yd, Yt, Yu, Ys, Yr, Nat.reduceAdd, Nat.reduceLeDiff, Yp, Yq, Yv, Y0, Y8]
            have hbl : belL 5 (lay ys o [.int .i64 0]) = true := bel_lay o hyb rfl
            refine ⟨by omega, by unfold I64; omega, ih (k + 1, (xs, lay ys o [.int .i64 0]), [], z) _ ⟨by dsimp only; omega, hxs, by rw [lay_length (by simp; omega)]; exact hys, hxb, hbl, hrd⟩ (by dsimp only; omega) ?_⟩
            simp only [lay, Int.natCast_add, Int.natCast_one, Ya, Y9, Ye, Yp, bytesA] at hbl ⊢
            (refine Weak.of (by simp [hc1]) ?_ ?_ <;> (repeat' (first | exact WkT.nil | exact WkH.nil _ | exact Le.refl _ | exact Le.junk _ | exact Le1.refl _ | exact Le1.nil _ | exact Le1.tok _ _ _ | exact Le1L.nil | rfl | assumption | exact bel_pss 5 (by decide) ps hpp | exact hbl | apply WkT.cons | apply WkH.cons | apply LeB.same | apply LeB.box | apply Le1L.cons | apply Le.agg | apply Le.one)))
          | ok p =>
            obtain ⟨n, r⟩ := p
            rw [rdP_ok ht, layP, if_neg (show ¬ (3 : Nat) = 2 by decide)] at hrd
            rw [ht] at hsp
            refine Run.god tab_ok follows_ok Try.func123 60 ?_; simp only [hx, hkk, bytesA, List.getElem?_map, Yo, ↓alt_t, drun, aops, aone, aop, needs, ext, aev, aconst, aput, aupd, aload, afieldAddr, aindexAddr, acmp, ashift, abin, tab_3, tab_34, tab_85, tab_146, tab_224, tab_228, ok1, cellsAs, TI.agg, Y4, Yb, Yc, Y6, Y7, Ya, Y9, Y1, Y2, Yi, Yh, Yg, Yj, Yk, Y5, Y3, Yt, Yu, Ys, Yr, Nat.reduceAdd, Nat.reduceLeDiff, Yp, Yq, decide_true, Nat.reduceLT, Yv, Int.toNat_natCast, Y0, Y8]
            refine ⟨by omega, ?_⟩
            refine Ops.pure .free rfl rfl (hsp) (by simp only [bytesA, aev, Y4, Y1, Y2, Yf, Ye, Y3, Yd, Y0]; (repeat' first | exact .refl _ | apply LeR.tup | apply Le.agg | constructor)) rfl rfl ?_
            refine Ops.god tab_ok follows_ok Try.func123 60 ?_; simp only [takeZA, bytesA, drun, aops, aone, aop, needs, ext, aev, aconst, aput, aupd, astore, afieldAddr, acmp, aarith, ashift, abin, tab_3, tab_34, tab_85, tab_224, ok1, lay, AV.cells, AV.whole, Y4, Yb, Yc, Y6, Y7, Ya, Y9, Y1, Y2, Yi, Yh, Yg, Yj, Yl, Y5, Y3, Yd, Yt, Yu, Ys, Yr, Nat.reduceAdd, Nat.reduceLeDiff, Yp, Yq, Yv, Y0, Y8]
            have hbl : belL 5 (lay ys o [.int .i64 n]) = true := bel_lay o hyb rfl
            refine ⟨by omega, by unfold I64; omega, ih (k + 1, (xs, lay ys o [.int .i64 n]), r, 0) _ ⟨by dsimp only; omega, hxs, by rw [lay_length (by simp; omega)]; exact hys, hxb, hbl, hrd⟩ (by dsimp only; omega) ?_⟩
            simp only [lay, Int.natCast_add, Int.natCast_one, Ya, Y9, Yp, bytesA] at hbl ⊢
            (refine Weak.of (by simp [hc1]) ?_ ?_ <;> (repeat' (first | exact WkT.nil | exact WkH.nil _ | exact Le.refl _ | exact Le.junk _ | exact Le1.refl _ | exact Le1.nil _ | exact Le1.tok _ _ _ | exact Le1L.nil | rfl | assumption | exact bel_pss 5 (by decide) ps hpp | exact hbl | apply WkT.cons | apply WkH.cons | apply LeB.same | apply LeB.box | apply Le1L.cons | apply Le.agg | apply Le.one)))
      · rw [rdP_no he] at hrd
        refine Run.god tab_ok follows_ok Try.func123 60 ?_; simp only [hx, hkk, he, bytesA, List.getElem?_map, Yo, ↓alt_t, ↓alt_f, drun, aops, aone, aop, needs, ext, aev, aconst, aput, aupd, aload, afieldAddr, aindexAddr, acmp, aarith, ashift, abin, tab_3, tab_34, tab_146, tab_224, tab_228, ok1, cellsAs, TI.agg, Y4, Yb, Yc, Y6, Y7, Ya, Y9, Y1, Y2, Yi, Yh, Yg, Yk, Y5, Y3, Yt, Yu, Ys, Yr, Nat.reduceAdd, Yp, decide_true, decide_false, Nat.reduceLT, Yv, Int.toNat_natCast, Y0, Y8]
        refine ⟨by omega, by unfold I64; omega, ih (k + 1, (xs, ys), y, e) _ ⟨by dsimp only; omega, hxs, hys, hxb, hyb, hrd⟩ (by dsimp only; omega) ?_⟩
        simp only [Int.natCast_add, Int.natCast_one, bytesA]
        (refine Weak.of (by simp [hc1]) ?_ ?_ <;> (repeat' (first | exact WkT.nil | exact WkH.nil _ | exact Le.refl _ | exact Le.junk _ | exact Le1.refl _ | exact Le1.nil _ | exact Le1.tok _ _ _ | exact Le1L.nil | rfl | assumption | exact bel_pss 5 (by decide) ps hpp | exact hbl | apply WkT.cons | apply WkH.cons | apply LeB.same | apply LeB.box | apply Le1L.cons | apply Le.agg | apply Le.one)))
    · obtain rfl : k = ps.length := by omega
      rw [List.drop_length] at hrd
      have hkk : ¬ (ps.length : Int) < ps.length := by omega
      refine Run.god tab_ok follows_ok Try.func123 60 ?_; simp only [Try.results123, hkk, bytesA, ↓alt_f, drun, aops, aone, afin, ares, aresL, aresOk, aop, needs, ext, aev, aput, aupd, acmp, ashift, abin, tab_3, ok1, exitTo, Y4, Yb, Yc, Y6, Y7, Y1, Y2, Y5, Y3, Yt, Ys, Yr, beq_self_eq_true, decide_false, Y0, Y8]
      rw [← hrd] at hR
      exact hR
end Go.Proofs.Ytkamcoechjdgpaa
/-
  order.TakeReply, told by its shadow.
-/
namespace Go.Proofs.Ytkamcoechjdgpaa
open Go.RowKit
def takeRp (b : Bytes) : Except Int (Rpl × Bytes) := match seqZ 4 b with
  | .error z => .error z
  | .ok (l, r) => match takeT r 1000 with
    | .error z => .error z
    | .ok (s, r2) => match takeL r2 200 1000 with
      | .error z => .error z
      | .ok (t, r3) =>
        if l.getD 2 0 < 0 ∨ 16 < l.getD 2 0 then .error 3 else .ok (⟨l.getD 0 0, l.getD 1 0, l.getD 2 0, s, l.getD 3 0, t⟩, r3)
def takeRpA : Except Int (Rpl × Bytes) → AV
  | .error z => .tup [encR ⟨0, 0, 0, [], 0, []⟩, bytesA [], .int .i64 z]
  | .ok (o, r) => .tup [encR o, bytesA r, .int .i64 0]
theorem takeTs_err' {most : Int} : ∀ {n : Nat} {b : Bytes} {z : Int}, takeTs most n b = .error z → ¬ z = 0
  | 0, b, z, h => by simp [takeTs] at h
  | n + 1, b, z, h => by
    simp only [takeTs] at h
    split at h
    · rename_i h1; cases h; exact takeT_err' h1
    · split at h
      · rename_i h2; cases h; exact takeTs_err' h2
      · cases h
theorem takeL_err' {b : Bytes} {many most z : Int} (h : takeL b many most = .error z) : ¬ z = 0 := by
  unfold takeL at h
  split at h
  · rename_i h1; cases h; exact takeN_err' h1
  · split at h
    · cases h; omega
    · exact takeTs_err' h
theorem takereply_spec (b : Bytes) (hb : b.length ≤ 1000000) : ASpec Try.prog 127 [bytesA b] (takeRpA (takeRp b)) := by
  have hps : ∀ p ∈ [((2 : Nat), (0 : Nat)), (2, 1), (3, 0), (2, 4)], (p.1 = 2 ∧ p.2 < 6) ∨ (p.1 = 3 ∧ p.2 < 1) := by decide
  cases hq : seqZ 4 b with
  | error z =>
    obtain ⟨c1, c2, hrd, hc1, n, hc2⟩ := rdP_seqE [(2, 0), (2, 1), (3, 0), (2, 4)] ([.int .i64 0, .int .i64 0, .int .i64 0, .str [], .int .i64 0, .nils], [.int .i64 0]) b z hq hps rfl rfl
    have hc2 : ∃ n, c2 = [.int .i64 n] := by
      rcases hc2 with h | h
      · exact ⟨n, h⟩
      · exact ⟨0, h⟩
    obtain ⟨n, rfl⟩ := hc2
    obtain ⟨d0, d1, d2, d3, d4, d5, rfl⟩ : ∃ d0 d1 d2 d3 d4 d5, c1 = [d0, d1, d2, d3, d4, d5] := by
      match c1, hc1 with
      | [d0, d1, d2, d3, d4, d5], _ => exact ⟨d0, d1, d2, d3, d4, d5, rfl⟩
    have hz := seqZ_err _ _ _ hq
    have e : takeRp b = .error z := by rw [takeRp, hq]
    rw [e]
    refine ⟨⟨_, Try.func127, by kernel_rfl, rfl⟩, ACall.of Try.func127 rfl fun c0 hc0 => ?_⟩; simp only [Try.ntmps127, Ya, Y9, Nat.reduceAdd, Nat.reduceSub, Ym, Yn, Y5, Y3]; refine Run.god tab_ok follows_ok Try.func127 60 ?_; simp only [bytesA, drun, aops, aone, aop, needs, ext, aev, aconst, aput, aupd, astore, afieldAddr, abuild, aelems, plains, tab_3, tab_43, tab_85, tab_146, tab_224, tab_228, ok1, lay, AV.cells, AV.whole, AV.plain, AV.bare, Y4, Yb, Yc, Y6, Y7, Ya, Y9, Y1, Y2, Yi, Yh, Yj, Yl, Yf, Ye, Y5, Y3, Yd, List.all_cons, List.all_nil, Ym, Yn, Yt, Yu, Ys, Yr, Nat.reduceAdd, Nat.reduceLeDiff, Nat.reduceMul, Nat.reduceBEq, Yp, Yq, Bool.and_self, Bool.and_true, Bool.and_false, Nat.reduceLT, Yv, Y0, Y8]
    refine Ops.call .free rfl rfl ⟨_, Try.func123, by kernel_rfl, rfl⟩ (rints2_call [(2, 0), (2, 1), (3, 0), (2, 4)] (by decide) hps _ rfl _ rfl b _ _ rfl rfl rfl rfl _ ?_)
    rw [hrd]
    refine Ops.god tab_ok follows_ok Try.func127 60 ?_; simp only [bytesA, drun, aops, aone, aop, needs, ext, aev, aput, aupd, afieldAddr, tab_43, ok1, Y4, Yb, Y6, Y7, Y1, Y2, Ye, Y5, Y3, Yt, Yr, Nat.reduceAdd, Yp, Y0, Y8]
    refine Ops.call .free rfl rfl ⟨_, Try.func124, by kernel_rfl, rfl⟩ ?_
    refine ACall.of Try.func124 rfl fun c1 hc1 => ?_; simp only [Try.ntmps124, Nat.reduceAdd, Y3]; refine Run.god tab_ok follows_ok Try.func124 60 ?_; simp only [Try.results124, hz, ↓alt_f, drun, aops, aone, afin, ares, aresL, aresOk, aop, needs, ext, aev, aconst, aput, aupd, aload, afieldAddr, acmp, ashift, abin, tab_34, tab_224, ok1, cellsAs, TI.agg, Y4, Yb, Yc, Y6, Y7, Ya, Y9, Y1, Y2, Yi, Yh, Yg, Yk, Yf, Ye, Y5, Y3, Yd, Ym, Yn, Yt, Ys, Yr, Nat.reduceAdd, Nat.reduceSub, Yp, decide_false, Yv, Y0, Y8]
    refine Ops.god tab_ok follows_ok Try.func127 60 ?_; simp only [Try.results127, hz, ↓alt_t, ↓alt_f, drun, adops, adone, places, mayNeed, freeOk, rdOf, AV.id, wrOf, aops, aone, afin, ares, aresL, ares1, aresOk, aresOk1, aop, needs, ext, aev, aconst, aput, aupd, aload, astore, afieldAddr, acmp, ashift, abin, abuild, tab_3, tab_34, tab_43, tab_224, ok1, lay, cellsAs, TI.agg, AV.cells, AV.whole, Y4, Yb, Yc, Y6, Y7, Ya, Y9, Y1, Y2, Yi, Yh, Yg, Yj, Yk, Yl, Ye, Y5, Y3, Yd, Yt, Yu, Ys, Yr, Nat.reduceAdd, Nat.reduceLeDiff, Yp, Bool.not_false, decide_false, Yv, Y0, Y8]
    refine ⟨rfl, rfl, ?_⟩
    simp only [takeRpA, encR, textsA, bytesA, Ye]
    (repeat' first | exact .refl _ | apply LeR.tup | apply Le.agg | constructor)
  | ok p =>
    obtain ⟨l, r⟩ := p
    have hrd := rdP_seq [(2, 0), (2, 1), (3, 0), (2, 4)] ([.int .i64 0, .int .i64 0, .int .i64 0, .str [], .int .i64 0, .nils], [.int .i64 0]) b l r hq
    have hl := seqZ_len _ _ _ _ hq
    have hr := seqZ_rest _ _ _ _ hq
    obtain ⟨n0, n1, n2, n3, rfl⟩ : ∃ n0 n1 n2 n3, l = [n0, n1, n2, n3] := by
      match l, hl with
      | [n0, n1, n2, n3], _ => exact ⟨n0, n1, n2, n3, rfl⟩
    simp only [layPs, layP, lay, Ya, Y9, Yi, Yh, Yg, Yj, Yk, Yl, Y5, Y3, Yd, Ys, Yr, Nat.reduceAdd, Nat.reduceEqDiff, Yp] at hrd
    have hs1 := taketext_spec r 1000 (by omega) (by omega)
    refine ⟨⟨_, Try.func127, by kernel_rfl, rfl⟩, ACall.of Try.func127 rfl fun c0 hc0 => ?_⟩; simp only [Try.ntmps127, Ya, Y9, Nat.reduceAdd, Nat.reduceSub, Ym, Yn, Y5, Y3]; refine Run.god tab_ok follows_ok Try.func127 60 ?_; simp only [bytesA, drun, aops, aone, aop, needs, ext, aev, aconst, aput, aupd, astore, afieldAddr, abuild, aelems, plains, tab_3, tab_43, tab_85, tab_146, tab_224, tab_228, ok1, lay, AV.cells, AV.whole, AV.plain, AV.bare, Y4, Yb, Yc, Y6, Y7, Ya, Y9, Y1, Y2, Yi, Yh, Yj, Yl, Yf, Ye, Y5, Y3, Yd, List.all_cons, List.all_nil, Ym, Yn, Yt, Yu, Ys, Yr, Nat.reduceAdd, Nat.reduceLeDiff, Nat.reduceMul, Nat.reduceBEq, Yp, Yq, Bool.and_self, Bool.and_true, Bool.and_false, Nat.reduceLT, Yv, Y0, Y8]
    refine Ops.call .free rfl rfl ⟨_, Try.func123, by kernel_rfl, rfl⟩ (rints2_call [(2, 0), (2, 1), (3, 0), (2, 4)] (by decide) hps _ rfl _ rfl b _ _ rfl rfl rfl rfl _ ?_)
    rw [hrd]
    refine Ops.god tab_ok follows_ok Try.func127 60 ?_; simp only [bytesA, drun, aops, aone, aop, needs, ext, aev, aput, aupd, afieldAddr, tab_43, ok1, Y4, Yb, Y6, Y7, Y1, Y2, Y5, Y3, Yt, Yr, Nat.reduceAdd, Yp, Y0, Y8]
    refine Ops.call .free rfl rfl ⟨_, Try.func124, by kernel_rfl, rfl⟩ ?_
    refine ACall.of Try.func124 rfl fun c1 hc1 => ?_; simp only [Try.ntmps124, Nat.reduceAdd, Y3]; refine Run.god tab_ok follows_ok Try.func124 60 ?_; simp only [↓alt_t, drun, aops, aone, aop, needs, ext, aev, aconst, aput, aupd, aload, afieldAddr, acmp, ashift, abin, tab_34, tab_85, tab_224, ok1, cellsAs, TI.agg, Y4, Yb, Yc, Y6, Y7, Ya, Y9, Y1, Y2, Yi, Yh, Yg, Yj, Yk, Yf, Ye, Y5, Y3, Yd, Ym, Yn, Yt, Ys, Yr, Nat.reduceAdd, Nat.reduceLeDiff, Nat.reduceSub, Yp, Yq, decide_true, Yv, Y0, Y8]
    cases ht : takeT r 1000 with
    | error z =>
      have e : takeRp b = .error z := by rw [takeRp, hq]; simp only [ht]
      have hz := takeT_err' ht
      rw [e]
      rw [ht] at hs1
      refine Ops.pure .free rfl rfl (hs1) (by simp only [bytesA, aev, Y4, Y1, Y2, Yf, Ye, Y3, Yd, Y0]; (repeat' first | exact .refl _ | apply LeR.tup | apply Le.agg | constructor)) rfl rfl ?_
      refine Ops.god tab_ok follows_ok Try.func124 60 ?_; simp only [Try.results124, takeTA, bytesA, drun, aops, aone, afin, ares, aresL, aresOk, aop, needs, ext, aev, aput, aupd, astore, afieldAddr, tab_9, tab_34, tab_85, tab_224, ok1, lay, AV.cells, AV.whole, Y4, Yb, Yc, Y6, Y7, Ya, Y9, Y1, Y2, Yi, Yh, Yg, Yj, Yl, Ye, Y5, Y3, Yd, Yt, Yu, Yr, Nat.reduceAdd, Nat.reduceLeDiff, Yp, Yq, Yv, Y0, Y8]
      refine Ops.god tab_ok follows_ok Try.func127 60 ?_; simp only [Try.results127, hz, ↓alt_t, ↓alt_f, drun, adops, adone, places, mayNeed, freeOk, rdOf, AV.id, wrOf, aops, aone, afin, ares, aresL, ares1, aresOk, aresOk1, aop, needs, ext, aev, aconst, aput, aupd, aload, astore, afieldAddr, acmp, ashift, abin, abuild, tab_3, tab_34, tab_43, tab_224, ok1, lay, cellsAs, TI.agg, AV.cells, AV.whole, Y4, Yb, Yc, Y6, Y7, Ya, Y9, Y1, Y2, Yi, Yh, Yg, Yj, Yk, Yl, Ye, Y5, Y3, Yd, Yt, Yu, Ys, Yr, Nat.reduceAdd, Nat.reduceLeDiff, Yp, Bool.not_false, decide_false, Yv, Y0, Y8]
      refine ⟨rfl, rfl, ?_⟩
      simp only [takeRpA, encR, textsA, bytesA, Ye]
      (repeat' first | exact .refl _ | apply LeR.tup | apply Le.agg | constructor)
    | ok p =>
      obtain ⟨t, r2⟩ := p
      rw [ht] at hs1
      have h2 := takeT_shorter ht
      have hs2 := takelist_spec r2 200 1000 (by omega) (by omega) (by omega)
      refine Ops.pure .free rfl rfl (hs1) (by simp only [bytesA, aev, Y4, Y1, Y2, Yf, Ye, Y3, Yd, Y0]; (repeat' first | exact .refl _ | apply LeR.tup | apply Le.agg | constructor)) rfl rfl ?_
      refine Ops.god tab_ok follows_ok Try.func124 60 ?_; simp only [Try.results124, takeTA, bytesA, drun, aops, aone, afin, ares, aresL, aresOk, aop, needs, ext, aev, aput, aupd, astore, afieldAddr, tab_9, tab_34, tab_85, tab_224, ok1, lay, AV.cells, AV.whole, Y4, Yb, Yc, Y6, Y7, Ya, Y9, Y1, Y2, Yi, Yh, Yg, Yj, Yl, Y5, Y3, Yd, Yt, Yu, Yr, Nat.reduceAdd, Nat.reduceLeDiff, Yp, Yq, Yv, Y0, Y8]
      refine Ops.god tab_ok follows_ok Try.func127 60 ?_; simp only [↓alt_t, drun, aops, aone, aop, needs, ext, aev, aconst, aput, aupd, aload, afieldAddr, acmp, ashift, abin, tab_34, tab_85, tab_224, ok1, cellsAs, TI.agg, Y4, Yb, Yc, Y6, Y7, Ya, Y9, Y1, Y2, Yi, Yh, Yg, Yj, Yk, Y5, Y3, Yt, Ys, Yr, Nat.reduceAdd, Nat.reduceLeDiff, Yp, Yq, decide_true, Yv, Y0, Y8]
      cases hu : takeL r2 200 1000 with
      | error z =>
        have e : takeRp b = .error z := by rw [takeRp, hq]; simp only [ht, hu]
        have hz := takeL_err' hu
        rw [e]
        rw [hu] at hs2
        refine Ops.pure .free rfl rfl (hs2) (by simp only [bytesA, aev, aconst, Y4, Y1, Y2, Yf, Ye, Y3, Yd, Y0]; (repeat' first | exact .refl _ | apply LeR.tup | apply Le.agg | constructor)) rfl rfl ?_
        refine Ops.god tab_ok follows_ok Try.func127 60 ?_; simp only [Try.results127, takeLA, textsA, Ye, bytesA, hz, ↓alt_t, drun, adops, adone, places, mayNeed, freeOk, rdOf, AV.id, wrOf, aops, aone, afin, ares, aresL, ares1, aresOk, aresOk1, aop, needs, ext, aev, aconst, aput, aupd, aload, astore, afieldAddr, acmp, ashift, abin, abuild, tab_3, tab_34, tab_41, tab_43, tab_85, tab_224, ok1, lay, cellsAs, TI.agg, AV.cells, AV.whole, Y4, Yb, Yc, Y6, Y7, Ya, Y9, Y1, Y2, Yi, Yh, Yg, Yj, Yk, Yl, Y5, Y3, Yd, Yt, Yu, Ys, Yr, Nat.reduceAdd, Nat.reduceLeDiff, Yp, Yq, Bool.not_false, decide_false, Yv, Y0, Y8]
        refine ⟨rfl, rfl, ?_⟩
        simp only [takeRpA, encR, textsA, bytesA, Ye]
        (repeat' first | exact .refl _ | apply LeR.tup | apply Le.agg | constructor)
      | ok p =>
        obtain ⟨u, r3⟩ := p
        rw [hu] at hs2
        refine Ops.pure .free rfl rfl (hs2) (by simp only [bytesA, aev, aconst, Y4, Y1, Y2, Yf, Ye, Y3, Yd, Y0]; (repeat' first | exact .refl _ | apply LeR.tup | apply Le.agg | constructor)) rfl rfl ?_
        by_cases g1 : n2 < 0
        · have e : takeRp b = .error 3 := by rw [takeRp, hq]; simp [ht, hu, g1]
          rw [e]
          refine Ops.god tab_ok follows_ok Try.func127 60 ?_; simp only [Try.results127, takeLA, textsA, bytesA, g1, ↓alt_t, ↓alt_f, ↓alts_t, ↓gone_ft, gslot, drun, aops, aone, afin, ares, aresL, ares1, aresOk, aresOk1, aop, needs, ext, aev, aconst, aput, aupd, aload, astore, afieldAddr, acmp, ashift, abin, abuild, tab_3, tab_34, tab_41, tab_43, tab_85, tab_224, ok1, lay, cellsAs, TI.agg, AV.cells, AV.whole, Y4, Yb, Yc, Y6, Y7, Ya, Y9, Y1, Y2, Yw, Yi, Yh, Yg, Yj, Yk, Yl, Ye, Y5, Y3, Yd, Yt, Yu, Ys, Yr, Nat.reduceAdd, Nat.reduceLeDiff, Yp, Yq, Bool.not_true, decide_true, Yv, Y0, Y8]
          simp only [takeRpA, encR, textsA, bytesA, Ye]
          (repeat' first | exact .refl _ | apply LeR.tup | apply Le.agg | constructor)
        · by_cases g2 : 16 < n2
          · have e : takeRp b = .error 3 := by rw [takeRp, hq]; simp [ht, hu, g2]
            rw [e]
            refine Ops.god tab_ok follows_ok Try.func127 60 ?_; simp only [Try.results127, takeLA, textsA, bytesA, g1, g2, ↓alt_t, ↓alt_f, ↓alts_f, ↓gone_ff, gslot, drun, aops, aone, afin, ares, aresL, ares1, aresOk, aresOk1, aop, needs, ext, aev, aconst, aput, aupd, aload, astore, afieldAddr, acmp, ashift, abin, abuild, tab_3, tab_34, tab_41, tab_43, tab_85, tab_224, ok1, lay, cellsAs, TI.agg, AV.cells, AV.whole, Y4, Yb, Yc, Y6, Y7, Ya, Y9, Y1, Y2, Yw, Yi, Yh, Yg, Yj, Yk, Yl, Ye, Y5, Y3, Yd, Yt, Yu, Ys, Yr, Nat.reduceAdd, Nat.reduceLeDiff, Yp, Yq, Bool.not_true, decide_true, decide_false, Yv, Y0, Y8]
            simp only [takeRpA, encR, textsA, bytesA, Ye]
            (repeat' first | exact .refl _ | apply LeR.tup | apply Le.agg | constructor)
          · have e : takeRp b = .ok (⟨n0, n1, n2, t, n3, u⟩, r3) := by rw [takeRp, hq]; simp [ht, hu, g1, g2]
            rw [e]
            refine Ops.god tab_ok follows_ok Try.func127 60 ?_; simp only [Try.results127, takeLA, textsA, bytesA, g1, g2, ↓alt_f, ↓alts_f, ↓gone_ff, gslot, drun, adops, adone, places, mayNeed, freeOk, rdOf, AV.id, wrOf, aops, aone, afin, ares, aresL, ares1, aresOk, aresOk1, aop, needs, ext, aev, aconst, aput, aupd, aload, astore, afieldAddr, acmp, ashift, abin, tab_3, tab_34, tab_41, tab_43, tab_85, tab_224, ok1, lay, cellsAs, TI.agg, AV.cells, AV.whole, Y4, Yb, Yc, Y6, Y7, Ya, Y9, Y1, Y2, Yw, Yi, Yh, Yg, Yj, Yk, Yl, Y5, Y3, Yd, Yt, Yu, Ys, Yr, Nat.reduceAdd, Nat.reduceLeDiff, Yp, Yq, Bool.not_true, decide_true, decide_false, Yv, Y0, Y8]
            refine ⟨rfl, rfl, ?_⟩
            simp only [takeRpA, encR, textsA, bytesA]
            (repeat' first | exact .refl _ | apply LeR.tup | apply Le.agg | constructor)
end Go.Proofs.Ytkamcoechjdgpaa
/-
  Orders and replies, written and taken: plain laws.
-/
namespace Go.Proofs.Ytkamcoechjdgpaa
open Go.RowKit
theorem unzig_i64 (n : Nat) (h : n < 18446744073709551616) : I64 (unzig n) := by
  unfold unzig I64
  split <;> omega
theorem takeZ_i64 {b r : Bytes} {n : Int} (h : takeZ b = .ok (n, r)) : I64 n := by
  unfold takeZ at h
  split at h
  · cases h
  · rename_i h1
    cases h
    exact unzig_i64 _ (taken_small h1).1
theorem encZs_cons (n : Int) (l : List Int) : encZs (n :: l) = encN (zig n) ++ encZs l := by simp [encZs]
theorem seqZ_only : ∀ (k : Nat) (b : Bytes) (l : List Int) (r : Bytes), seqZ k b = .ok (l, r) → encZs l ++ r = b ∧ ∀ n ∈ l, I64 n
  | 0, b, l, r, h => by
    simp only [seqZ, Except.ok.injEq, Prod.mk.injEq] at h
    rw [← h.1, ← h.2]
    simp [encZs]
  | k + 1, b, l, r, h => by
    simp only [seqZ] at h
    split at h
    · cases h
    · rename_i h1
      split at h
      · cases h
      · rename_i h2
        simp only [Except.ok.injEq, Prod.mk.injEq] at h
        obtain ⟨g1, g2⟩ := seqZ_only k _ _ _ h2
        rw [← h.1, ← h.2, encZs_cons, List.append_assoc, g1, takeZ_only h1]
        refine ⟨rfl, ?_⟩
        intro m hm
        rcases List.mem_cons.1 hm with rfl | hm
        · exact takeZ_i64 h1
        · exact g2 m hm
theorem takeO_only {b r : Bytes} {o : Ord} (h : takeO b = .ok (o, r)) : putO o ++ r = b ∧ mayO o = true ∧ smO o := by
  unfold takeO at h
  split at h
  · cases h
  · rename_i l r1 h1
    have hl := seqZ_len _ _ _ _ h1
    obtain ⟨n0, n1, n2, n3, n4, n5, rfl⟩ : ∃ n0 n1 n2 n3 n4 n5, l = [n0, n1, n2, n3, n4, n5] := by
      match l, hl with
      | [n0, n1, n2, n3, n4, n5], _ => exact ⟨n0, n1, n2, n3, n4, n5, rfl⟩
    obtain ⟨g1, g2⟩ := seqZ_only _ _ _ _ h1
    split at h
    · cases h
    · rename_i s r2 h2
      have k1 := takeT_only h2
      have q1 := (takeT_shorter h2).2
      split at h
      · cases h
      · rename_i t r3 h3
        have k2 := takeT_only h3
        have q2 := (takeT_shorter h3).2
        split at h
        · rename_i hm
          cases h
          simp only [List.mem_cons, List.not_mem_nil, or_false, forall_eq_or_imp, forall_eq] at g2
          obtain ⟨i0, i1, i2, i3, i4, i5⟩ := g2
          refine ⟨?_, hm, i0, i1, i2, i3, i4, i5, by dsimp only; omega, by dsimp only; omega⟩
          rw [← g1, ← k1, ← k2]
          simp [putO]
        · cases h
theorem takeT_size {b s r : Bytes} {most : Int} (h : takeT b most = .ok (s, r)) (hm : 0 ≤ most) : (s.length : Int) ≤ most := by
  have := (takeT_shorter h).2
  omega
theorem takeTs_size {most : Int} (hm : 0 ≤ most) : ∀ {n : Nat} {b r : Bytes} {l : List Bytes}, takeTs most n b = .ok (l, r) → l.length = n ∧ ∀ s ∈ l, (s.length : Int) ≤ most
  | 0, b, r, l, h => by
    simp only [takeTs, Except.ok.injEq, Prod.mk.injEq] at h
    obtain ⟨rfl, rfl⟩ := h
    exact ⟨rfl, fun s hs => absurd hs (by simp)⟩
  | n + 1, b, r, l, h => by
    rw [takeTs] at h
    split at h
    · cases h
    · rename_i s q hs
      split at h
      · cases h
      · rename_i l' r' hl
        simp only [Except.ok.injEq, Prod.mk.injEq] at h
        obtain ⟨rfl, rfl⟩ := h
        obtain ⟨h1, h2⟩ := takeTs_size hm hl
        refine ⟨by rw [List.length_cons, h1], fun x hx => ?_⟩
        rcases List.mem_cons.1 hx with rfl | hx
        · exact takeT_size hs hm
        · exact h2 x hx
theorem takeL_size {b r : Bytes} {l : List Bytes} {many most : Int} (h : takeL b many most = .ok (l, r)) (h0 : 0 ≤ many) (hm : 0 ≤ most) : (l.length : Int) ≤ many ∧ ∀ s ∈ l, (s.length : Int) ≤ most := by
  unfold takeL at h
  split at h
  · cases h
  · rename_i n q hn
    split at h
    · cases h
    · obtain ⟨h1, h2⟩ := takeTs_size hm h
      exact ⟨by omega, h2⟩
theorem tot_le (k : Nat) : ∀ l : List Bytes, (∀ s ∈ l, s.length ≤ k) → tot l ≤ (k + 9) * l.length
  | [], _ => by simp [tot]
  | x :: l, h => by
    have := tot_le k l fun s hs => h s (List.mem_cons_of_mem _ hs)
    have h0 := h x List.mem_cons_self
    rw [tot_cons, List.length_cons, Nat.mul_succ]
    omega
def SX (o : Rpl) : Prop := I64 o.a ∧ I64 o.b ∧ I64 o.x ∧ (0 ≤ o.e ∧ o.e ≤ 16) ∧ o.s.length ≤ 1000 ∧ o.l.length ≤ 200 ∧ ∀ s ∈ o.l, s.length ≤ 1000
theorem SX.e {o : Rpl} (h : SX o) : I64 o.e := by have := h.2.2.2.1; unfold I64; omega
theorem takeRp_SX {b r : Bytes} {o : Rpl} (h : takeRp b = .ok (o, r)) : putR o ++ r = b ∧ SX o := by
  unfold takeRp at h
  split at h
  · cases h
  · rename_i l r1 h1
    have hl := seqZ_len _ _ _ _ h1
    obtain ⟨n0, n1, n2, n3, rfl⟩ : ∃ n0 n1 n2 n3, l = [n0, n1, n2, n3] := by
      match l, hl with
      | [n0, n1, n2, n3], _ => exact ⟨n0, n1, n2, n3, rfl⟩
    obtain ⟨g1, g2⟩ := seqZ_only _ _ _ _ h1
    split at h
    · cases h
    · rename_i s r2 h2
      have k1 := takeT_only h2
      have q1 := takeT_size h2 (by decide)
      split at h
      · cases h
      · rename_i t r3 h3
        have k2 := takeL_only h3
        obtain ⟨q2, q3⟩ := takeL_size h3 (by decide) (by decide)
        split at h
        · cases h
        · rename_i hn
          cases h
          simp only [List.mem_cons, List.not_mem_nil, or_false, forall_eq_or_imp, forall_eq] at g2
          obtain ⟨i0, i1, i2, i3⟩ := g2
          simp only [List.getD_cons_zero, List.getD_cons_succ] at hn
          refine ⟨?_, i0, i1, i3, by simp only [List.getD_cons_zero, List.getD_cons_succ]; omega, by dsimp only; omega, by dsimp only; omega, fun s hs => by have := q3 s hs; omega⟩
          rw [← g1, ← k1, ← k2]
          simp [putR]
theorem seqZ_enc : ∀ (l : List Int) (r : Bytes), (∀ n ∈ l, I64 n) → seqZ l.length (encZs l ++ r) = .ok (l, r)
  | [], r, _ => rfl
  | n :: l, r, h => by
    have h0 := h n List.mem_cons_self
    unfold I64 at h0
    rw [encZs_cons, List.append_assoc, List.length_cons, seqZ, takeZ_enc n (by omega) (by omega)]
    simp only [seqZ_enc l r fun m hm => h m (List.mem_cons_of_mem _ hm)]
theorem may_small {o : Ord} (h : mayO o = true) : o.s.length ≤ 100 ∧ o.t.length ≤ 1000 := by
  simp only [mayO, Bool.and_eq_true, decide_eq_true_eq] at h
  omega
theorem takeO_enc (o : Ord) (h : mayO o = true) (hs : smO o) (more : Bytes) : takeO (putO o ++ more) = .ok (o, more) := by
  obtain ⟨h1, h2, h3, h4, h5, h6, _, _⟩ := hs
  obtain ⟨g1, g2⟩ := may_small h
  have e := seqZ_enc [o.a, o.b, o.kind, o.x, o.y, o.z] (encT o.s ++ (encT o.t ++ more)) (by simp; exact ⟨h1, h2, h3, h4, h5, h6⟩)
  simp only [Ya, Y9, Nat.reduceAdd] at e
  rw [takeO, putO, List.append_assoc, List.append_assoc, e]
  simp only [takeT_enc o.s 100 (by omega) (by omega), takeT_enc o.t 1000 (by omega) (by omega), List.getD_cons_zero, List.getD_cons_succ]
  rw [if_pos h]
theorem takeRp_encX (o : Rpl) (hs : SX o) (more : Bytes) : takeRp (putR o ++ more) = .ok (o, more) := by
  have h3 := hs.e
  obtain ⟨h1, h2, h4, h5, h6, h7, h8⟩ := hs
  have e := seqZ_enc [o.a, o.b, o.e, o.x] (encT o.s ++ (encL o.l ++ more)) (by simp; exact ⟨h1, h2, h3, h4⟩)
  simp only [Ya, Y9, Nat.reduceAdd] at e
  have hm : ∀ s ∈ o.l, (s.length : Int) ≤ max 1000 0 := fun s hs => by have := h8 s hs; omega
  have ht := tot_le 1000 o.l h8
  rw [takeRp, putR, List.append_assoc, List.append_assoc, e]
  simp only [takeT_enc o.s 1000 (by omega) (by omega), takeL_enc o.l 200 1000 (by omega) (by omega) hm, List.getD_cons_zero, List.getD_cons_succ]
  rw [if_neg (by omega)]
theorem takeO_err {b : Bytes} {z : Int} (h : takeO b = .error z) : ¬ z = 0 := by
  unfold takeO at h
  split at h
  · rename_i h1; cases h; exact seqZ_err _ _ _ h1
  · split at h
    · rename_i h1; cases h; exact takeT_err' h1
    · split at h
      · rename_i h1; cases h; exact takeT_err' h1
      · split at h
        · cases h
        · cases h; omega
theorem takeRp_err {b : Bytes} {z : Int} (h : takeRp b = .error z) : ¬ z = 0 := by
  unfold takeRp at h
  split at h
  · rename_i h1; cases h; exact seqZ_err _ _ _ h1
  · split at h
    · rename_i h1; cases h; exact takeT_err' h1
    · split at h
      · rename_i h1; cases h; exact takeL_err' h1
      · split at h
        · cases h; omega
        · cases h
end Go.Proofs.Ytkamcoechjdgpaa
