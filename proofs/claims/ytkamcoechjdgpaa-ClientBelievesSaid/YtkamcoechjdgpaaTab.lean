/-
  The table of the types that this seat's texts meet, and that it is the program's.
-/
import Derived.Test.YtkamcoechjdgpaaAi
import Derived.Test.YtkamcoechjdgpaaRows
namespace Go.Proofs.Ytkamcoechjdgpaa
set_option maxHeartbeats 4000000 in
def tab : Nat → Option TI
  | 1 => some ⟨.fn, 1, 8, 0, [], [.nilf], [], false⟩
  | 2 => some ⟨.int .i64, 1, 8, 0, [], [.int .i64 0], [], false⟩
  | 3 => some ⟨.int .i64, 1, 8, 0, [], [.int .i64 0], [], false⟩
  | 4 => some ⟨.bool, 1, 1, 0, [], [.bool false], [], false⟩
  | 5 => some ⟨.int .u8, 1, 1, 0, [], [.int .u8 0], [], false⟩
  | 6 => some ⟨.int .u8, 1, 1, 0, [], [.int .u8 0], [], false⟩
  | 7 => some ⟨.st, 4, 24, 0, [(0, 2), (1, 3), (2, 4), (3, 6)], [.int .i64 0, .int .i64 0, .bool false, .int .u8 0], [], false⟩
  | 8 => some ⟨.st, 4, 24, 0, [(0, 2), (1, 3), (2, 4), (3, 6)], [.int .i64 0, .int .i64 0, .bool false, .int .u8 0], [], false⟩
  | 9 => some ⟨.str, 1, 16, 0, [], [.str []], [], false⟩
  | 10 => some ⟨.str, 1, 16, 0, [], [.str []], [], false⟩
  | 11 => some ⟨.str, 1, 16, 0, [], [.str []], [], false⟩
  | 12 => some ⟨.int .u64, 1, 8, 0, [], [.int .u64 0], [], false⟩
  | 13 => some ⟨.st, 2, 24, 0, [(0, 9), (1, 12)], [.str [], .int .u64 0], [], false⟩
  | 14 => some ⟨.st, 2, 24, 0, [(0, 9), (1, 12)], [.str [], .int .u64 0], [], false⟩
  | 15 => some ⟨.ptr, 1, 8, 202, [], [.nilp], [], false⟩
  | 16 => some ⟨.ptr, 1, 8, 205, [], [.nilp], [], false⟩
  | 17 => some ⟨.ptr, 1, 8, 215, [], [.nilp], [], false⟩
  | 18 => some ⟨.st, 1, 8, 0, [(0, 17)], [.nilp], [], false⟩
  | 19 => some ⟨.st, 1, 8, 0, [(0, 17)], [.nilp], [], false⟩
  | 20 => some ⟨.iface, 1, 16, 0, [], [.nilI], [], false⟩
  | 21 => some ⟨.int .i32, 1, 4, 0, [], [.int .i32 0], [], false⟩
  | 22 => some ⟨.st, 2, 16, 0, [(0, 3), (1, 3)], [.int .i64 0, .int .i64 0], [], false⟩
  | 23 => some ⟨.st, 2, 16, 0, [(0, 3), (1, 3)], [.int .i64 0, .int .i64 0], [.int .i64, .int .i64], false⟩
  | 24 => some ⟨.sl, 1, 24, 4, [], [.nils], [], false⟩
  | 25 => some ⟨.st, 4, 48, 0, [(0, 23), (2, 3), (3, 24)], [.int .i64 0, .int .i64 0, .int .i64 0, .nils], [], false⟩
  | 26 => some ⟨.st, 4, 48, 0, [(0, 23), (2, 3), (3, 24)], [.int .i64 0, .int .i64 0, .int .i64 0, .nils], [], false⟩
  | 27 => some ⟨.sl, 1, 24, 45, [], [.nils], [], false⟩
  | 28 => some ⟨.st, 8, 80, 0, [(0, 3), (1, 3), (2, 3), (3, 9), (4, 9), (5, 3), (6, 3), (7, 3)], [.int .i64 0, .int .i64 0, .int .i64 0, .str [], .str [], .int .i64 0, .int .i64 0, .int .i64 0], [], false⟩
  | 29 => some ⟨.st, 8, 80, 0, [(0, 3), (1, 3), (2, 3), (3, 9), (4, 9), (5, 3), (6, 3), (7, 3)], [.int .i64 0, .int .i64 0, .int .i64 0, .str [], .str [], .int .i64 0, .int .i64 0, .int .i64 0], [.int .i64, .int .i64, .int .i64, .str, .str, .int .i64, .int .i64, .int .i64], false⟩
  | 30 => some ⟨.sl, 1, 24, 105, [], [.nils], [], true⟩
  | 31 => some ⟨.sl, 1, 24, 54, [], [.nils], [], false⟩
  | 32 => some ⟨.st, 13, 152, 0, [(0, 3), (1, 3), (2, 4), (3, 29), (11, 30), (12, 31)], [.int .i64 0, .int .i64 0, .bool false, .int .i64 0, .int .i64 0, .int .i64 0, .str [], .str [], .int .i64 0, .int .i64 0, .int .i64 0, .nils, .nils], [], false⟩
  | 33 => some ⟨.st, 13, 152, 0, [(0, 3), (1, 3), (2, 4), (3, 29), (11, 30), (12, 31)], [.int .i64 0, .int .i64 0, .bool false, .int .i64 0, .int .i64 0, .int .i64 0, .str [], .str [], .int .i64 0, .int .i64 0, .int .i64 0, .nils, .nils], [], false⟩
  | 34 => some ⟨.int .i64, 1, 8, 0, [], [.int .i64 0], [], false⟩
  | 36 => some ⟨.fn, 1, 8, 0, [], [.nilf], [], false⟩
  | 37 => some ⟨.fn, 1, 8, 0, [], [.nilf], [], false⟩
  | 38 => some ⟨.fn, 1, 8, 0, [], [.nilf], [], false⟩
  | 39 => some ⟨.fn, 1, 8, 0, [], [.nilf], [], false⟩
  | 40 => some ⟨.fn, 1, 8, 0, [], [.nilf], [], false⟩
  | 41 => some ⟨.sl, 1, 24, 9, [], [.nils], [], false⟩
  | 42 => some ⟨.st, 6, 72, 0, [(0, 3), (1, 3), (2, 34), (3, 9), (4, 3), (5, 41)], [.int .i64 0, .int .i64 0, .int .i64 0, .str [], .int .i64 0, .nils], [], false⟩
  | 43 => some ⟨.st, 6, 72, 0, [(0, 3), (1, 3), (2, 34), (3, 9), (4, 3), (5, 41)], [.int .i64 0, .int .i64 0, .int .i64 0, .str [], .int .i64 0, .nils], [], false⟩
  | 44 => some ⟨.st, 16, 168, 0, [(0, 3), (1, 3), (2, 29), (10, 43)], [.int .i64 0, .int .i64 0, .int .i64 0, .int .i64 0, .int .i64 0, .str [], .str [], .int .i64 0, .int .i64 0, .int .i64 0, .int .i64 0, .int .i64 0, .int .i64 0, .str [], .int .i64 0, .nils], [], false⟩
  | 45 => some ⟨.st, 16, 168, 0, [(0, 3), (1, 3), (2, 29), (10, 43)], [.int .i64 0, .int .i64 0, .int .i64 0, .int .i64 0, .int .i64 0, .str [], .str [], .int .i64 0, .int .i64 0, .int .i64 0, .int .i64 0, .int .i64 0, .int .i64 0, .str [], .int .i64 0, .nils], [], false⟩
  | 47 => some ⟨.fn, 1, 8, 0, [], [.nilf], [], false⟩
  | 49 => some ⟨.fn, 1, 8, 0, [], [.nilf], [], false⟩
  | 50 => some ⟨.fn, 1, 8, 0, [], [.nilf], [], false⟩
  | 51 => some ⟨.st, 6, 72, 0, [(0, 3), (1, 3), (2, 34), (3, 9), (4, 3), (5, 41)], [.int .i64 0, .int .i64 0, .int .i64 0, .str [], .int .i64 0, .nils], [], false⟩
  | 52 => some ⟨.fn, 1, 8, 0, [], [.nilf], [], false⟩
  | 53 => some ⟨.st, 14, 152, 0, [(0, 29), (8, 43)], [.int .i64 0, .int .i64 0, .int .i64 0, .str [], .str [], .int .i64 0, .int .i64 0, .int .i64 0, .int .i64 0, .int .i64 0, .int .i64 0, .str [], .int .i64 0, .nils], [], false⟩
  | 54 => some ⟨.st, 14, 152, 0, [(0, 29), (8, 43)], [.int .i64 0, .int .i64 0, .int .i64 0, .str [], .str [], .int .i64 0, .int .i64 0, .int .i64 0, .int .i64 0, .int .i64 0, .int .i64 0, .str [], .int .i64 0, .nils], [], false⟩
  | 55 => some ⟨.fn, 1, 8, 0, [], [.nilf], [], false⟩
  | 56 => some ⟨.fn, 1, 8, 0, [], [.nilf], [], false⟩
  | 57 => some ⟨.st, 2, 16, 0, [(0, 3), (1, 3)], [.int .i64 0, .int .i64 0], [.int .i64, .int .i64], false⟩
  | 58 => some ⟨.fn, 1, 8, 0, [], [.nilf], [], false⟩
  | 59 => some ⟨.st, 8, 80, 0, [(0, 3), (1, 3), (2, 3), (3, 9), (4, 9), (5, 3), (6, 3), (7, 3)], [.int .i64 0, .int .i64 0, .int .i64 0, .str [], .str [], .int .i64 0, .int .i64 0, .int .i64 0], [.int .i64, .int .i64, .int .i64, .str, .str, .int .i64, .int .i64, .int .i64], false⟩
  | 60 => some ⟨.sl, 1, 24, 114, [], [.nils], [], false⟩
  | 61 => some ⟨.sl, 1, 24, 116, [], [.nils], [], false⟩
  | 62 => some ⟨.st, 13, 152, 0, [(0, 3), (1, 3), (2, 4), (3, 59), (11, 60), (12, 61)], [.int .i64 0, .int .i64 0, .bool false, .int .i64 0, .int .i64 0, .int .i64 0, .str [], .str [], .int .i64 0, .int .i64 0, .int .i64 0, .nils, .nils], [], false⟩
  | 63 => some ⟨.st, 13, 152, 0, [(0, 3), (1, 3), (2, 4), (3, 59), (11, 60), (12, 61)], [.int .i64 0, .int .i64 0, .bool false, .int .i64 0, .int .i64 0, .int .i64 0, .str [], .str [], .int .i64 0, .int .i64 0, .int .i64 0, .nils, .nils], [], false⟩
  | 65 => some ⟨.fn, 1, 8, 0, [], [.nilf], [], false⟩
  | 66 => some ⟨.fn, 1, 8, 0, [], [.nilf], [], false⟩
  | 67 => some ⟨.fn, 1, 8, 0, [], [.nilf], [], false⟩
  | 69 => some ⟨.fn, 1, 8, 0, [], [.nilf], [], false⟩
  | 70 => some ⟨.fn, 1, 8, 0, [], [.nilf], [], false⟩
  | 72 => some ⟨.fn, 1, 8, 0, [], [.nilf], [], false⟩
  | 73 => some ⟨.fn, 1, 8, 0, [], [.nilf], [], false⟩
  | 74 => some ⟨.fn, 1, 8, 0, [], [.nilf], [], false⟩
  | 75 => some ⟨.sl, 1, 24, 80, [], [.nils], [], false⟩
  | 76 => some ⟨.st, 3, 32, 0, [(0, 3), (1, 3), (2, 9)], [.int .i64 0, .int .i64 0, .str []], [], false⟩
  | 77 => some ⟨.st, 3, 32, 0, [(0, 3), (1, 3), (2, 9)], [.int .i64 0, .int .i64 0, .str []], [.int .i64, .int .i64, .str], false⟩
  | 78 => some ⟨.sl, 1, 24, 77, [], [.nils], [], false⟩
  | 79 => some ⟨.st, 6, 72, 0, [(0, 3), (1, 3), (2, 4), (3, 3), (4, 9), (5, 78)], [.int .i64 0, .int .i64 0, .bool false, .int .i64 0, .str [], .nils], [], false⟩
  | 80 => some ⟨.st, 6, 72, 0, [(0, 3), (1, 3), (2, 4), (3, 3), (4, 9), (5, 78)], [.int .i64 0, .int .i64 0, .bool false, .int .i64 0, .str [], .nils], [], false⟩
  | 81 => some ⟨.arr 32, 32, 32, 5, [], [.int .u8 0, .int .u8 0, .int .u8 0, .int .u8 0, .int .u8 0, .int .u8 0, .int .u8 0, .int .u8 0, .int .u8 0, .int .u8 0, .int .u8 0, .int .u8 0, .int .u8 0, .int .u8 0, .int .u8 0, .int .u8 0, .int .u8 0, .int .u8 0, .int .u8 0, .int .u8 0, .int .u8 0, .int .u8 0, .int .u8 0, .int .u8 0, .int .u8 0, .int .u8 0, .int .u8 0, .int .u8 0, .int .u8 0, .int .u8 0, .int .u8 0, .int .u8 0], [.int .u8, .int .u8, .int .u8, .int .u8, .int .u8, .int .u8, .int .u8, .int .u8, .int .u8, .int .u8, .int .u8, .int .u8, .int .u8, .int .u8, .int .u8, .int .u8, .int .u8, .int .u8, .int .u8, .int .u8, .int .u8, .int .u8, .int .u8, .int .u8, .int .u8, .int .u8, .int .u8, .int .u8, .int .u8, .int .u8, .int .u8, .int .u8], false⟩
  | 82 => some ⟨.st, 62, 384, 0, [(0, 3), (1, 3), (2, 3), (3, 3), (4, 9), (5, 75), (6, 77), (9, 78), (10, 80), (16, 81), (48, 29), (56, 43)], [.int .i64 0, .int .i64 0, .int .i64 0, .int .i64 0, .str [], .nils, .int .i64 0, .int .i64 0, .str [], .nils, .int .i64 0, .int .i64 0, .bool false, .int .i64 0, .str [], .nils, .int .u8 0, .int .u8 0, .int .u8 0, .int .u8 0, .int .u8 0, .int .u8 0, .int .u8 0, .int .u8 0, .int .u8 0, .int .u8 0, .int .u8 0, .int .u8 0, .int .u8 0, .int .u8 0, .int .u8 0, .int .u8 0, .int .u8 0, .int .u8 0, .int .u8 0, .int .u8 0, .int .u8 0, .int .u8 0, .int .u8 0, .int .u8 0, .int .u8 0, .int .u8 0, .int .u8 0, .int .u8 0, .int .u8 0, .int .u8 0, .int .u8 0, .int .u8 0, .int .i64 0, .int .i64 0, .int .i64 0, .str [], .str [], .int .i64 0, .int .i64 0, .int .i64 0, .int .i64 0, .int .i64 0, .int .i64 0, .str [], .int .i64 0, .nils], [], false⟩
  | 83 => some ⟨.st, 62, 384, 0, [(0, 3), (1, 3), (2, 3), (3, 3), (4, 9), (5, 75), (6, 77), (9, 78), (10, 80), (16, 81), (48, 29), (56, 43)], [.int .i64 0, .int .i64 0, .int .i64 0, .int .i64 0, .str [], .nils, .int .i64 0, .int .i64 0, .str [], .nils, .int .i64 0, .int .i64 0, .bool false, .int .i64 0, .str [], .nils, .int .u8 0, .int .u8 0, .int .u8 0, .int .u8 0, .int .u8 0, .int .u8 0, .int .u8 0, .int .u8 0, .int .u8 0, .int .u8 0, .int .u8 0, .int .u8 0, .int .u8 0, .int .u8 0, .int .u8 0, .int .u8 0, .int .u8 0, .int .u8 0, .int .u8 0, .int .u8 0, .int .u8 0, .int .u8 0, .int .u8 0, .int .u8 0, .int .u8 0, .int .u8 0, .int .u8 0, .int .u8 0, .int .u8 0, .int .u8 0, .int .u8 0, .int .u8 0, .int .i64 0, .int .i64 0, .int .i64 0, .str [], .str [], .int .i64 0, .int .i64 0, .int .i64 0, .int .i64 0, .int .i64 0, .int .i64 0, .str [], .int .i64 0, .nils], [], false⟩
  | 84 => some ⟨.fn, 1, 8, 0, [], [.nilf], [], false⟩
  | 85 => some ⟨.sl, 1, 24, 5, [], [.nils], [], false⟩
  | 87 => some ⟨.fn, 1, 8, 0, [], [.nilf], [], false⟩
  | 89 => some ⟨.fn, 1, 8, 0, [], [.nilf], [], false⟩
  | 90 => some ⟨.fn, 1, 8, 0, [], [.nilf], [], false⟩
  | 91 => some ⟨.st, 62, 384, 0, [(0, 3), (1, 3), (2, 3), (3, 3), (4, 9), (5, 75), (6, 77), (9, 78), (10, 80), (16, 81), (48, 59), (56, 51)], [.int .i64 0, .int .i64 0, .int .i64 0, .int .i64 0, .str [], .nils, .int .i64 0, .int .i64 0, .str [], .nils, .int .i64 0, .int .i64 0, .bool false, .int .i64 0, .str [], .nils, .int .u8 0, .int .u8 0, .int .u8 0, .int .u8 0, .int .u8 0, .int .u8 0, .int .u8 0, .int .u8 0, .int .u8 0, .int .u8 0, .int .u8 0, .int .u8 0, .int .u8 0, .int .u8 0, .int .u8 0, .int .u8 0, .int .u8 0, .int .u8 0, .int .u8 0, .int .u8 0, .int .u8 0, .int .u8 0, .int .u8 0, .int .u8 0, .int .u8 0, .int .u8 0, .int .u8 0, .int .u8 0, .int .u8 0, .int .u8 0, .int .u8 0, .int .u8 0, .int .i64 0, .int .i64 0, .int .i64 0, .str [], .str [], .int .i64 0, .int .i64 0, .int .i64 0, .int .i64 0, .int .i64 0, .int .i64 0, .str [], .int .i64 0, .nils], [], false⟩
  | 92 => some ⟨.st, 62, 384, 0, [(0, 3), (1, 3), (2, 3), (3, 3), (4, 9), (5, 75), (6, 77), (9, 78), (10, 80), (16, 81), (48, 59), (56, 51)], [.int .i64 0, .int .i64 0, .int .i64 0, .int .i64 0, .str [], .nils, .int .i64 0, .int .i64 0, .str [], .nils, .int .i64 0, .int .i64 0, .bool false, .int .i64 0, .str [], .nils, .int .u8 0, .int .u8 0, .int .u8 0, .int .u8 0, .int .u8 0, .int .u8 0, .int .u8 0, .int .u8 0, .int .u8 0, .int .u8 0, .int .u8 0, .int .u8 0, .int .u8 0, .int .u8 0, .int .u8 0, .int .u8 0, .int .u8 0, .int .u8 0, .int .u8 0, .int .u8 0, .int .u8 0, .int .u8 0, .int .u8 0, .int .u8 0, .int .u8 0, .int .u8 0, .int .u8 0, .int .u8 0, .int .u8 0, .int .u8 0, .int .u8 0, .int .u8 0, .int .i64 0, .int .i64 0, .int .i64 0, .str [], .str [], .int .i64 0, .int .i64 0, .int .i64 0, .int .i64 0, .int .i64 0, .int .i64 0, .str [], .int .i64 0, .nils], [], false⟩
  | 93 => some ⟨.fn, 1, 8, 0, [], [.nilf], [], false⟩
  | 94 => some ⟨.fn, 1, 8, 0, [], [.nilf], [], false⟩
  | 95 => some ⟨.fn, 1, 8, 0, [], [.nilf], [], false⟩
  | 96 => some ⟨.fn, 1, 8, 0, [], [.nilf], [], false⟩
  | 97 => some ⟨.fn, 1, 8, 0, [], [.nilf], [], false⟩
  | 98 => some ⟨.fn, 1, 8, 0, [], [.nilf], [], false⟩
  | 100 => some ⟨.fn, 1, 8, 0, [], [.nilf], [], false⟩
  | 101 => some ⟨.fn, 1, 8, 0, [], [.nilf], [], false⟩
  | 103 => some ⟨.fn, 1, 8, 0, [], [.nilf], [], false⟩
  | 104 => some ⟨.st, 7, 80, 0, [(0, 3), (1, 43)], [.int .i64 0, .int .i64 0, .int .i64 0, .int .i64 0, .str [], .int .i64 0, .nils], [], false⟩
  | 105 => some ⟨.st, 7, 80, 0, [(0, 3), (1, 43)], [.int .i64 0, .int .i64 0, .int .i64 0, .int .i64 0, .str [], .int .i64 0, .nils], [], false⟩
  | 106 => some ⟨.fn, 1, 8, 0, [], [.nilf], [], false⟩
  | 107 => some ⟨.fn, 1, 8, 0, [], [.nilf], [], false⟩
  | 108 => some ⟨.fn, 1, 8, 0, [], [.nilf], [], false⟩
  | 109 => some ⟨.fn, 1, 8, 0, [], [.nilf], [], false⟩
  | 110 => some ⟨.fn, 1, 8, 0, [], [.nilf], [], false⟩
  | 111 => some ⟨.fn, 1, 8, 0, [], [.nilf], [], false⟩
  | 112 => some ⟨.fn, 1, 8, 0, [], [.nilf], [], false⟩
  | 113 => some ⟨.st, 7, 80, 0, [(0, 3), (1, 51)], [.int .i64 0, .int .i64 0, .int .i64 0, .int .i64 0, .str [], .int .i64 0, .nils], [], false⟩
  | 114 => some ⟨.st, 7, 80, 0, [(0, 3), (1, 51)], [.int .i64 0, .int .i64 0, .int .i64 0, .int .i64 0, .str [], .int .i64 0, .nils], [], false⟩
  | 115 => some ⟨.st, 14, 152, 0, [(0, 59), (8, 51)], [.int .i64 0, .int .i64 0, .int .i64 0, .str [], .str [], .int .i64 0, .int .i64 0, .int .i64 0, .int .i64 0, .int .i64 0, .int .i64 0, .str [], .int .i64 0, .nils], [], false⟩
  | 116 => some ⟨.st, 14, 152, 0, [(0, 59), (8, 51)], [.int .i64 0, .int .i64 0, .int .i64 0, .str [], .str [], .int .i64 0, .int .i64 0, .int .i64 0, .int .i64 0, .int .i64 0, .int .i64 0, .str [], .int .i64 0, .nils], [], false⟩
  | 117 => some ⟨.fn, 1, 8, 0, [], [.nilf], [], false⟩
  | 118 => some ⟨.fn, 1, 8, 0, [], [.nilf], [], false⟩
  | 119 => some ⟨.fn, 1, 8, 0, [], [.nilf], [], false⟩
  | 120 => some ⟨.fn, 1, 8, 0, [], [.nilf], [], false⟩
  | 121 => some ⟨.fn, 1, 8, 0, [], [.nilf], [], false⟩
  | 122 => some ⟨.fn, 1, 8, 0, [], [.nilf], [], false⟩
  | 123 => some ⟨.fn, 1, 8, 0, [], [.nilf], [], false⟩
  | 124 => some ⟨.fn, 1, 8, 0, [], [.nilf], [], false⟩
  | 125 => some ⟨.fn, 1, 8, 0, [], [.nilf], [], false⟩
  | 126 => some ⟨.fn, 1, 8, 0, [], [.nilf], [], false⟩
  | 127 => some ⟨.fn, 1, 8, 0, [], [.nilf], [], false⟩
  | 129 => some ⟨.fn, 1, 8, 0, [], [.nilf], [], false⟩
  | 130 => some ⟨.fn, 1, 8, 0, [], [.nilf], [], false⟩
  | 131 => some ⟨.fn, 1, 8, 0, [], [.nilf], [], false⟩
  | 132 => some ⟨.fn, 1, 8, 0, [], [.nilf], [], false⟩
  | 133 => some ⟨.fn, 1, 8, 0, [], [.nilf], [], false⟩
  | 134 => some ⟨.fn, 1, 8, 0, [], [.nilf], [], false⟩
  | 136 => some ⟨.fn, 1, 8, 0, [], [.nilf], [], false⟩
  | 137 => some ⟨.int .u64, 1, 8, 0, [], [.int .u64 0], [], false⟩
  | 138 => some ⟨.fn, 1, 8, 0, [], [.nilf], [], false⟩
  | 139 => some ⟨.fn, 1, 8, 0, [], [.nilf], [], false⟩
  | 140 => some ⟨.fn, 1, 8, 0, [], [.nilf], [], false⟩
  | 141 => some ⟨.fn, 1, 8, 0, [], [.nilf], [], false⟩
  | 142 => some ⟨.fn, 1, 8, 0, [], [.nilf], [], false⟩
  | 143 => some ⟨.ptr, 1, 8, 145, [], [.nilp], [], false⟩
  | 144 => some ⟨.st, 3, 40, 0, [(0, 85), (1, 4), (2, 34)], [.nils, .bool false, .int .i64 0], [], false⟩
  | 145 => some ⟨.st, 3, 40, 0, [(0, 85), (1, 4), (2, 34)], [.nils, .bool false, .int .i64 0], [], false⟩
  | 146 => some ⟨.ptr, 1, 8, 3, [], [.nilp], [], false⟩
  | 147 => some ⟨.st, 1, 8, 0, [(0, 146)], [.nilp], [], false⟩
  | 148 => some ⟨.st, 1, 8, 0, [(0, 146)], [.nilp], [], false⟩
  | 149 => some ⟨.fn, 1, 8, 0, [], [.nilf], [], false⟩
  | 150 => some ⟨.iface, 1, 16, 0, [], [.nilI], [], false⟩
  | 151 => some ⟨.iface, 1, 16, 0, [], [.nilI], [], false⟩
  | 152 => some ⟨.fn, 1, 8, 0, [], [.nilf], [], false⟩
  | 153 => some ⟨.fn, 1, 8, 0, [], [.nilf], [], false⟩
  | 154 => some ⟨.fn, 1, 8, 0, [], [.nilf], [], false⟩
  | 155 => some ⟨.fn, 1, 8, 0, [], [.nilf], [], false⟩
  | 156 => some ⟨.fn, 1, 8, 0, [], [.nilf], [], false⟩
  | 157 => some ⟨.fn, 1, 8, 0, [], [.nilf], [], false⟩
  | 158 => some ⟨.fn, 1, 8, 0, [], [.nilf], [], false⟩
  | 160 => some ⟨.fn, 1, 8, 0, [], [.nilf], [], false⟩
  | 161 => some ⟨.fn, 1, 8, 0, [], [.nilf], [], false⟩
  | 162 => some ⟨.ptr, 1, 8, 83, [], [.nilp], [], false⟩
  | 163 => some ⟨.ptr, 1, 8, 9, [], [.nilp], [], false⟩
  | 164 => some ⟨.st, 1, 8, 0, [(0, 163)], [.nilp], [], false⟩
  | 165 => some ⟨.st, 1, 8, 0, [(0, 163)], [.nilp], [], false⟩
  | 166 => some ⟨.ptr, 1, 8, 75, [], [.nilp], [], false⟩
  | 167 => some ⟨.fn, 1, 8, 0, [], [.nilf], [], false⟩
  | 168 => some ⟨.st, 2, 16, 0, [(0, 166), (1, 167)], [.nilp, .nilf], [], false⟩
  | 169 => some ⟨.st, 2, 16, 0, [(0, 166), (1, 167)], [.nilp, .nilf], [], false⟩
  | 170 => some ⟨.sl, 1, 24, 151, [], [.nils], [], false⟩
  | 171 => some ⟨.sl, 1, 24, 151, [], [.nils], [], false⟩
  | 172 => some ⟨.fn, 1, 8, 0, [], [.nilf], [], false⟩
  | 173 => some ⟨.ptr, 1, 8, 77, [], [.nilp], [], false⟩
  | 174 => some ⟨.fn, 1, 8, 0, [], [.nilf], [], false⟩
  | 175 => some ⟨.ptr, 1, 8, 78, [], [.nilp], [], false⟩
  | 176 => some ⟨.ptr, 1, 8, 80, [], [.nilp], [], false⟩
  | 177 => some ⟨.ptr, 1, 8, 81, [], [.nilp], [], false⟩
  | 178 => some ⟨.st, 1, 8, 0, [(0, 177)], [.nilp], [], false⟩
  | 179 => some ⟨.st, 1, 8, 0, [(0, 177)], [.nilp], [], false⟩
  | 180 => some ⟨.ptr, 1, 8, 29, [], [.nilp], [], false⟩
  | 181 => some ⟨.st, 1, 8, 0, [(0, 180)], [.nilp], [], false⟩
  | 182 => some ⟨.st, 1, 8, 0, [(0, 180)], [.nilp], [], false⟩
  | 183 => some ⟨.ptr, 1, 8, 43, [], [.nilp], [], false⟩
  | 184 => some ⟨.st, 1, 8, 0, [(0, 183)], [.nilp], [], false⟩
  | 185 => some ⟨.st, 1, 8, 0, [(0, 183)], [.nilp], [], false⟩
  | 186 => some ⟨.fn, 1, 8, 0, [], [.nilf], [], false⟩
  | 187 => some ⟨.fn, 1, 8, 0, [], [.nilf], [], false⟩
  | 188 => some ⟨.fn, 1, 8, 0, [], [.nilf], [], false⟩
  | 189 => some ⟨.int .u64, 1, 8, 0, [], [.int .u64 0], [], false⟩
  | 191 => some ⟨.fn, 1, 8, 0, [], [.nilf], [], false⟩
  | 192 => some ⟨.fn, 1, 8, 0, [], [.nilf], [], false⟩
  | 193 => some ⟨.ptr, 1, 8, 4, [], [.nilp], [], false⟩
  | 194 => some ⟨.st, 1, 8, 0, [(0, 193)], [.nilp], [], false⟩
  | 195 => some ⟨.st, 1, 8, 0, [(0, 193)], [.nilp], [], false⟩
  | 196 => some ⟨.st, 2, 16, 0, [(0, 175), (1, 172)], [.nilp, .nilf], [], false⟩
  | 197 => some ⟨.st, 2, 16, 0, [(0, 175), (1, 172)], [.nilp, .nilf], [], false⟩
  | 198 => some ⟨.fn, 1, 8, 0, [], [.nilf], [], false⟩
  | 199 => some ⟨.fn, 1, 8, 0, [], [.nilf], [], false⟩
  | 200 => some ⟨.fn, 1, 8, 0, [], [.nilf], [], false⟩
  | 201 => some ⟨.st, 4, 40, 0, [(0, 17), (1, 17), (2, 17), (3, 9)], [.nilp, .nilp, .nilp, .str []], [], false⟩
  | 202 => some ⟨.st, 4, 40, 0, [(0, 17), (1, 17), (2, 17), (3, 9)], [.nilp, .nilp, .nilp, .str []], [], false⟩
  | 203 => some ⟨.arr 0, 0, 0, 16, [], [], [], false⟩
  | 206 => some ⟨.fn, 1, 8, 0, [], [.nilf], [], false⟩
  | 207 => some ⟨.int .u32, 1, 4, 0, [], [.int .u32 0], [], false⟩
  | 208 => some ⟨.int .u8, 1, 1, 0, [], [.int .u8 0], [], false⟩
  | 209 => some ⟨.int .u8, 1, 1, 0, [], [.int .u8 0], [], false⟩
  | 210 => some ⟨.fn, 1, 8, 0, [], [.nilf], [], false⟩
  | 211 => some ⟨.ptr, 1, 8, 5, [], [.nilp], [], false⟩
  | 212 => some ⟨.int .i32, 1, 4, 0, [], [.int .i32 0], [], false⟩
  | 213 => some ⟨.int .i32, 1, 4, 0, [], [.int .i32 0], [], false⟩
  | 214 => some ⟨.st, 11, 48, 0, [(0, 12), (1, 12), (2, 207), (3, 208), (4, 5), (5, 5), (6, 209), (7, 210), (8, 211), (9, 212), (10, 213)], [.int .u64 0, .int .u64 0, .int .u32 0, .int .u8 0, .int .u8 0, .int .u8 0, .int .u8 0, .nilf, .nilp, .int .i32 0, .int .i32 0], [], false⟩
  | 215 => some ⟨.st, 11, 48, 0, [(0, 12), (1, 12), (2, 207), (3, 208), (4, 5), (5, 5), (6, 209), (7, 210), (8, 211), (9, 212), (10, 213)], [.int .u64 0, .int .u64 0, .int .u32 0, .int .u8 0, .int .u8 0, .int .u8 0, .int .u8 0, .nilf, .nilp, .int .i32 0, .int .i32 0], [], false⟩
  | 217 => some ⟨.fn, 1, 8, 0, [], [.nilf], [], false⟩
  | 218 => some ⟨.fn, 1, 8, 0, [], [.nilf], [], false⟩
  | 220 => some ⟨.fn, 1, 8, 0, [], [.nilf], [], false⟩
  | 221 => some ⟨.fn, 1, 8, 0, [], [.nilf], [], false⟩
  | 222 => some ⟨.ptr, 1, 8, 224, [], [.nilp], [], false⟩
  | 223 => some ⟨.st, 2, 32, 0, [(0, 85), (1, 34)], [.nils, .int .i64 0], [], false⟩
  | 224 => some ⟨.st, 2, 32, 0, [(0, 85), (1, 34)], [.nils, .int .i64 0], [], false⟩
  | 225 => some ⟨.fn, 1, 8, 0, [], [.nilf], [], false⟩
  | 226 => some ⟨.fn, 1, 8, 0, [], [.nilf], [], false⟩
  | 227 => some ⟨.fn, 1, 8, 0, [], [.nilf], [], false⟩
  | 228 => some ⟨.sl, 1, 24, 146, [], [.nils], [], false⟩
  | 229 => some ⟨.sl, 1, 24, 3, [], [.nils], [], false⟩
  | 231 => some ⟨.fn, 1, 8, 0, [], [.nilf], [], false⟩
  | 232 => some ⟨.fn, 1, 8, 0, [], [.nilf], [], false⟩
  | 234 => some ⟨.fn, 1, 8, 0, [], [.nilf], [], false⟩
  | 235 => some ⟨.fn, 1, 8, 0, [], [.nilf], [], false⟩
  | _ => none
theorem tab_1 : tab 1 = some ⟨.fn, 1, 8, 0, [], [.nilf], [], false⟩ := rfl
theorem tab_2 : tab 2 = some ⟨.int .i64, 1, 8, 0, [], [.int .i64 0], [], false⟩ := rfl
theorem tab_3 : tab 3 = some ⟨.int .i64, 1, 8, 0, [], [.int .i64 0], [], false⟩ := rfl
theorem tab_4 : tab 4 = some ⟨.bool, 1, 1, 0, [], [.bool false], [], false⟩ := rfl
theorem tab_5 : tab 5 = some ⟨.int .u8, 1, 1, 0, [], [.int .u8 0], [], false⟩ := rfl
theorem tab_6 : tab 6 = some ⟨.int .u8, 1, 1, 0, [], [.int .u8 0], [], false⟩ := rfl
theorem tab_7 : tab 7 = some ⟨.st, 4, 24, 0, [(0, 2), (1, 3), (2, 4), (3, 6)], [.int .i64 0, .int .i64 0, .bool false, .int .u8 0], [], false⟩ := rfl
theorem tab_8 : tab 8 = some ⟨.st, 4, 24, 0, [(0, 2), (1, 3), (2, 4), (3, 6)], [.int .i64 0, .int .i64 0, .bool false, .int .u8 0], [], false⟩ := rfl
theorem tab_9 : tab 9 = some ⟨.str, 1, 16, 0, [], [.str []], [], false⟩ := rfl
theorem tab_10 : tab 10 = some ⟨.str, 1, 16, 0, [], [.str []], [], false⟩ := rfl
theorem tab_11 : tab 11 = some ⟨.str, 1, 16, 0, [], [.str []], [], false⟩ := rfl
theorem tab_12 : tab 12 = some ⟨.int .u64, 1, 8, 0, [], [.int .u64 0], [], false⟩ := rfl
theorem tab_13 : tab 13 = some ⟨.st, 2, 24, 0, [(0, 9), (1, 12)], [.str [], .int .u64 0], [], false⟩ := rfl
theorem tab_14 : tab 14 = some ⟨.st, 2, 24, 0, [(0, 9), (1, 12)], [.str [], .int .u64 0], [], false⟩ := rfl
theorem tab_15 : tab 15 = some ⟨.ptr, 1, 8, 202, [], [.nilp], [], false⟩ := rfl
theorem tab_16 : tab 16 = some ⟨.ptr, 1, 8, 205, [], [.nilp], [], false⟩ := rfl
theorem tab_17 : tab 17 = some ⟨.ptr, 1, 8, 215, [], [.nilp], [], false⟩ := rfl
theorem tab_18 : tab 18 = some ⟨.st, 1, 8, 0, [(0, 17)], [.nilp], [], false⟩ := rfl
theorem tab_19 : tab 19 = some ⟨.st, 1, 8, 0, [(0, 17)], [.nilp], [], false⟩ := rfl
theorem tab_20 : tab 20 = some ⟨.iface, 1, 16, 0, [], [.nilI], [], false⟩ := rfl
theorem tab_21 : tab 21 = some ⟨.int .i32, 1, 4, 0, [], [.int .i32 0], [], false⟩ := rfl
theorem tab_22 : tab 22 = some ⟨.st, 2, 16, 0, [(0, 3), (1, 3)], [.int .i64 0, .int .i64 0], [], false⟩ := rfl
theorem tab_23 : tab 23 = some ⟨.st, 2, 16, 0, [(0, 3), (1, 3)], [.int .i64 0, .int .i64 0], [.int .i64, .int .i64], false⟩ := rfl
theorem tab_24 : tab 24 = some ⟨.sl, 1, 24, 4, [], [.nils], [], false⟩ := rfl
theorem tab_25 : tab 25 = some ⟨.st, 4, 48, 0, [(0, 23), (2, 3), (3, 24)], [.int .i64 0, .int .i64 0, .int .i64 0, .nils], [], false⟩ := rfl
theorem tab_26 : tab 26 = some ⟨.st, 4, 48, 0, [(0, 23), (2, 3), (3, 24)], [.int .i64 0, .int .i64 0, .int .i64 0, .nils], [], false⟩ := rfl
theorem tab_27 : tab 27 = some ⟨.sl, 1, 24, 45, [], [.nils], [], false⟩ := rfl
theorem tab_28 : tab 28 = some ⟨.st, 8, 80, 0, [(0, 3), (1, 3), (2, 3), (3, 9), (4, 9), (5, 3), (6, 3), (7, 3)], [.int .i64 0, .int .i64 0, .int .i64 0, .str [], .str [], .int .i64 0, .int .i64 0, .int .i64 0], [], false⟩ := rfl
theorem tab_29 : tab 29 = some ⟨.st, 8, 80, 0, [(0, 3), (1, 3), (2, 3), (3, 9), (4, 9), (5, 3), (6, 3), (7, 3)], [.int .i64 0, .int .i64 0, .int .i64 0, .str [], .str [], .int .i64 0, .int .i64 0, .int .i64 0], [.int .i64, .int .i64, .int .i64, .str, .str, .int .i64, .int .i64, .int .i64], false⟩ := rfl
theorem tab_30 : tab 30 = some ⟨.sl, 1, 24, 105, [], [.nils], [], true⟩ := rfl
theorem tab_31 : tab 31 = some ⟨.sl, 1, 24, 54, [], [.nils], [], false⟩ := rfl
theorem tab_32 : tab 32 = some ⟨.st, 13, 152, 0, [(0, 3), (1, 3), (2, 4), (3, 29), (11, 30), (12, 31)], [.int .i64 0, .int .i64 0, .bool false, .int .i64 0, .int .i64 0, .int .i64 0, .str [], .str [], .int .i64 0, .int .i64 0, .int .i64 0, .nils, .nils], [], false⟩ := rfl
theorem tab_33 : tab 33 = some ⟨.st, 13, 152, 0, [(0, 3), (1, 3), (2, 4), (3, 29), (11, 30), (12, 31)], [.int .i64 0, .int .i64 0, .bool false, .int .i64 0, .int .i64 0, .int .i64 0, .str [], .str [], .int .i64 0, .int .i64 0, .int .i64 0, .nils, .nils], [], false⟩ := rfl
theorem tab_34 : tab 34 = some ⟨.int .i64, 1, 8, 0, [], [.int .i64 0], [], false⟩ := rfl
theorem tab_36 : tab 36 = some ⟨.fn, 1, 8, 0, [], [.nilf], [], false⟩ := rfl
theorem tab_37 : tab 37 = some ⟨.fn, 1, 8, 0, [], [.nilf], [], false⟩ := rfl
theorem tab_38 : tab 38 = some ⟨.fn, 1, 8, 0, [], [.nilf], [], false⟩ := rfl
theorem tab_39 : tab 39 = some ⟨.fn, 1, 8, 0, [], [.nilf], [], false⟩ := rfl
theorem tab_40 : tab 40 = some ⟨.fn, 1, 8, 0, [], [.nilf], [], false⟩ := rfl
theorem tab_41 : tab 41 = some ⟨.sl, 1, 24, 9, [], [.nils], [], false⟩ := rfl
theorem tab_42 : tab 42 = some ⟨.st, 6, 72, 0, [(0, 3), (1, 3), (2, 34), (3, 9), (4, 3), (5, 41)], [.int .i64 0, .int .i64 0, .int .i64 0, .str [], .int .i64 0, .nils], [], false⟩ := rfl
theorem tab_43 : tab 43 = some ⟨.st, 6, 72, 0, [(0, 3), (1, 3), (2, 34), (3, 9), (4, 3), (5, 41)], [.int .i64 0, .int .i64 0, .int .i64 0, .str [], .int .i64 0, .nils], [], false⟩ := rfl
theorem tab_44 : tab 44 = some ⟨.st, 16, 168, 0, [(0, 3), (1, 3), (2, 29), (10, 43)], [.int .i64 0, .int .i64 0, .int .i64 0, .int .i64 0, .int .i64 0, .str [], .str [], .int .i64 0, .int .i64 0, .int .i64 0, .int .i64 0, .int .i64 0, .int .i64 0, .str [], .int .i64 0, .nils], [], false⟩ := rfl
theorem tab_45 : tab 45 = some ⟨.st, 16, 168, 0, [(0, 3), (1, 3), (2, 29), (10, 43)], [.int .i64 0, .int .i64 0, .int .i64 0, .int .i64 0, .int .i64 0, .str [], .str [], .int .i64 0, .int .i64 0, .int .i64 0, .int .i64 0, .int .i64 0, .int .i64 0, .str [], .int .i64 0, .nils], [], false⟩ := rfl
theorem tab_47 : tab 47 = some ⟨.fn, 1, 8, 0, [], [.nilf], [], false⟩ := rfl
theorem tab_49 : tab 49 = some ⟨.fn, 1, 8, 0, [], [.nilf], [], false⟩ := rfl
theorem tab_50 : tab 50 = some ⟨.fn, 1, 8, 0, [], [.nilf], [], false⟩ := rfl
theorem tab_51 : tab 51 = some ⟨.st, 6, 72, 0, [(0, 3), (1, 3), (2, 34), (3, 9), (4, 3), (5, 41)], [.int .i64 0, .int .i64 0, .int .i64 0, .str [], .int .i64 0, .nils], [], false⟩ := rfl
theorem tab_52 : tab 52 = some ⟨.fn, 1, 8, 0, [], [.nilf], [], false⟩ := rfl
theorem tab_53 : tab 53 = some ⟨.st, 14, 152, 0, [(0, 29), (8, 43)], [.int .i64 0, .int .i64 0, .int .i64 0, .str [], .str [], .int .i64 0, .int .i64 0, .int .i64 0, .int .i64 0, .int .i64 0, .int .i64 0, .str [], .int .i64 0, .nils], [], false⟩ := rfl
theorem tab_54 : tab 54 = some ⟨.st, 14, 152, 0, [(0, 29), (8, 43)], [.int .i64 0, .int .i64 0, .int .i64 0, .str [], .str [], .int .i64 0, .int .i64 0, .int .i64 0, .int .i64 0, .int .i64 0, .int .i64 0, .str [], .int .i64 0, .nils], [], false⟩ := rfl
theorem tab_55 : tab 55 = some ⟨.fn, 1, 8, 0, [], [.nilf], [], false⟩ := rfl
theorem tab_56 : tab 56 = some ⟨.fn, 1, 8, 0, [], [.nilf], [], false⟩ := rfl
theorem tab_57 : tab 57 = some ⟨.st, 2, 16, 0, [(0, 3), (1, 3)], [.int .i64 0, .int .i64 0], [.int .i64, .int .i64], false⟩ := rfl
theorem tab_58 : tab 58 = some ⟨.fn, 1, 8, 0, [], [.nilf], [], false⟩ := rfl
theorem tab_59 : tab 59 = some ⟨.st, 8, 80, 0, [(0, 3), (1, 3), (2, 3), (3, 9), (4, 9), (5, 3), (6, 3), (7, 3)], [.int .i64 0, .int .i64 0, .int .i64 0, .str [], .str [], .int .i64 0, .int .i64 0, .int .i64 0], [.int .i64, .int .i64, .int .i64, .str, .str, .int .i64, .int .i64, .int .i64], false⟩ := rfl
theorem tab_60 : tab 60 = some ⟨.sl, 1, 24, 114, [], [.nils], [], false⟩ := rfl
theorem tab_61 : tab 61 = some ⟨.sl, 1, 24, 116, [], [.nils], [], false⟩ := rfl
theorem tab_62 : tab 62 = some ⟨.st, 13, 152, 0, [(0, 3), (1, 3), (2, 4), (3, 59), (11, 60), (12, 61)], [.int .i64 0, .int .i64 0, .bool false, .int .i64 0, .int .i64 0, .int .i64 0, .str [], .str [], .int .i64 0, .int .i64 0, .int .i64 0, .nils, .nils], [], false⟩ := rfl
theorem tab_63 : tab 63 = some ⟨.st, 13, 152, 0, [(0, 3), (1, 3), (2, 4), (3, 59), (11, 60), (12, 61)], [.int .i64 0, .int .i64 0, .bool false, .int .i64 0, .int .i64 0, .int .i64 0, .str [], .str [], .int .i64 0, .int .i64 0, .int .i64 0, .nils, .nils], [], false⟩ := rfl
theorem tab_65 : tab 65 = some ⟨.fn, 1, 8, 0, [], [.nilf], [], false⟩ := rfl
theorem tab_66 : tab 66 = some ⟨.fn, 1, 8, 0, [], [.nilf], [], false⟩ := rfl
theorem tab_67 : tab 67 = some ⟨.fn, 1, 8, 0, [], [.nilf], [], false⟩ := rfl
theorem tab_69 : tab 69 = some ⟨.fn, 1, 8, 0, [], [.nilf], [], false⟩ := rfl
theorem tab_70 : tab 70 = some ⟨.fn, 1, 8, 0, [], [.nilf], [], false⟩ := rfl
theorem tab_72 : tab 72 = some ⟨.fn, 1, 8, 0, [], [.nilf], [], false⟩ := rfl
theorem tab_73 : tab 73 = some ⟨.fn, 1, 8, 0, [], [.nilf], [], false⟩ := rfl
theorem tab_74 : tab 74 = some ⟨.fn, 1, 8, 0, [], [.nilf], [], false⟩ := rfl
theorem tab_75 : tab 75 = some ⟨.sl, 1, 24, 80, [], [.nils], [], false⟩ := rfl
theorem tab_76 : tab 76 = some ⟨.st, 3, 32, 0, [(0, 3), (1, 3), (2, 9)], [.int .i64 0, .int .i64 0, .str []], [], false⟩ := rfl
theorem tab_77 : tab 77 = some ⟨.st, 3, 32, 0, [(0, 3), (1, 3), (2, 9)], [.int .i64 0, .int .i64 0, .str []], [.int .i64, .int .i64, .str], false⟩ := rfl
theorem tab_78 : tab 78 = some ⟨.sl, 1, 24, 77, [], [.nils], [], false⟩ := rfl
theorem tab_79 : tab 79 = some ⟨.st, 6, 72, 0, [(0, 3), (1, 3), (2, 4), (3, 3), (4, 9), (5, 78)], [.int .i64 0, .int .i64 0, .bool false, .int .i64 0, .str [], .nils], [], false⟩ := rfl
theorem tab_80 : tab 80 = some ⟨.st, 6, 72, 0, [(0, 3), (1, 3), (2, 4), (3, 3), (4, 9), (5, 78)], [.int .i64 0, .int .i64 0, .bool false, .int .i64 0, .str [], .nils], [], false⟩ := rfl
theorem tab_81 : tab 81 = some ⟨.arr 32, 32, 32, 5, [], [.int .u8 0, .int .u8 0, .int .u8 0, .int .u8 0, .int .u8 0, .int .u8 0, .int .u8 0, .int .u8 0, .int .u8 0, .int .u8 0, .int .u8 0, .int .u8 0, .int .u8 0, .int .u8 0, .int .u8 0, .int .u8 0, .int .u8 0, .int .u8 0, .int .u8 0, .int .u8 0, .int .u8 0, .int .u8 0, .int .u8 0, .int .u8 0, .int .u8 0, .int .u8 0, .int .u8 0, .int .u8 0, .int .u8 0, .int .u8 0, .int .u8 0, .int .u8 0], [.int .u8, .int .u8, .int .u8, .int .u8, .int .u8, .int .u8, .int .u8, .int .u8, .int .u8, .int .u8, .int .u8, .int .u8, .int .u8, .int .u8, .int .u8, .int .u8, .int .u8, .int .u8, .int .u8, .int .u8, .int .u8, .int .u8, .int .u8, .int .u8, .int .u8, .int .u8, .int .u8, .int .u8, .int .u8, .int .u8, .int .u8, .int .u8], false⟩ := rfl
theorem tab_82 : tab 82 = some ⟨.st, 62, 384, 0, [(0, 3), (1, 3), (2, 3), (3, 3), (4, 9), (5, 75), (6, 77), (9, 78), (10, 80), (16, 81), (48, 29), (56, 43)], [.int .i64 0, .int .i64 0, .int .i64 0, .int .i64 0, .str [], .nils, .int .i64 0, .int .i64 0, .str [], .nils, .int .i64 0, .int .i64 0, .bool false, .int .i64 0, .str [], .nils, .int .u8 0, .int .u8 0, .int .u8 0, .int .u8 0, .int .u8 0, .int .u8 0, .int .u8 0, .int .u8 0, .int .u8 0, .int .u8 0, .int .u8 0, .int .u8 0, .int .u8 0, .int .u8 0, .int .u8 0, .int .u8 0, .int .u8 0, .int .u8 0, .int .u8 0, .int .u8 0, .int .u8 0, .int .u8 0, .int .u8 0, .int .u8 0, .int .u8 0, .int .u8 0, .int .u8 0, .int .u8 0, .int .u8 0, .int .u8 0, .int .u8 0, .int .u8 0, .int .i64 0, .int .i64 0, .int .i64 0, .str [], .str [], .int .i64 0, .int .i64 0, .int .i64 0, .int .i64 0, .int .i64 0, .int .i64 0, .str [], .int .i64 0, .nils], [], false⟩ := rfl
theorem tab_83 : tab 83 = some ⟨.st, 62, 384, 0, [(0, 3), (1, 3), (2, 3), (3, 3), (4, 9), (5, 75), (6, 77), (9, 78), (10, 80), (16, 81), (48, 29), (56, 43)], [.int .i64 0, .int .i64 0, .int .i64 0, .int .i64 0, .str [], .nils, .int .i64 0, .int .i64 0, .str [], .nils, .int .i64 0, .int .i64 0, .bool false, .int .i64 0, .str [], .nils, .int .u8 0, .int .u8 0, .int .u8 0, .int .u8 0, .int .u8 0, .int .u8 0, .int .u8 0, .int .u8 0, .int .u8 0, .int .u8 0, .int .u8 0, .int .u8 0, .int .u8 0, .int .u8 0, .int .u8 0, .int .u8 0, .int .u8 0, .int .u8 0, .int .u8 0, .int .u8 0, .int .u8 0, .int .u8 0, .int .u8 0, .int .u8 0, .int .u8 0, .int .u8 0, .int .u8 0, .int .u8 0, .int .u8 0, .int .u8 0, .int .u8 0, .int .u8 0, .int .i64 0, .int .i64 0, .int .i64 0, .str [], .str [], .int .i64 0, .int .i64 0, .int .i64 0, .int .i64 0, .int .i64 0, .int .i64 0, .str [], .int .i64 0, .nils], [], false⟩ := rfl
theorem tab_84 : tab 84 = some ⟨.fn, 1, 8, 0, [], [.nilf], [], false⟩ := rfl
theorem tab_85 : tab 85 = some ⟨.sl, 1, 24, 5, [], [.nils], [], false⟩ := rfl
theorem tab_87 : tab 87 = some ⟨.fn, 1, 8, 0, [], [.nilf], [], false⟩ := rfl
theorem tab_89 : tab 89 = some ⟨.fn, 1, 8, 0, [], [.nilf], [], false⟩ := rfl
theorem tab_90 : tab 90 = some ⟨.fn, 1, 8, 0, [], [.nilf], [], false⟩ := rfl
theorem tab_91 : tab 91 = some ⟨.st, 62, 384, 0, [(0, 3), (1, 3), (2, 3), (3, 3), (4, 9), (5, 75), (6, 77), (9, 78), (10, 80), (16, 81), (48, 59), (56, 51)], [.int .i64 0, .int .i64 0, .int .i64 0, .int .i64 0, .str [], .nils, .int .i64 0, .int .i64 0, .str [], .nils, .int .i64 0, .int .i64 0, .bool false, .int .i64 0, .str [], .nils, .int .u8 0, .int .u8 0, .int .u8 0, .int .u8 0, .int .u8 0, .int .u8 0, .int .u8 0, .int .u8 0, .int .u8 0, .int .u8 0, .int .u8 0, .int .u8 0, .int .u8 0, .int .u8 0, .int .u8 0, .int .u8 0, .int .u8 0, .int .u8 0, .int .u8 0, .int .u8 0, .int .u8 0, .int .u8 0, .int .u8 0, .int .u8 0, .int .u8 0, .int .u8 0, .int .u8 0, .int .u8 0, .int .u8 0, .int .u8 0, .int .u8 0, .int .u8 0, .int .i64 0, .int .i64 0, .int .i64 0, .str [], .str [], .int .i64 0, .int .i64 0, .int .i64 0, .int .i64 0, .int .i64 0, .int .i64 0, .str [], .int .i64 0, .nils], [], false⟩ := rfl
theorem tab_92 : tab 92 = some ⟨.st, 62, 384, 0, [(0, 3), (1, 3), (2, 3), (3, 3), (4, 9), (5, 75), (6, 77), (9, 78), (10, 80), (16, 81), (48, 59), (56, 51)], [.int .i64 0, .int .i64 0, .int .i64 0, .int .i64 0, .str [], .nils, .int .i64 0, .int .i64 0, .str [], .nils, .int .i64 0, .int .i64 0, .bool false, .int .i64 0, .str [], .nils, .int .u8 0, .int .u8 0, .int .u8 0, .int .u8 0, .int .u8 0, .int .u8 0, .int .u8 0, .int .u8 0, .int .u8 0, .int .u8 0, .int .u8 0, .int .u8 0, .int .u8 0, .int .u8 0, .int .u8 0, .int .u8 0, .int .u8 0, .int .u8 0, .int .u8 0, .int .u8 0, .int .u8 0, .int .u8 0, .int .u8 0, .int .u8 0, .int .u8 0, .int .u8 0, .int .u8 0, .int .u8 0, .int .u8 0, .int .u8 0, .int .u8 0, .int .u8 0, .int .i64 0, .int .i64 0, .int .i64 0, .str [], .str [], .int .i64 0, .int .i64 0, .int .i64 0, .int .i64 0, .int .i64 0, .int .i64 0, .str [], .int .i64 0, .nils], [], false⟩ := rfl
theorem tab_93 : tab 93 = some ⟨.fn, 1, 8, 0, [], [.nilf], [], false⟩ := rfl
theorem tab_94 : tab 94 = some ⟨.fn, 1, 8, 0, [], [.nilf], [], false⟩ := rfl
theorem tab_95 : tab 95 = some ⟨.fn, 1, 8, 0, [], [.nilf], [], false⟩ := rfl
theorem tab_96 : tab 96 = some ⟨.fn, 1, 8, 0, [], [.nilf], [], false⟩ := rfl
theorem tab_97 : tab 97 = some ⟨.fn, 1, 8, 0, [], [.nilf], [], false⟩ := rfl
theorem tab_98 : tab 98 = some ⟨.fn, 1, 8, 0, [], [.nilf], [], false⟩ := rfl
theorem tab_100 : tab 100 = some ⟨.fn, 1, 8, 0, [], [.nilf], [], false⟩ := rfl
theorem tab_101 : tab 101 = some ⟨.fn, 1, 8, 0, [], [.nilf], [], false⟩ := rfl
theorem tab_103 : tab 103 = some ⟨.fn, 1, 8, 0, [], [.nilf], [], false⟩ := rfl
theorem tab_104 : tab 104 = some ⟨.st, 7, 80, 0, [(0, 3), (1, 43)], [.int .i64 0, .int .i64 0, .int .i64 0, .int .i64 0, .str [], .int .i64 0, .nils], [], false⟩ := rfl
theorem tab_105 : tab 105 = some ⟨.st, 7, 80, 0, [(0, 3), (1, 43)], [.int .i64 0, .int .i64 0, .int .i64 0, .int .i64 0, .str [], .int .i64 0, .nils], [], false⟩ := rfl
theorem tab_106 : tab 106 = some ⟨.fn, 1, 8, 0, [], [.nilf], [], false⟩ := rfl
theorem tab_107 : tab 107 = some ⟨.fn, 1, 8, 0, [], [.nilf], [], false⟩ := rfl
theorem tab_108 : tab 108 = some ⟨.fn, 1, 8, 0, [], [.nilf], [], false⟩ := rfl
theorem tab_109 : tab 109 = some ⟨.fn, 1, 8, 0, [], [.nilf], [], false⟩ := rfl
theorem tab_110 : tab 110 = some ⟨.fn, 1, 8, 0, [], [.nilf], [], false⟩ := rfl
theorem tab_111 : tab 111 = some ⟨.fn, 1, 8, 0, [], [.nilf], [], false⟩ := rfl
theorem tab_112 : tab 112 = some ⟨.fn, 1, 8, 0, [], [.nilf], [], false⟩ := rfl
theorem tab_113 : tab 113 = some ⟨.st, 7, 80, 0, [(0, 3), (1, 51)], [.int .i64 0, .int .i64 0, .int .i64 0, .int .i64 0, .str [], .int .i64 0, .nils], [], false⟩ := rfl
theorem tab_114 : tab 114 = some ⟨.st, 7, 80, 0, [(0, 3), (1, 51)], [.int .i64 0, .int .i64 0, .int .i64 0, .int .i64 0, .str [], .int .i64 0, .nils], [], false⟩ := rfl
theorem tab_115 : tab 115 = some ⟨.st, 14, 152, 0, [(0, 59), (8, 51)], [.int .i64 0, .int .i64 0, .int .i64 0, .str [], .str [], .int .i64 0, .int .i64 0, .int .i64 0, .int .i64 0, .int .i64 0, .int .i64 0, .str [], .int .i64 0, .nils], [], false⟩ := rfl
theorem tab_116 : tab 116 = some ⟨.st, 14, 152, 0, [(0, 59), (8, 51)], [.int .i64 0, .int .i64 0, .int .i64 0, .str [], .str [], .int .i64 0, .int .i64 0, .int .i64 0, .int .i64 0, .int .i64 0, .int .i64 0, .str [], .int .i64 0, .nils], [], false⟩ := rfl
theorem tab_117 : tab 117 = some ⟨.fn, 1, 8, 0, [], [.nilf], [], false⟩ := rfl
theorem tab_118 : tab 118 = some ⟨.fn, 1, 8, 0, [], [.nilf], [], false⟩ := rfl
theorem tab_119 : tab 119 = some ⟨.fn, 1, 8, 0, [], [.nilf], [], false⟩ := rfl
theorem tab_120 : tab 120 = some ⟨.fn, 1, 8, 0, [], [.nilf], [], false⟩ := rfl
theorem tab_121 : tab 121 = some ⟨.fn, 1, 8, 0, [], [.nilf], [], false⟩ := rfl
theorem tab_122 : tab 122 = some ⟨.fn, 1, 8, 0, [], [.nilf], [], false⟩ := rfl
theorem tab_123 : tab 123 = some ⟨.fn, 1, 8, 0, [], [.nilf], [], false⟩ := rfl
theorem tab_124 : tab 124 = some ⟨.fn, 1, 8, 0, [], [.nilf], [], false⟩ := rfl
theorem tab_125 : tab 125 = some ⟨.fn, 1, 8, 0, [], [.nilf], [], false⟩ := rfl
theorem tab_126 : tab 126 = some ⟨.fn, 1, 8, 0, [], [.nilf], [], false⟩ := rfl
theorem tab_127 : tab 127 = some ⟨.fn, 1, 8, 0, [], [.nilf], [], false⟩ := rfl
theorem tab_129 : tab 129 = some ⟨.fn, 1, 8, 0, [], [.nilf], [], false⟩ := rfl
theorem tab_130 : tab 130 = some ⟨.fn, 1, 8, 0, [], [.nilf], [], false⟩ := rfl
theorem tab_131 : tab 131 = some ⟨.fn, 1, 8, 0, [], [.nilf], [], false⟩ := rfl
theorem tab_132 : tab 132 = some ⟨.fn, 1, 8, 0, [], [.nilf], [], false⟩ := rfl
theorem tab_133 : tab 133 = some ⟨.fn, 1, 8, 0, [], [.nilf], [], false⟩ := rfl
theorem tab_134 : tab 134 = some ⟨.fn, 1, 8, 0, [], [.nilf], [], false⟩ := rfl
theorem tab_136 : tab 136 = some ⟨.fn, 1, 8, 0, [], [.nilf], [], false⟩ := rfl
theorem tab_137 : tab 137 = some ⟨.int .u64, 1, 8, 0, [], [.int .u64 0], [], false⟩ := rfl
theorem tab_138 : tab 138 = some ⟨.fn, 1, 8, 0, [], [.nilf], [], false⟩ := rfl
theorem tab_139 : tab 139 = some ⟨.fn, 1, 8, 0, [], [.nilf], [], false⟩ := rfl
theorem tab_140 : tab 140 = some ⟨.fn, 1, 8, 0, [], [.nilf], [], false⟩ := rfl
theorem tab_141 : tab 141 = some ⟨.fn, 1, 8, 0, [], [.nilf], [], false⟩ := rfl
theorem tab_142 : tab 142 = some ⟨.fn, 1, 8, 0, [], [.nilf], [], false⟩ := rfl
theorem tab_143 : tab 143 = some ⟨.ptr, 1, 8, 145, [], [.nilp], [], false⟩ := rfl
theorem tab_144 : tab 144 = some ⟨.st, 3, 40, 0, [(0, 85), (1, 4), (2, 34)], [.nils, .bool false, .int .i64 0], [], false⟩ := rfl
theorem tab_145 : tab 145 = some ⟨.st, 3, 40, 0, [(0, 85), (1, 4), (2, 34)], [.nils, .bool false, .int .i64 0], [], false⟩ := rfl
theorem tab_146 : tab 146 = some ⟨.ptr, 1, 8, 3, [], [.nilp], [], false⟩ := rfl
theorem tab_147 : tab 147 = some ⟨.st, 1, 8, 0, [(0, 146)], [.nilp], [], false⟩ := rfl
theorem tab_148 : tab 148 = some ⟨.st, 1, 8, 0, [(0, 146)], [.nilp], [], false⟩ := rfl
theorem tab_149 : tab 149 = some ⟨.fn, 1, 8, 0, [], [.nilf], [], false⟩ := rfl
theorem tab_150 : tab 150 = some ⟨.iface, 1, 16, 0, [], [.nilI], [], false⟩ := rfl
theorem tab_151 : tab 151 = some ⟨.iface, 1, 16, 0, [], [.nilI], [], false⟩ := rfl
theorem tab_152 : tab 152 = some ⟨.fn, 1, 8, 0, [], [.nilf], [], false⟩ := rfl
theorem tab_153 : tab 153 = some ⟨.fn, 1, 8, 0, [], [.nilf], [], false⟩ := rfl
theorem tab_154 : tab 154 = some ⟨.fn, 1, 8, 0, [], [.nilf], [], false⟩ := rfl
theorem tab_155 : tab 155 = some ⟨.fn, 1, 8, 0, [], [.nilf], [], false⟩ := rfl
theorem tab_156 : tab 156 = some ⟨.fn, 1, 8, 0, [], [.nilf], [], false⟩ := rfl
theorem tab_157 : tab 157 = some ⟨.fn, 1, 8, 0, [], [.nilf], [], false⟩ := rfl
theorem tab_158 : tab 158 = some ⟨.fn, 1, 8, 0, [], [.nilf], [], false⟩ := rfl
theorem tab_160 : tab 160 = some ⟨.fn, 1, 8, 0, [], [.nilf], [], false⟩ := rfl
theorem tab_161 : tab 161 = some ⟨.fn, 1, 8, 0, [], [.nilf], [], false⟩ := rfl
theorem tab_162 : tab 162 = some ⟨.ptr, 1, 8, 83, [], [.nilp], [], false⟩ := rfl
theorem tab_163 : tab 163 = some ⟨.ptr, 1, 8, 9, [], [.nilp], [], false⟩ := rfl
theorem tab_164 : tab 164 = some ⟨.st, 1, 8, 0, [(0, 163)], [.nilp], [], false⟩ := rfl
theorem tab_165 : tab 165 = some ⟨.st, 1, 8, 0, [(0, 163)], [.nilp], [], false⟩ := rfl
theorem tab_166 : tab 166 = some ⟨.ptr, 1, 8, 75, [], [.nilp], [], false⟩ := rfl
theorem tab_167 : tab 167 = some ⟨.fn, 1, 8, 0, [], [.nilf], [], false⟩ := rfl
theorem tab_168 : tab 168 = some ⟨.st, 2, 16, 0, [(0, 166), (1, 167)], [.nilp, .nilf], [], false⟩ := rfl
theorem tab_169 : tab 169 = some ⟨.st, 2, 16, 0, [(0, 166), (1, 167)], [.nilp, .nilf], [], false⟩ := rfl
theorem tab_170 : tab 170 = some ⟨.sl, 1, 24, 151, [], [.nils], [], false⟩ := rfl
theorem tab_171 : tab 171 = some ⟨.sl, 1, 24, 151, [], [.nils], [], false⟩ := rfl
theorem tab_172 : tab 172 = some ⟨.fn, 1, 8, 0, [], [.nilf], [], false⟩ := rfl
theorem tab_173 : tab 173 = some ⟨.ptr, 1, 8, 77, [], [.nilp], [], false⟩ := rfl
theorem tab_174 : tab 174 = some ⟨.fn, 1, 8, 0, [], [.nilf], [], false⟩ := rfl
theorem tab_175 : tab 175 = some ⟨.ptr, 1, 8, 78, [], [.nilp], [], false⟩ := rfl
theorem tab_176 : tab 176 = some ⟨.ptr, 1, 8, 80, [], [.nilp], [], false⟩ := rfl
theorem tab_177 : tab 177 = some ⟨.ptr, 1, 8, 81, [], [.nilp], [], false⟩ := rfl
theorem tab_178 : tab 178 = some ⟨.st, 1, 8, 0, [(0, 177)], [.nilp], [], false⟩ := rfl
theorem tab_179 : tab 179 = some ⟨.st, 1, 8, 0, [(0, 177)], [.nilp], [], false⟩ := rfl
theorem tab_180 : tab 180 = some ⟨.ptr, 1, 8, 29, [], [.nilp], [], false⟩ := rfl
theorem tab_181 : tab 181 = some ⟨.st, 1, 8, 0, [(0, 180)], [.nilp], [], false⟩ := rfl
theorem tab_182 : tab 182 = some ⟨.st, 1, 8, 0, [(0, 180)], [.nilp], [], false⟩ := rfl
theorem tab_183 : tab 183 = some ⟨.ptr, 1, 8, 43, [], [.nilp], [], false⟩ := rfl
theorem tab_184 : tab 184 = some ⟨.st, 1, 8, 0, [(0, 183)], [.nilp], [], false⟩ := rfl
theorem tab_185 : tab 185 = some ⟨.st, 1, 8, 0, [(0, 183)], [.nilp], [], false⟩ := rfl
theorem tab_186 : tab 186 = some ⟨.fn, 1, 8, 0, [], [.nilf], [], false⟩ := rfl
theorem tab_187 : tab 187 = some ⟨.fn, 1, 8, 0, [], [.nilf], [], false⟩ := rfl
theorem tab_188 : tab 188 = some ⟨.fn, 1, 8, 0, [], [.nilf], [], false⟩ := rfl
theorem tab_189 : tab 189 = some ⟨.int .u64, 1, 8, 0, [], [.int .u64 0], [], false⟩ := rfl
theorem tab_191 : tab 191 = some ⟨.fn, 1, 8, 0, [], [.nilf], [], false⟩ := rfl
theorem tab_192 : tab 192 = some ⟨.fn, 1, 8, 0, [], [.nilf], [], false⟩ := rfl
theorem tab_193 : tab 193 = some ⟨.ptr, 1, 8, 4, [], [.nilp], [], false⟩ := rfl
theorem tab_194 : tab 194 = some ⟨.st, 1, 8, 0, [(0, 193)], [.nilp], [], false⟩ := rfl
theorem tab_195 : tab 195 = some ⟨.st, 1, 8, 0, [(0, 193)], [.nilp], [], false⟩ := rfl
theorem tab_196 : tab 196 = some ⟨.st, 2, 16, 0, [(0, 175), (1, 172)], [.nilp, .nilf], [], false⟩ := rfl
theorem tab_197 : tab 197 = some ⟨.st, 2, 16, 0, [(0, 175), (1, 172)], [.nilp, .nilf], [], false⟩ := rfl
theorem tab_198 : tab 198 = some ⟨.fn, 1, 8, 0, [], [.nilf], [], false⟩ := rfl
theorem tab_199 : tab 199 = some ⟨.fn, 1, 8, 0, [], [.nilf], [], false⟩ := rfl
theorem tab_200 : tab 200 = some ⟨.fn, 1, 8, 0, [], [.nilf], [], false⟩ := rfl
theorem tab_201 : tab 201 = some ⟨.st, 4, 40, 0, [(0, 17), (1, 17), (2, 17), (3, 9)], [.nilp, .nilp, .nilp, .str []], [], false⟩ := rfl
theorem tab_202 : tab 202 = some ⟨.st, 4, 40, 0, [(0, 17), (1, 17), (2, 17), (3, 9)], [.nilp, .nilp, .nilp, .str []], [], false⟩ := rfl
theorem tab_203 : tab 203 = some ⟨.arr 0, 0, 0, 16, [], [], [], false⟩ := rfl
theorem tab_206 : tab 206 = some ⟨.fn, 1, 8, 0, [], [.nilf], [], false⟩ := rfl
theorem tab_207 : tab 207 = some ⟨.int .u32, 1, 4, 0, [], [.int .u32 0], [], false⟩ := rfl
theorem tab_208 : tab 208 = some ⟨.int .u8, 1, 1, 0, [], [.int .u8 0], [], false⟩ := rfl
theorem tab_209 : tab 209 = some ⟨.int .u8, 1, 1, 0, [], [.int .u8 0], [], false⟩ := rfl
theorem tab_210 : tab 210 = some ⟨.fn, 1, 8, 0, [], [.nilf], [], false⟩ := rfl
theorem tab_211 : tab 211 = some ⟨.ptr, 1, 8, 5, [], [.nilp], [], false⟩ := rfl
theorem tab_212 : tab 212 = some ⟨.int .i32, 1, 4, 0, [], [.int .i32 0], [], false⟩ := rfl
theorem tab_213 : tab 213 = some ⟨.int .i32, 1, 4, 0, [], [.int .i32 0], [], false⟩ := rfl
theorem tab_214 : tab 214 = some ⟨.st, 11, 48, 0, [(0, 12), (1, 12), (2, 207), (3, 208), (4, 5), (5, 5), (6, 209), (7, 210), (8, 211), (9, 212), (10, 213)], [.int .u64 0, .int .u64 0, .int .u32 0, .int .u8 0, .int .u8 0, .int .u8 0, .int .u8 0, .nilf, .nilp, .int .i32 0, .int .i32 0], [], false⟩ := rfl
theorem tab_215 : tab 215 = some ⟨.st, 11, 48, 0, [(0, 12), (1, 12), (2, 207), (3, 208), (4, 5), (5, 5), (6, 209), (7, 210), (8, 211), (9, 212), (10, 213)], [.int .u64 0, .int .u64 0, .int .u32 0, .int .u8 0, .int .u8 0, .int .u8 0, .int .u8 0, .nilf, .nilp, .int .i32 0, .int .i32 0], [], false⟩ := rfl
theorem tab_217 : tab 217 = some ⟨.fn, 1, 8, 0, [], [.nilf], [], false⟩ := rfl
theorem tab_218 : tab 218 = some ⟨.fn, 1, 8, 0, [], [.nilf], [], false⟩ := rfl
theorem tab_220 : tab 220 = some ⟨.fn, 1, 8, 0, [], [.nilf], [], false⟩ := rfl
theorem tab_221 : tab 221 = some ⟨.fn, 1, 8, 0, [], [.nilf], [], false⟩ := rfl
theorem tab_222 : tab 222 = some ⟨.ptr, 1, 8, 224, [], [.nilp], [], false⟩ := rfl
theorem tab_223 : tab 223 = some ⟨.st, 2, 32, 0, [(0, 85), (1, 34)], [.nils, .int .i64 0], [], false⟩ := rfl
theorem tab_224 : tab 224 = some ⟨.st, 2, 32, 0, [(0, 85), (1, 34)], [.nils, .int .i64 0], [], false⟩ := rfl
theorem tab_225 : tab 225 = some ⟨.fn, 1, 8, 0, [], [.nilf], [], false⟩ := rfl
theorem tab_226 : tab 226 = some ⟨.fn, 1, 8, 0, [], [.nilf], [], false⟩ := rfl
theorem tab_227 : tab 227 = some ⟨.fn, 1, 8, 0, [], [.nilf], [], false⟩ := rfl
theorem tab_228 : tab 228 = some ⟨.sl, 1, 24, 146, [], [.nils], [], false⟩ := rfl
theorem tab_229 : tab 229 = some ⟨.sl, 1, 24, 3, [], [.nils], [], false⟩ := rfl
theorem tab_231 : tab 231 = some ⟨.fn, 1, 8, 0, [], [.nilf], [], false⟩ := rfl
theorem tab_232 : tab 232 = some ⟨.fn, 1, 8, 0, [], [.nilf], [], false⟩ := rfl
theorem tab_234 : tab 234 = some ⟨.fn, 1, 8, 0, [], [.nilf], [], false⟩ := rfl
theorem tab_235 : tab 235 = some ⟨.fn, 1, 8, 0, [], [.nilf], [], false⟩ := rfl
theorem follows_ok : Try.prog.follows .mixedOrders = true := by kernel_rfl
set_option maxHeartbeats 4000000 in
set_option maxRecDepth 100000 in
theorem tab_ok : TabOk Try.prog tab := by
  intro t ti h
  unfold tab at h
  split at h <;> first | (cases h; done) | (cases h; exact tiB_ok (by kernel_rfl))
end Go.Proofs.Ytkamcoechjdgpaa
