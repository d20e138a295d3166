/-
  The table of the types that this seat's texts meet, and that it is the program's.
-/
import Derived.Test.YtgonmnjgodleeaaDoorAi
import Derived.Test.YtgonmnjgodleeaaDoorRows
namespace Go.Proofs.YtgonmnjgodleeaaDoor
set_option maxHeartbeats 4000000 in
def tab : Nat → Option TI
  | 1 => some ⟨.fn, 1, 8, 0, [], [.nilf], [], false⟩
  | 2 => some ⟨.int .i64, 1, 8, 0, [], [.int .i64 0], [], false⟩
  | 3 => some ⟨.int .i64, 1, 8, 0, [], [.int .i64 0], [], false⟩
  | 4 => some ⟨.bool, 1, 1, 0, [], [.bool false], [], false⟩
  | 5 => some ⟨.int .u8, 1, 1, 0, [], [.int .u8 0], [], false⟩
  | 6 => some ⟨.int .u8, 1, 1, 0, [], [.int .u8 0], [], false⟩
  | 7 => some ⟨.st, 4, 24, 0, [(0, 2), (1, 3), (2, 4), (3, 6)], [.int .i64 0, .int .i64 0, .bool false, .int .u8 0], [], false⟩
  | 8 => some ⟨.st, 4, 24, 0, [(0, 2), (1, 3), (2, 4), (3, 6)], [.int .i64 0, .int .i64 0, .bool false, .int .u8 0], [], false⟩
  | 9 => some ⟨.str, 1, 16, 0, [], [.str []], [], false⟩
  | 10 => some ⟨.str, 1, 16, 0, [], [.str []], [], false⟩
  | 11 => some ⟨.str, 1, 16, 0, [], [.str []], [], false⟩
  | 12 => some ⟨.int .u64, 1, 8, 0, [], [.int .u64 0], [], false⟩
  | 13 => some ⟨.st, 2, 24, 0, [(0, 9), (1, 12)], [.str [], .int .u64 0], [], false⟩
  | 14 => some ⟨.st, 2, 24, 0, [(0, 9), (1, 12)], [.str [], .int .u64 0], [], false⟩
  | 15 => some ⟨.ptr, 1, 8, 98, [], [.nilp], [], false⟩
  | 16 => some ⟨.ptr, 1, 8, 101, [], [.nilp], [], false⟩
  | 17 => some ⟨.ptr, 1, 8, 109, [], [.nilp], [], false⟩
  | 18 => some ⟨.st, 1, 8, 0, [(0, 17)], [.nilp], [], false⟩
  | 19 => some ⟨.st, 1, 8, 0, [(0, 17)], [.nilp], [], false⟩
  | 20 => some ⟨.iface, 1, 16, 0, [], [.nilI], [], false⟩
  | 21 => some ⟨.int .i32, 1, 4, 0, [], [.int .i32 0], [], false⟩
  | 22 => some ⟨.st, 2, 16, 0, [(0, 3), (1, 3)], [.int .i64 0, .int .i64 0], [], false⟩
  | 23 => some ⟨.st, 2, 16, 0, [(0, 3), (1, 3)], [.int .i64 0, .int .i64 0], [.int .i64, .int .i64], false⟩
  | 24 => some ⟨.sl, 1, 24, 35, [], [.nils], [], false⟩
  | 25 => some ⟨.st, 1, 24, 0, [(0, 24)], [.nils], [], false⟩
  | 26 => some ⟨.st, 1, 24, 0, [(0, 24)], [.nils], [], false⟩
  | 27 => some ⟨.fn, 1, 8, 0, [], [.nilf], [], false⟩
  | 28 => some ⟨.fn, 1, 8, 0, [], [.nilf], [], false⟩
  | 29 => some ⟨.st, 2, 16, 0, [(0, 3), (1, 3)], [.int .i64 0, .int .i64 0], [.int .i64, .int .i64], false⟩
  | 30 => some ⟨.fn, 1, 8, 0, [], [.nilf], [], false⟩
  | 31 => some ⟨.fn, 1, 8, 0, [], [.nilf], [], false⟩
  | 32 => some ⟨.st, 1, 24, 0, [(0, 24)], [.nils], [], false⟩
  | 33 => some ⟨.fn, 1, 8, 0, [], [.nilf], [], false⟩
  | 34 => some ⟨.st, 3, 32, 0, [(0, 3), (1, 3), (2, 9)], [.int .i64 0, .int .i64 0, .str []], [], false⟩
  | 35 => some ⟨.st, 3, 32, 0, [(0, 3), (1, 3), (2, 9)], [.int .i64 0, .int .i64 0, .str []], [.int .i64, .int .i64, .str], false⟩
  | 36 => some ⟨.fn, 1, 8, 0, [], [.nilf], [], false⟩
  | 38 => some ⟨.fn, 1, 8, 0, [], [.nilf], [], false⟩
  | 39 => some ⟨.fn, 1, 8, 0, [], [.nilf], [], false⟩
  | 40 => some ⟨.fn, 1, 8, 0, [], [.nilf], [], false⟩
  | 41 => some ⟨.fn, 1, 8, 0, [], [.nilf], [], false⟩
  | 42 => some ⟨.fn, 1, 8, 0, [], [.nilf], [], false⟩
  | 43 => some ⟨.fn, 1, 8, 0, [], [.nilf], [], false⟩
  | 44 => some ⟨.fn, 1, 8, 0, [], [.nilf], [], false⟩
  | 46 => some ⟨.fn, 1, 8, 0, [], [.nilf], [], false⟩
  | 47 => some ⟨.fn, 1, 8, 0, [], [.nilf], [], false⟩
  | 48 => some ⟨.fn, 1, 8, 0, [], [.nilf], [], false⟩
  | 49 => some ⟨.fn, 1, 8, 0, [], [.nilf], [], false⟩
  | 50 => some ⟨.fn, 1, 8, 0, [], [.nilf], [], false⟩
  | 51 => some ⟨.fn, 1, 8, 0, [], [.nilf], [], false⟩
  | 52 => some ⟨.fn, 1, 8, 0, [], [.nilf], [], false⟩
  | 53 => some ⟨.fn, 1, 8, 0, [], [.nilf], [], false⟩
  | 54 => some ⟨.fn, 1, 8, 0, [], [.nilf], [], false⟩
  | 55 => some ⟨.fn, 1, 8, 0, [], [.nilf], [], false⟩
  | 56 => some ⟨.fn, 1, 8, 0, [], [.nilf], [], false⟩
  | 57 => some ⟨.fn, 1, 8, 0, [], [.nilf], [], false⟩
  | 58 => some ⟨.fn, 1, 8, 0, [], [.nilf], [], false⟩
  | 59 => some ⟨.ptr, 1, 8, 62, [], [.nilp], [], false⟩
  | 60 => some ⟨.sl, 1, 24, 5, [], [.nils], [], false⟩
  | 61 => some ⟨.st, 2, 32, 0, [(0, 59), (1, 60)], [.nilp, .nils], [], false⟩
  | 62 => some ⟨.st, 2, 32, 0, [(0, 59), (1, 60)], [.nilp, .nils], [], false⟩
  | 63 => some ⟨.iface, 1, 16, 0, [], [.nilI], [], false⟩
  | 64 => some ⟨.iface, 1, 16, 0, [], [.nilI], [], false⟩
  | 66 => some ⟨.fn, 1, 8, 0, [], [.nilf], [], false⟩
  | 67 => some ⟨.fn, 1, 8, 0, [], [.nilf], [], false⟩
  | 68 => some ⟨.fn, 1, 8, 0, [], [.nilf], [], false⟩
  | 69 => some ⟨.map, 1, 8, 3, [(0, 71)], [.nilm], [], false⟩
  | 70 => some ⟨.st, 2, 24, 0, [(0, 3), (1, 9)], [.int .i64 0, .str []], [], false⟩
  | 71 => some ⟨.st, 2, 24, 0, [(0, 3), (1, 9)], [.int .i64 0, .str []], [.int .i64, .str], false⟩
  | 72 => some ⟨.fn, 1, 8, 0, [], [.nilf], [], false⟩
  | 74 => some ⟨.ptr, 1, 8, 5, [], [.nilp], [], false⟩
  | 75 => some ⟨.fn, 1, 8, 0, [], [.nilf], [], false⟩
  | 78 => some ⟨.fn, 1, 8, 0, [], [.nilf], [], false⟩
  | 79 => some ⟨.fn, 1, 8, 0, [], [.nilf], [], false⟩
  | 80 => some ⟨.arr 24, 24, 24, 5, [], [.int .u8 0, .int .u8 0, .int .u8 0, .int .u8 0, .int .u8 0, .int .u8 0, .int .u8 0, .int .u8 0, .int .u8 0, .int .u8 0, .int .u8 0, .int .u8 0, .int .u8 0, .int .u8 0, .int .u8 0, .int .u8 0, .int .u8 0, .int .u8 0, .int .u8 0, .int .u8 0, .int .u8 0, .int .u8 0, .int .u8 0, .int .u8 0], [.int .u8, .int .u8, .int .u8, .int .u8, .int .u8, .int .u8, .int .u8, .int .u8, .int .u8, .int .u8, .int .u8, .int .u8, .int .u8, .int .u8, .int .u8, .int .u8, .int .u8, .int .u8, .int .u8, .int .u8, .int .u8, .int .u8, .int .u8, .int .u8], false⟩
  | 81 => some ⟨.int .u64, 1, 8, 0, [], [.int .u64 0], [], false⟩
  | 82 => some ⟨.fn, 1, 8, 0, [], [.nilf], [], false⟩
  | 83 => some ⟨.fn, 1, 8, 0, [], [.nilf], [], false⟩
  | 85 => some ⟨.fn, 1, 8, 0, [], [.nilf], [], false⟩
  | 86 => some ⟨.fn, 1, 8, 0, [], [.nilf], [], false⟩
  | 87 => some ⟨.fn, 1, 8, 0, [], [.nilf], [], false⟩
  | 88 => some ⟨.arr 20, 20, 160, 81, [], [.int .u64 0, .int .u64 0, .int .u64 0, .int .u64 0, .int .u64 0, .int .u64 0, .int .u64 0, .int .u64 0, .int .u64 0, .int .u64 0, .int .u64 0, .int .u64 0, .int .u64 0, .int .u64 0, .int .u64 0, .int .u64 0, .int .u64 0, .int .u64 0, .int .u64 0, .int .u64 0], [.int .u64, .int .u64, .int .u64, .int .u64, .int .u64, .int .u64, .int .u64, .int .u64, .int .u64, .int .u64, .int .u64, .int .u64, .int .u64, .int .u64, .int .u64, .int .u64, .int .u64, .int .u64, .int .u64, .int .u64], false⟩
  | 89 => some ⟨.int .u32, 1, 4, 0, [], [.int .u32 0], [], false⟩
  | 90 => some ⟨.arr 65, 65, 65, 5, [], [.int .u8 0, .int .u8 0, .int .u8 0, .int .u8 0, .int .u8 0, .int .u8 0, .int .u8 0, .int .u8 0, .int .u8 0, .int .u8 0, .int .u8 0, .int .u8 0, .int .u8 0, .int .u8 0, .int .u8 0, .int .u8 0, .int .u8 0, .int .u8 0, .int .u8 0, .int .u8 0, .int .u8 0, .int .u8 0, .int .u8 0, .int .u8 0, .int .u8 0, .int .u8 0, .int .u8 0, .int .u8 0, .int .u8 0, .int .u8 0, .int .u8 0, .int .u8 0, .int .u8 0, .int .u8 0, .int .u8 0, .int .u8 0, .int .u8 0, .int .u8 0, .int .u8 0, .int .u8 0, .int .u8 0, .int .u8 0, .int .u8 0, .int .u8 0, .int .u8 0, .int .u8 0, .int .u8 0, .int .u8 0, .int .u8 0, .int .u8 0, .int .u8 0, .int .u8 0, .int .u8 0, .int .u8 0, .int .u8 0, .int .u8 0, .int .u8 0, .int .u8 0, .int .u8 0, .int .u8 0, .int .u8 0, .int .u8 0, .int .u8 0, .int .u8 0, .int .u8 0], [.int .u8, .int .u8, .int .u8, .int .u8, .int .u8, .int .u8, .int .u8, .int .u8, .int .u8, .int .u8, .int .u8, .int .u8, .int .u8, .int .u8, .int .u8, .int .u8, .int .u8, .int .u8, .int .u8, .int .u8, .int .u8, .int .u8, .int .u8, .int .u8, .int .u8, .int .u8, .int .u8, .int .u8, .int .u8, .int .u8, .int .u8, .int .u8, .int .u8, .int .u8, .int .u8, .int .u8, .int .u8, .int .u8, .int .u8, .int .u8, .int .u8, .int .u8, .int .u8, .int .u8, .int .u8, .int .u8, .int .u8, .int .u8, .int .u8, .int .u8, .int .u8, .int .u8, .int .u8, .int .u8, .int .u8, .int .u8, .int .u8, .int .u8, .int .u8, .int .u8, .int .u8, .int .u8, .int .u8, .int .u8, .int .u8], false⟩
  | 91 => some ⟨.fn, 1, 8, 0, [], [.nilf], [], false⟩
  | 92 => some ⟨.int .u64, 1, 8, 0, [], [.int .u64 0], [], false⟩
  | 93 => some ⟨.fn, 1, 8, 0, [], [.nilf], [], false⟩
  | 94 => some ⟨.fn, 1, 8, 0, [], [.nilf], [], false⟩
  | 95 => some ⟨.arr 32, 32, 32, 5, [], [.int .u8 0, .int .u8 0, .int .u8 0, .int .u8 0, .int .u8 0, .int .u8 0, .int .u8 0, .int .u8 0, .int .u8 0, .int .u8 0, .int .u8 0, .int .u8 0, .int .u8 0, .int .u8 0, .int .u8 0, .int .u8 0, .int .u8 0, .int .u8 0, .int .u8 0, .int .u8 0, .int .u8 0, .int .u8 0, .int .u8 0, .int .u8 0, .int .u8 0, .int .u8 0, .int .u8 0, .int .u8 0, .int .u8 0, .int .u8 0, .int .u8 0, .int .u8 0], [.int .u8, .int .u8, .int .u8, .int .u8, .int .u8, .int .u8, .int .u8, .int .u8, .int .u8, .int .u8, .int .u8, .int .u8, .int .u8, .int .u8, .int .u8, .int .u8, .int .u8, .int .u8, .int .u8, .int .u8, .int .u8, .int .u8, .int .u8, .int .u8, .int .u8, .int .u8, .int .u8, .int .u8, .int .u8, .int .u8, .int .u8, .int .u8], false⟩
  | 96 => some ⟨.arr 64, 64, 64, 5, [], [.int .u8 0, .int .u8 0, .int .u8 0, .int .u8 0, .int .u8 0, .int .u8 0, .int .u8 0, .int .u8 0, .int .u8 0, .int .u8 0, .int .u8 0, .int .u8 0, .int .u8 0, .int .u8 0, .int .u8 0, .int .u8 0, .int .u8 0, .int .u8 0, .int .u8 0, .int .u8 0, .int .u8 0, .int .u8 0, .int .u8 0, .int .u8 0, .int .u8 0, .int .u8 0, .int .u8 0, .int .u8 0, .int .u8 0, .int .u8 0, .int .u8 0, .int .u8 0, .int .u8 0, .int .u8 0, .int .u8 0, .int .u8 0, .int .u8 0, .int .u8 0, .int .u8 0, .int .u8 0, .int .u8 0, .int .u8 0, .int .u8 0, .int .u8 0, .int .u8 0, .int .u8 0, .int .u8 0, .int .u8 0, .int .u8 0, .int .u8 0, .int .u8 0, .int .u8 0, .int .u8 0, .int .u8 0, .int .u8 0, .int .u8 0, .int .u8 0, .int .u8 0, .int .u8 0, .int .u8 0, .int .u8 0, .int .u8 0, .int .u8 0, .int .u8 0], [.int .u8, .int .u8, .int .u8, .int .u8, .int .u8, .int .u8, .int .u8, .int .u8, .int .u8, .int .u8, .int .u8, .int .u8, .int .u8, .int .u8, .int .u8, .int .u8, .int .u8, .int .u8, .int .u8, .int .u8, .int .u8, .int .u8, .int .u8, .int .u8, .int .u8, .int .u8, .int .u8, .int .u8, .int .u8, .int .u8, .int .u8, .int .u8, .int .u8, .int .u8, .int .u8, .int .u8, .int .u8, .int .u8, .int .u8, .int .u8, .int .u8, .int .u8, .int .u8, .int .u8, .int .u8, .int .u8, .int .u8, .int .u8, .int .u8, .int .u8, .int .u8, .int .u8, .int .u8, .int .u8, .int .u8, .int .u8, .int .u8, .int .u8, .int .u8, .int .u8, .int .u8, .int .u8, .int .u8, .int .u8], false⟩
  | 97 => some ⟨.st, 4, 40, 0, [(0, 17), (1, 17), (2, 17), (3, 9)], [.nilp, .nilp, .nilp, .str []], [], false⟩
  | 98 => some ⟨.st, 4, 40, 0, [(0, 17), (1, 17), (2, 17), (3, 9)], [.nilp, .nilp, .nilp, .str []], [], false⟩
  | 99 => some ⟨.arr 0, 0, 0, 16, [], [], [], false⟩
  | 102 => some ⟨.fn, 1, 8, 0, [], [.nilf], [], false⟩
  | 103 => some ⟨.int .u8, 1, 1, 0, [], [.int .u8 0], [], false⟩
  | 104 => some ⟨.int .u8, 1, 1, 0, [], [.int .u8 0], [], false⟩
  | 105 => some ⟨.fn, 1, 8, 0, [], [.nilf], [], false⟩
  | 106 => some ⟨.int .i32, 1, 4, 0, [], [.int .i32 0], [], false⟩
  | 107 => some ⟨.int .i32, 1, 4, 0, [], [.int .i32 0], [], false⟩
  | 108 => some ⟨.st, 11, 48, 0, [(0, 12), (1, 12), (2, 89), (3, 103), (4, 5), (5, 5), (6, 104), (7, 105), (8, 74), (9, 106), (10, 107)], [.int .u64 0, .int .u64 0, .int .u32 0, .int .u8 0, .int .u8 0, .int .u8 0, .int .u8 0, .nilf, .nilp, .int .i32 0, .int .i32 0], [], false⟩
  | 109 => some ⟨.st, 11, 48, 0, [(0, 12), (1, 12), (2, 89), (3, 103), (4, 5), (5, 5), (6, 104), (7, 105), (8, 74), (9, 106), (10, 107)], [.int .u64 0, .int .u64 0, .int .u32 0, .int .u8 0, .int .u8 0, .int .u8 0, .int .u8 0, .nilf, .nilp, .int .i32 0, .int .i32 0], [], false⟩
  | _ => none
theorem tab_1 : tab 1 = some ⟨.fn, 1, 8, 0, [], [.nilf], [], false⟩ := rfl
theorem tab_2 : tab 2 = some ⟨.int .i64, 1, 8, 0, [], [.int .i64 0], [], false⟩ := rfl
theorem tab_3 : tab 3 = some ⟨.int .i64, 1, 8, 0, [], [.int .i64 0], [], false⟩ := rfl
theorem tab_4 : tab 4 = some ⟨.bool, 1, 1, 0, [], [.bool false], [], false⟩ := rfl
theorem tab_5 : tab 5 = some ⟨.int .u8, 1, 1, 0, [], [.int .u8 0], [], false⟩ := rfl
theorem tab_6 : tab 6 = some ⟨.int .u8, 1, 1, 0, [], [.int .u8 0], [], false⟩ := rfl
theorem tab_7 : tab 7 = some ⟨.st, 4, 24, 0, [(0, 2), (1, 3), (2, 4), (3, 6)], [.int .i64 0, .int .i64 0, .bool false, .int .u8 0], [], false⟩ := rfl
theorem tab_8 : tab 8 = some ⟨.st, 4, 24, 0, [(0, 2), (1, 3), (2, 4), (3, 6)], [.int .i64 0, .int .i64 0, .bool false, .int .u8 0], [], false⟩ := rfl
theorem tab_9 : tab 9 = some ⟨.str, 1, 16, 0, [], [.str []], [], false⟩ := rfl
theorem tab_10 : tab 10 = some ⟨.str, 1, 16, 0, [], [.str []], [], false⟩ := rfl
theorem tab_11 : tab 11 = some ⟨.str, 1, 16, 0, [], [.str []], [], false⟩ := rfl
theorem tab_12 : tab 12 = some ⟨.int .u64, 1, 8, 0, [], [.int .u64 0], [], false⟩ := rfl
theorem tab_13 : tab 13 = some ⟨.st, 2, 24, 0, [(0, 9), (1, 12)], [.str [], .int .u64 0], [], false⟩ := rfl
theorem tab_14 : tab 14 = some ⟨.st, 2, 24, 0, [(0, 9), (1, 12)], [.str [], .int .u64 0], [], false⟩ := rfl
theorem tab_15 : tab 15 = some ⟨.ptr, 1, 8, 98, [], [.nilp], [], false⟩ := rfl
theorem tab_16 : tab 16 = some ⟨.ptr, 1, 8, 101, [], [.nilp], [], false⟩ := rfl
theorem tab_17 : tab 17 = some ⟨.ptr, 1, 8, 109, [], [.nilp], [], false⟩ := rfl
theorem tab_18 : tab 18 = some ⟨.st, 1, 8, 0, [(0, 17)], [.nilp], [], false⟩ := rfl
theorem tab_19 : tab 19 = some ⟨.st, 1, 8, 0, [(0, 17)], [.nilp], [], false⟩ := rfl
theorem tab_20 : tab 20 = some ⟨.iface, 1, 16, 0, [], [.nilI], [], false⟩ := rfl
theorem tab_21 : tab 21 = some ⟨.int .i32, 1, 4, 0, [], [.int .i32 0], [], false⟩ := rfl
theorem tab_22 : tab 22 = some ⟨.st, 2, 16, 0, [(0, 3), (1, 3)], [.int .i64 0, .int .i64 0], [], false⟩ := rfl
theorem tab_23 : tab 23 = some ⟨.st, 2, 16, 0, [(0, 3), (1, 3)], [.int .i64 0, .int .i64 0], [.int .i64, .int .i64], false⟩ := rfl
theorem tab_24 : tab 24 = some ⟨.sl, 1, 24, 35, [], [.nils], [], false⟩ := rfl
theorem tab_25 : tab 25 = some ⟨.st, 1, 24, 0, [(0, 24)], [.nils], [], false⟩ := rfl
theorem tab_26 : tab 26 = some ⟨.st, 1, 24, 0, [(0, 24)], [.nils], [], false⟩ := rfl
theorem tab_27 : tab 27 = some ⟨.fn, 1, 8, 0, [], [.nilf], [], false⟩ := rfl
theorem tab_28 : tab 28 = some ⟨.fn, 1, 8, 0, [], [.nilf], [], false⟩ := rfl
theorem tab_29 : tab 29 = some ⟨.st, 2, 16, 0, [(0, 3), (1, 3)], [.int .i64 0, .int .i64 0], [.int .i64, .int .i64], false⟩ := rfl
theorem tab_30 : tab 30 = some ⟨.fn, 1, 8, 0, [], [.nilf], [], false⟩ := rfl
theorem tab_31 : tab 31 = some ⟨.fn, 1, 8, 0, [], [.nilf], [], false⟩ := rfl
theorem tab_32 : tab 32 = some ⟨.st, 1, 24, 0, [(0, 24)], [.nils], [], false⟩ := rfl
theorem tab_33 : tab 33 = some ⟨.fn, 1, 8, 0, [], [.nilf], [], false⟩ := rfl
theorem tab_34 : tab 34 = some ⟨.st, 3, 32, 0, [(0, 3), (1, 3), (2, 9)], [.int .i64 0, .int .i64 0, .str []], [], false⟩ := rfl
theorem tab_35 : tab 35 = some ⟨.st, 3, 32, 0, [(0, 3), (1, 3), (2, 9)], [.int .i64 0, .int .i64 0, .str []], [.int .i64, .int .i64, .str], false⟩ := rfl
theorem tab_36 : tab 36 = some ⟨.fn, 1, 8, 0, [], [.nilf], [], false⟩ := rfl
theorem tab_38 : tab 38 = some ⟨.fn, 1, 8, 0, [], [.nilf], [], false⟩ := rfl
theorem tab_39 : tab 39 = some ⟨.fn, 1, 8, 0, [], [.nilf], [], false⟩ := rfl
theorem tab_40 : tab 40 = some ⟨.fn, 1, 8, 0, [], [.nilf], [], false⟩ := rfl
theorem tab_41 : tab 41 = some ⟨.fn, 1, 8, 0, [], [.nilf], [], false⟩ := rfl
theorem tab_42 : tab 42 = some ⟨.fn, 1, 8, 0, [], [.nilf], [], false⟩ := rfl
theorem tab_43 : tab 43 = some ⟨.fn, 1, 8, 0, [], [.nilf], [], false⟩ := rfl
theorem tab_44 : tab 44 = some ⟨.fn, 1, 8, 0, [], [.nilf], [], false⟩ := rfl
theorem tab_46 : tab 46 = some ⟨.fn, 1, 8, 0, [], [.nilf], [], false⟩ := rfl
theorem tab_47 : tab 47 = some ⟨.fn, 1, 8, 0, [], [.nilf], [], false⟩ := rfl
theorem tab_48 : tab 48 = some ⟨.fn, 1, 8, 0, [], [.nilf], [], false⟩ := rfl
theorem tab_49 : tab 49 = some ⟨.fn, 1, 8, 0, [], [.nilf], [], false⟩ := rfl
theorem tab_50 : tab 50 = some ⟨.fn, 1, 8, 0, [], [.nilf], [], false⟩ := rfl
theorem tab_51 : tab 51 = some ⟨.fn, 1, 8, 0, [], [.nilf], [], false⟩ := rfl
theorem tab_52 : tab 52 = some ⟨.fn, 1, 8, 0, [], [.nilf], [], false⟩ := rfl
theorem tab_53 : tab 53 = some ⟨.fn, 1, 8, 0, [], [.nilf], [], false⟩ := rfl
theorem tab_54 : tab 54 = some ⟨.fn, 1, 8, 0, [], [.nilf], [], false⟩ := rfl
theorem tab_55 : tab 55 = some ⟨.fn, 1, 8, 0, [], [.nilf], [], false⟩ := rfl
theorem tab_56 : tab 56 = some ⟨.fn, 1, 8, 0, [], [.nilf], [], false⟩ := rfl
theorem tab_57 : tab 57 = some ⟨.fn, 1, 8, 0, [], [.nilf], [], false⟩ := rfl
theorem tab_58 : tab 58 = some ⟨.fn, 1, 8, 0, [], [.nilf], [], false⟩ := rfl
theorem tab_59 : tab 59 = some ⟨.ptr, 1, 8, 62, [], [.nilp], [], false⟩ := rfl
theorem tab_60 : tab 60 = some ⟨.sl, 1, 24, 5, [], [.nils], [], false⟩ := rfl
theorem tab_61 : tab 61 = some ⟨.st, 2, 32, 0, [(0, 59), (1, 60)], [.nilp, .nils], [], false⟩ := rfl
theorem tab_62 : tab 62 = some ⟨.st, 2, 32, 0, [(0, 59), (1, 60)], [.nilp, .nils], [], false⟩ := rfl
theorem tab_63 : tab 63 = some ⟨.iface, 1, 16, 0, [], [.nilI], [], false⟩ := rfl
theorem tab_64 : tab 64 = some ⟨.iface, 1, 16, 0, [], [.nilI], [], false⟩ := rfl
theorem tab_66 : tab 66 = some ⟨.fn, 1, 8, 0, [], [.nilf], [], false⟩ := rfl
theorem tab_67 : tab 67 = some ⟨.fn, 1, 8, 0, [], [.nilf], [], false⟩ := rfl
theorem tab_68 : tab 68 = some ⟨.fn, 1, 8, 0, [], [.nilf], [], false⟩ := rfl
theorem tab_69 : tab 69 = some ⟨.map, 1, 8, 3, [(0, 71)], [.nilm], [], false⟩ := rfl
theorem tab_70 : tab 70 = some ⟨.st, 2, 24, 0, [(0, 3), (1, 9)], [.int .i64 0, .str []], [], false⟩ := rfl
theorem tab_71 : tab 71 = some ⟨.st, 2, 24, 0, [(0, 3), (1, 9)], [.int .i64 0, .str []], [.int .i64, .str], false⟩ := rfl
theorem tab_72 : tab 72 = some ⟨.fn, 1, 8, 0, [], [.nilf], [], false⟩ := rfl
theorem tab_74 : tab 74 = some ⟨.ptr, 1, 8, 5, [], [.nilp], [], false⟩ := rfl
theorem tab_75 : tab 75 = some ⟨.fn, 1, 8, 0, [], [.nilf], [], false⟩ := rfl
theorem tab_78 : tab 78 = some ⟨.fn, 1, 8, 0, [], [.nilf], [], false⟩ := rfl
theorem tab_79 : tab 79 = some ⟨.fn, 1, 8, 0, [], [.nilf], [], false⟩ := rfl
theorem tab_80 : tab 80 = some ⟨.arr 24, 24, 24, 5, [], [.int .u8 0, .int .u8 0, .int .u8 0, .int .u8 0, .int .u8 0, .int .u8 0, .int .u8 0, .int .u8 0, .int .u8 0, .int .u8 0, .int .u8 0, .int .u8 0, .int .u8 0, .int .u8 0, .int .u8 0, .int .u8 0, .int .u8 0, .int .u8 0, .int .u8 0, .int .u8 0, .int .u8 0, .int .u8 0, .int .u8 0, .int .u8 0], [.int .u8, .int .u8, .int .u8, .int .u8, .int .u8, .int .u8, .int .u8, .int .u8, .int .u8, .int .u8, .int .u8, .int .u8, .int .u8, .int .u8, .int .u8, .int .u8, .int .u8, .int .u8, .int .u8, .int .u8, .int .u8, .int .u8, .int .u8, .int .u8], false⟩ := rfl
theorem tab_81 : tab 81 = some ⟨.int .u64, 1, 8, 0, [], [.int .u64 0], [], false⟩ := rfl
theorem tab_82 : tab 82 = some ⟨.fn, 1, 8, 0, [], [.nilf], [], false⟩ := rfl
theorem tab_83 : tab 83 = some ⟨.fn, 1, 8, 0, [], [.nilf], [], false⟩ := rfl
theorem tab_85 : tab 85 = some ⟨.fn, 1, 8, 0, [], [.nilf], [], false⟩ := rfl
theorem tab_86 : tab 86 = some ⟨.fn, 1, 8, 0, [], [.nilf], [], false⟩ := rfl
theorem tab_87 : tab 87 = some ⟨.fn, 1, 8, 0, [], [.nilf], [], false⟩ := rfl
theorem tab_88 : tab 88 = some ⟨.arr 20, 20, 160, 81, [], [.int .u64 0, .int .u64 0, .int .u64 0, .int .u64 0, .int .u64 0, .int .u64 0, .int .u64 0, .int .u64 0, .int .u64 0, .int .u64 0, .int .u64 0, .int .u64 0, .int .u64 0, .int .u64 0, .int .u64 0, .int .u64 0, .int .u64 0, .int .u64 0, .int .u64 0, .int .u64 0], [.int .u64, .int .u64, .int .u64, .int .u64, .int .u64, .int .u64, .int .u64, .int .u64, .int .u64, .int .u64, .int .u64, .int .u64, .int .u64, .int .u64, .int .u64, .int .u64, .int .u64, .int .u64, .int .u64, .int .u64], false⟩ := rfl
theorem tab_89 : tab 89 = some ⟨.int .u32, 1, 4, 0, [], [.int .u32 0], [], false⟩ := rfl
theorem tab_90 : tab 90 = some ⟨.arr 65, 65, 65, 5, [], [.int .u8 0, .int .u8 0, .int .u8 0, .int .u8 0, .int .u8 0, .int .u8 0, .int .u8 0, .int .u8 0, .int .u8 0, .int .u8 0, .int .u8 0, .int .u8 0, .int .u8 0, .int .u8 0, .int .u8 0, .int .u8 0, .int .u8 0, .int .u8 0, .int .u8 0, .int .u8 0, .int .u8 0, .int .u8 0, .int .u8 0, .int .u8 0, .int .u8 0, .int .u8 0, .int .u8 0, .int .u8 0, .int .u8 0, .int .u8 0, .int .u8 0, .int .u8 0, .int .u8 0, .int .u8 0, .int .u8 0, .int .u8 0, .int .u8 0, .int .u8 0, .int .u8 0, .int .u8 0, .int .u8 0, .int .u8 0, .int .u8 0, .int .u8 0, .int .u8 0, .int .u8 0, .int .u8 0, .int .u8 0, .int .u8 0, .int .u8 0, .int .u8 0, .int .u8 0, .int .u8 0, .int .u8 0, .int .u8 0, .int .u8 0, .int .u8 0, .int .u8 0, .int .u8 0, .int .u8 0, .int .u8 0, .int .u8 0, .int .u8 0, .int .u8 0, .int .u8 0], [.int .u8, .int .u8, .int .u8, .int .u8, .int .u8, .int .u8, .int .u8, .int .u8, .int .u8, .int .u8, .int .u8, .int .u8, .int .u8, .int .u8, .int .u8, .int .u8, .int .u8, .int .u8, .int .u8, .int .u8, .int .u8, .int .u8, .int .u8, .int .u8, .int .u8, .int .u8, .int .u8, .int .u8, .int .u8, .int .u8, .int .u8, .int .u8, .int .u8, .int .u8, .int .u8, .int .u8, .int .u8, .int .u8, .int .u8, .int .u8, .int .u8, .int .u8, .int .u8, .int .u8, .int .u8, .int .u8, .int .u8, .int .u8, .int .u8, .int .u8, .int .u8, .int .u8, .int .u8, .int .u8, .int .u8, .int .u8, .int .u8, .int .u8, .int .u8, .int .u8, .int .u8, .int .u8, .int .u8, .int .u8, .int .u8], false⟩ := rfl
theorem tab_91 : tab 91 = some ⟨.fn, 1, 8, 0, [], [.nilf], [], false⟩ := rfl
theorem tab_92 : tab 92 = some ⟨.int .u64, 1, 8, 0, [], [.int .u64 0], [], false⟩ := rfl
theorem tab_93 : tab 93 = some ⟨.fn, 1, 8, 0, [], [.nilf], [], false⟩ := rfl
theorem tab_94 : tab 94 = some ⟨.fn, 1, 8, 0, [], [.nilf], [], false⟩ := rfl
theorem tab_95 : tab 95 = some ⟨.arr 32, 32, 32, 5, [], [.int .u8 0, .int .u8 0, .int .u8 0, .int .u8 0, .int .u8 0, .int .u8 0, .int .u8 0, .int .u8 0, .int .u8 0, .int .u8 0, .int .u8 0, .int .u8 0, .int .u8 0, .int .u8 0, .int .u8 0, .int .u8 0, .int .u8 0, .int .u8 0, .int .u8 0, .int .u8 0, .int .u8 0, .int .u8 0, .int .u8 0, .int .u8 0, .int .u8 0, .int .u8 0, .int .u8 0, .int .u8 0, .int .u8 0, .int .u8 0, .int .u8 0, .int .u8 0], [.int .u8, .int .u8, .int .u8, .int .u8, .int .u8, .int .u8, .int .u8, .int .u8, .int .u8, .int .u8, .int .u8, .int .u8, .int .u8, .int .u8, .int .u8, .int .u8, .int .u8, .int .u8, .int .u8, .int .u8, .int .u8, .int .u8, .int .u8, .int .u8, .int .u8, .int .u8, .int .u8, .int .u8, .int .u8, .int .u8, .int .u8, .int .u8], false⟩ := rfl
theorem tab_96 : tab 96 = some ⟨.arr 64, 64, 64, 5, [], [.int .u8 0, .int .u8 0, .int .u8 0, .int .u8 0, .int .u8 0, .int .u8 0, .int .u8 0, .int .u8 0, .int .u8 0, .int .u8 0, .int .u8 0, .int .u8 0, .int .u8 0, .int .u8 0, .int .u8 0, .int .u8 0, .int .u8 0, .int .u8 0, .int .u8 0, .int .u8 0, .int .u8 0, .int .u8 0, .int .u8 0, .int .u8 0, .int .u8 0, .int .u8 0, .int .u8 0, .int .u8 0, .int .u8 0, .int .u8 0, .int .u8 0, .int .u8 0, .int .u8 0, .int .u8 0, .int .u8 0, .int .u8 0, .int .u8 0, .int .u8 0, .int .u8 0, .int .u8 0, .int .u8 0, .int .u8 0, .int .u8 0, .int .u8 0, .int .u8 0, .int .u8 0, .int .u8 0, .int .u8 0, .int .u8 0, .int .u8 0, .int .u8 0, .int .u8 0, .int .u8 0, .int .u8 0, .int .u8 0, .int .u8 0, .int .u8 0, .int .u8 0, .int .u8 0, .int .u8 0, .int .u8 0, .int .u8 0, .int .u8 0, .int .u8 0], [.int .u8, .int .u8, .int .u8, .int .u8, .int .u8, .int .u8, .int .u8, .int .u8, .int .u8, .int .u8, .int .u8, .int .u8, .int .u8, .int .u8, .int .u8, .int .u8, .int .u8, .int .u8, .int .u8, .int .u8, .int .u8, .int .u8, .int .u8, .int .u8, .int .u8, .int .u8, .int .u8, .int .u8, .int .u8, .int .u8, .int .u8, .int .u8, .int .u8, .int .u8, .int .u8, .int .u8, .int .u8, .int .u8, .int .u8, .int .u8, .int .u8, .int .u8, .int .u8, .int .u8, .int .u8, .int .u8, .int .u8, .int .u8, .int .u8, .int .u8, .int .u8, .int .u8, .int .u8, .int .u8, .int .u8, .int .u8, .int .u8, .int .u8, .int .u8, .int .u8, .int .u8, .int .u8, .int .u8, .int .u8], false⟩ := rfl
theorem tab_97 : tab 97 = some ⟨.st, 4, 40, 0, [(0, 17), (1, 17), (2, 17), (3, 9)], [.nilp, .nilp, .nilp, .str []], [], false⟩ := rfl
theorem tab_98 : tab 98 = some ⟨.st, 4, 40, 0, [(0, 17), (1, 17), (2, 17), (3, 9)], [.nilp, .nilp, .nilp, .str []], [], false⟩ := rfl
theorem tab_99 : tab 99 = some ⟨.arr 0, 0, 0, 16, [], [], [], false⟩ := rfl
theorem tab_102 : tab 102 = some ⟨.fn, 1, 8, 0, [], [.nilf], [], false⟩ := rfl
theorem tab_103 : tab 103 = some ⟨.int .u8, 1, 1, 0, [], [.int .u8 0], [], false⟩ := rfl
theorem tab_104 : tab 104 = some ⟨.int .u8, 1, 1, 0, [], [.int .u8 0], [], false⟩ := rfl
theorem tab_105 : tab 105 = some ⟨.fn, 1, 8, 0, [], [.nilf], [], false⟩ := rfl
theorem tab_106 : tab 106 = some ⟨.int .i32, 1, 4, 0, [], [.int .i32 0], [], false⟩ := rfl
theorem tab_107 : tab 107 = some ⟨.int .i32, 1, 4, 0, [], [.int .i32 0], [], false⟩ := rfl
theorem tab_108 : tab 108 = some ⟨.st, 11, 48, 0, [(0, 12), (1, 12), (2, 89), (3, 103), (4, 5), (5, 5), (6, 104), (7, 105), (8, 74), (9, 106), (10, 107)], [.int .u64 0, .int .u64 0, .int .u32 0, .int .u8 0, .int .u8 0, .int .u8 0, .int .u8 0, .nilf, .nilp, .int .i32 0, .int .i32 0], [], false⟩ := rfl
theorem tab_109 : tab 109 = some ⟨.st, 11, 48, 0, [(0, 12), (1, 12), (2, 89), (3, 103), (4, 5), (5, 5), (6, 104), (7, 105), (8, 74), (9, 106), (10, 107)], [.int .u64 0, .int .u64 0, .int .u32 0, .int .u8 0, .int .u8 0, .int .u8 0, .int .u8 0, .nilf, .nilp, .int .i32 0, .int .i32 0], [], false⟩ := rfl
theorem follows_ok : Tryd.prog.follows .mixedOrders = true := by kernel_rfl
set_option maxHeartbeats 4000000 in
set_option maxRecDepth 100000 in
theorem tab_ok : TabOk Tryd.prog tab := by
  intro t ti h
  unfold tab at h
  split at h <;> first | (cases h; done) | (cases h; exact tiB_ok (by kernel_rfl))
end Go.Proofs.YtgonmnjgodleeaaDoor
