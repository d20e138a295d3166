/-
  The table of the types that this seat's texts meet, and that it is the program's.
-/
import Derived.Test.YtgonmnjgodleeaaAi
import Derived.Test.YtgonmnjgodleeaaRows
namespace Go.Proofs.Ytgonmnjgodleeaa
def tab : Nat → Option TI
  | 1 => some ⟨.fn, 1, 8, 0, [], [.nilf], [], false⟩
  | 2 => some ⟨.int .i64, 1, 8, 0, [], [.int .i64 0], [], false⟩
  | 3 => some ⟨.int .i64, 1, 8, 0, [], [.int .i64 0], [], false⟩
  | 4 => some ⟨.bool, 1, 1, 0, [], [.bool false], [], false⟩
  | 5 => some ⟨.int .u8, 1, 1, 0, [], [.int .u8 0], [], false⟩
  | 6 => some ⟨.int .u8, 1, 1, 0, [], [.int .u8 0], [], false⟩
  | 7 => some ⟨.st, 4, 24, 0, [(0, 2), (1, 3), (2, 4), (3, 6)], [.int .i64 0, .int .i64 0, .bool false, .int .u8 0], [], false⟩
  | 8 => some ⟨.st, 4, 24, 0, [(0, 2), (1, 3), (2, 4), (3, 6)], [.int .i64 0, .int .i64 0, .bool false, .int .u8 0], [], false⟩
  | 9 => some ⟨.str, 1, 16, 0, [], [.str []], [], false⟩
  | 10 => some ⟨.str, 1, 16, 0, [], [.str []], [], false⟩
  | 11 => some ⟨.str, 1, 16, 0, [], [.str []], [], false⟩
  | 12 => some ⟨.int .u64, 1, 8, 0, [], [.int .u64 0], [], false⟩
  | 13 => some ⟨.st, 2, 24, 0, [(0, 9), (1, 12)], [.str [], .int .u64 0], [], false⟩
  | 14 => some ⟨.st, 2, 24, 0, [(0, 9), (1, 12)], [.str [], .int .u64 0], [], false⟩
  | 15 => some ⟨.ptr, 1, 8, 92, [], [.nilp], [], false⟩
  | 16 => some ⟨.ptr, 1, 8, 95, [], [.nilp], [], false⟩
  | 17 => some ⟨.ptr, 1, 8, 105, [], [.nilp], [], false⟩
  | 18 => some ⟨.st, 1, 8, 0, [(0, 17)], [.nilp], [], false⟩
  | 19 => some ⟨.st, 1, 8, 0, [(0, 17)], [.nilp], [], false⟩
  | 20 => some ⟨.iface, 1, 16, 0, [], [.nilI], [], false⟩
  | 21 => some ⟨.int .i32, 1, 4, 0, [], [.int .i32 0], [], false⟩
  | 22 => some ⟨.st, 2, 16, 0, [(0, 3), (1, 3)], [.int .i64 0, .int .i64 0], [], false⟩
  | 23 => some ⟨.st, 2, 16, 0, [(0, 3), (1, 3)], [.int .i64 0, .int .i64 0], [.int .i64, .int .i64], false⟩
  | 24 => some ⟨.fn, 1, 8, 0, [], [.nilf], [], false⟩
  | 25 => some ⟨.fn, 1, 8, 0, [], [.nilf], [], false⟩
  | 26 => some ⟨.fn, 1, 8, 0, [], [.nilf], [], false⟩
  | 27 => some ⟨.sl, 1, 24, 4, [], [.nils], [], false⟩
  | 28 => some ⟨.fn, 1, 8, 0, [], [.nilf], [], false⟩
  | 29 => some ⟨.fn, 1, 8, 0, [], [.nilf], [], false⟩
  | 30 => some ⟨.int .i64, 1, 8, 0, [], [.int .i64 0], [], false⟩
  | 32 => some ⟨.fn, 1, 8, 0, [], [.nilf], [], false⟩
  | 33 => some ⟨.st, 2, 16, 0, [(0, 3), (1, 3)], [.int .i64 0, .int .i64 0], [.int .i64, .int .i64], false⟩
  | 35 => some ⟨.fn, 1, 8, 0, [], [.nilf], [], false⟩
  | 36 => some ⟨.fn, 1, 8, 0, [], [.nilf], [], false⟩
  | 37 => some ⟨.fn, 1, 8, 0, [], [.nilf], [], false⟩
  | 38 => some ⟨.fn, 1, 8, 0, [], [.nilf], [], false⟩
  | 39 => some ⟨.fn, 1, 8, 0, [], [.nilf], [], false⟩
  | 40 => some ⟨.fn, 1, 8, 0, [], [.nilf], [], false⟩
  | 41 => some ⟨.fn, 1, 8, 0, [], [.nilf], [], false⟩
  | 42 => some ⟨.fn, 1, 8, 0, [], [.nilf], [], false⟩
  | 43 => some ⟨.sl, 1, 24, 53, [], [.nils], [], false⟩
  | 44 => some ⟨.fn, 1, 8, 0, [], [.nilf], [], false⟩
  | 45 => some ⟨.fn, 1, 8, 0, [], [.nilf], [], false⟩
  | 46 => some ⟨.fn, 1, 8, 0, [], [.nilf], [], false⟩
  | 48 => some ⟨.fn, 1, 8, 0, [], [.nilf], [], false⟩
  | 49 => some ⟨.fn, 1, 8, 0, [], [.nilf], [], false⟩
  | 50 => some ⟨.fn, 1, 8, 0, [], [.nilf], [], false⟩
  | 51 => some ⟨.sl, 1, 24, 56, [], [.nils], [], false⟩
  | 52 => some ⟨.st, 6, 72, 0, [(0, 3), (1, 3), (2, 4), (3, 3), (4, 9), (5, 51)], [.int .i64 0, .int .i64 0, .bool false, .int .i64 0, .str [], .nils], [], false⟩
  | 53 => some ⟨.st, 6, 72, 0, [(0, 3), (1, 3), (2, 4), (3, 3), (4, 9), (5, 51)], [.int .i64 0, .int .i64 0, .bool false, .int .i64 0, .str [], .nils], [], false⟩
  | 54 => some ⟨.fn, 1, 8, 0, [], [.nilf], [], false⟩
  | 55 => some ⟨.st, 3, 32, 0, [(0, 3), (1, 3), (2, 9)], [.int .i64 0, .int .i64 0, .str []], [], false⟩
  | 56 => some ⟨.st, 3, 32, 0, [(0, 3), (1, 3), (2, 9)], [.int .i64 0, .int .i64 0, .str []], [.int .i64, .int .i64, .str], false⟩
  | 57 => some ⟨.fn, 1, 8, 0, [], [.nilf], [], false⟩
  | 58 => some ⟨.st, 6, 88, 0, [(0, 23), (2, 3), (3, 9), (4, 27), (5, 27)], [.int .i64 0, .int .i64 0, .int .i64 0, .str [], .nils, .nils], [], false⟩
  | 59 => some ⟨.st, 6, 88, 0, [(0, 23), (2, 3), (3, 9), (4, 27), (5, 27)], [.int .i64 0, .int .i64 0, .int .i64 0, .str [], .nils, .nils], [], false⟩
  | 60 => some ⟨.fn, 1, 8, 0, [], [.nilf], [], false⟩
  | 61 => some ⟨.arr 3, 3, 48, 9, [], [.str [], .str [], .str []], [.str, .str, .str], false⟩
  | 62 => some ⟨.fn, 1, 8, 0, [], [.nilf], [], false⟩
  | 63 => some ⟨.st, 3, 48, 0, [(0, 3), (1, 9), (2, 43)], [.int .i64 0, .str [], .nils], [], false⟩
  | 64 => some ⟨.st, 3, 48, 0, [(0, 3), (1, 9), (2, 43)], [.int .i64 0, .str [], .nils], [], false⟩
  | 65 => some ⟨.fn, 1, 8, 0, [], [.nilf], [], false⟩
  | 66 => some ⟨.fn, 1, 8, 0, [], [.nilf], [], false⟩
  | 67 => some ⟨.fn, 1, 8, 0, [], [.nilf], [], false⟩
  | 68 => some ⟨.fn, 1, 8, 0, [], [.nilf], [], false⟩
  | 69 => some ⟨.fn, 1, 8, 0, [], [.nilf], [], false⟩
  | 70 => some ⟨.fn, 1, 8, 0, [], [.nilf], [], false⟩
  | 72 => some ⟨.fn, 1, 8, 0, [], [.nilf], [], false⟩
  | 73 => some ⟨.fn, 1, 8, 0, [], [.nilf], [], false⟩
  | 74 => some ⟨.map, 1, 8, 3, [(0, 9)], [.nilm], [], false⟩
  | 76 => some ⟨.fn, 1, 8, 0, [], [.nilf], [], false⟩
  | 77 => some ⟨.fn, 1, 8, 0, [], [.nilf], [], false⟩
  | 78 => some ⟨.fn, 1, 8, 0, [], [.nilf], [], false⟩
  | 79 => some ⟨.fn, 1, 8, 0, [], [.nilf], [], false⟩
  | 80 => some ⟨.fn, 1, 8, 0, [], [.nilf], [], false⟩
  | 81 => some ⟨.fn, 1, 8, 0, [], [.nilf], [], false⟩
  | 82 => some ⟨.fn, 1, 8, 0, [], [.nilf], [], false⟩
  | 84 => some ⟨.fn, 1, 8, 0, [], [.nilf], [], false⟩
  | 85 => some ⟨.st, 1, 24, 0, [(0, 51)], [.nils], [], false⟩
  | 86 => some ⟨.st, 1, 24, 0, [(0, 51)], [.nils], [], false⟩
  | 87 => some ⟨.fn, 1, 8, 0, [], [.nilf], [], false⟩
  | 88 => some ⟨.fn, 1, 8, 0, [], [.nilf], [], false⟩
  | 89 => some ⟨.fn, 1, 8, 0, [], [.nilf], [], false⟩
  | 90 => some ⟨.fn, 1, 8, 0, [], [.nilf], [], false⟩
  | 91 => some ⟨.st, 4, 40, 0, [(0, 17), (1, 17), (2, 17), (3, 9)], [.nilp, .nilp, .nilp, .str []], [], false⟩
  | 92 => some ⟨.st, 4, 40, 0, [(0, 17), (1, 17), (2, 17), (3, 9)], [.nilp, .nilp, .nilp, .str []], [], false⟩
  | 93 => some ⟨.arr 0, 0, 0, 16, [], [], [], false⟩
  | 96 => some ⟨.fn, 1, 8, 0, [], [.nilf], [], false⟩
  | 97 => some ⟨.int .u32, 1, 4, 0, [], [.int .u32 0], [], false⟩
  | 98 => some ⟨.int .u8, 1, 1, 0, [], [.int .u8 0], [], false⟩
  | 99 => some ⟨.int .u8, 1, 1, 0, [], [.int .u8 0], [], false⟩
  | 100 => some ⟨.fn, 1, 8, 0, [], [.nilf], [], false⟩
  | 101 => some ⟨.ptr, 1, 8, 5, [], [.nilp], [], false⟩
  | 102 => some ⟨.int .i32, 1, 4, 0, [], [.int .i32 0], [], false⟩
  | 103 => some ⟨.int .i32, 1, 4, 0, [], [.int .i32 0], [], false⟩
  | 104 => some ⟨.st, 11, 48, 0, [(0, 12), (1, 12), (2, 97), (3, 98), (4, 5), (5, 5), (6, 99), (7, 100), (8, 101), (9, 102), (10, 103)], [.int .u64 0, .int .u64 0, .int .u32 0, .int .u8 0, .int .u8 0, .int .u8 0, .int .u8 0, .nilf, .nilp, .int .i32 0, .int .i32 0], [], false⟩
  | 105 => some ⟨.st, 11, 48, 0, [(0, 12), (1, 12), (2, 97), (3, 98), (4, 5), (5, 5), (6, 99), (7, 100), (8, 101), (9, 102), (10, 103)], [.int .u64 0, .int .u64 0, .int .u32 0, .int .u8 0, .int .u8 0, .int .u8 0, .int .u8 0, .nilf, .nilp, .int .i32 0, .int .i32 0], [], false⟩
  | _ => none
theorem tab_1 : tab 1 = some ⟨.fn, 1, 8, 0, [], [.nilf], [], false⟩ := rfl
theorem tab_2 : tab 2 = some ⟨.int .i64, 1, 8, 0, [], [.int .i64 0], [], false⟩ := rfl
theorem tab_3 : tab 3 = some ⟨.int .i64, 1, 8, 0, [], [.int .i64 0], [], false⟩ := rfl
theorem tab_4 : tab 4 = some ⟨.bool, 1, 1, 0, [], [.bool false], [], false⟩ := rfl
theorem tab_5 : tab 5 = some ⟨.int .u8, 1, 1, 0, [], [.int .u8 0], [], false⟩ := rfl
theorem tab_6 : tab 6 = some ⟨.int .u8, 1, 1, 0, [], [.int .u8 0], [], false⟩ := rfl
theorem tab_7 : tab 7 = some ⟨.st, 4, 24, 0, [(0, 2), (1, 3), (2, 4), (3, 6)], [.int .i64 0, .int .i64 0, .bool false, .int .u8 0], [], false⟩ := rfl
theorem tab_8 : tab 8 = some ⟨.st, 4, 24, 0, [(0, 2), (1, 3), (2, 4), (3, 6)], [.int .i64 0, .int .i64 0, .bool false, .int .u8 0], [], false⟩ := rfl
theorem tab_9 : tab 9 = some ⟨.str, 1, 16, 0, [], [.str []], [], false⟩ := rfl
theorem tab_10 : tab 10 = some ⟨.str, 1, 16, 0, [], [.str []], [], false⟩ := rfl
theorem tab_11 : tab 11 = some ⟨.str, 1, 16, 0, [], [.str []], [], false⟩ := rfl
theorem tab_12 : tab 12 = some ⟨.int .u64, 1, 8, 0, [], [.int .u64 0], [], false⟩ := rfl
theorem tab_13 : tab 13 = some ⟨.st, 2, 24, 0, [(0, 9), (1, 12)], [.str [], .int .u64 0], [], false⟩ := rfl
theorem tab_14 : tab 14 = some ⟨.st, 2, 24, 0, [(0, 9), (1, 12)], [.str [], .int .u64 0], [], false⟩ := rfl
theorem tab_15 : tab 15 = some ⟨.ptr, 1, 8, 92, [], [.nilp], [], false⟩ := rfl
theorem tab_16 : tab 16 = some ⟨.ptr, 1, 8, 95, [], [.nilp], [], false⟩ := rfl
theorem tab_17 : tab 17 = some ⟨.ptr, 1, 8, 105, [], [.nilp], [], false⟩ := rfl
theorem tab_18 : tab 18 = some ⟨.st, 1, 8, 0, [(0, 17)], [.nilp], [], false⟩ := rfl
theorem tab_19 : tab 19 = some ⟨.st, 1, 8, 0, [(0, 17)], [.nilp], [], false⟩ := rfl
theorem tab_20 : tab 20 = some ⟨.iface, 1, 16, 0, [], [.nilI], [], false⟩ := rfl
theorem tab_21 : tab 21 = some ⟨.int .i32, 1, 4, 0, [], [.int .i32 0], [], false⟩ := rfl
theorem tab_22 : tab 22 = some ⟨.st, 2, 16, 0, [(0, 3), (1, 3)], [.int .i64 0, .int .i64 0], [], false⟩ := rfl
theorem tab_23 : tab 23 = some ⟨.st, 2, 16, 0, [(0, 3), (1, 3)], [.int .i64 0, .int .i64 0], [.int .i64, .int .i64], false⟩ := rfl
theorem tab_24 : tab 24 = some ⟨.fn, 1, 8, 0, [], [.nilf], [], false⟩ := rfl
theorem tab_25 : tab 25 = some ⟨.fn, 1, 8, 0, [], [.nilf], [], false⟩ := rfl
theorem tab_26 : tab 26 = some ⟨.fn, 1, 8, 0, [], [.nilf], [], false⟩ := rfl
theorem tab_27 : tab 27 = some ⟨.sl, 1, 24, 4, [], [.nils], [], false⟩ := rfl
theorem tab_28 : tab 28 = some ⟨.fn, 1, 8, 0, [], [.nilf], [], false⟩ := rfl
theorem tab_29 : tab 29 = some ⟨.fn, 1, 8, 0, [], [.nilf], [], false⟩ := rfl
theorem tab_30 : tab 30 = some ⟨.int .i64, 1, 8, 0, [], [.int .i64 0], [], false⟩ := rfl
theorem tab_32 : tab 32 = some ⟨.fn, 1, 8, 0, [], [.nilf], [], false⟩ := rfl
theorem tab_33 : tab 33 = some ⟨.st, 2, 16, 0, [(0, 3), (1, 3)], [.int .i64 0, .int .i64 0], [.int .i64, .int .i64], false⟩ := rfl
theorem tab_35 : tab 35 = some ⟨.fn, 1, 8, 0, [], [.nilf], [], false⟩ := rfl
theorem tab_36 : tab 36 = some ⟨.fn, 1, 8, 0, [], [.nilf], [], false⟩ := rfl
theorem tab_37 : tab 37 = some ⟨.fn, 1, 8, 0, [], [.nilf], [], false⟩ := rfl
theorem tab_38 : tab 38 = some ⟨.fn, 1, 8, 0, [], [.nilf], [], false⟩ := rfl
theorem tab_39 : tab 39 = some ⟨.fn, 1, 8, 0, [], [.nilf], [], false⟩ := rfl
theorem tab_40 : tab 40 = some ⟨.fn, 1, 8, 0, [], [.nilf], [], false⟩ := rfl
theorem tab_41 : tab 41 = some ⟨.fn, 1, 8, 0, [], [.nilf], [], false⟩ := rfl
theorem tab_42 : tab 42 = some ⟨.fn, 1, 8, 0, [], [.nilf], [], false⟩ := rfl
theorem tab_43 : tab 43 = some ⟨.sl, 1, 24, 53, [], [.nils], [], false⟩ := rfl
theorem tab_44 : tab 44 = some ⟨.fn, 1, 8, 0, [], [.nilf], [], false⟩ := rfl
theorem tab_45 : tab 45 = some ⟨.fn, 1, 8, 0, [], [.nilf], [], false⟩ := rfl
theorem tab_46 : tab 46 = some ⟨.fn, 1, 8, 0, [], [.nilf], [], false⟩ := rfl
theorem tab_48 : tab 48 = some ⟨.fn, 1, 8, 0, [], [.nilf], [], false⟩ := rfl
theorem tab_49 : tab 49 = some ⟨.fn, 1, 8, 0, [], [.nilf], [], false⟩ := rfl
theorem tab_50 : tab 50 = some ⟨.fn, 1, 8, 0, [], [.nilf], [], false⟩ := rfl
theorem tab_51 : tab 51 = some ⟨.sl, 1, 24, 56, [], [.nils], [], false⟩ := rfl
theorem tab_52 : tab 52 = some ⟨.st, 6, 72, 0, [(0, 3), (1, 3), (2, 4), (3, 3), (4, 9), (5, 51)], [.int .i64 0, .int .i64 0, .bool false, .int .i64 0, .str [], .nils], [], false⟩ := rfl
theorem tab_53 : tab 53 = some ⟨.st, 6, 72, 0, [(0, 3), (1, 3), (2, 4), (3, 3), (4, 9), (5, 51)], [.int .i64 0, .int .i64 0, .bool false, .int .i64 0, .str [], .nils], [], false⟩ := rfl
theorem tab_54 : tab 54 = some ⟨.fn, 1, 8, 0, [], [.nilf], [], false⟩ := rfl
theorem tab_55 : tab 55 = some ⟨.st, 3, 32, 0, [(0, 3), (1, 3), (2, 9)], [.int .i64 0, .int .i64 0, .str []], [], false⟩ := rfl
theorem tab_56 : tab 56 = some ⟨.st, 3, 32, 0, [(0, 3), (1, 3), (2, 9)], [.int .i64 0, .int .i64 0, .str []], [.int .i64, .int .i64, .str], false⟩ := rfl
theorem tab_57 : tab 57 = some ⟨.fn, 1, 8, 0, [], [.nilf], [], false⟩ := rfl
theorem tab_58 : tab 58 = some ⟨.st, 6, 88, 0, [(0, 23), (2, 3), (3, 9), (4, 27), (5, 27)], [.int .i64 0, .int .i64 0, .int .i64 0, .str [], .nils, .nils], [], false⟩ := rfl
theorem tab_59 : tab 59 = some ⟨.st, 6, 88, 0, [(0, 23), (2, 3), (3, 9), (4, 27), (5, 27)], [.int .i64 0, .int .i64 0, .int .i64 0, .str [], .nils, .nils], [], false⟩ := rfl
theorem tab_60 : tab 60 = some ⟨.fn, 1, 8, 0, [], [.nilf], [], false⟩ := rfl
theorem tab_61 : tab 61 = some ⟨.arr 3, 3, 48, 9, [], [.str [], .str [], .str []], [.str, .str, .str], false⟩ := rfl
theorem tab_62 : tab 62 = some ⟨.fn, 1, 8, 0, [], [.nilf], [], false⟩ := rfl
theorem tab_63 : tab 63 = some ⟨.st, 3, 48, 0, [(0, 3), (1, 9), (2, 43)], [.int .i64 0, .str [], .nils], [], false⟩ := rfl
theorem tab_64 : tab 64 = some ⟨.st, 3, 48, 0, [(0, 3), (1, 9), (2, 43)], [.int .i64 0, .str [], .nils], [], false⟩ := rfl
theorem tab_65 : tab 65 = some ⟨.fn, 1, 8, 0, [], [.nilf], [], false⟩ := rfl
theorem tab_66 : tab 66 = some ⟨.fn, 1, 8, 0, [], [.nilf], [], false⟩ := rfl
theorem tab_67 : tab 67 = some ⟨.fn, 1, 8, 0, [], [.nilf], [], false⟩ := rfl
theorem tab_68 : tab 68 = some ⟨.fn, 1, 8, 0, [], [.nilf], [], false⟩ := rfl
theorem tab_69 : tab 69 = some ⟨.fn, 1, 8, 0, [], [.nilf], [], false⟩ := rfl
theorem tab_70 : tab 70 = some ⟨.fn, 1, 8, 0, [], [.nilf], [], false⟩ := rfl
theorem tab_72 : tab 72 = some ⟨.fn, 1, 8, 0, [], [.nilf], [], false⟩ := rfl
theorem tab_73 : tab 73 = some ⟨.fn, 1, 8, 0, [], [.nilf], [], false⟩ := rfl
theorem tab_74 : tab 74 = some ⟨.map, 1, 8, 3, [(0, 9)], [.nilm], [], false⟩ := rfl
theorem tab_76 : tab 76 = some ⟨.fn, 1, 8, 0, [], [.nilf], [], false⟩ := rfl
theorem tab_77 : tab 77 = some ⟨.fn, 1, 8, 0, [], [.nilf], [], false⟩ := rfl
theorem tab_78 : tab 78 = some ⟨.fn, 1, 8, 0, [], [.nilf], [], false⟩ := rfl
theorem tab_79 : tab 79 = some ⟨.fn, 1, 8, 0, [], [.nilf], [], false⟩ := rfl
theorem tab_80 : tab 80 = some ⟨.fn, 1, 8, 0, [], [.nilf], [], false⟩ := rfl
theorem tab_81 : tab 81 = some ⟨.fn, 1, 8, 0, [], [.nilf], [], false⟩ := rfl
theorem tab_82 : tab 82 = some ⟨.fn, 1, 8, 0, [], [.nilf], [], false⟩ := rfl
theorem tab_84 : tab 84 = some ⟨.fn, 1, 8, 0, [], [.nilf], [], false⟩ := rfl
theorem tab_85 : tab 85 = some ⟨.st, 1, 24, 0, [(0, 51)], [.nils], [], false⟩ := rfl
theorem tab_86 : tab 86 = some ⟨.st, 1, 24, 0, [(0, 51)], [.nils], [], false⟩ := rfl
theorem tab_87 : tab 87 = some ⟨.fn, 1, 8, 0, [], [.nilf], [], false⟩ := rfl
theorem tab_88 : tab 88 = some ⟨.fn, 1, 8, 0, [], [.nilf], [], false⟩ := rfl
theorem tab_89 : tab 89 = some ⟨.fn, 1, 8, 0, [], [.nilf], [], false⟩ := rfl
theorem tab_90 : tab 90 = some ⟨.fn, 1, 8, 0, [], [.nilf], [], false⟩ := rfl
theorem tab_91 : tab 91 = some ⟨.st, 4, 40, 0, [(0, 17), (1, 17), (2, 17), (3, 9)], [.nilp, .nilp, .nilp, .str []], [], false⟩ := rfl
theorem tab_92 : tab 92 = some ⟨.st, 4, 40, 0, [(0, 17), (1, 17), (2, 17), (3, 9)], [.nilp, .nilp, .nilp, .str []], [], false⟩ := rfl
theorem tab_93 : tab 93 = some ⟨.arr 0, 0, 0, 16, [], [], [], false⟩ := rfl
theorem tab_96 : tab 96 = some ⟨.fn, 1, 8, 0, [], [.nilf], [], false⟩ := rfl
theorem tab_97 : tab 97 = some ⟨.int .u32, 1, 4, 0, [], [.int .u32 0], [], false⟩ := rfl
theorem tab_98 : tab 98 = some ⟨.int .u8, 1, 1, 0, [], [.int .u8 0], [], false⟩ := rfl
theorem tab_99 : tab 99 = some ⟨.int .u8, 1, 1, 0, [], [.int .u8 0], [], false⟩ := rfl
theorem tab_100 : tab 100 = some ⟨.fn, 1, 8, 0, [], [.nilf], [], false⟩ := rfl
theorem tab_101 : tab 101 = some ⟨.ptr, 1, 8, 5, [], [.nilp], [], false⟩ := rfl
theorem tab_102 : tab 102 = some ⟨.int .i32, 1, 4, 0, [], [.int .i32 0], [], false⟩ := rfl
theorem tab_103 : tab 103 = some ⟨.int .i32, 1, 4, 0, [], [.int .i32 0], [], false⟩ := rfl
theorem tab_104 : tab 104 = some ⟨.st, 11, 48, 0, [(0, 12), (1, 12), (2, 97), (3, 98), (4, 5), (5, 5), (6, 99), (7, 100), (8, 101), (9, 102), (10, 103)], [.int .u64 0, .int .u64 0, .int .u32 0, .int .u8 0, .int .u8 0, .int .u8 0, .int .u8 0, .nilf, .nilp, .int .i32 0, .int .i32 0], [], false⟩ := rfl
theorem tab_105 : tab 105 = some ⟨.st, 11, 48, 0, [(0, 12), (1, 12), (2, 97), (3, 98), (4, 5), (5, 5), (6, 99), (7, 100), (8, 101), (9, 102), (10, 103)], [.int .u64 0, .int .u64 0, .int .u32 0, .int .u8 0, .int .u8 0, .int .u8 0, .int .u8 0, .nilf, .nilp, .int .i32 0, .int .i32 0], [], false⟩ := rfl
theorem follows_ok : Try.prog.follows .mixedOrders = true := by kernel_rfl
set_option maxRecDepth 100000 in
theorem tab_ok : TabOk Try.prog tab := by
  intro t ti h
  unfold tab at h
  split at h <;> first | (cases h; done) | (cases h; exact tiB_ok (by kernel_rfl))
end Go.Proofs.Ytgonmnjgodleeaa
