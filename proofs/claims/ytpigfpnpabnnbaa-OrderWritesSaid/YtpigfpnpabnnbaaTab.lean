/-
  The table of the types that this seat's texts meet, and that it is the program's.
-/
import Derived.Test.YtpigfpnpabnnbaaAi
import Derived.Test.YtpigfpnpabnnbaaRows
namespace Go.Proofs.Ytpigfpnpabnnbaa
def tab : Nat → Option TI
  | 1 => some ⟨.fn, 1, 8, 0, [], [.nilf], []⟩
  | 2 => some ⟨.int .i64, 1, 8, 0, [], [.int .i64 0], []⟩
  | 3 => some ⟨.int .i64, 1, 8, 0, [], [.int .i64 0], []⟩
  | 4 => some ⟨.bool, 1, 1, 0, [], [.bool false], []⟩
  | 5 => some ⟨.int .u8, 1, 1, 0, [], [.int .u8 0], []⟩
  | 6 => some ⟨.int .u8, 1, 1, 0, [], [.int .u8 0], []⟩
  | 7 => some ⟨.st, 4, 24, 0, [(0, 2), (1, 3), (2, 4), (3, 6)], [.int .i64 0, .int .i64 0, .bool false, .int .u8 0], []⟩
  | 8 => some ⟨.st, 4, 24, 0, [(0, 2), (1, 3), (2, 4), (3, 6)], [.int .i64 0, .int .i64 0, .bool false, .int .u8 0], []⟩
  | 9 => some ⟨.str, 1, 16, 0, [], [.str []], []⟩
  | 10 => some ⟨.str, 1, 16, 0, [], [.str []], []⟩
  | 11 => some ⟨.str, 1, 16, 0, [], [.str []], []⟩
  | 12 => some ⟨.int .u64, 1, 8, 0, [], [.int .u64 0], []⟩
  | 13 => some ⟨.st, 2, 24, 0, [(0, 9), (1, 12)], [.str [], .int .u64 0], []⟩
  | 14 => some ⟨.st, 2, 24, 0, [(0, 9), (1, 12)], [.str [], .int .u64 0], []⟩
  | 15 => some ⟨.ptr, 1, 8, 94, [], [.nilp], []⟩
  | 16 => some ⟨.ptr, 1, 8, 97, [], [.nilp], []⟩
  | 17 => some ⟨.ptr, 1, 8, 107, [], [.nilp], []⟩
  | 18 => some ⟨.st, 1, 8, 0, [(0, 17)], [.nilp], []⟩
  | 19 => some ⟨.st, 1, 8, 0, [(0, 17)], [.nilp], []⟩
  | 20 => some ⟨.iface, 1, 16, 0, [], [.nilI], []⟩
  | 21 => some ⟨.int .i32, 1, 4, 0, [], [.int .i32 0], []⟩
  | 22 => some ⟨.int .u64, 1, 8, 0, [], [.int .u64 0], []⟩
  | 23 => some ⟨.sl, 1, 24, 5, [], [.nils], []⟩
  | 24 => some ⟨.fn, 1, 8, 0, [], [.nilf], []⟩
  | 25 => some ⟨.fn, 1, 8, 0, [], [.nilf], []⟩
  | 26 => some ⟨.fn, 1, 8, 0, [], [.nilf], []⟩
  | 27 => some ⟨.fn, 1, 8, 0, [], [.nilf], []⟩
  | 28 => some ⟨.sl, 1, 24, 9, [], [.nils], []⟩
  | 29 => some ⟨.fn, 1, 8, 0, [], [.nilf], []⟩
  | 30 => some ⟨.fn, 1, 8, 0, [], [.nilf], []⟩
  | 31 => some ⟨.fn, 1, 8, 0, [], [.nilf], []⟩
  | 32 => some ⟨.fn, 1, 8, 0, [], [.nilf], []⟩
  | 33 => some ⟨.int .i64, 1, 8, 0, [], [.int .i64 0], []⟩
  | 35 => some ⟨.fn, 1, 8, 0, [], [.nilf], []⟩
  | 37 => some ⟨.fn, 1, 8, 0, [], [.nilf], []⟩
  | 39 => some ⟨.fn, 1, 8, 0, [], [.nilf], []⟩
  | 41 => some ⟨.fn, 1, 8, 0, [], [.nilf], []⟩
  | 42 => some ⟨.fn, 1, 8, 0, [], [.nilf], []⟩
  | 43 => some ⟨.fn, 1, 8, 0, [], [.nilf], []⟩
  | 44 => some ⟨.fn, 1, 8, 0, [], [.nilf], []⟩
  | 45 => some ⟨.fn, 1, 8, 0, [], [.nilf], []⟩
  | 46 => some ⟨.fn, 1, 8, 0, [], [.nilf], []⟩
  | 47 => some ⟨.st, 8, 80, 0, [(0, 3), (1, 3), (2, 3), (3, 9), (4, 9), (5, 3), (6, 3), (7, 3)], [.int .i64 0, .int .i64 0, .int .i64 0, .str [], .str [], .int .i64 0, .int .i64 0, .int .i64 0], []⟩
  | 48 => some ⟨.st, 8, 80, 0, [(0, 3), (1, 3), (2, 3), (3, 9), (4, 9), (5, 3), (6, 3), (7, 3)], [.int .i64 0, .int .i64 0, .int .i64 0, .str [], .str [], .int .i64 0, .int .i64 0, .int .i64 0], [.int .i64, .int .i64, .int .i64, .str, .str, .int .i64, .int .i64, .int .i64]⟩
  | 49 => some ⟨.fn, 1, 8, 0, [], [.nilf], []⟩
  | 50 => some ⟨.fn, 1, 8, 0, [], [.nilf], []⟩
  | 51 => some ⟨.st, 6, 72, 0, [(0, 3), (1, 3), (2, 33), (3, 9), (4, 3), (5, 28)], [.int .i64 0, .int .i64 0, .int .i64 0, .str [], .int .i64 0, .nils], []⟩
  | 52 => some ⟨.st, 6, 72, 0, [(0, 3), (1, 3), (2, 33), (3, 9), (4, 3), (5, 28)], [.int .i64 0, .int .i64 0, .int .i64 0, .str [], .int .i64 0, .nils], []⟩
  | 53 => some ⟨.fn, 1, 8, 0, [], [.nilf], []⟩
  | 54 => some ⟨.fn, 1, 8, 0, [], [.nilf], []⟩
  | 55 => some ⟨.fn, 1, 8, 0, [], [.nilf], []⟩
  | 56 => some ⟨.st, 8, 80, 0, [(0, 3), (1, 3), (2, 3), (3, 9), (4, 9), (5, 3), (6, 3), (7, 3)], [.int .i64 0, .int .i64 0, .int .i64 0, .str [], .str [], .int .i64 0, .int .i64 0, .int .i64 0], [.int .i64, .int .i64, .int .i64, .str, .str, .int .i64, .int .i64, .int .i64]⟩
  | 57 => some ⟨.fn, 1, 8, 0, [], [.nilf], []⟩
  | 58 => some ⟨.fn, 1, 8, 0, [], [.nilf], []⟩
  | 59 => some ⟨.fn, 1, 8, 0, [], [.nilf], []⟩
  | 60 => some ⟨.st, 6, 72, 0, [(0, 3), (1, 3), (2, 33), (3, 9), (4, 3), (5, 28)], [.int .i64 0, .int .i64 0, .int .i64 0, .str [], .int .i64 0, .nils], []⟩
  | 61 => some ⟨.fn, 1, 8, 0, [], [.nilf], []⟩
  | 62 => some ⟨.fn, 1, 8, 0, [], [.nilf], []⟩
  | 63 => some ⟨.fn, 1, 8, 0, [], [.nilf], []⟩
  | 64 => some ⟨.fn, 1, 8, 0, [], [.nilf], []⟩
  | 65 => some ⟨.fn, 1, 8, 0, [], [.nilf], []⟩
  | 67 => some ⟨.fn, 1, 8, 0, [], [.nilf], []⟩
  | 69 => some ⟨.fn, 1, 8, 0, [], [.nilf], []⟩
  | 71 => some ⟨.fn, 1, 8, 0, [], [.nilf], []⟩
  | 73 => some ⟨.fn, 1, 8, 0, [], [.nilf], []⟩
  | 74 => some ⟨.fn, 1, 8, 0, [], [.nilf], []⟩
  | 75 => some ⟨.fn, 1, 8, 0, [], [.nilf], []⟩
  | 76 => some ⟨.int .u64, 1, 8, 0, [], [.int .u64 0], []⟩
  | 77 => some ⟨.fn, 1, 8, 0, [], [.nilf], []⟩
  | 78 => some ⟨.fn, 1, 8, 0, [], [.nilf], []⟩
  | 79 => some ⟨.sl, 1, 24, 3, [], [.nils], []⟩
  | 80 => some ⟨.fn, 1, 8, 0, [], [.nilf], []⟩
  | 81 => some ⟨.fn, 1, 8, 0, [], [.nilf], []⟩
  | 82 => some ⟨.ptr, 1, 8, 84, [], [.nilp], []⟩
  | 83 => some ⟨.st, 2, 32, 0, [(0, 23), (1, 33)], [.nils, .int .i64 0], []⟩
  | 84 => some ⟨.st, 2, 32, 0, [(0, 23), (1, 33)], [.nils, .int .i64 0], []⟩
  | 85 => some ⟨.fn, 1, 8, 0, [], [.nilf], []⟩
  | 86 => some ⟨.ptr, 1, 8, 3, [], [.nilp], []⟩
  | 87 => some ⟨.fn, 1, 8, 0, [], [.nilf], []⟩
  | 88 => some ⟨.ptr, 1, 8, 9, [], [.nilp], []⟩
  | 90 => some ⟨.fn, 1, 8, 0, [], [.nilf], []⟩
  | 91 => some ⟨.sl, 1, 24, 86, [], [.nils], []⟩
  | 92 => some ⟨.fn, 1, 8, 0, [], [.nilf], []⟩
  | 93 => some ⟨.st, 4, 40, 0, [(0, 17), (1, 17), (2, 17), (3, 9)], [.nilp, .nilp, .nilp, .str []], []⟩
  | 94 => some ⟨.st, 4, 40, 0, [(0, 17), (1, 17), (2, 17), (3, 9)], [.nilp, .nilp, .nilp, .str []], []⟩
  | 95 => some ⟨.arr 0, 0, 0, 16, [], [], []⟩
  | 98 => some ⟨.fn, 1, 8, 0, [], [.nilf], []⟩
  | 99 => some ⟨.int .u32, 1, 4, 0, [], [.int .u32 0], []⟩
  | 100 => some ⟨.int .u8, 1, 1, 0, [], [.int .u8 0], []⟩
  | 101 => some ⟨.int .u8, 1, 1, 0, [], [.int .u8 0], []⟩
  | 102 => some ⟨.fn, 1, 8, 0, [], [.nilf], []⟩
  | 103 => some ⟨.ptr, 1, 8, 5, [], [.nilp], []⟩
  | 104 => some ⟨.int .i32, 1, 4, 0, [], [.int .i32 0], []⟩
  | 105 => some ⟨.int .i32, 1, 4, 0, [], [.int .i32 0], []⟩
  | 106 => some ⟨.st, 11, 48, 0, [(0, 12), (1, 12), (2, 99), (3, 100), (4, 5), (5, 5), (6, 101), (7, 102), (8, 103), (9, 104), (10, 105)], [.int .u64 0, .int .u64 0, .int .u32 0, .int .u8 0, .int .u8 0, .int .u8 0, .int .u8 0, .nilf, .nilp, .int .i32 0, .int .i32 0], []⟩
  | 107 => some ⟨.st, 11, 48, 0, [(0, 12), (1, 12), (2, 99), (3, 100), (4, 5), (5, 5), (6, 101), (7, 102), (8, 103), (9, 104), (10, 105)], [.int .u64 0, .int .u64 0, .int .u32 0, .int .u8 0, .int .u8 0, .int .u8 0, .int .u8 0, .nilf, .nilp, .int .i32 0, .int .i32 0], []⟩
  | _ => none
theorem tab_1 : tab 1 = some ⟨.fn, 1, 8, 0, [], [.nilf], []⟩ := rfl
theorem tab_2 : tab 2 = some ⟨.int .i64, 1, 8, 0, [], [.int .i64 0], []⟩ := rfl
theorem tab_3 : tab 3 = some ⟨.int .i64, 1, 8, 0, [], [.int .i64 0], []⟩ := rfl
theorem tab_4 : tab 4 = some ⟨.bool, 1, 1, 0, [], [.bool false], []⟩ := rfl
theorem tab_5 : tab 5 = some ⟨.int .u8, 1, 1, 0, [], [.int .u8 0], []⟩ := rfl
theorem tab_6 : tab 6 = some ⟨.int .u8, 1, 1, 0, [], [.int .u8 0], []⟩ := rfl
theorem tab_7 : tab 7 = some ⟨.st, 4, 24, 0, [(0, 2), (1, 3), (2, 4), (3, 6)], [.int .i64 0, .int .i64 0, .bool false, .int .u8 0], []⟩ := rfl
theorem tab_8 : tab 8 = some ⟨.st, 4, 24, 0, [(0, 2), (1, 3), (2, 4), (3, 6)], [.int .i64 0, .int .i64 0, .bool false, .int .u8 0], []⟩ := rfl
theorem tab_9 : tab 9 = some ⟨.str, 1, 16, 0, [], [.str []], []⟩ := rfl
theorem tab_10 : tab 10 = some ⟨.str, 1, 16, 0, [], [.str []], []⟩ := rfl
theorem tab_11 : tab 11 = some ⟨.str, 1, 16, 0, [], [.str []], []⟩ := rfl
theorem tab_12 : tab 12 = some ⟨.int .u64, 1, 8, 0, [], [.int .u64 0], []⟩ := rfl
theorem tab_13 : tab 13 = some ⟨.st, 2, 24, 0, [(0, 9), (1, 12)], [.str [], .int .u64 0], []⟩ := rfl
theorem tab_14 : tab 14 = some ⟨.st, 2, 24, 0, [(0, 9), (1, 12)], [.str [], .int .u64 0], []⟩ := rfl
theorem tab_15 : tab 15 = some ⟨.ptr, 1, 8, 94, [], [.nilp], []⟩ := rfl
theorem tab_16 : tab 16 = some ⟨.ptr, 1, 8, 97, [], [.nilp], []⟩ := rfl
theorem tab_17 : tab 17 = some ⟨.ptr, 1, 8, 107, [], [.nilp], []⟩ := rfl
theorem tab_18 : tab 18 = some ⟨.st, 1, 8, 0, [(0, 17)], [.nilp], []⟩ := rfl
theorem tab_19 : tab 19 = some ⟨.st, 1, 8, 0, [(0, 17)], [.nilp], []⟩ := rfl
theorem tab_20 : tab 20 = some ⟨.iface, 1, 16, 0, [], [.nilI], []⟩ := rfl
theorem tab_21 : tab 21 = some ⟨.int .i32, 1, 4, 0, [], [.int .i32 0], []⟩ := rfl
theorem tab_22 : tab 22 = some ⟨.int .u64, 1, 8, 0, [], [.int .u64 0], []⟩ := rfl
theorem tab_23 : tab 23 = some ⟨.sl, 1, 24, 5, [], [.nils], []⟩ := rfl
theorem tab_24 : tab 24 = some ⟨.fn, 1, 8, 0, [], [.nilf], []⟩ := rfl
theorem tab_25 : tab 25 = some ⟨.fn, 1, 8, 0, [], [.nilf], []⟩ := rfl
theorem tab_26 : tab 26 = some ⟨.fn, 1, 8, 0, [], [.nilf], []⟩ := rfl
theorem tab_27 : tab 27 = some ⟨.fn, 1, 8, 0, [], [.nilf], []⟩ := rfl
theorem tab_28 : tab 28 = some ⟨.sl, 1, 24, 9, [], [.nils], []⟩ := rfl
theorem tab_29 : tab 29 = some ⟨.fn, 1, 8, 0, [], [.nilf], []⟩ := rfl
theorem tab_30 : tab 30 = some ⟨.fn, 1, 8, 0, [], [.nilf], []⟩ := rfl
theorem tab_31 : tab 31 = some ⟨.fn, 1, 8, 0, [], [.nilf], []⟩ := rfl
theorem tab_32 : tab 32 = some ⟨.fn, 1, 8, 0, [], [.nilf], []⟩ := rfl
theorem tab_33 : tab 33 = some ⟨.int .i64, 1, 8, 0, [], [.int .i64 0], []⟩ := rfl
theorem tab_35 : tab 35 = some ⟨.fn, 1, 8, 0, [], [.nilf], []⟩ := rfl
theorem tab_37 : tab 37 = some ⟨.fn, 1, 8, 0, [], [.nilf], []⟩ := rfl
theorem tab_39 : tab 39 = some ⟨.fn, 1, 8, 0, [], [.nilf], []⟩ := rfl
theorem tab_41 : tab 41 = some ⟨.fn, 1, 8, 0, [], [.nilf], []⟩ := rfl
theorem tab_42 : tab 42 = some ⟨.fn, 1, 8, 0, [], [.nilf], []⟩ := rfl
theorem tab_43 : tab 43 = some ⟨.fn, 1, 8, 0, [], [.nilf], []⟩ := rfl
theorem tab_44 : tab 44 = some ⟨.fn, 1, 8, 0, [], [.nilf], []⟩ := rfl
theorem tab_45 : tab 45 = some ⟨.fn, 1, 8, 0, [], [.nilf], []⟩ := rfl
theorem tab_46 : tab 46 = some ⟨.fn, 1, 8, 0, [], [.nilf], []⟩ := rfl
theorem tab_47 : tab 47 = some ⟨.st, 8, 80, 0, [(0, 3), (1, 3), (2, 3), (3, 9), (4, 9), (5, 3), (6, 3), (7, 3)], [.int .i64 0, .int .i64 0, .int .i64 0, .str [], .str [], .int .i64 0, .int .i64 0, .int .i64 0], []⟩ := rfl
theorem tab_48 : tab 48 = some ⟨.st, 8, 80, 0, [(0, 3), (1, 3), (2, 3), (3, 9), (4, 9), (5, 3), (6, 3), (7, 3)], [.int .i64 0, .int .i64 0, .int .i64 0, .str [], .str [], .int .i64 0, .int .i64 0, .int .i64 0], [.int .i64, .int .i64, .int .i64, .str, .str, .int .i64, .int .i64, .int .i64]⟩ := rfl
theorem tab_49 : tab 49 = some ⟨.fn, 1, 8, 0, [], [.nilf], []⟩ := rfl
theorem tab_50 : tab 50 = some ⟨.fn, 1, 8, 0, [], [.nilf], []⟩ := rfl
theorem tab_51 : tab 51 = some ⟨.st, 6, 72, 0, [(0, 3), (1, 3), (2, 33), (3, 9), (4, 3), (5, 28)], [.int .i64 0, .int .i64 0, .int .i64 0, .str [], .int .i64 0, .nils], []⟩ := rfl
theorem tab_52 : tab 52 = some ⟨.st, 6, 72, 0, [(0, 3), (1, 3), (2, 33), (3, 9), (4, 3), (5, 28)], [.int .i64 0, .int .i64 0, .int .i64 0, .str [], .int .i64 0, .nils], []⟩ := rfl
theorem tab_53 : tab 53 = some ⟨.fn, 1, 8, 0, [], [.nilf], []⟩ := rfl
theorem tab_54 : tab 54 = some ⟨.fn, 1, 8, 0, [], [.nilf], []⟩ := rfl
theorem tab_55 : tab 55 = some ⟨.fn, 1, 8, 0, [], [.nilf], []⟩ := rfl
theorem tab_56 : tab 56 = some ⟨.st, 8, 80, 0, [(0, 3), (1, 3), (2, 3), (3, 9), (4, 9), (5, 3), (6, 3), (7, 3)], [.int .i64 0, .int .i64 0, .int .i64 0, .str [], .str [], .int .i64 0, .int .i64 0, .int .i64 0], [.int .i64, .int .i64, .int .i64, .str, .str, .int .i64, .int .i64, .int .i64]⟩ := rfl
theorem tab_57 : tab 57 = some ⟨.fn, 1, 8, 0, [], [.nilf], []⟩ := rfl
theorem tab_58 : tab 58 = some ⟨.fn, 1, 8, 0, [], [.nilf], []⟩ := rfl
theorem tab_59 : tab 59 = some ⟨.fn, 1, 8, 0, [], [.nilf], []⟩ := rfl
theorem tab_60 : tab 60 = some ⟨.st, 6, 72, 0, [(0, 3), (1, 3), (2, 33), (3, 9), (4, 3), (5, 28)], [.int .i64 0, .int .i64 0, .int .i64 0, .str [], .int .i64 0, .nils], []⟩ := rfl
theorem tab_61 : tab 61 = some ⟨.fn, 1, 8, 0, [], [.nilf], []⟩ := rfl
theorem tab_62 : tab 62 = some ⟨.fn, 1, 8, 0, [], [.nilf], []⟩ := rfl
theorem tab_63 : tab 63 = some ⟨.fn, 1, 8, 0, [], [.nilf], []⟩ := rfl
theorem tab_64 : tab 64 = some ⟨.fn, 1, 8, 0, [], [.nilf], []⟩ := rfl
theorem tab_65 : tab 65 = some ⟨.fn, 1, 8, 0, [], [.nilf], []⟩ := rfl
theorem tab_67 : tab 67 = some ⟨.fn, 1, 8, 0, [], [.nilf], []⟩ := rfl
theorem tab_69 : tab 69 = some ⟨.fn, 1, 8, 0, [], [.nilf], []⟩ := rfl
theorem tab_71 : tab 71 = some ⟨.fn, 1, 8, 0, [], [.nilf], []⟩ := rfl
theorem tab_73 : tab 73 = some ⟨.fn, 1, 8, 0, [], [.nilf], []⟩ := rfl
theorem tab_74 : tab 74 = some ⟨.fn, 1, 8, 0, [], [.nilf], []⟩ := rfl
theorem tab_75 : tab 75 = some ⟨.fn, 1, 8, 0, [], [.nilf], []⟩ := rfl
theorem tab_76 : tab 76 = some ⟨.int .u64, 1, 8, 0, [], [.int .u64 0], []⟩ := rfl
theorem tab_77 : tab 77 = some ⟨.fn, 1, 8, 0, [], [.nilf], []⟩ := rfl
theorem tab_78 : tab 78 = some ⟨.fn, 1, 8, 0, [], [.nilf], []⟩ := rfl
theorem tab_79 : tab 79 = some ⟨.sl, 1, 24, 3, [], [.nils], []⟩ := rfl
theorem tab_80 : tab 80 = some ⟨.fn, 1, 8, 0, [], [.nilf], []⟩ := rfl
theorem tab_81 : tab 81 = some ⟨.fn, 1, 8, 0, [], [.nilf], []⟩ := rfl
theorem tab_82 : tab 82 = some ⟨.ptr, 1, 8, 84, [], [.nilp], []⟩ := rfl
theorem tab_83 : tab 83 = some ⟨.st, 2, 32, 0, [(0, 23), (1, 33)], [.nils, .int .i64 0], []⟩ := rfl
theorem tab_84 : tab 84 = some ⟨.st, 2, 32, 0, [(0, 23), (1, 33)], [.nils, .int .i64 0], []⟩ := rfl
theorem tab_85 : tab 85 = some ⟨.fn, 1, 8, 0, [], [.nilf], []⟩ := rfl
theorem tab_86 : tab 86 = some ⟨.ptr, 1, 8, 3, [], [.nilp], []⟩ := rfl
theorem tab_87 : tab 87 = some ⟨.fn, 1, 8, 0, [], [.nilf], []⟩ := rfl
theorem tab_88 : tab 88 = some ⟨.ptr, 1, 8, 9, [], [.nilp], []⟩ := rfl
theorem tab_90 : tab 90 = some ⟨.fn, 1, 8, 0, [], [.nilf], []⟩ := rfl
theorem tab_91 : tab 91 = some ⟨.sl, 1, 24, 86, [], [.nils], []⟩ := rfl
theorem tab_92 : tab 92 = some ⟨.fn, 1, 8, 0, [], [.nilf], []⟩ := rfl
theorem tab_93 : tab 93 = some ⟨.st, 4, 40, 0, [(0, 17), (1, 17), (2, 17), (3, 9)], [.nilp, .nilp, .nilp, .str []], []⟩ := rfl
theorem tab_94 : tab 94 = some ⟨.st, 4, 40, 0, [(0, 17), (1, 17), (2, 17), (3, 9)], [.nilp, .nilp, .nilp, .str []], []⟩ := rfl
theorem tab_95 : tab 95 = some ⟨.arr 0, 0, 0, 16, [], [], []⟩ := rfl
theorem tab_98 : tab 98 = some ⟨.fn, 1, 8, 0, [], [.nilf], []⟩ := rfl
theorem tab_99 : tab 99 = some ⟨.int .u32, 1, 4, 0, [], [.int .u32 0], []⟩ := rfl
theorem tab_100 : tab 100 = some ⟨.int .u8, 1, 1, 0, [], [.int .u8 0], []⟩ := rfl
theorem tab_101 : tab 101 = some ⟨.int .u8, 1, 1, 0, [], [.int .u8 0], []⟩ := rfl
theorem tab_102 : tab 102 = some ⟨.fn, 1, 8, 0, [], [.nilf], []⟩ := rfl
theorem tab_103 : tab 103 = some ⟨.ptr, 1, 8, 5, [], [.nilp], []⟩ := rfl
theorem tab_104 : tab 104 = some ⟨.int .i32, 1, 4, 0, [], [.int .i32 0], []⟩ := rfl
theorem tab_105 : tab 105 = some ⟨.int .i32, 1, 4, 0, [], [.int .i32 0], []⟩ := rfl
theorem tab_106 : tab 106 = some ⟨.st, 11, 48, 0, [(0, 12), (1, 12), (2, 99), (3, 100), (4, 5), (5, 5), (6, 101), (7, 102), (8, 103), (9, 104), (10, 105)], [.int .u64 0, .int .u64 0, .int .u32 0, .int .u8 0, .int .u8 0, .int .u8 0, .int .u8 0, .nilf, .nilp, .int .i32 0, .int .i32 0], []⟩ := rfl
theorem tab_107 : tab 107 = some ⟨.st, 11, 48, 0, [(0, 12), (1, 12), (2, 99), (3, 100), (4, 5), (5, 5), (6, 101), (7, 102), (8, 103), (9, 104), (10, 105)], [.int .u64 0, .int .u64 0, .int .u32 0, .int .u8 0, .int .u8 0, .int .u8 0, .int .u8 0, .nilf, .nilp, .int .i32 0, .int .i32 0], []⟩ := rfl
theorem follows_ok : Try.prog.follows .mixedOrders = true := by kernel_rfl
set_option maxRecDepth 100000 in
theorem tab_ok : TabOk Try.prog tab := by
  intro t ti h
  unfold tab at h
  split at h <;> first | (cases h; done) | (cases h; exact tiB_ok (by kernel_rfl))
end Go.Proofs.Ytpigfpnpabnnbaa
