/-
  Several texts in one: Tab, Rep, OctetSpec, Br, Str, Conv, ZRep, LibB, DiskSpec, Dx, Ot, Oi, Pm, Len, Octet, TakeLaw, CrcSpec, FrameSpec, Crc.
-/
import Derived.Test.YtcafahcmalfepaaMb
import Derived.Test.YtcafahcmalfepaaRows
import Derived.Test.YtcafahcmalfepaaMa
import Derived.Deep.Slices
import Derived.Deep.AppendLies
import Derived.Laws.OwnMore
import Derived.Laws.AppendOwnNone
import Derived.Maps.AppendAt
import Derived.Lib.BitFns
import Derived.Lib.AppendStr
import Derived.Laws.IdiomStrings
import Derived.Lib.AppendZeros
import Derived.Deep.QuietTactic
import Derived.BigQuiet
import Derived.Shelf.Strconv.Itoa0
import Derived.Test.YtcafahcmalfepaaProg
import Derived.Laws.BitsAllLaws
/-
  The table of the types that this seat's texts meet, and that it is the program's.
-/
namespace Go.Proofs.Ytcafahcmalfepaa
set_option maxHeartbeats 4000000 in
def tab : Nat → Option TI
  | 1 => some ⟨.fn, 1, 8, 0, [], [.nilf], [], false⟩
  | 2 => some ⟨.int .i64, 1, 8, 0, [], [.int .i64 0], [], false⟩
  | 3 => some ⟨.int .i64, 1, 8, 0, [], [.int .i64 0], [], false⟩
  | 4 => some ⟨.bool, 1, 1, 0, [], [.bool false], [], false⟩
  | 5 => some ⟨.int .u8, 1, 1, 0, [], [.int .u8 0], [], false⟩
  | 6 => some ⟨.int .u8, 1, 1, 0, [], [.int .u8 0], [], false⟩
  | 7 => some ⟨.st, 4, 24, 0, [(0, 2), (1, 3), (2, 4), (3, 6)], [.int .i64 0, .int .i64 0, .bool false, .int .u8 0], [], false⟩
  | 8 => some ⟨.st, 4, 24, 0, [(0, 2), (1, 3), (2, 4), (3, 6)], [.int .i64 0, .int .i64 0, .bool false, .int .u8 0], [], false⟩
  | 9 => some ⟨.str, 1, 16, 0, [], [.str []], [], false⟩
  | 10 => some ⟨.str, 1, 16, 0, [], [.str []], [], false⟩
  | 11 => some ⟨.str, 1, 16, 0, [], [.str []], [], false⟩
  | 12 => some ⟨.int .u64, 1, 8, 0, [], [.int .u64 0], [], false⟩
  | 13 => some ⟨.st, 2, 24, 0, [(0, 9), (1, 12)], [.str [], .int .u64 0], [], false⟩
  | 14 => some ⟨.st, 2, 24, 0, [(0, 9), (1, 12)], [.str [], .int .u64 0], [], false⟩
  | 15 => some ⟨.ptr, 1, 8, 112, [], [.nilp], [], false⟩
  | 16 => some ⟨.ptr, 1, 8, 115, [], [.nilp], [], false⟩
  | 17 => some ⟨.ptr, 1, 8, 123, [], [.nilp], [], false⟩
  | 18 => some ⟨.st, 1, 8, 0, [(0, 17)], [.nilp], [], false⟩
  | 19 => some ⟨.st, 1, 8, 0, [(0, 17)], [.nilp], [], false⟩
  | 20 => some ⟨.iface, 1, 16, 0, [], [.nilI], [], false⟩
  | 21 => some ⟨.int .i32, 1, 4, 0, [], [.int .i32 0], [], false⟩
  | 22 => some ⟨.sl, 1, 24, 5, [], [.nils], [], false⟩
  | 23 => some ⟨.int .u32, 1, 4, 0, [], [.int .u32 0], [], false⟩
  | 24 => some ⟨.fn, 1, 8, 0, [], [.nilf], [], false⟩
  | 25 => some ⟨.int .i64, 1, 8, 0, [], [.int .i64 0], [], false⟩
  | 27 => some ⟨.fn, 1, 8, 0, [], [.nilf], [], false⟩
  | 28 => some ⟨.fn, 1, 8, 0, [], [.nilf], [], false⟩
  | 29 => some ⟨.fn, 1, 8, 0, [], [.nilf], [], false⟩
  | 30 => some ⟨.fn, 1, 8, 0, [], [.nilf], [], false⟩
  | 31 => some ⟨.fn, 1, 8, 0, [], [.nilf], [], false⟩
  | 32 => some ⟨.fn, 1, 8, 0, [], [.nilf], [], false⟩
  | 33 => some ⟨.fn, 1, 8, 0, [], [.nilf], [], false⟩
  | 34 => some ⟨.sl, 1, 24, 22, [], [.nils], [], false⟩
  | 36 => some ⟨.fn, 1, 8, 0, [], [.nilf], [], false⟩
  | 37 => some ⟨.fn, 1, 8, 0, [], [.nilf], [], false⟩
  | 38 => some ⟨.fn, 1, 8, 0, [], [.nilf], [], false⟩
  | 39 => some ⟨.fn, 1, 8, 0, [], [.nilf], [], false⟩
  | 40 => some ⟨.fn, 1, 8, 0, [], [.nilf], [], false⟩
  | 41 => some ⟨.st, 5, 72, 0, [(0, 3), (1, 22), (2, 22), (3, 4), (4, 3)], [.int .i64 0, .nils, .nils, .bool false, .int .i64 0], [], false⟩
  | 42 => some ⟨.st, 5, 72, 0, [(0, 3), (1, 22), (2, 22), (3, 4), (4, 3)], [.int .i64 0, .nils, .nils, .bool false, .int .i64 0], [], false⟩
  | 43 => some ⟨.fn, 1, 8, 0, [], [.nilf], [], false⟩
  | 44 => some ⟨.st, 5, 72, 0, [(0, 3), (1, 22), (2, 22), (3, 4), (4, 3)], [.int .i64 0, .nils, .nils, .bool false, .int .i64 0], [], false⟩
  | 45 => some ⟨.fn, 1, 8, 0, [], [.nilf], [], false⟩
  | 46 => some ⟨.st, 6, 96, 0, [(0, 42), (5, 34)], [.int .i64 0, .nils, .nils, .bool false, .int .i64 0, .nils], [], false⟩
  | 47 => some ⟨.st, 6, 96, 0, [(0, 42), (5, 34)], [.int .i64 0, .nils, .nils, .bool false, .int .i64 0, .nils], [], false⟩
  | 49 => some ⟨.fn, 1, 8, 0, [], [.nilf], [], false⟩
  | 50 => some ⟨.st, 6, 96, 0, [(0, 44), (5, 34)], [.int .i64 0, .nils, .nils, .bool false, .int .i64 0, .nils], [], false⟩
  | 51 => some ⟨.st, 6, 96, 0, [(0, 44), (5, 34)], [.int .i64 0, .nils, .nils, .bool false, .int .i64 0, .nils], [], false⟩
  | 53 => some ⟨.fn, 1, 8, 0, [], [.nilf], [], false⟩
  | 54 => some ⟨.fn, 1, 8, 0, [], [.nilf], [], false⟩
  | 55 => some ⟨.fn, 1, 8, 0, [], [.nilf], [], false⟩
  | 56 => some ⟨.fn, 1, 8, 0, [], [.nilf], [], false⟩
  | 57 => some ⟨.fn, 1, 8, 0, [], [.nilf], [], false⟩
  | 58 => some ⟨.fn, 1, 8, 0, [], [.nilf], [], false⟩
  | 60 => some ⟨.fn, 1, 8, 0, [], [.nilf], [], false⟩
  | 61 => some ⟨.fn, 1, 8, 0, [], [.nilf], [], false⟩
  | 62 => some ⟨.fn, 1, 8, 0, [], [.nilf], [], false⟩
  | 63 => some ⟨.fn, 1, 8, 0, [], [.nilf], [], false⟩
  | 64 => some ⟨.fn, 1, 8, 0, [], [.nilf], [], false⟩
  | 65 => some ⟨.fn, 1, 8, 0, [], [.nilf], [], false⟩
  | 66 => some ⟨.fn, 1, 8, 0, [], [.nilf], [], false⟩
  | 67 => some ⟨.fn, 1, 8, 0, [], [.nilf], [], false⟩
  | 68 => some ⟨.fn, 1, 8, 0, [], [.nilf], [], false⟩
  | 69 => some ⟨.fn, 1, 8, 0, [], [.nilf], [], false⟩
  | 70 => some ⟨.fn, 1, 8, 0, [], [.nilf], [], false⟩
  | 71 => some ⟨.sl, 1, 24, 73, [], [.nils], [], false⟩
  | 72 => some ⟨.st, 3, 40, 0, [(0, 3), (1, 3), (2, 34)], [.int .i64 0, .int .i64 0, .nils], [], false⟩
  | 73 => some ⟨.st, 3, 40, 0, [(0, 3), (1, 3), (2, 34)], [.int .i64 0, .int .i64 0, .nils], [], false⟩
  | 74 => some ⟨.fn, 1, 8, 0, [], [.nilf], [], false⟩
  | 75 => some ⟨.int .u64, 1, 8, 0, [], [.int .u64 0], [], false⟩
  | 77 => some ⟨.fn, 1, 8, 0, [], [.nilf], [], false⟩
  | 78 => some ⟨.fn, 1, 8, 0, [], [.nilf], [], false⟩
  | 79 => some ⟨.fn, 1, 8, 0, [], [.nilf], [], false⟩
  | 80 => some ⟨.int .u64, 1, 8, 0, [], [.int .u64 0], [], false⟩
  | 81 => some ⟨.ptr, 1, 8, 100, [], [.nilp], [], false⟩
  | 82 => some ⟨.fn, 1, 8, 0, [], [.nilf], [], false⟩
  | 83 => some ⟨.fn, 1, 8, 0, [], [.nilf], [], false⟩
  | 84 => some ⟨.fn, 1, 8, 0, [], [.nilf], [], false⟩
  | 85 => some ⟨.fn, 1, 8, 0, [], [.nilf], [], false⟩
  | 87 => some ⟨.fn, 1, 8, 0, [], [.nilf], [], false⟩
  | 88 => some ⟨.fn, 1, 8, 0, [], [.nilf], [], false⟩
  | 89 => some ⟨.fn, 1, 8, 0, [], [.nilf], [], false⟩
  | 91 => some ⟨.fn, 1, 8, 0, [], [.nilf], [], false⟩
  | 92 => some ⟨.fn, 1, 8, 0, [], [.nilf], [], false⟩
  | 93 => some ⟨.fn, 1, 8, 0, [], [.nilf], [], false⟩
  | 94 => some ⟨.fn, 1, 8, 0, [], [.nilf], [], false⟩
  | 95 => some ⟨.fn, 1, 8, 0, [], [.nilf], [], false⟩
  | 96 => some ⟨.fn, 1, 8, 0, [], [.nilf], [], false⟩
  | 97 => some ⟨.fn, 1, 8, 0, [], [.nilf], [], false⟩
  | 98 => some ⟨.fn, 1, 8, 0, [], [.nilf], [], false⟩
  | 99 => some ⟨.fn, 1, 8, 0, [], [.nilf], [], false⟩
  | 101 => some ⟨.fn, 1, 8, 0, [], [.nilf], [], false⟩
  | 102 => some ⟨.fn, 1, 8, 0, [], [.nilf], [], false⟩
  | 103 => some ⟨.fn, 1, 8, 0, [], [.nilf], [], false⟩
  | 104 => some ⟨.ptr, 1, 8, 42, [], [.nilp], [], false⟩
  | 105 => some ⟨.fn, 1, 8, 0, [], [.nilf], [], false⟩
  | 106 => some ⟨.fn, 1, 8, 0, [], [.nilf], [], false⟩
  | 107 => some ⟨.fn, 1, 8, 0, [], [.nilf], [], false⟩
  | 108 => some ⟨.sl, 1, 24, 34, [], [.nils], [], false⟩
  | 109 => some ⟨.fn, 1, 8, 0, [], [.nilf], [], false⟩
  | 110 => some ⟨.fn, 1, 8, 0, [], [.nilf], [], false⟩
  | 111 => some ⟨.st, 4, 40, 0, [(0, 17), (1, 17), (2, 17), (3, 9)], [.nilp, .nilp, .nilp, .str []], [], false⟩
  | 112 => some ⟨.st, 4, 40, 0, [(0, 17), (1, 17), (2, 17), (3, 9)], [.nilp, .nilp, .nilp, .str []], [], false⟩
  | 113 => some ⟨.arr 0, 0, 0, 16, [], [], [], false⟩
  | 116 => some ⟨.int .u8, 1, 1, 0, [], [.int .u8 0], [], false⟩
  | 117 => some ⟨.int .u8, 1, 1, 0, [], [.int .u8 0], [], false⟩
  | 118 => some ⟨.fn, 1, 8, 0, [], [.nilf], [], false⟩
  | 119 => some ⟨.ptr, 1, 8, 5, [], [.nilp], [], false⟩
  | 120 => some ⟨.int .i32, 1, 4, 0, [], [.int .i32 0], [], false⟩
  | 121 => some ⟨.int .i32, 1, 4, 0, [], [.int .i32 0], [], false⟩
  | 122 => some ⟨.st, 11, 48, 0, [(0, 12), (1, 12), (2, 23), (3, 116), (4, 5), (5, 5), (6, 117), (7, 118), (8, 119), (9, 120), (10, 121)], [.int .u64 0, .int .u64 0, .int .u32 0, .int .u8 0, .int .u8 0, .int .u8 0, .int .u8 0, .nilf, .nilp, .int .i32 0, .int .i32 0], [], false⟩
  | 123 => some ⟨.st, 11, 48, 0, [(0, 12), (1, 12), (2, 23), (3, 116), (4, 5), (5, 5), (6, 117), (7, 118), (8, 119), (9, 120), (10, 121)], [.int .u64 0, .int .u64 0, .int .u32 0, .int .u8 0, .int .u8 0, .int .u8 0, .int .u8 0, .nilf, .nilp, .int .i32 0, .int .i32 0], [], false⟩
  | _ => none
theorem tab_1 : tab 1 = some ⟨.fn, 1, 8, 0, [], [.nilf], [], false⟩ := rfl
theorem tab_2 : tab 2 = some ⟨.int .i64, 1, 8, 0, [], [.int .i64 0], [], false⟩ := rfl
theorem tab_3 : tab 3 = some ⟨.int .i64, 1, 8, 0, [], [.int .i64 0], [], false⟩ := rfl
theorem tab_4 : tab 4 = some ⟨.bool, 1, 1, 0, [], [.bool false], [], false⟩ := rfl
theorem tab_5 : tab 5 = some ⟨.int .u8, 1, 1, 0, [], [.int .u8 0], [], false⟩ := rfl
theorem tab_6 : tab 6 = some ⟨.int .u8, 1, 1, 0, [], [.int .u8 0], [], false⟩ := rfl
theorem tab_7 : tab 7 = some ⟨.st, 4, 24, 0, [(0, 2), (1, 3), (2, 4), (3, 6)], [.int .i64 0, .int .i64 0, .bool false, .int .u8 0], [], false⟩ := rfl
theorem tab_8 : tab 8 = some ⟨.st, 4, 24, 0, [(0, 2), (1, 3), (2, 4), (3, 6)], [.int .i64 0, .int .i64 0, .bool false, .int .u8 0], [], false⟩ := rfl
theorem tab_9 : tab 9 = some ⟨.str, 1, 16, 0, [], [.str []], [], false⟩ := rfl
theorem tab_10 : tab 10 = some ⟨.str, 1, 16, 0, [], [.str []], [], false⟩ := rfl
theorem tab_11 : tab 11 = some ⟨.str, 1, 16, 0, [], [.str []], [], false⟩ := rfl
theorem tab_12 : tab 12 = some ⟨.int .u64, 1, 8, 0, [], [.int .u64 0], [], false⟩ := rfl
theorem tab_13 : tab 13 = some ⟨.st, 2, 24, 0, [(0, 9), (1, 12)], [.str [], .int .u64 0], [], false⟩ := rfl
theorem tab_14 : tab 14 = some ⟨.st, 2, 24, 0, [(0, 9), (1, 12)], [.str [], .int .u64 0], [], false⟩ := rfl
theorem tab_15 : tab 15 = some ⟨.ptr, 1, 8, 112, [], [.nilp], [], false⟩ := rfl
theorem tab_16 : tab 16 = some ⟨.ptr, 1, 8, 115, [], [.nilp], [], false⟩ := rfl
theorem tab_17 : tab 17 = some ⟨.ptr, 1, 8, 123, [], [.nilp], [], false⟩ := rfl
theorem tab_18 : tab 18 = some ⟨.st, 1, 8, 0, [(0, 17)], [.nilp], [], false⟩ := rfl
theorem tab_19 : tab 19 = some ⟨.st, 1, 8, 0, [(0, 17)], [.nilp], [], false⟩ := rfl
theorem tab_20 : tab 20 = some ⟨.iface, 1, 16, 0, [], [.nilI], [], false⟩ := rfl
theorem tab_21 : tab 21 = some ⟨.int .i32, 1, 4, 0, [], [.int .i32 0], [], false⟩ := rfl
theorem tab_22 : tab 22 = some ⟨.sl, 1, 24, 5, [], [.nils], [], false⟩ := rfl
theorem tab_23 : tab 23 = some ⟨.int .u32, 1, 4, 0, [], [.int .u32 0], [], false⟩ := rfl
theorem tab_24 : tab 24 = some ⟨.fn, 1, 8, 0, [], [.nilf], [], false⟩ := rfl
theorem tab_25 : tab 25 = some ⟨.int .i64, 1, 8, 0, [], [.int .i64 0], [], false⟩ := rfl
theorem tab_27 : tab 27 = some ⟨.fn, 1, 8, 0, [], [.nilf], [], false⟩ := rfl
theorem tab_28 : tab 28 = some ⟨.fn, 1, 8, 0, [], [.nilf], [], false⟩ := rfl
theorem tab_29 : tab 29 = some ⟨.fn, 1, 8, 0, [], [.nilf], [], false⟩ := rfl
theorem tab_30 : tab 30 = some ⟨.fn, 1, 8, 0, [], [.nilf], [], false⟩ := rfl
theorem tab_31 : tab 31 = some ⟨.fn, 1, 8, 0, [], [.nilf], [], false⟩ := rfl
theorem tab_32 : tab 32 = some ⟨.fn, 1, 8, 0, [], [.nilf], [], false⟩ := rfl
theorem tab_33 : tab 33 = some ⟨.fn, 1, 8, 0, [], [.nilf], [], false⟩ := rfl
theorem tab_34 : tab 34 = some ⟨.sl, 1, 24, 22, [], [.nils], [], false⟩ := rfl
theorem tab_36 : tab 36 = some ⟨.fn, 1, 8, 0, [], [.nilf], [], false⟩ := rfl
theorem tab_37 : tab 37 = some ⟨.fn, 1, 8, 0, [], [.nilf], [], false⟩ := rfl
theorem tab_38 : tab 38 = some ⟨.fn, 1, 8, 0, [], [.nilf], [], false⟩ := rfl
theorem tab_39 : tab 39 = some ⟨.fn, 1, 8, 0, [], [.nilf], [], false⟩ := rfl
theorem tab_40 : tab 40 = some ⟨.fn, 1, 8, 0, [], [.nilf], [], false⟩ := rfl
theorem tab_41 : tab 41 = some ⟨.st, 5, 72, 0, [(0, 3), (1, 22), (2, 22), (3, 4), (4, 3)], [.int .i64 0, .nils, .nils, .bool false, .int .i64 0], [], false⟩ := rfl
theorem tab_42 : tab 42 = some ⟨.st, 5, 72, 0, [(0, 3), (1, 22), (2, 22), (3, 4), (4, 3)], [.int .i64 0, .nils, .nils, .bool false, .int .i64 0], [], false⟩ := rfl
theorem tab_43 : tab 43 = some ⟨.fn, 1, 8, 0, [], [.nilf], [], false⟩ := rfl
theorem tab_44 : tab 44 = some ⟨.st, 5, 72, 0, [(0, 3), (1, 22), (2, 22), (3, 4), (4, 3)], [.int .i64 0, .nils, .nils, .bool false, .int .i64 0], [], false⟩ := rfl
theorem tab_45 : tab 45 = some ⟨.fn, 1, 8, 0, [], [.nilf], [], false⟩ := rfl
theorem tab_46 : tab 46 = some ⟨.st, 6, 96, 0, [(0, 42), (5, 34)], [.int .i64 0, .nils, .nils, .bool false, .int .i64 0, .nils], [], false⟩ := rfl
theorem tab_47 : tab 47 = some ⟨.st, 6, 96, 0, [(0, 42), (5, 34)], [.int .i64 0, .nils, .nils, .bool false, .int .i64 0, .nils], [], false⟩ := rfl
theorem tab_49 : tab 49 = some ⟨.fn, 1, 8, 0, [], [.nilf], [], false⟩ := rfl
theorem tab_50 : tab 50 = some ⟨.st, 6, 96, 0, [(0, 44), (5, 34)], [.int .i64 0, .nils, .nils, .bool false, .int .i64 0, .nils], [], false⟩ := rfl
theorem tab_51 : tab 51 = some ⟨.st, 6, 96, 0, [(0, 44), (5, 34)], [.int .i64 0, .nils, .nils, .bool false, .int .i64 0, .nils], [], false⟩ := rfl
theorem tab_53 : tab 53 = some ⟨.fn, 1, 8, 0, [], [.nilf], [], false⟩ := rfl
theorem tab_54 : tab 54 = some ⟨.fn, 1, 8, 0, [], [.nilf], [], false⟩ := rfl
theorem tab_55 : tab 55 = some ⟨.fn, 1, 8, 0, [], [.nilf], [], false⟩ := rfl
theorem tab_56 : tab 56 = some ⟨.fn, 1, 8, 0, [], [.nilf], [], false⟩ := rfl
theorem tab_57 : tab 57 = some ⟨.fn, 1, 8, 0, [], [.nilf], [], false⟩ := rfl
theorem tab_58 : tab 58 = some ⟨.fn, 1, 8, 0, [], [.nilf], [], false⟩ := rfl
theorem tab_60 : tab 60 = some ⟨.fn, 1, 8, 0, [], [.nilf], [], false⟩ := rfl
theorem tab_61 : tab 61 = some ⟨.fn, 1, 8, 0, [], [.nilf], [], false⟩ := rfl
theorem tab_62 : tab 62 = some ⟨.fn, 1, 8, 0, [], [.nilf], [], false⟩ := rfl
theorem tab_63 : tab 63 = some ⟨.fn, 1, 8, 0, [], [.nilf], [], false⟩ := rfl
theorem tab_64 : tab 64 = some ⟨.fn, 1, 8, 0, [], [.nilf], [], false⟩ := rfl
theorem tab_65 : tab 65 = some ⟨.fn, 1, 8, 0, [], [.nilf], [], false⟩ := rfl
theorem tab_66 : tab 66 = some ⟨.fn, 1, 8, 0, [], [.nilf], [], false⟩ := rfl
theorem tab_67 : tab 67 = some ⟨.fn, 1, 8, 0, [], [.nilf], [], false⟩ := rfl
theorem tab_68 : tab 68 = some ⟨.fn, 1, 8, 0, [], [.nilf], [], false⟩ := rfl
theorem tab_69 : tab 69 = some ⟨.fn, 1, 8, 0, [], [.nilf], [], false⟩ := rfl
theorem tab_70 : tab 70 = some ⟨.fn, 1, 8, 0, [], [.nilf], [], false⟩ := rfl
theorem tab_71 : tab 71 = some ⟨.sl, 1, 24, 73, [], [.nils], [], false⟩ := rfl
theorem tab_72 : tab 72 = some ⟨.st, 3, 40, 0, [(0, 3), (1, 3), (2, 34)], [.int .i64 0, .int .i64 0, .nils], [], false⟩ := rfl
theorem tab_73 : tab 73 = some ⟨.st, 3, 40, 0, [(0, 3), (1, 3), (2, 34)], [.int .i64 0, .int .i64 0, .nils], [], false⟩ := rfl
theorem tab_74 : tab 74 = some ⟨.fn, 1, 8, 0, [], [.nilf], [], false⟩ := rfl
theorem tab_75 : tab 75 = some ⟨.int .u64, 1, 8, 0, [], [.int .u64 0], [], false⟩ := rfl
theorem tab_77 : tab 77 = some ⟨.fn, 1, 8, 0, [], [.nilf], [], false⟩ := rfl
theorem tab_78 : tab 78 = some ⟨.fn, 1, 8, 0, [], [.nilf], [], false⟩ := rfl
theorem tab_79 : tab 79 = some ⟨.fn, 1, 8, 0, [], [.nilf], [], false⟩ := rfl
theorem tab_80 : tab 80 = some ⟨.int .u64, 1, 8, 0, [], [.int .u64 0], [], false⟩ := rfl
theorem tab_81 : tab 81 = some ⟨.ptr, 1, 8, 100, [], [.nilp], [], false⟩ := rfl
theorem tab_82 : tab 82 = some ⟨.fn, 1, 8, 0, [], [.nilf], [], false⟩ := rfl
theorem tab_83 : tab 83 = some ⟨.fn, 1, 8, 0, [], [.nilf], [], false⟩ := rfl
theorem tab_84 : tab 84 = some ⟨.fn, 1, 8, 0, [], [.nilf], [], false⟩ := rfl
theorem tab_85 : tab 85 = some ⟨.fn, 1, 8, 0, [], [.nilf], [], false⟩ := rfl
theorem tab_87 : tab 87 = some ⟨.fn, 1, 8, 0, [], [.nilf], [], false⟩ := rfl
theorem tab_88 : tab 88 = some ⟨.fn, 1, 8, 0, [], [.nilf], [], false⟩ := rfl
theorem tab_89 : tab 89 = some ⟨.fn, 1, 8, 0, [], [.nilf], [], false⟩ := rfl
theorem tab_91 : tab 91 = some ⟨.fn, 1, 8, 0, [], [.nilf], [], false⟩ := rfl
theorem tab_92 : tab 92 = some ⟨.fn, 1, 8, 0, [], [.nilf], [], false⟩ := rfl
theorem tab_93 : tab 93 = some ⟨.fn, 1, 8, 0, [], [.nilf], [], false⟩ := rfl
theorem tab_94 : tab 94 = some ⟨.fn, 1, 8, 0, [], [.nilf], [], false⟩ := rfl
theorem tab_95 : tab 95 = some ⟨.fn, 1, 8, 0, [], [.nilf], [], false⟩ := rfl
theorem tab_96 : tab 96 = some ⟨.fn, 1, 8, 0, [], [.nilf], [], false⟩ := rfl
theorem tab_97 : tab 97 = some ⟨.fn, 1, 8, 0, [], [.nilf], [], false⟩ := rfl
theorem tab_98 : tab 98 = some ⟨.fn, 1, 8, 0, [], [.nilf], [], false⟩ := rfl
theorem tab_99 : tab 99 = some ⟨.fn, 1, 8, 0, [], [.nilf], [], false⟩ := rfl
theorem tab_101 : tab 101 = some ⟨.fn, 1, 8, 0, [], [.nilf], [], false⟩ := rfl
theorem tab_102 : tab 102 = some ⟨.fn, 1, 8, 0, [], [.nilf], [], false⟩ := rfl
theorem tab_103 : tab 103 = some ⟨.fn, 1, 8, 0, [], [.nilf], [], false⟩ := rfl
theorem tab_104 : tab 104 = some ⟨.ptr, 1, 8, 42, [], [.nilp], [], false⟩ := rfl
theorem tab_105 : tab 105 = some ⟨.fn, 1, 8, 0, [], [.nilf], [], false⟩ := rfl
theorem tab_106 : tab 106 = some ⟨.fn, 1, 8, 0, [], [.nilf], [], false⟩ := rfl
theorem tab_107 : tab 107 = some ⟨.fn, 1, 8, 0, [], [.nilf], [], false⟩ := rfl
theorem tab_108 : tab 108 = some ⟨.sl, 1, 24, 34, [], [.nils], [], false⟩ := rfl
theorem tab_109 : tab 109 = some ⟨.fn, 1, 8, 0, [], [.nilf], [], false⟩ := rfl
theorem tab_110 : tab 110 = some ⟨.fn, 1, 8, 0, [], [.nilf], [], false⟩ := rfl
theorem tab_111 : tab 111 = some ⟨.st, 4, 40, 0, [(0, 17), (1, 17), (2, 17), (3, 9)], [.nilp, .nilp, .nilp, .str []], [], false⟩ := rfl
theorem tab_112 : tab 112 = some ⟨.st, 4, 40, 0, [(0, 17), (1, 17), (2, 17), (3, 9)], [.nilp, .nilp, .nilp, .str []], [], false⟩ := rfl
theorem tab_113 : tab 113 = some ⟨.arr 0, 0, 0, 16, [], [], [], false⟩ := rfl
theorem tab_116 : tab 116 = some ⟨.int .u8, 1, 1, 0, [], [.int .u8 0], [], false⟩ := rfl
theorem tab_117 : tab 117 = some ⟨.int .u8, 1, 1, 0, [], [.int .u8 0], [], false⟩ := rfl
theorem tab_118 : tab 118 = some ⟨.fn, 1, 8, 0, [], [.nilf], [], false⟩ := rfl
theorem tab_119 : tab 119 = some ⟨.ptr, 1, 8, 5, [], [.nilp], [], false⟩ := rfl
theorem tab_120 : tab 120 = some ⟨.int .i32, 1, 4, 0, [], [.int .i32 0], [], false⟩ := rfl
theorem tab_121 : tab 121 = some ⟨.int .i32, 1, 4, 0, [], [.int .i32 0], [], false⟩ := rfl
theorem tab_122 : tab 122 = some ⟨.st, 11, 48, 0, [(0, 12), (1, 12), (2, 23), (3, 116), (4, 5), (5, 5), (6, 117), (7, 118), (8, 119), (9, 120), (10, 121)], [.int .u64 0, .int .u64 0, .int .u32 0, .int .u8 0, .int .u8 0, .int .u8 0, .int .u8 0, .nilf, .nilp, .int .i32 0, .int .i32 0], [], false⟩ := rfl
theorem tab_123 : tab 123 = some ⟨.st, 11, 48, 0, [(0, 12), (1, 12), (2, 23), (3, 116), (4, 5), (5, 5), (6, 117), (7, 118), (8, 119), (9, 120), (10, 121)], [.int .u64 0, .int .u64 0, .int .u32 0, .int .u8 0, .int .u8 0, .int .u8 0, .int .u8 0, .nilf, .nilp, .int .i32 0, .int .i32 0], [], false⟩ := rfl
theorem follows_ok : Try.prog.follows .mixedOrders = true := by kernel_rfl
set_option maxHeartbeats 4000000 in
set_option maxRecDepth 100000 in
theorem tab_ok : TabOk Try.prog tab := by
  intro t ti h
  unfold tab at h
  split at h <;> first | (cases h; done) | (cases h; exact tiB_ok (by kernel_rfl))
end Go.Proofs.Ytcafahcmalfepaa
/-
  Words for memory: how cells read as a thing (Rep); a slice that reads as a list (Sl); a row of the call's own (Own); append. Nothing here speaks of the program.
-/
namespace Go.Proofs.Ytcafahcmalfepaa
open Go.ChangeShapes Go.WideShapes Go.ChangeAt Go.RowKit Go.Deep

/-- How cells read as a thing, in a world, where what they lead to lies below block B. -/
structure Rep (α : Type) where
  at_ : Nat → World → List Value → α → Prop
  mono : ∀ {B B' w cs a}, B ≤ B' → at_ B w cs a → at_ B' w cs a
  stable : ∀ {B w w' cs a}, Below B w w' → at_ B w cs a → at_ B w' cs a

/-- A thing that lies in its cells alone. -/
def plR {α : Type} (p : List Value → α → Prop) : Rep α := ⟨fun _ _ => p, fun _ h => h, fun _ h => h⟩
def intR (k : IntKind) : Rep Int := plR fun cs n => cs = [.int k n] ∧ (Lit.int k n).wf = true
def boolR : Rep Bool := plR fun cs b => cs = [.bool b]
def strR : Rep ByteArray := plR fun cs s => cs = [.string s] ∧ s.size ≤ maxLen
/-- A byte as a cell. -/
def byteV (c : UInt8) : Value := .int .u8 c.toNat
def byteR : Rep UInt8 := plR fun cs c => cs = [byteV c]

/-- The m elements at A, k cells each, are these cells. -/
def RdC (w : World) (k : Nat) (A : Option Addr) (m : Nat) (xs : List Value) : Prop :=
  xs.length = m * k ∧ (0 < m → ∃ b o, A = some ⟨b, o, none⟩ ∧ ∀ j u, xs[j]? = some u → w.cell? ⟨b, o + j, none⟩ = some u)
/-- These cells, k for each, read as l. -/
def Cs {α : Type} (R : Rep α) (k B : Nat) (w : World) (xs : List Value) (l : List α) : Prop :=
  xs.length = l.length * k ∧ ∀ (j : Nat) a, l[j]? = some a → R.at_ B w ((xs.drop (j * k)).take k) a
/-- The slice at A reads as l. -/
def Sl {α : Type} (R : Rep α) (k B : Nat) (w : World) (A : Option Addr) (l : List α) : Prop :=
  l ≠ [] → ∃ b o, A = some ⟨b, o, none⟩ ∧ b < B ∧ ∀ (j : Nat) a, l[j]? = some a → ∃ cs, cs.length = k ∧ R.at_ B w cs a ∧ ∀ i u, cs[i]? = some u → w.cell? ⟨b, o + j * k + i, none⟩ = some u
/-- A row of the call's own (its block is from base on) that reads as l. -/
def Own {α : Type} (R : Rep α) (k : Nat) (e : TypeId) (base B : Nat) (w : World) (v : Value) (l : List α) : Prop :=
  ∃ xs, w.ownsRow base e k v l.length xs ∧ Cs R k B w xs l

section
variable {α : Type} {R : Rep α} {k B B' : Nat} {w w' : World} {A : Option Addr} {l l2 : List α}
theorem Sl.nil : Sl R k B w A [] := fun h => absurd rfl h
theorem Sl.mono (h : Sl R k B w A l) (hB : B ≤ B') : Sl R k B' w A l := fun hn => by
  obtain ⟨b, o, rfl, hlt, hc⟩ := h hn
  refine ⟨b, o, rfl, Nat.lt_of_lt_of_le hlt hB, fun j a hj => ?_⟩
  obtain ⟨cs, hl, hr, hcs⟩ := hc j a hj
  exact ⟨cs, hl, R.mono hB hr, hcs⟩
theorem Sl.below (h : Sl R k B w A l) (hb : Below B w w') : Sl R k B w' A l := fun hn => by
  obtain ⟨b, o, rfl, hlt, hc⟩ := h hn
  refine ⟨b, o, rfl, hlt, fun j a hj => ?_⟩
  obtain ⟨cs, hl, hr, hcs⟩ := hc j a hj
  exact ⟨cs, hl, R.stable hb hr, fun i u hu => (hb.cell (p := ⟨b, _, none⟩) hlt).trans (hcs i u hu)⟩
/-- Behind a call. -/
theorem Sl.call (h : Sl R k w.heap.size w A l) (hb : Below w.heap.size w w') : Sl R k w'.heap.size w' A l := (h.below hb).mono hb.size
/-- A slice's one cell. -/
def slR (R : Rep α) (k : Nat) : Rep (List α) :=
  ⟨fun B w cs l => ∃ A c, cs = [.slice A l.length c] ∧ l.length ≤ c ∧ c ≤ maxLen ∧ Sl R k B w A l,
   fun hB ⟨A, c, h1, h2, h3, h4⟩ => ⟨A, c, h1, h2, h3, h4.mono hB⟩, fun hb ⟨A, c, h1, h2, h3, h4⟩ => ⟨A, c, h1, h2, h3, h4.below hb⟩⟩
/-- An element of k cells. -/
theorem Sl.get (h : Sl R k B w A l) {i : Nat} {a : α} (hi : l[i]? = some a) :
    ∃ b o cs, A = some ⟨b, o, none⟩ ∧ b < B ∧ cs.length = k ∧ R.at_ B w cs a ∧ ∀ j u, cs[j]? = some u → w.cell? ⟨b, o + i * k + j, none⟩ = some u := by
  obtain ⟨b, o, rfl, hlt, hc⟩ := h (by rintro rfl; simp at hi)
  obtain ⟨cs, hl, hr, hcs⟩ := hc i a hi
  exact ⟨b, o, cs, rfl, hlt, hl, hr, hcs⟩
/-- An element of one cell. -/
theorem Sl.get1 (h : Sl R 1 B w A l) {i : Nat} {a : α} (hi : l[i]? = some a) :
    ∃ b o v, A = some ⟨b, o, none⟩ ∧ b < B ∧ R.at_ B w [v] a ∧ w.cell? ⟨b, o + i, none⟩ = some v := by
  obtain ⟨b, o, cs, rfl, hlt, hl, hr, hcs⟩ := h.get hi
  match cs, hl with
  | [v], _ => exact ⟨b, o, v, rfl, hlt, hr, by simpa using hcs 0 v rfl⟩
theorem Sl.take (h : Sl R k B w A l) (n : Nat) : Sl R k B w A (l.take n) := fun hn => by
  obtain ⟨b, o, rfl, hlt, hc⟩ := h (by rintro rfl; simp at hn)
  refine ⟨b, o, rfl, hlt, fun j a hj => hc j a ?_⟩
  rw [List.getElem?_take] at hj
  split at hj
  · exact hj
  · cases hj
theorem Sl.drop {b o : Nat} (h : Sl R k B w (some ⟨b, o, none⟩) l) (n : Nat) : Sl R k B w (some ⟨b, o + n * k, none⟩) (l.drop n) := fun hn => by
  obtain ⟨b', o', he, hlt, hc⟩ := h (by rintro rfl; simp at hn)
  simp only [Option.some.injEq, Addr.mk.injEq, and_true] at he
  obtain ⟨rfl, rfl⟩ := he
  refine ⟨b, _, rfl, hlt, fun j a hj => ?_⟩
  rw [List.getElem?_drop] at hj
  obtain ⟨cs, hl, hr, hcs⟩ := hc _ a hj
  refine ⟨cs, hl, hr, fun i u hu => ?_⟩
  rw [← hcs i u hu]
  congr 2
  rw [Nat.add_mul]
  omega

theorem below_both {B : Nat} {w a b : World} (h : Below B w a) (h' : Below B w b) (hs : a.heap.size ≤ b.heap.size) : Below B a b :=
  ⟨h'.os.trans h.os.symm, h'.tape.trans h.tape.symm, h'.output.trans h.output.symm, hs, fun k hk => (h'.block k hk).trans (h.block k hk).symm⟩

/-! ### cells -/
theorem Cs.nil : Cs R k B w [] ([] : List α) := ⟨by simp, fun j a h => by simp at h⟩
theorem Cs.mono {xs : List Value} (h : Cs R k B w xs l) (hB : B ≤ B') : Cs R k B' w xs l := ⟨h.1, fun j a hj => R.mono hB (h.2 j a hj)⟩
theorem Cs.below {xs : List Value} (h : Cs R k B w xs l) (hb : Below B w w') : Cs R k B w' xs l := ⟨h.1, fun j a hj => R.stable hb (h.2 j a hj)⟩
theorem Cs.append {xs ys : List Value} (h : Cs R k B w xs l) (h2 : Cs R k B w ys l2) : Cs R k B w (xs ++ ys) (l ++ l2) := by
  refine ⟨by simp [h.1, h2.1, Nat.add_mul], fun j a hj => ?_⟩
  rw [List.getElem?_append] at hj
  split at hj
  · rename_i hlt
    have := h.2 j a hj
    have hle : (j + 1) * k ≤ l.length * k := Nat.mul_le_mul_right k hlt
    rw [Nat.add_mul, ← h.1] at hle
    rw [List.drop_append_of_le_length (by omega), List.take_append_of_le_length (by rw [List.length_drop]; omega)]
    exact this
  · rename_i hge
    have := h2.2 _ a hj
    have hle : l.length * k ≤ j * k := Nat.mul_le_mul_right k (by omega)
    rw [List.drop_append, List.drop_eq_nil_of_le (by rw [h.1]; exact hle), List.nil_append, h.1, ← Nat.sub_mul]
    exact this
theorem Cs.one {xs : List Value} {a : α} (hl : xs.length = k) (h : R.at_ B w xs a) : Cs R k B w xs [a] := by
  refine ⟨by simp [hl], fun j b hj => ?_⟩
  match j, hj with
  | 0, hj =>
    simp at hj
    subst hj
    rw [Nat.zero_mul, List.drop_zero, List.take_of_length_le (by omega)]
    exact h
theorem Sl.cells (h : Sl R k B w A l) : ∃ xs, RdC w k A l.length xs ∧ Cs R k B w xs l := by
  by_cases hn : l = []
  · subst hn
    exact ⟨[], ⟨by simp, fun h => absurd h (by simp)⟩, Cs.nil⟩
  · obtain ⟨b, o, rfl, hlt, hc⟩ := h hn
    have key : ∀ n, n ≤ l.length → ∃ xs : List Value, xs.length = n * k ∧ (∀ j u, xs[j]? = some u → w.cell? ⟨b, o + j, none⟩ = some u) ∧ Cs R k B w xs (l.take n) := by
      intro n
      induction n with
      | zero => exact fun _ => ⟨[], by simp, fun j u h => by simp at h, by simpa using Cs.nil⟩
      | succ n ih =>
        intro hn'
        obtain ⟨xs, hx, hcell, hcs⟩ := ih (by omega)
        have hget : l[n]? = some l[n] := List.getElem?_eq_getElem (by omega)
        obtain ⟨cs, hl, hr, hcc⟩ := hc n _ hget
        refine ⟨xs ++ cs, by rw [List.length_append, hx, hl, Nat.add_mul]; omega, fun j u hj => ?_, ?_⟩
        · rw [List.getElem?_append] at hj
          split at hj
          · exact hcell j u hj
          · rename_i hge
            have := hcc _ u hj
            rw [hx] at this hge
            rw [← this]
            congr 2
            omega
        · rw [List.take_add_one, hget]
          exact hcs.append (Cs.one hl hr)
    obtain ⟨xs, hx, hcell, hcs⟩ := key l.length (Nat.le_refl _)
    rw [List.take_length] at hcs
    exact ⟨xs, ⟨hx, fun _ => ⟨b, o, rfl, hcell⟩⟩, hcs⟩
theorem RdC.sl {xs : List Value} (hr : RdC w k A l.length xs) (hc : Cs R k B w xs l) (hA : ∀ b o, A = some ⟨b, o, none⟩ → b < B) : Sl R k B w A l := fun hn => by
  obtain ⟨b, o, rfl, hcell⟩ := hr.2 (List.length_pos_iff.2 hn)
  refine ⟨b, o, rfl, hA b o rfl, fun j a hj => ⟨_, ?_, hc.2 j a hj, fun i u hu => ?_⟩⟩
  · have hjl : j < l.length := (List.getElem?_eq_some_iff.1 hj).1
    have : (j + 1) * k ≤ l.length * k := Nat.mul_le_mul_right k hjl
    rw [Nat.add_mul, ← hc.1] at this
    simp only [List.length_take, List.length_drop]
    omega
  · rw [List.getElem?_take] at hu
    split at hu
    · rw [List.getElem?_drop] at hu
      rw [Nat.add_assoc]
      exact hcell _ u hu
    · cases hu
theorem RdC.below {m : Nat} {xs : List Value} (h : RdC w k A m xs) (hk : ∀ p : Addr, p.block < B → w'.cell? p = w.cell? p) (hA : ∀ b o, A = some ⟨b, o, none⟩ → b < B) : RdC w' k A m xs :=
  ⟨h.1, fun hm => by
    obtain ⟨b, o, rfl, hc⟩ := h.2 hm
    exact ⟨b, o, rfl, fun j u hu => (hk ⟨b, o + j, none⟩ (hA b o rfl)).trans (hc j u hu)⟩⟩

/-! ### rows of the call's own -/
variable {e : TypeId} {base : Nat} {v : Value}
theorem Own.nil (w : World) : Own R k e base B w (.slice none 0 0) ([] : List α) := ⟨[], World.ownsRow_nil _ _ _ _, Cs.nil⟩
theorem Own.alloc (h : Own R k e base B w v l) (hB : B ≤ w.heap.size) (o : Obj) : Own R k e base B (w.alloc o) v l := by
  obtain ⟨xs, h1, h2⟩ := h
  exact ⟨xs, h1.alloc o, h2.below ((Below.refl _ _).alloc hB o)⟩
theorem Own.drew (h : Own R k e base B w v l) : Own R k e base B w.drew v l := by
  obtain ⟨xs, h1, h2⟩ := h
  exact ⟨xs, h1, h2.below (Below.refl _ _).drew⟩
theorem Own.drewN (h : Own R k e base B w v l) (n : Nat) : Own R k e base B (w.drewN n) v l := by
  obtain ⟨xs, h1, h2⟩ := h
  exact ⟨xs, h1, h2.below (below_drewN (Below.refl _ _) n)⟩
/-- Behind a call. -/
theorem Own.call (h : Own R k e base B w v l) (hB : B ≤ w.heap.size) (hb : Below w.heap.size w w') : Own R k e base B w' v l := by
  obtain ⟨xs, h1, h2⟩ := h
  exact ⟨xs, h1.kept (row := none) ⟨hb.os, hb.tape, hb.output, hb.size, fun i hi _ => hb.block i hi⟩ (by cases hv : v.ownBlock <;> simp), h2.below (hb.mono hB)⟩
theorem Own.low (h : Own R k e base B w v l) {base' : Nat} (hb : base' ≤ base) : Own R k e base' B w v l := by
  obtain ⟨xs, ⟨h1, h2⟩, h3⟩ := h
  refine ⟨xs, ⟨h1, ?_⟩, h3⟩
  rcases h2 with h2 | ⟨g, cap, cur, hv, hg, r⟩
  · exact .inl h2
  · exact .inr ⟨g, cap, cur, hv, Nat.le_trans hb hg, r⟩
theorem Own.monoB (h : Own R k e base B w v l) (hB : B ≤ B') : Own R k e base B' w v l := by
  obtain ⟨xs, h1, h3⟩ := h
  exact ⟨xs, h1, h3.mono hB⟩
theorem Own.form (h : Own R k e base B w v l) : ∃ A c, v = .slice A l.length c ∧ l.length ≤ c ∧ c ≤ maxLen ∧ (A = none ∨ ∃ g, A = some ⟨g, 0, none⟩ ∧ base ≤ g ∧ g < w.heap.size) := by
  obtain ⟨xs, ⟨h1, h2⟩, _⟩ := h
  rcases h2 with ⟨rfl, h0⟩ | ⟨g, cap, cur, rfl, hg, hh, hnc, hm, _⟩
  · exact ⟨none, 0, by rw [h0], by omega, Nat.zero_le _, .inl rfl⟩
  · exact ⟨_, cap, rfl, hnc, hm, .inr ⟨g, rfl, hg, (Array.getElem?_eq_some_iff.1 hh).1⟩⟩
theorem Own.rdc (h : Own R k e base B w v l) : ∃ A c xs, v = .slice A l.length c ∧ l.length ≤ c ∧ c ≤ maxLen ∧ RdC w k A l.length xs ∧ Cs R k B w xs l ∧ (A = none ∨ ∃ g, A = some ⟨g, 0, none⟩ ∧ base ≤ g ∧ g < w.heap.size) := by
  obtain ⟨A, c, rfl, hc, hm, hA⟩ := h.form
  obtain ⟨xs, h1, h3⟩ := h
  refine ⟨A, c, xs, rfl, hc, hm, ⟨h1.1, fun hp => ?_⟩, h3, hA⟩
  obtain ⟨g, cap, hv, _, _⟩ := h1.form hp
  simp only [Value.slice.injEq, true_and] at hv
  obtain ⟨rfl, rfl⟩ := hv
  refine ⟨g, 0, rfl, fun j u hu => ?_⟩
  have hj : j < l.length * k := by rw [← h1.1]; exact (List.getElem?_eq_some_iff.1 hu).1
  rw [Nat.zero_add, h1.cellAt j hj, hu]
/-- A row of the call's own reads as a slice. -/
theorem Own.sl (h : Own R k e base B w v l) (hB : B ≤ w.heap.size) : ∃ A c, v = .slice A l.length c ∧ l.length ≤ c ∧ c ≤ maxLen ∧ Sl R k w.heap.size w A l := by
  obtain ⟨A, c, xs, rfl, hc, hm, hr, hcs, hA⟩ := h.rdc
  refine ⟨A, c, rfl, hc, hm, hr.sl (hcs.mono hB) fun b o hbo => ?_⟩
  subst hbo
  rcases hA with hA | ⟨g, hg, _, hlt⟩
  · cases hA
  · simp only [Option.some.injEq, Addr.mk.injEq] at hg
    omega
end

theorem Own.made {α : Type} {R : Rep α} {k B : Nat} {e : TypeId} {base : Nat} (w : World) (hb : base ≤ w.heap.size) : Own R k e base B (w.alloc (.cells #[] e)) (.slice (some ⟨w.heap.size, 0, none⟩) 0 0) ([] : List α) :=
  ⟨[], World.ownsRow_made w #[] 0 hb (Nat.zero_le _) (by simp), Cs.nil⟩
theorem sl_rdc {α : Type} {R : Rep α} {k B m : Nat} {w : World} {A : Option Addr} {l : List α} (h : Sl R k B w A l) (hm : l.length = m) : ∃ xs, RdC w k A m xs ∧ Cs R k B w xs l := by
  subst hm
  exact h.cells

/-! ### append -/
/-- What an append wants of the tables. -/
structure Tab (P : Program) (t e : TypeId) (k bytes : Nat) : Prop where
  ht : P.underlying t = some (.slice e)
  hi : ∃ i z, P.info? e = some i ∧ i.zero = some z ∧ i.size = k ∧ i.bytes = bytes ∧ z.cells.size = k
  hk : 0 < k
section
variable {P : Program} {α : Type} {R : Rep α} {k B : Nat} {w : World} {l l2 : List α} {e : TypeId} {base bytes : Nat} {v : Value}

theorem run_append_of_nil (t ty : TypeId) (i : TypeInfo) (ht : P.underlying t = some (.slice e)) (hi : P.info? e = some i) (n : Nat) (xs : List Value) (hown : w.ownsRow base e k v n xs) (c : Nat) :
    (Builtin.append_ #[t, t] ty #[v, .slice none 0 c]).run P w = .ok v w := by
  rcases hown.2 with ⟨rfl, rfl⟩ | ⟨g, cap, cur, rfl, _, _, hnc, _⟩
  · simp [Builtin.append_, run_underlying ht, sizeOf, typeInfo, hi, Builtin.lenOf, Builtin.firstCells]
  · simp [Builtin.append_, run_underlying ht, sizeOf, typeInfo, hi, Builtin.lenOf, Builtin.firstCells, hnc, storeCells]

/-- append onto a row of the call's own, whatever is appended. -/
theorem run_append_own_any (t ty : TypeId) (T : Tab P t e k bytes) (hown : Own R k e base B w v l) (hB : B ≤ base) (A : Option Addr) (m c : Nat) (ys : List Value) (hm : l2.length = m) (hr : RdC w k A m ys) (hc : Cs R k B w ys l2)
    (h1 : ∀ u ∈ ys, u.oneCell' = true) (hlen : (l.length + l2.length) * bytes ≤ 140737488355328) (h63 : l.length + l2.length ≤ maxLen) (hbase : base ≤ w.heap.size) :
    ∃ v' w', (Builtin.append_ #[t, t] ty #[v, .slice A m c]).run P w = .ok v' w' ∧ Own R k e base B w' v' (l ++ l2) ∧ Below base w w' ∧ w.grownBy w' v.ownBlock ∧ (v'.ownBlock = v.ownBlock ∨ v'.ownBlock = some w.heap.size) := by
  obtain ⟨i, z, hi, hz, hs, hb, hzc⟩ := T.hi
  obtain ⟨xs, ho, hxs⟩ := hown
  subst hm
  have hrow : ∀ q, v.ownBlock = some q → base ≤ q := fun q hq => (ho.lt q hq).1
  have fin : ∀ (ad : Addr) (_ : ∀ j u, ys[j]? = some u → w.cell? (ad.add j) = some u), ∃ v' w', (Builtin.append_ #[t, t] ty #[v, .slice (some ad) l2.length c]).run P w = .ok v' w' ∧ Own R k e base B w' v' (l ++ l2) ∧ Below base w w' ∧ w.grownBy w' v.ownBlock ∧ (v'.ownBlock = v.ownBlock ∨ v'.ownBlock = some w.heap.size) := by
    intro ad hcells
    obtain ⟨v', w', hrun, h2, h3, h4, h5⟩ := run_append_own_at (P := P) w base t ty e i z k bytes T.ht hi hz hs hb hzc T.hk v l.length xs ho ad l2.length c ys hr.1 hcells h1 h63 hlen hbase
    have hbl : Below base w w' := (Below.refl _ _).grown h3 hbase hrow
    exact ⟨v', w', hrun, ⟨xs ++ ys, by rw [List.length_append]; exact h2, (hxs.append hc).below (hbl.mono hB)⟩, hbl, h3, h5⟩
  rcases Nat.eq_zero_or_pos l2.length with h0 | hpos
  · have hl2 : l2 = [] := List.length_eq_zero_iff.1 h0
    subst hl2
    have hy : ys = [] := List.length_eq_zero_iff.1 (by simpa using hr.1)
    subst hy
    cases A with
    | none => exact ⟨v, w, run_append_of_nil t ty i T.ht hi l.length xs ho c, by rw [List.append_nil]; exact ⟨xs, ho, hxs⟩, Below.refl _ _, World.grownBy.refl w _, .inl rfl⟩
    | some ad => exact fin ad fun j u h => by simp at h
  · obtain ⟨b, o, rfl, hcell⟩ := hr.2 hpos
    exact fin ⟨b, o, none⟩ fun j u hu => by rw [Addr.add_mid]; exact hcell j u hu

theorem wpl_append {ops : Array Oper} {rest : List Oper} {o : Oper} {a : Act} {Q : Exit → Act → World → Prop} (hgd : o.guard = none) (s x : Operand) (t : TypeId)
    (ho : o.op = .call { callee := .builtin .append, args := #[s, x], argTypes := #[t, t] }) (T : Tab P t e k bytes) (v : Value) (l l2 : List α) (hs : a.eval s = v) (hown : Own R k e base B w v l) (hB : B ≤ base)
    (A : Option Addr) (m c : Nat) (ys : List Value) (hx : a.eval x = .slice A m c) (hm : l2.length = m) (hr : RdC w k A m ys) (hc : Cs R k B w ys l2)
    (h1 : ∀ u ∈ ys, u.oneCell' = true) (hlen : (l.length + l2.length) * bytes ≤ 140737488355328) (h63 : l.length + l2.length ≤ maxLen) (hbase : base ≤ w.heap.size)
    (h : ∀ v' w', Own R k e base B w' v' (l ++ l2) → Below base w w' → w.grownBy w' v.ownBlock → (v'.ownBlock = v.ownBlock ∨ v'.ownBlock = some w.heap.size) → wpList P ops Q rest (a.put o.dst v') w') : wpList P ops Q (o :: rest) a w := by
  obtain ⟨v', w', hrun, h2, h3, h4, h5⟩ := run_append_own_any (P := P) (w := w) t o.type T hown hB A m c ys hm hr hc h1 hlen h63 hbase
  refine wpList_plain hgd fun _ hK => ?_
  unfold Oper.wp execOp
  simp only [ho, resolve, invoke, builtin, Sem.run_bind, Sem.run_pure, Result.andThen_ok, List.map_toArray, List.map_cons, List.map_nil, hs, hx, hrun]
  exact hK _ _ (h v' w' h2 h3 h4 h5)

/-- append onto a slice that is full (s[:n:n]), whatever is appended, but not nothing: a row of the call's own. -/
theorem wpl_append_full {ops : Array Oper} {rest : List Oper} {o : Oper} {a : Act} {Q : Exit → Act → World → Prop} (hgd : o.guard = none) (s x : Operand) (t : TypeId)
    (ho : o.op = .call { callee := .builtin .append, args := #[s, x], argTypes := #[t, t] }) (T : Tab P t e k bytes) (A0 : Option Addr) (n cap : Nat) (xs : List Value) (l l2 : List α) (hs : a.eval s = .slice A0 n cap) (hn : l.length = n)
    (hcap : cap = n) (hr0 : RdC w k A0 n xs) (hc0 : Cs R k B w xs l) (hB : B ≤ w.heap.size)
    (ad : Addr) (m c : Nat) (ys : List Value) (hx : a.eval x = .slice (some ad) m c) (hm : l2.length = m) (hm0 : 0 < m) (hr : RdC w k (some ad) m ys) (hc : Cs R k B w ys l2)
    (h1 : ∀ u ∈ ys, u.oneCell' = true) (hlen : (l.length + l2.length) * bytes ≤ 140737488355328) (h63 : l.length + l2.length ≤ maxLen)
    (h : ∀ v' w', Own R k e w.heap.size B w' v' (l ++ l2) → Below w.heap.size w w' → wpList P ops Q rest (a.put o.dst v') w') : wpList P ops Q (o :: rest) a w := by
  obtain ⟨i, z, hi, hz, hsz, hb, hzc⟩ := T.hi
  subst hn hm hcap
  have hnone : A0 = none → l.length = 0 ∧ l.length = 0 := by
    intro hA
    rcases Nat.eq_zero_or_pos l.length with h0 | hp
    · exact ⟨h0, h0⟩
    · obtain ⟨b, o2, hA', _⟩ := hr0.2 hp
      rw [hA] at hA'
      cases hA'
  obtain ⟨b', o', hae, hcy⟩ := hr.2 hm0
  simp only [Option.some.injEq] at hae
  subst hae
  have holds : ∀ q, A0 = some q → ∀ j u, xs[j]? = some u → w.cell? (q.add j) = some u := by
    intro q hq j u hu
    rcases Nat.eq_zero_or_pos l.length with h0 | hp
    · have hx0 : xs = [] := List.length_eq_zero_iff.1 (by rw [hr0.1, h0, Nat.zero_mul])
      subst hx0
      simp at hu
    · obtain ⟨b, o2, hA, hcell⟩ := hr0.2 hp
      rw [hA] at hq
      cases hq
      rw [Addr.add_mid]
      exact hcell j u hu
  refine wpList_append_grows (P := P) w hgd s x t ho e i z k bytes T.ht hi hz hsz hb hzc T.hk A0 l.length l.length xs hs hnone hr0.1 holds ⟨b', o', none⟩ l2.length c ys hx hr.1
    (fun j u hu => by rw [Addr.add_mid]; exact hcy j u hu) h1 (by omega) h63 hlen (fun v' w' h2 h3 => ?_)
  have hbl : Below w.heap.size w w' := (Below.refl _ _).grown h3 (Nat.le_refl _) (fun q hq => by cases hq)
  exact h v' w' ⟨xs ++ ys, by rw [List.length_append]; exact h2, (hc0.append hc).below (hbl.mono hB)⟩ hbl
end

/-! ### one element behind -/
theorem rdc_new (w : World) (cs : List Value) (t : TypeId) {k : Nat} (hl : cs.length = k) : RdC (w.alloc (.cells cs.toArray t)) k (some ⟨w.heap.size, 0, none⟩) 1 cs :=
  ⟨by simp [hl], fun _ => ⟨_, _, rfl, fun j u hu => by
    have hj : j < cs.length := (List.getElem?_eq_some_iff.1 hu).1
    rw [Nat.zero_add, World.cell?_alloc_new]
    simpa using hu⟩⟩

theorem cell_alloc {w : World} {p : Addr} {u : Value} (h : w.cell? p = some u) (o : Obj) : (w.alloc o).cell? p = some u := by
  rw [World.cell?_alloc_lt _ _ _ (World.block_lt_of_cell? w _ h)]
  exact h
theorem le_alloc {B : Nat} {w : World} (h : B ≤ w.heap.size) (o : Obj) : B ≤ (w.alloc o).heap.size := by simp; omega
theorem RdC.alloc {w : World} {k m : Nat} {A : Option Addr} {xs : List Value} (h : RdC w k A m xs) (o : Obj) : RdC (w.alloc o) k A m xs :=
  ⟨h.1, fun hm => by
    obtain ⟨b, o', rfl, hc⟩ := h.2 hm
    exact ⟨b, o', rfl, fun j u hu => cell_alloc (hc j u hu) o⟩⟩

/-! ### append as a call's walk meets it: W is the world in which the call began -/
section
variable {P : Program} {α : Type} {R : Rep α} {k B : Nat} {w W : World} {e : TypeId} {bytes : Nat}
theorem wpl_app {ops : Array Oper} {rest : List Oper} {o : Oper} {a : Act} {Q : Exit → Act → World → Prop} (hgd : o.guard = none) (s x : Operand) (t : TypeId)
    (ho : o.op = .call { callee := .builtin .append, args := #[s, x], argTypes := #[t, t] }) (T : Tab P t e k bytes) (v : Value) (l l2 : List α) (hs : a.eval s = v) (hown : Own R k e W.heap.size B w v l) (hB : B ≤ W.heap.size) (hbl : Below W.heap.size W w)
    (A : Option Addr) (m c : Nat) (ys : List Value) (hx : a.eval x = .slice A m c) (hm : l2.length = m) (hr : RdC w k A m ys) (hc : Cs R k B w ys l2)
    (h1 : ∀ u ∈ ys, u.oneCell' = true) (hlen : (l.length + l2.length) * bytes ≤ 140737488355328) (h63 : l.length + l2.length ≤ maxLen)
    (h : ∀ v' w', Own R k e W.heap.size B w' v' (l ++ l2) → Below W.heap.size W w' → w.grownBy w' v.ownBlock → (v'.ownBlock = v.ownBlock ∨ v'.ownBlock = some w.heap.size) → wpList P ops Q rest (a.put o.dst v') w') : wpList P ops Q (o :: rest) a w :=
  wpl_append hgd s x t ho T v l l2 hs hown hB A m c ys hx hm hr hc h1 hlen h63 hbl.size fun v' w' q1 q2 q3 q4 => h v' w' q1 (hbl.trans q2) q3 q4
/-- One element behind. -/
theorem wpl_one {ops : Array Oper} {rest : List Oper} {o : Oper} {a : Act} {Q : Exit → Act → World → Prop} {te : TypeId} {cs : List Value} (hgd : o.guard = none) (s x : Operand) (t : TypeId)
    (ho : o.op = .call { callee := .builtin .append, args := #[s, x], argTypes := #[t, t] }) (T : Tab P t e k bytes) (v : Value) (l : List α) (y : α) (hs : a.eval s = v) (hown : Own R k e W.heap.size B w v l) (hB : B ≤ W.heap.size) (hbl : Below W.heap.size W w)
    (hx : a.eval x = .slice (some ⟨w.heap.size, 0, none⟩) 1 1) (hk : cs.length = k) (hR : R.at_ B w cs y) (h1 : ∀ u ∈ cs, u.oneCell' = true) (hlen : (l.length + 1) * bytes ≤ 140737488355328) (h63 : l.length + 1 ≤ maxLen)
    (h : ∀ v' w', Own R k e W.heap.size B w' v' (l ++ [y]) → Below W.heap.size W w' → (w.alloc (.cells cs.toArray te)).grownBy w' v.ownBlock → (v'.ownBlock = v.ownBlock ∨ v'.ownBlock = some (w.heap.size + 1)) → wpList P ops Q rest (a.put o.dst v') w') :
    wpList P ops Q (o :: rest) a (w.alloc (.cells cs.toArray te)) :=
  wpl_app (W := W) hgd s x t ho T v l [y] hs (hown.alloc (Nat.le_trans hB hbl.size) _) hB (below_alloc hbl _) _ 1 1 cs hx rfl (rdc_new w cs te hk) (Cs.one hk (R.stable ((Below.refl _ _).alloc (Nat.le_trans hB hbl.size) _) hR)) h1 hlen h63
    fun v' w' q1 q2 q3 q4 => h v' w' q1 q2 q3 (by rw [World.size_alloc] at q4; exact q4)
end

section
variable {P : Program} {α : Type} {R : Rep α} {k B : Nat} {w W : World} {e : TypeId} {bytes : Nat}
theorem wpl_app0 {ops : Array Oper} {rest : List Oper} {o : Oper} {a : Act} {Q : Exit → Act → World → Prop} (hgd : o.guard = none) (s x : Operand) (t : TypeId)
    (ho : o.op = .call { callee := .builtin .append, args := #[s, x], argTypes := #[t, t] }) (T : Tab P t e k bytes) (v : Value) (l l2 : List α) (hs : a.eval s = v) (hown : Own R k e W.heap.size B w v l) (hB : B ≤ W.heap.size) (hbl : Below W.heap.size W w)
    (A : Option Addr) (m c : Nat) (ys : List Value) (hx : a.eval x = .slice A m c) (hm : l2.length = m) (hr : RdC w k A m ys) (hc : Cs R k B w ys l2)
    (h1 : ∀ u ∈ ys, u.oneCell' = true) (hlen : (l.length + l2.length) * bytes ≤ 140737488355328) (h63 : l.length + l2.length ≤ maxLen)
    (h : ∀ v' w', Own R k e W.heap.size B w' v' (l ++ l2) → Below W.heap.size W w' → w.heap.size ≤ w'.heap.size → wpList P ops Q rest (a.put o.dst v') w') : wpList P ops Q (o :: rest) a w :=
  wpl_app (W := W) hgd s x t ho T v l l2 hs hown hB hbl A m c ys hx hm hr hc h1 hlen h63 fun v' w' q1 q2 q3 _ => h v' w' q1 q2 q3.size
theorem wpl_one0 {ops : Array Oper} {rest : List Oper} {o : Oper} {a : Act} {Q : Exit → Act → World → Prop} {te : TypeId} {cs : List Value} (hgd : o.guard = none) (s x : Operand) (t : TypeId)
    (ho : o.op = .call { callee := .builtin .append, args := #[s, x], argTypes := #[t, t] }) (T : Tab P t e k bytes) (v : Value) (l : List α) (y : α) (hs : a.eval s = v) (hown : Own R k e W.heap.size B w v l) (hB : B ≤ W.heap.size) (hbl : Below W.heap.size W w)
    (hx : a.eval x = .slice (some ⟨w.heap.size, 0, none⟩) 1 1) (hk : cs.length = k) (hR : R.at_ B w cs y) (h1 : ∀ u ∈ cs, u.oneCell' = true) (hlen : (l.length + 1) * bytes ≤ 140737488355328) (h63 : l.length + 1 ≤ maxLen)
    (h : ∀ v' w', Own R k e W.heap.size B w' v' (l ++ [y]) → Below W.heap.size W w' → w.heap.size ≤ w'.heap.size → wpList P ops Q rest (a.put o.dst v') w') : wpList P ops Q (o :: rest) a (w.alloc (.cells cs.toArray te)) :=
  wpl_one (W := W) hgd s x t ho T v l y hs hown hB hbl hx hk hR h1 hlen h63 fun v' w' q1 q2 q3 _ => h v' w' q1 q2 (by have := q3.size; simp at this; omega)
end

/-! ### bytes -/
theorem str_at {B : Nat} {w : World} {q : ByteArray} (h : q.size ≤ maxLen) : strR.at_ B w [.string q] q := ⟨rfl, h⟩
theorem mem_one (v : Value) (h : v.oneCell' = true) : ∀ u ∈ [v], u.oneCell' = true := by
  intro u hu
  simp only [List.mem_singleton] at hu
  subst hu
  exact h
theorem byteV_of {z : Int} {k : Nat} (h : z = (k % 256 : Nat)) : Value.int .u8 z = byteV (UInt8.ofNat k) := by
  rw [h]
  simp [byteV]
theorem byte_one {z : Int} {k : Nat} (h : z = (k % 256 : Nat)) (w : World) : Cs byteR 1 0 w [.int .u8 z] [UInt8.ofNat k] := Cs.one rfl (by rw [byteV_of h]; exact (rfl : _ = _))
theorem bytes1 {k : IntKind} (z : Int) : ∀ u ∈ [Value.int k z], u.oneCell' = true := by
  intro u hu
  simp only [List.mem_singleton] at hu
  subst hu
  rfl
theorem cs_bytes {B : Nat} {w : World} {xs : List Value} {l : List UInt8} : Cs byteR 1 B w xs l ↔ xs = l.map byteV := by
  constructor
  · rintro ⟨h1, h2⟩
    apply List.ext_getElem?
    intro j
    rw [List.getElem?_map]
    by_cases hj : j < l.length
    · have := h2 j _ (List.getElem?_eq_getElem hj)
      simp only [byteR, plR, Nat.mul_one] at this
      rw [List.getElem?_eq_getElem hj]
      have hx : (List.take 1 (List.drop j xs))[0]? = xs[j]? := by rw [List.getElem?_take, if_pos (by omega), List.getElem?_drop, Nat.add_zero]
      rw [← hx, this]
      rfl
    · rw [List.getElem?_eq_none (by omega), List.getElem?_eq_none (by omega)]
      rfl
  · rintro rfl
    refine ⟨by simp, fun j a hj => ?_⟩
    simp only [byteR, plR, Nat.mul_one]
    have hjl : j < l.length := (List.getElem?_eq_some_iff.1 hj).1
    rw [List.drop_eq_getElem_cons (by simpa using hjl)]
    simp only [List.take_succ_cons, List.take_zero, List.getElem_map]
    congr 2
    rw [List.getElem?_eq_getElem hjl] at hj
    exact Option.some.inj hj
theorem sl_bytes {B m : Nat} {w : World} {A : Option Addr} {l : List UInt8} (h : Sl byteR 1 B w A l) (hm : l.length = m) : RdC w 1 A m (l.map byteV) := by
  obtain ⟨xs, h1, h2⟩ := sl_rdc h hm
  rw [← cs_bytes.1 h2]
  exact h1
theorem cs_map (B : Nat) (w : World) (l : List UInt8) : Cs byteR 1 B w (l.map byteV) l := cs_bytes.2 rfl
theorem bytes_oneCell (l : List UInt8) : ∀ u ∈ l.map byteV, u.oneCell' = true := by
  intro u hu
  obtain ⟨c, _, rfl⟩ := List.mem_map.1 hu
  rfl
end Go.Proofs.Ytcafahcmalfepaa
/-
  Numbers, texts and rows as bytes: the plain functions, and what they obey. No program in sight.
-/
namespace Go.Proofs.Ytcafahcmalfepaa
abbrev Bytes := List UInt8

/-- How many bytes a number takes. -/
def nbF : Nat → Nat → Nat
  | 0, _ => 0
  | f + 1, n => if n = 0 then 0 else nbF f (n / 256) + 1
def nb (n : Nat) : Nat := nbF 9 n
/-- k bytes, the highest one first. -/
def be : Nat → Nat → Bytes
  | 0, _ => []
  | k + 1, n => UInt8.ofNat (n / 256 ^ k) :: be k n
def encN (n : Nat) : Bytes := UInt8.ofNat (nb n) :: be (nb n) n
def encT (s : Bytes) : Bytes := encN s.length ++ s
def encL (l : List Bytes) : Bytes := encN l.length ++ (l.map encT).flatten
/-- A number with a sign, as one without. -/
def zig (n : Int) : Nat := if n < 0 then (-2 * n - 1).toNat else (2 * n).toNat

theorem be_length (k n : Nat) : (be k n).length = k := by
  induction k with
  | zero => rfl
  | succ k ih => simp [be, ih]
theorem be_get (k n j : Nat) (h : j < k) : (be k n)[j]? = some (UInt8.ofNat (n / 256 ^ (k - 1 - j))) := by
  induction k generalizing j with
  | zero => omega
  | succ k ih =>
    cases j with
    | zero => simp [be]
    | succ j =>
      simp only [be, List.getElem?_cons_succ]
      rw [ih j (by omega), show k + 1 - 1 - (j + 1) = k - 1 - j by omega]
theorem be_take (k n j : Nat) (h : j < k) : (be k n).take (j + 1) = (be k n).take j ++ [UInt8.ofNat (n / 256 ^ (k - 1 - j))] := by
  rw [List.take_add_one, be_get k n j h]
  rfl
theorem nbF_le (f n : Nat) : nbF f n ≤ f := by
  induction f generalizing n with
  | zero => simp [nbF]
  | succ f ih =>
    unfold nbF
    split
    · omega
    · have := ih (n / 256)
      omega
theorem nbF_more (f n : Nat) (h : n < 256 ^ f) : nbF (f + 1) n = nbF f n := by
  induction f generalizing n with
  | zero => simp at h; simp [nbF, h]
  | succ f ih =>
    unfold nbF
    split
    · rfl
    · rw [ih (n / 256) (by rw [Nat.pow_succ] at h; omega)]
theorem nb_zero : nb 0 = 0 := rfl
theorem nb_step (n : Nat) (h0 : n ≠ 0) (h : n < 18446744073709551616) : nb n = nb (n / 256) + 1 := by
  have : nb n = nbF 8 (n / 256) + 1 := by show (if n = 0 then 0 else nbF 8 (n / 256) + 1) = _; rw [if_neg h0]
  rw [this, nb, nbF_more 8 (n / 256) (by omega)]
theorem nb_le (n : Nat) (h : n < 18446744073709551616) : nb n ≤ 8 := by
  have : nb n = nbF 8 n := nbF_more 8 n (by omega)
  rw [this]
  exact nbF_le 8 n
theorem nb_lt (n : Nat) (h : n < 18446744073709551616) : n < 256 ^ nb n := by
  have key : ∀ f n, n < 256 ^ f → n < 256 ^ nbF f n := by
    intro f
    induction f with
    | zero => intro n h; simp at h; subst h; simp [nbF]
    | succ f ih =>
      intro n h
      unfold nbF
      split
      · rename_i h0; subst h0; simp
      · have := ih (n / 256) (by rw [Nat.pow_succ] at h; omega)
        rw [Nat.pow_succ]
        omega
  exact key 9 n (by omega)
theorem nb_ge (n : Nat) (h0 : n ≠ 0) (h : n < 18446744073709551616) : 256 ^ (nb n - 1) ≤ n := by
  have key : ∀ f n, n ≠ 0 → n < 256 ^ f → 256 ^ (nbF f n - 1) ≤ n := by
    intro f
    induction f with
    | zero => intro n h0 h; simp at h; exact absurd h h0
    | succ f ih =>
      intro n h0 h
      unfold nbF
      rw [if_neg h0]
      simp only [Nat.add_sub_cancel]
      by_cases hz : n / 256 = 0
      · rw [hz]
        have : nbF f 0 = 0 := by cases f <;> simp [nbF]
        rw [this]; simp; omega
      · have hi := ih (n / 256) hz (by rw [Nat.pow_succ] at h; omega)
        have hp : 0 < nbF f (n / 256) := by
          cases f with
          | zero => simp at h; omega
          | succ f => unfold nbF; rw [if_neg hz]; omega
        obtain ⟨q, hq⟩ : ∃ q, nbF f (n / 256) = q + 1 := ⟨nbF f (n / 256) - 1, by omega⟩
        rw [hq] at hi ⊢
        simp only [Nat.add_sub_cancel] at hi
        rw [Nat.pow_succ]
        omega
  exact key 9 n h0 (by omega)
theorem nb_pos (n : Nat) (h0 : n ≠ 0) : 1 ≤ nb n := by show 1 ≤ (if n = 0 then 0 else nbF 8 (n / 256) + 1); rw [if_neg h0]; omega
theorem bitLen_nb (n : Nat) (h : n < 18446744073709551616) : (Lib.bitLen n + 7) / 8 = nb n := by
  induction n using Nat.strongRecOn with
  | _ n ih =>
    by_cases h0 : n = 0
    · subst h0; rfl
    · by_cases h1 : n < 256
      · have h8 : Lib.bitLen n ≤ 8 := Lib.bitLen_le8 ⟨n, h1⟩
        have hp : 1 ≤ Lib.bitLen n := by
          have := Lib.bitLen_half n h0 (by omega)
          omega
        rw [nb_step n h0 h, show n / 256 = 0 by omega, nb_zero]
        omega
      · have hs := Lib.bitLen_shift8 n (by omega) h
        have := ih (n / 256) (by omega) (by omega)
        rw [nb_step n h0 h, ← this, hs]
        omega
theorem shr_byte (n p : Nat) : (n : Int) / 2 ^ (8 * p) % 256 = ((n / 256 ^ p) % 256 : Nat) := by
  have h : (2 : Int) ^ (8 * p) = ((256 ^ p : Nat) : Int) := by rw [Int.pow_mul]; simp
  rw [h]
  rw [Int.natCast_emod, Int.natCast_ediv]; rfl
theorem encN_length (n : Nat) : (encN n).length = 1 + nb n := by simp [encN, be_length]; omega
theorem encN_le (n : Nat) (h : n < 18446744073709551616) : (encN n).length ≤ 9 := by have := nb_le n h; rw [encN_length]; omega
theorem zig_lt (n : Int) (h : -9223372036854775808 ≤ n) (h' : n ≤ 9223372036854775807) : zig n < 18446744073709551616 := by unfold zig; split <;> omega
/-- A row's texts, written one behind the other. -/
def encRow (l : List Bytes) : Bytes := (l.map encT).flatten
theorem encL_row (l : List Bytes) : encL l = encN l.length ++ encRow l := rfl
theorem encRow_succ (l : List Bytes) (k : Nat) (a : Bytes) (h : l[k]? = some a) : encRow (l.take (k + 1)) = encRow (l.take k) ++ encT a := by
  rw [encRow, encRow, List.take_add_one, h]
  simp
theorem encT_le (s : Bytes) (h : s.length < 18446744073709551616) : (encT s).length ≤ s.length + 9 := by
  have := encN_le s.length h
  simp [encT]
  omega
/-- The bytes of a row, at most. -/
def tot (l : List Bytes) : Nat := (l.map fun s => s.length + 9).sum
theorem tot_cons (x : Bytes) (l : List Bytes) : tot (x :: l) = x.length + 9 + tot l := by simp [tot]
theorem tot_take (l : List Bytes) (k : Nat) : tot (l.take k) ≤ tot l := by
  induction l generalizing k with
  | nil => simp
  | cons x l ih =>
    cases k with
    | zero => simp [tot]
    | succ k =>
      have := ih k
      rw [List.take_succ_cons, tot_cons, tot_cons]
      omega
theorem tot_mem {l : List Bytes} {k : Nat} {a : Bytes} (h : l[k]? = some a) : a.length + 9 ≤ tot l := by
  induction l generalizing k with
  | nil => simp at h
  | cons x l ih =>
    cases k with
    | zero => simp at h; subst h; rw [tot_cons]; omega
    | succ k => have := ih (k := k) (by simpa using h); rw [tot_cons]; omega
theorem encRow_le (l : List Bytes) (h : tot l < 18446744073709551616) : (encRow l).length ≤ tot l := by
  induction l with
  | nil => simp [encRow, tot]
  | cons x l ih =>
    simp only [tot, List.map_cons, List.sum_cons] at h ⊢
    have h1 := encT_le x (by omega)
    have h2 := ih (by unfold tot; omega)
    simp only [encRow, List.map_cons, List.flatten_cons, List.length_append] at h2 ⊢
    unfold tot at h2
    omega
theorem tot_length (l : List Bytes) : 9 * l.length ≤ tot l := by
  induction l with
  | nil => simp
  | cons x l ih => simp [tot] at ih ⊢; omega
/-! ### taking -/
def fromBE (l : Bytes) : Nat := l.foldl (fun n c => n * 256 + c.toNat) 0
theorem fromBE_snoc (l : Bytes) (c : UInt8) : fromBE (l ++ [c]) = fromBE l * 256 + c.toNat := by simp [fromBE]
theorem fromBE_lt (l : Bytes) : fromBE l < 256 ^ l.length := by
  have key : ∀ (l : Bytes) (n : Nat), l.foldl (fun n c => n * 256 + c.toNat) n < (n + 1) * 256 ^ l.length := by
    intro l
    induction l with
    | nil => intro n; simp
    | cons c l ih =>
      intro n
      have h := ih (n * 256 + c.toNat)
      have hc := c.toNat_lt
      simp only [List.foldl_cons, List.length_cons]
      refine Nat.lt_of_lt_of_le h ?_
      rw [Nat.pow_succ, Nat.mul_comm (256 ^ l.length) 256, ← Nat.mul_assoc]
      exact Nat.mul_le_mul_right _ (by omega)
  have := key l 0
  rw [Nat.zero_add, Nat.one_mul] at this
  exact this
/-- The number ahead of bytes, and what is behind; or why there is none. -/
def takeN : Bytes → Except Int (Nat × Bytes)
  | [] => .error 2
  | k :: r => if 8 < k.toNat ∨ (0 < k.toNat ∧ r.head? = some 0) then .error 3 else if r.length < k.toNat then .error 2 else .ok (fromBE (r.take k.toNat), r.drop k.toNat)
/-- The text ahead. -/
def takeT (b : Bytes) (most : Int) : Except Int (Bytes × Bytes) :=
  match takeN b with
  | .error z => .error z
  | .ok (n, r) => if (max most 0).toNat < n then .error 5 else if r.length < n then .error 2 else .ok (r.take n, r.drop n)
/-- So many texts. -/
def takeTs (most : Int) : Nat → Bytes → Except Int (List Bytes × Bytes)
  | 0, b => .ok ([], b)
  | n + 1, b => match takeT b most with
    | .error z => .error z
    | .ok (s, r) => match takeTs most n r with
      | .error z => .error z
      | .ok (l, r') => .ok (s :: l, r')
/-- The row ahead. -/
def takeL (b : Bytes) (many most : Int) : Except Int (List Bytes × Bytes) :=
  match takeN b with
  | .error z => .error z
  | .ok (n, r) => if (max many 0).toNat < n then .error 5 else takeTs most n r
/-- The number with a sign. -/
def unzig (u : Nat) : Int := if u % 2 = 1 then -(u / 2 : Nat) - 1 else (u / 2 : Nat)
def glue (l : List Bytes) : Except Int (List Bytes × Bytes) → Except Int (List Bytes × Bytes)
  | .error z => .error z
  | .ok (l', r) => .ok (l ++ l', r)
theorem takeTs_ok {most : Int} {n : Nat} {b s r : Bytes} (h : takeT b most = .ok (s, r)) (l : List Bytes) : glue l (takeTs most (n + 1) b) = glue (l ++ [s]) (takeTs most n r) := by
  simp only [takeTs, h]
  cases takeTs most n r with
  | error z => rfl
  | ok p => obtain ⟨l', r'⟩ := p; simp [glue]
theorem takeTs_err {most : Int} {n : Nat} {b : Bytes} {z : Int} (h : takeT b most = .error z) (l : List Bytes) : glue l (takeTs most (n + 1) b) = .error z := by
  simp only [takeTs, h, glue]
theorem takeN_shorter {b r : Bytes} {n : Nat} (h : takeN b = .ok (n, r)) : r.length + 1 ≤ b.length := by
  unfold takeN at h
  split at h
  · cases h
  · split at h
    · cases h
    · split at h
      · cases h
      · simp only [Except.ok.injEq, Prod.mk.injEq] at h
        obtain ⟨_, rfl⟩ := h
        simp
theorem takeT_shorter {b s r : Bytes} {most : Int} (h : takeT b most = .ok (s, r)) : s.length + r.length + 1 ≤ b.length ∧ s.length ≤ (max most 0).toNat := by
  unfold takeT at h
  split at h
  · cases h
  · rename_i n q hq
    have := takeN_shorter hq
    split at h
    · cases h
    · split at h
      · cases h
      · simp only [Except.ok.injEq, Prod.mk.injEq] at h
        obtain ⟨rfl, rfl⟩ := h
        simp only [List.length_take, List.length_drop]
        omega
theorem takeN_err {b : Bytes} {z : Int} (h : takeN b = .error z) : z = 2 ∨ z = 3 := by
  unfold takeN at h
  split at h
  · cases h; simp
  · split at h
    · cases h; simp
    · split at h
      · cases h; simp
      · cases h
theorem takeT_err {b : Bytes} {z most : Int} (h : takeT b most = .error z) : z = 2 ∨ z = 3 ∨ z = 5 := by
  unfold takeT at h
  split at h
  · rename_i q
    cases h
    rcases takeN_err q with h | h <;> simp [h]
  · split at h
    · cases h; simp
    · split at h
      · cases h; simp
      · cases h
end Go.Proofs.Ytcafahcmalfepaa
/-
  From contracts told with addresses to those told without: rows of bytes, rows of rows, a row of the call's own. Nothing here speaks of the program but for the types' numbers.
-/
namespace Go.Proofs.Ytcafahcmalfepaa
open Go.RowKit
/-- A row of bytes, as an element. -/
def rowC (b : Bytes) : List AV := [bytesA b]
theorem byteV_rv {c : Cx} {x : UInt8} {v : Value} {a : AV} (h : RV c v a) (ha : (byteC x)[0]? = some a) : v = byteV x := by
  simp only [byteC, List.getElem?_cons_zero, Option.some.injEq] at ha
  subst ha
  cases h; rfl
theorem RV.bytes {c : Cx} {v : Value} {b : Bytes} {t : Tk} (h : RV c v (.sl 1 (b.map byteC) t)) : ∃ A cap, v = .slice A b.length cap ∧ b.length ≤ cap ∧ cap ≤ maxLen ∧ Sl byteR 1 c.w.heap.size c.w A b := by
  obtain ⟨A, cap, xs, rfl, h1, h2, hf, _, hc⟩ := h.flat
  simp only [List.length_map] at h1 ⊢
  refine ⟨A, cap, rfl, h1, h2, fun hn => ?_⟩
  obtain ⟨bl, o, rfl, hcc⟩ := hc (by simpa using hn)
  obtain ⟨x0, hx0⟩ : ∃ x, b[0]? = some x := ⟨_, List.getElem?_eq_getElem (List.length_pos_iff.2 hn)⟩
  have key : ∀ (j : Nat) a, b[j]? = some a → c.im bl (o + j) ∧ c.w.cell? ⟨bl, o + j, none⟩ = some (byteV a) := fun j a hj => by
    obtain ⟨_, u, g1, g2⟩ := hf.rv j (byteC a) 0 _ (by rw [List.getElem?_map, hj]; rfl) rfl
    rw [Nat.mul_one, Nat.add_zero] at g1
    obtain ⟨w1, w2⟩ := hcc j u g1
    cases g2
    exact ⟨w1, w2⟩
  refine ⟨bl, o, rfl, (key 0 x0 hx0).1.1, fun j a hj => ⟨[byteV a], rfl, rfl, fun i u hu => ?_⟩⟩
  match i, hu with
  | 0, hu =>
    simp only [List.getElem?_cons_zero, Option.some.injEq] at hu
    subst hu
    rw [Nat.mul_one, Nat.add_zero]
    exact (key j a hj).2
theorem RV.rows {c : Cx} {v : Value} {L : List Bytes} {t : Tk} (h : RV c v (.sl 1 (L.map rowC) t)) : ∃ A cap, v = .slice A L.length cap ∧ L.length ≤ cap ∧ cap ≤ maxLen ∧ Sl (slR byteR 1) 1 c.w.heap.size c.w A L := by
  obtain ⟨A, cap, xs, rfl, h1, h2, hf, _, hc⟩ := h.flat
  simp only [List.length_map] at h1 ⊢
  refine ⟨A, cap, rfl, h1, h2, fun hn => ?_⟩
  obtain ⟨bl, o, rfl, hcc⟩ := hc (by simpa using hn)
  obtain ⟨x0, hx0⟩ : ∃ x, L[0]? = some x := ⟨_, List.getElem?_eq_getElem (List.length_pos_iff.2 hn)⟩
  have key : ∀ (j : Nat) a, L[j]? = some a → ∃ u, c.im bl (o + j) ∧ c.w.cell? ⟨bl, o + j, none⟩ = some u ∧ RV c u (bytesA a) := fun j a hj => by
    obtain ⟨_, u, g1, g2⟩ := hf.rv j (rowC a) 0 _ (by rw [List.getElem?_map, hj]; rfl) rfl
    rw [Nat.mul_one, Nat.add_zero] at g1
    obtain ⟨w1, w2⟩ := hcc j u g1
    exact ⟨u, w1, w2, g2⟩
  obtain ⟨u0, hi0, _⟩ := key 0 x0 hx0
  refine ⟨bl, o, rfl, hi0.1, fun j a hj => ?_⟩
  obtain ⟨u, g1, g2, g3⟩ := key j a hj
  obtain ⟨A', c', rfl, q1, q2, q3⟩ := g3.bytes
  refine ⟨[_], rfl, ⟨A', c', rfl, q1, q2, q3⟩, fun i u hu => ?_⟩
  match i, hu with
  | 0, hu =>
    simp only [List.getElem?_cons_zero, Option.some.injEq] at hu
    subst hu
    rw [Nat.mul_one, Nat.add_zero]
    exact g2
theorem Below.ev {c : Cx} (hc : RelH c) (hh : c.h = []) {w' : World} (hb : Below c.w.heap.size c.w w') : RelH ⟨c.ρ, [], w', c.X⟩ ∧ Ev c ⟨c.ρ, [], w', c.X⟩ := by
  have hno : ∀ (i : Nat) x, c.h[i]? ≠ some x := fun i x h => by rw [hh] at h; simp at h
  refine ⟨⟨fun i j x y b hx => by simp at hx, fun i x b hx => by simp at hx, fun i x hx => by simp at hx, fun b o h => ⟨Nat.lt_of_lt_of_le (hc.xs b o h).1 hb.size, fun i x hx => by simp at hx⟩⟩, ?_⟩
  refine ⟨hb.os, hb.tape, hb.output, hb.size, rfl, fun b o h => ⟨⟨Nat.lt_of_lt_of_le h.1 hb.size, h.2.1, fun i x hx => by simp at hx⟩, cell_of_block (hb.block b h.1)⟩, fun b hlt _ => ⟨hb.block b hlt, ?_⟩, by rw [hh]; exact Nat.le_refl _, fun i x hx => absurd hx (hno i x), keep_old hb.block⟩
  rintro ⟨i, x, hx, _⟩; simp at hx
/-- A row of the call's own: a token for it. -/
theorem own_spec {P : Program} {f : FuncId} {args : List AV} {b : Bytes} (hne : 0 < b.length) (hfn : Callable P f)
    (h : ∀ (c : Cx) (vs : Array Value), c.h = [] → RelH c → TRel c vs args → Calls P f vs c.w fun e w' => ∃ v t, e = .returned v ∧ Own byteR 1 t c.w.heap.size 0 w' v b ∧ Below c.w.heap.size c.w w') : OSpec P f args 1 (b.map byteC) := by
  refine ⟨hfn, fun c vs hh hc ht => (h c vs hh hc ht).mono ?_⟩
  rintro e w' ⟨v, t, rfl, ⟨xs, ⟨hxl, how⟩, hxs⟩, hb⟩
  obtain ⟨g1, g2⟩ := Below.ev hc hh hb
  rw [cs_bytes] at hxs
  subst hxs
  have hfl : ∀ c' : Cx, Flat c' 1 (b.map byteC) (b.map byteV) := fun c' => bytes_flat (c := c') b
  rcases how with ⟨rfl, hx0⟩ | ⟨g, cap, cur, rfl, hg, hcell, hn, hm, hcs, htake⟩
  · have hb0 : b = [] := by simpa using hx0
    subst hb0
    -- a token without a block
    obtain ⟨q1, q2⟩ := Cx.grow g1
    obtain ⟨r1, r2⟩ := Cx.unborn q1 0 1 (by simp)
    refine ⟨_, _, _, _, rfl, r1, (g2.trans q2).trans r2, ?_, 0, rfl, by simp⟩
    refine .sl 1 [] _ none 0 0 0 0 (fun _ _ => undef) rfl (Nat.le_refl _) (Nat.zero_le _) (fun h => absurd rfl h) (fun j e h => by simp at h) (fun j e i a h => by simp at h) (fun j e i a h => by simp at h) ⟨⟨_, by simp; rfl, rfl⟩, fun k' n' e => ?_⟩
    simp at e
    obtain ⟨rfl, rfl⟩ := e
    exact ⟨rfl, Nat.le_refl _, fun _ => .inl rfl⟩
  · have hgl : g < w'.heap.size := (Array.getElem?_eq_some_iff.1 hcell).1
    have hno : ∀ (i : Nat) x, c.h[i]? ≠ some x := fun i x h => by rw [hh] at h; simp at h
    have hone : ∀ (i : Nat) x, [ABlk.tok 1 b.length][i]? = some x → i = 0 ∧ x = .tok 1 b.length := fun i x h => by
      cases i with
      | zero => simp at h; exact ⟨rfl, h.symm⟩
      | succ i => simp at h
    have hrel : RelH ⟨fun _ => some g, [.tok 1 b.length], w', c.X⟩ := by
      refine ⟨fun i j x y bb hx hy _ _ _ _ => ?_, fun i x bb hx hbb => ?_, fun i x hx => ?_, fun bb o hX => ⟨Nat.lt_of_lt_of_le (hc.xs bb o hX).1 hb.size, fun i x hx _ hbb => ?_⟩⟩
      · rw [(hone i x hx).1, (hone j y hy).1]
      · cases hbb; exact hgl
      · obtain ⟨_, rfl⟩ := hone i x hx
        intro bb hbb
        cases hbb
        exact ⟨cur, t, hcell⟩
      · cases hbb
        have := (hc.xs _ o hX).1
        omega
    have hev : Ev c ⟨fun _ => some g, [.tok 1 b.length], w', c.X⟩ := by
      refine ⟨hb.os, hb.tape, hb.output, hb.size, rfl, fun bb o hX => ⟨⟨Nat.lt_of_lt_of_le hX.1 hb.size, hX.2.1, fun i x hx hbb => ?_⟩, cell_of_block (hb.block bb hX.1)⟩, fun bb hlt _ => ⟨hb.block bb hlt, ?_⟩, by rw [hh]; simp, fun i x hx => absurd hx (hno i x), keep_old hb.block⟩
      · cases hbb
        have := hX.1; omega
      · rintro ⟨i, x, hx, _, hbb⟩
        cases hbb; omega
    refine ⟨_, _, _, _, rfl, hrel, hev, RV.sl_of (t := .own 0) (hfl _) (by simpa using hn) hm g 0 (fun _ => rfl) (fun q u hq => ?_) ⟨⟨.tok 1 b.length, rfl, rfl⟩, fun k' n' e => ?_⟩ (by simp), 0, rfl, by simp⟩
    · have hql : q < b.length := by have := (List.getElem?_eq_some_iff.1 hq).1; simpa using this
      rw [Nat.zero_add]
      refine ⟨⟨hgl, fun hX => by have := (hc.xs _ _ hX).1; omega, fun i x hx hbb => ?_⟩, ?_⟩
      · obtain ⟨_, rfl⟩ := hone i x hx
        show q < b.length * 1
        omega
      · rw [cell_of_row w' g q cur t (0, 0) hcell]
        rw [← htake, List.getElem?_take] at hq
        split at hq
        · simpa using hq
        · cases hq
    · simp at e
      obtain ⟨rfl, rfl⟩ := e
      exact ⟨rfl, by simp, fun _ => .inr ⟨g, cur, t, rfl, rfl, hcell, by simpa using hcs, by simpa using hne⟩⟩
end Go.Proofs.Ytcafahcmalfepaa
/-
  Strings and bytes: string(b), append(b, s...). Nothing here speaks of the program.
-/
namespace Go.Proofs.Ytcafahcmalfepaa
open Go.ChangeShapes Go.WideShapes Go.ChangeAt Go.RowKit Go.Deep

theorem strCells_bytes (s : ByteArray) : Lib.strCells s = s.data.toList.map byteV := rfl
section
variable {P : Program} {w : World}
/-- string(b). -/
theorem run_str (src dst e : TypeId) (hs : P.underlying src = some (.slice e)) (he : P.underlying e = some (.int .u8)) (hd : P.underlying dst = some .string) (A : Option Addr) (n c B : Nat) (l : List UInt8) (hl : l.length = n) (h : Sl byteR 1 B w A l) :
    (convert src dst (.slice A n c)).run P w = .ok (.string ⟨l.toArray⟩) w := by
  subst hl
  by_cases hn : l = []
  · subst hn
    rw [List.length_nil, run_convert_bytes_string w src dst e _ 0 c hs he hd]
    cases A <;> simp [Conv.bytesToString, loadCells, loadCellsFrom] <;> rfl
  · obtain ⟨xs, hr, hc⟩ := h.cells
    obtain ⟨b, o, rfl, hcell⟩ := hr.2 (List.length_pos_iff.2 hn)
    refine run_convert_bytes_back (P := P) w src dst e ⟨b, o, none⟩ c l hs he hd fun j hj => ?_
    rw [Addr.add_mid]
    refine hcell j _ ?_
    rw [cs_bytes.1 hc, List.getElem?_map, List.getElem?_eq_getElem hj]
    rfl
theorem wpl_str {ops : Array Oper} {rest : List Oper} {o : Oper} {a : Act} {Q : Exit → Act → World → Prop} (hgd : o.guard = none) (src dst e : TypeId) (x : Operand) (ho : o.op = .convert src dst x)
    (hs : P.underlying src = some (.slice e)) (he : P.underlying e = some (.int .u8)) (hd : P.underlying dst = some .string) (A : Option Addr) (n c B : Nat) (l : List UInt8) (hx : a.eval x = .slice A n c) (hl : l.length = n) (h : Sl byteR 1 B w A l)
    (hK : wpList P ops Q rest (a.put o.dst (.string ⟨l.toArray⟩)) w) : wpList P ops Q (o :: rest) a w := by
  refine wpList_plain hgd fun _ hK' => ?_
  unfold Oper.wp execOp
  simp only [ho, hx, Sem.run_bind, run_str src dst e hs he hd A n c B l hl h, Result.andThen]
  exact hK' _ _ hK
/-- append(b, s...), s a string. -/
theorem wpl_append_str {ops : Array Oper} {rest : List Oper} {o : Oper} {a : Act} {Q : Exit → Act → World → Prop} {base e : Nat} (hgd : o.guard = none) (s x : Operand) (t u : TypeId)
    (ho : o.op = .call { callee := .builtin .append, args := #[s, x], argTypes := #[t, u] }) (T : Tab P t e 1 1) (hz : (P.info? e).bind (·.zero) = some (.int .u8 0)) (hu : P.underlying u = some .string) (v : Value) (l : List UInt8) (hs : a.eval s = v) (hown : Own byteR 1 e base 0 w v l)
    (q : ByteArray) (hx : a.eval x = .string q) (hlen : l.length + q.size ≤ 140737488355328) (hbase : base ≤ w.heap.size)
    (h : ∀ v' w', Own byteR 1 e base 0 w' v' (l ++ q.data.toList) → Below base w w' → w.grownBy w' v.ownBlock → wpList P ops Q rest (a.put o.dst v') w') : wpList P ops Q (o :: rest) a w := by
  obtain ⟨i, z, hi, hzz, hsz, hb, _⟩ := T.hi
  have hz' : i.zero = some (.int .u8 0) := by rw [hi] at hz; simpa using hz
  obtain ⟨xs, ho', hxs⟩ := hown
  obtain ⟨v', w', hrun, h2, h3, _⟩ := Lib.run_append_own_string (P := P) w base t u o.type e i T.ht hu hi hz' hsz hb v l.length xs ho' q (by unfold maxLen; omega) hlen hbase
  have hbl : Below base w w' := (Below.refl _ _).grown h3 hbase (fun k hk => (ho'.lt k hk).1)
  have hql : q.data.toList.length = q.size := by simp
  refine wpList_plain hgd fun _ hK => ?_
  unfold Oper.wp execOp
  simp only [ho, resolve, invoke, builtin, Sem.run_bind, Sem.run_pure, Result.andThen_ok, List.map_toArray, List.map_cons, List.map_nil, hs, hx, hrun]
  refine hK _ _ (h v' w' ⟨xs ++ Lib.strCells q, by rw [List.length_append, hql]; exact h2, ?_⟩ hbl h3)
  rw [cs_bytes, cs_bytes.1 hxs, strCells_bytes, List.map_append]
end
end Go.Proofs.Ytcafahcmalfepaa
/-
  Rows of bytes and strings at this seat's types: append's table, string(b), a row's length.
-/
namespace Go.Proofs.Ytcafahcmalfepaa
open Go.RowKit Go.Deep
theorem tabB : Tab Try.prog 22 5 1 1 := by
  obtain ⟨i, h1, h2, h3, h4⟩ := info_parts (P := Try.prog) (e := 5) (z := .int .u8 0) (size := 1) (bytes := 1) (by kernel_rfl)
  exact ⟨Try.underlying22, ⟨i, _, h1, h2, h3, h4, rfl⟩, by omega⟩
theorem Own.len {α : Type} {R : Rep α} {k B base : Nat} {e : TypeId} {w : World} {v : Value} {l : List α} (h : Own R k e base B w v l) (hB : B ≤ w.heap.size) {m : Nat} (hm : l.length = m) :
    ∃ A c, v = .slice A m c ∧ m ≤ c ∧ c ≤ maxLen ∧ Sl R k w.heap.size w A l := by
  obtain ⟨A, c, rfl, h1, h2, h3⟩ := h.sl hB
  exact ⟨A, c, by rw [hm], by rw [← hm]; exact h1, h2, h3⟩
theorem Own.form2 {α : Type} {R : Rep α} {k B base : Nat} {e : TypeId} {w : World} {v : Value} {l : List α} (h : Own R k e base B w v l) {m : Nat} (hm : l.length = m) : ∃ A c, v = .slice A m c := by
  obtain ⟨A, c, rfl, _⟩ := h.form
  exact ⟨A, c, by rw [hm]⟩
/-- It returns a row of its own that reads as l. -/
def RetB (w : World) (l : Bytes) (e : Ending) (w' : World) : Prop := ∃ v, e = .returned v ∧ Own byteR 1 5 w.heap.size 0 w' v l ∧ Below w.heap.size w w'
/-- string(b), here and now. -/
theorem conv_str {w : World} {A : Option Addr} {n c B : Nat} {l : Bytes} (hl : l.length = n) (h : Sl byteR 1 B w A l) :
    (convert 22 9 (.slice A n c)).run Try.prog w = .ok (.string ⟨l.toArray⟩) w :=
  run_str (P := Try.prog) _ _ 5 Try.underlying22 Try.underlying5 Try.underlying9 A n c B l hl h
theorem str_inj {a b : ByteArray} (h : a.toList = b.toList) : a = b := by
  rw [ByteArray.toList_eq, ByteArray.toList_eq] at h
  obtain ⟨⟨x⟩⟩ := a
  obtain ⟨⟨y⟩⟩ := b
  simpa using h
end Go.Proofs.Ytcafahcmalfepaa
/-
  Words for memory, with the set Z of the blocks that a thing may lie in (so that a caller's own blocks can be told from it): which blocks stay (Agree); how cells read as a thing (ZRep); a slice that reads as a list (SlZ). Nothing here speaks of the program.
-/
namespace Go.Proofs.Ytcafahcmalfepaa
open Go.ChangeShapes Go.WideShapes Go.ChangeAt Go.RowKit Go.Deep

/-- The blocks of Z that were there are as they were. -/
structure Agree (Z : Nat → Prop) (w w' : World) : Prop where
  os : w'.os = w.os
  tape : w'.tape = w.tape
  output : w'.output = w.output
  size : w.heap.size ≤ w'.heap.size
  block : ∀ k, k < w.heap.size → Z k → w'.heap[k]? = w.heap[k]?

section
variable {Z Z' : Nat → Prop} {a b c w w' : World}
theorem Agree.refl (w : World) : Agree Z w w := ⟨rfl, rfl, rfl, Nat.le_refl _, fun _ _ _ => rfl⟩
theorem Agree.trans (h : Agree Z a b) (k : Agree Z b c) : Agree Z a c :=
  ⟨k.os.trans h.os, k.tape.trans h.tape, k.output.trans h.output, Nat.le_trans h.size k.size, fun i hi hz => (k.block i (Nat.lt_of_lt_of_le hi h.size) hz).trans (h.block i hi hz)⟩
theorem Agree.mono (h : Agree Z w w') (hZ : ∀ k, Z' k → Z k) : Agree Z' w w' := ⟨h.os, h.tape, h.output, h.size, fun k hk hz => h.block k hk (hZ k hz)⟩
theorem agree_of_below (h : Below w.heap.size w w') : Agree Z w w' := ⟨h.os, h.tape, h.output, h.size, fun k hk _ => h.block k hk⟩
theorem Agree.below {B : Nat} (h : Agree Z w w') (hB : ∀ k, k < B → k < w.heap.size ∧ Z k) : Below B w w' := ⟨h.os, h.tape, h.output, h.size, fun k hk => h.block k (hB k hk).1 (hB k hk).2⟩
theorem Agree.drew (h : Agree Z w w') : Agree Z w w'.drew := ⟨h.os, h.tape, h.output, h.size, h.block⟩
theorem Agree.drewN (h : Agree Z w w') (n : Nat) : Agree Z w (w'.drewN n) := ⟨h.os, h.tape, h.output, h.size, h.block⟩
theorem Agree.alloc (h : Agree Z w w') (o : Obj) : Agree Z w (w'.alloc o) :=
  h.trans (agree_of_below ((Below.refl _ _).alloc (Nat.le_refl _) o))
theorem Agree.setCell (h : Agree Z w w') {p : Addr} (hp : ¬ Z p.block) (v : Value) : Agree Z w (w'.setCell p v) := by
  refine h.trans ⟨rfl, rfl, rfl, ?_, fun k hk hz => Below.heap_setCell w' p v k (fun e => hp (e ▸ hz))⟩
  simp
theorem Agree.cell (h : Agree Z w w') {p : Addr} (h1 : p.block < w.heap.size) (h2 : Z p.block) : w'.cell? p = w.cell? p := World.cell?_of_block (w := w) (h.block p.block h1 h2)
theorem Agree.frozen (h : Agree Z w w') {p : Addr} (h1 : p.block < w.heap.size) (h2 : Z p.block) : w'.frozen? p = w.frozen? p := World.frozen?_of_block (w := w) (h.block p.block h1 h2)
/-- For the walk: what old cells and marks are. -/
theorem acell (h : Agree Z w w') : (∀ b o, b < w.heap.size → Z b → w'.cell? ⟨b, o, none⟩ = w.cell? ⟨b, o, none⟩) ∧ (∀ b o, b < w.heap.size → Z b → w'.frozen? ⟨b, o, none⟩ = w.frozen? ⟨b, o, none⟩) :=
  ⟨fun b o h1 h2 => h.cell (p := ⟨b, o, none⟩) h1 h2, fun b o h1 h2 => h.frozen (p := ⟨b, o, none⟩) h1 h2⟩
end

/-- How cells read as a thing, in a world, where what they lead to lies in blocks of Z. -/
structure ZRep (α : Type) where
  at_ : (Nat → Prop) → World → List Value → α → Prop
  mono : ∀ {Z Z' : Nat → Prop} {w cs a}, (∀ k, Z k → Z' k) → at_ Z w cs a → at_ Z' w cs a
  stable : ∀ {Z w w' cs a}, Agree Z w w' → at_ Z w cs a → at_ Z w' cs a
  narrow : ∀ {Z w cs a}, at_ Z w cs a → at_ (fun k => Z k ∧ k < w.heap.size) w cs a
/-- A thing that lies in its cells alone. -/
def pz {α : Type} (p : List Value → α → Prop) : ZRep α := ⟨fun _ _ => p, fun _ h => h, fun _ h => h, fun h => h⟩
def intP (k : IntKind) (cs : List Value) (n : Int) : Prop := cs = [.int k n] ∧ (Lit.int k n).wf = true
def strP (cs : List Value) (s : ByteArray) : Prop := cs = [.string s] ∧ s.size ≤ maxLen
def byteP (cs : List Value) (c : UInt8) : Prop := cs = [byteV c]
abbrev byteZ : ZRep UInt8 := pz byteP
abbrev strZ : ZRep ByteArray := pz strP
abbrev intZ (k : IntKind) : ZRep Int := pz (intP k)

/-- The slice at A reads as l; it lies in Z. -/
def SlZ {α : Type} (R : ZRep α) (k : Nat) (Z : Nat → Prop) (w : World) (A : Option Addr) (l : List α) : Prop :=
  l ≠ [] → ∃ b o, A = some ⟨b, o, none⟩ ∧ Z b ∧ b < w.heap.size ∧ ∀ (j : Nat) a, l[j]? = some a → ∃ cs, cs.length = k ∧ R.at_ Z w cs a ∧ ∀ i u, cs[i]? = some u → w.cell? ⟨b, o + j * k + i, none⟩ = some u
section
variable {α : Type} {R : ZRep α} {k : Nat} {Z Z' : Nat → Prop} {w w' : World} {A : Option Addr} {l : List α}
theorem SlZ.nil : SlZ R k Z w A [] := fun h => absurd rfl h
theorem SlZ.mono (h : SlZ R k Z w A l) (hZ : ∀ k, Z k → Z' k) : SlZ R k Z' w A l := fun hn => by
  obtain ⟨b, o, rfl, hb, hlt, hc⟩ := h hn
  refine ⟨b, o, rfl, hZ b hb, hlt, fun j a hj => ?_⟩
  obtain ⟨cs, hl, hr, hcs⟩ := hc j a hj
  exact ⟨cs, hl, R.mono hZ hr, hcs⟩
theorem SlZ.narrow (h : SlZ R k Z w A l) : SlZ R k (fun k => Z k ∧ k < w.heap.size) w A l := fun hn => by
  obtain ⟨b, o, rfl, hb, hlt, hc⟩ := h hn
  refine ⟨b, o, rfl, ⟨hb, hlt⟩, hlt, fun j a hj => ?_⟩
  obtain ⟨cs, hl, hr, hcs⟩ := hc j a hj
  exact ⟨cs, hl, R.narrow hr, hcs⟩
theorem SlZ.agree (h : SlZ R k Z w A l) (hb : Agree Z w w') : SlZ R k Z w' A l := fun hn => by
  obtain ⟨b, o, rfl, hz, hlt, hc⟩ := h hn
  refine ⟨b, o, rfl, hz, Nat.lt_of_lt_of_le hlt hb.size, fun j a hj => ?_⟩
  obtain ⟨cs, hl, hr, hcs⟩ := hc j a hj
  exact ⟨cs, hl, R.stable hb hr, fun i u hu => (hb.cell (p := ⟨b, _, none⟩) hlt hz).trans (hcs i u hu)⟩
theorem SlZ.below (h : SlZ R k Z w A l) (hb : Below w.heap.size w w') : SlZ R k Z w' A l := h.agree (agree_of_below hb)
/-- Where every block that is made from here on may be in the set. -/
theorem SlZ.shrink {B N : Nat} (h : SlZ R k Z w A l) (hB : w.heap.size ≤ B) : SlZ R k (fun k => Z k ∧ (k < B ∨ N ≤ k)) w A l :=
  h.narrow.mono fun _ ⟨h1, h2⟩ => ⟨h1, .inl (Nat.lt_of_lt_of_le h2 hB)⟩
/-- A slice's one cell. -/
def slZ (R : ZRep α) (k : Nat) : ZRep (List α) :=
  ⟨fun Z w cs l => ∃ A c, cs = [.slice A l.length c] ∧ l.length ≤ c ∧ c ≤ maxLen ∧ SlZ R k Z w A l,
   fun hZ ⟨A, c, h1, h2, h3, h4⟩ => ⟨A, c, h1, h2, h3, h4.mono hZ⟩, fun hb ⟨A, c, h1, h2, h3, h4⟩ => ⟨A, c, h1, h2, h3, h4.agree hb⟩,
   fun ⟨A, c, h1, h2, h3, h4⟩ => ⟨A, c, h1, h2, h3, h4.narrow⟩⟩
theorem SlZ.get (h : SlZ R k Z w A l) {i : Nat} {a : α} (hi : l[i]? = some a) :
    ∃ b o cs, A = some ⟨b, o, none⟩ ∧ Z b ∧ b < w.heap.size ∧ cs.length = k ∧ R.at_ Z w cs a ∧ ∀ j u, cs[j]? = some u → w.cell? ⟨b, o + i * k + j, none⟩ = some u := by
  obtain ⟨b, o, rfl, hz, hlt, hc⟩ := h (by rintro rfl; simp at hi)
  obtain ⟨cs, hl, hr, hcs⟩ := hc i a hi
  exact ⟨b, o, cs, rfl, hz, hlt, hl, hr, hcs⟩
theorem SlZ.get1 (h : SlZ R 1 Z w A l) {i : Nat} {a : α} (hi : l[i]? = some a) :
    ∃ b o v, A = some ⟨b, o, none⟩ ∧ Z b ∧ b < w.heap.size ∧ R.at_ Z w [v] a ∧ w.cell? ⟨b, o + i, none⟩ = some v := by
  obtain ⟨b, o, cs, rfl, hz, hlt, hl, hr, hcs⟩ := h.get hi
  match cs, hl with
  | [v], _ => exact ⟨b, o, v, rfl, hz, hlt, hr, by simpa using hcs 0 v rfl⟩
theorem SlZ.take (h : SlZ R k Z w A l) (n : Nat) : SlZ R k Z w A (l.take n) := fun hn => by
  obtain ⟨b, o, rfl, hz, hlt, hc⟩ := h (by rintro rfl; simp at hn)
  refine ⟨b, o, rfl, hz, hlt, fun j a hj => hc j a ?_⟩
  rw [List.getElem?_take] at hj
  split at hj
  · exact hj
  · cases hj
theorem SlZ.drop {b o : Nat} (h : SlZ R k Z w (some ⟨b, o, none⟩) l) (n : Nat) : SlZ R k Z w (some ⟨b, o + n * k, none⟩) (l.drop n) := fun hn => by
  obtain ⟨b', o', he, hz, hlt, hc⟩ := h (by rintro rfl; simp at hn)
  simp only [Option.some.injEq, Addr.mk.injEq, and_true] at he
  obtain ⟨rfl, rfl⟩ := he
  refine ⟨b, _, rfl, hz, hlt, fun j a hj => ?_⟩
  rw [List.getElem?_drop] at hj
  obtain ⟨cs, hl, hr, hcs⟩ := hc _ a hj
  refine ⟨cs, hl, hr, fun i u hu => ?_⟩
  rw [← hcs i u hu]
  congr 2
  rw [Nat.add_mul]
  omega
end
section
variable {α : Type} {p : List Value → α → Prop} {k B : Nat} {Z : Nat → Prop} {w w' : World} {A : Option Addr} {l : List α}
/-- To the words without a set. -/
theorem SlZ.sl (h : SlZ (pz p) k Z w A l) : Sl (plR p) k w.heap.size w A l := fun hn => by
  obtain ⟨b, o, rfl, _, hlt, hc⟩ := h hn
  exact ⟨b, o, rfl, hlt, fun j a hj => hc j a hj⟩
theorem Sl.slz (h : Sl (plR p) k B w A l) (hB : B ≤ w.heap.size) (hZ : ∀ k, k < B → Z k) : SlZ (pz p) k Z w A l := fun hn => by
  obtain ⟨b, o, rfl, hlt, hc⟩ := h hn
  exact ⟨b, o, rfl, hZ b hlt, Nat.lt_of_lt_of_le hlt hB, fun j a hj => hc j a hj⟩
theorem Sl.slzW (h : Sl (plR p) k w.heap.size w A l) : SlZ (pz p) k (fun k => k < w.heap.size) w A l := h.slz (Nat.le_refl _) fun _ h => h
/-- A row of the call's own. -/
theorem Own.slz {e : TypeId} {base : Nat} {v : Value} (h : Own (plR p) k e base B w v l) (hZ : ∀ k, base ≤ k → Z k) :
    ∃ A c, v = .slice A l.length c ∧ l.length ≤ c ∧ c ≤ maxLen ∧ SlZ (pz p) k Z w A l := by
  obtain ⟨A, c, xs, rfl, hc, hm, hr, hcs, hA⟩ := h.rdc
  refine ⟨A, c, rfl, hc, hm, fun hn => ?_⟩
  obtain ⟨b, o, rfl, hcell⟩ := hr.2 (List.length_pos_iff.2 hn)
  obtain ⟨g, hg, hb, hlt⟩ : ∃ g, some (⟨b, o, none⟩ : Addr) = some ⟨g, 0, none⟩ ∧ base ≤ g ∧ g < w.heap.size := by
    rcases hA with hA | h
    · cases hA
    · exact h
  simp only [Option.some.injEq, Addr.mk.injEq, and_true] at hg
  obtain ⟨rfl, rfl⟩ := hg
  refine ⟨b, 0, rfl, hZ b hb, hlt, fun j a hj => ⟨_, ?_, hcs.2 j a hj, fun i u hu => ?_⟩⟩
  · have hjl : j < l.length := (List.getElem?_eq_some_iff.1 hj).1
    have : (j + 1) * k ≤ l.length * k := Nat.mul_le_mul_right k hjl
    rw [Nat.add_mul, ← hcs.1] at this
    simp only [List.length_take, List.length_drop]
    omega
  · rw [List.getElem?_take] at hu
    split at hu
    · rw [List.getElem?_drop] at hu
      rw [Nat.add_assoc]
      exact hcell _ u hu
    · cases hu
end
theorem SlZ.bsl {k : Nat} {Z : Nat → Prop} {w : World} {A : Option Addr} {l : List UInt8} (h : SlZ byteZ k Z w A l) : Sl byteR k w.heap.size w A l := h.sl
theorem SlZ.ssl {k : Nat} {Z : Nat → Prop} {w : World} {A : Option Addr} {l : List ByteArray} (h : SlZ strZ k Z w A l) : Sl strR k w.heap.size w A l := h.sl
/-- A block that was just made. -/
theorem range_new {w : World} {cs : List Value} {t : TypeId} {b : Nat} (hb : b = w.heap.size) : (w.alloc (.cells cs.toArray t)).rangeAt b 0 cs := fun j v h => by
  subst hb
  rw [Nat.zero_add, World.cell?_alloc_new]
  simpa using h
/-- A block as it stands in the heap. -/
theorem range_block {w : World} {cs : List Value} {t : TypeId} {b : Nat} {fr : Nat × Nat} (h : w.heap[b]? = some (.cells cs.toArray t fr)) : w.rangeAt b 0 cs := fun j v hj => by
  rw [Nat.zero_add, cell_of_row w b j _ t fr h]
  simpa using hj
theorem Agree.range {Z : Nat → Prop} {w w' : World} (h : Agree Z w w') {b o : Nat} {cs : List Value} (hb : b < w.heap.size) (hz : Z b) (hr : w.rangeAt b o cs) : w'.rangeAt b o cs := fun j v hj =>
  (h.cell (p := ⟨b, o + j, none⟩) hb hz).trans (hr j v hj)
end Go.Proofs.Ytcafahcmalfepaa
/-
  Library functions on bytes: slices.Clone, slices.Grow of nothing, slices.Concat.
-/
namespace Go.Proofs.Ytcafahcmalfepaa
open Go.RowKit
theorem own_grown {α : Type} {R : Rep α} {e : TypeId} (w : World) (cur : Array Value) (cap : Nat) (hc : cur.size = cap * 1) (hm : cap ≤ maxLen) :
    Own R 1 e w.heap.size 0 (w.alloc (.cells cur e)) (.slice (some ⟨w.heap.size, 0, none⟩) 0 cap) ([] : List α) :=
  ⟨[], World.ownsRow_made w cur cap (Nat.le_refl _) hm hc, Cs.nil⟩
set_option maxHeartbeats 400000 in
set_option maxRecDepth 20000 in
theorem grow_any (n : Nat) (hn : n ≤ 4000000) (w : World) :
    Calls Try.prog 75 #[.slice none 0 0, .int .i64 n] w fun e w' => ∃ v, e = .returned v ∧ Own byteR 1 5 w.heap.size 0 w' v [] ∧ Below w.heap.size w w' := by
  obtain ⟨i, hi, hz, hs, hb⟩ := info_parts (P := Try.prog) (e := 5) (z := .int .u8 0) (size := 1) (bytes := 1) (by kernel_rfl)
  rcases Nat.eq_zero_or_pos n with rfl | hp
  · go_enter Try.func75, Try.ntmps75
    go_wp2
    go_ret
    exact ⟨_, rfl, Own.nil _, Below.refl _ _⟩
  · have hp' : (0 : Int) < n := by omega
    go_enter Try.func75, Try.ntmps75
    go_wp2_with (at_builtin; refine Lib.wpList_append_run _ rfl (.tmp 20) (.tmp 21) _ _ rfl _ _ rfl rfl _ _ (Lib.run_append_nil_zeros _ 22 3 22 5 i (.int .u8 0) .i64 .i64 Try.underlying22 Try.underlying3 hi hz n hp (by omega) (by omega) (by rw [hb]; omega)) ?_)
    go_ret
    refine ⟨_, rfl, Own.drew (own_grown w _ _ ?_ (grownCap_le_maxLen _ _ _ _ (by unfold maxLen; omega))), ((Below.refl _ _).alloc (Nat.le_refl _) _).drew⟩
    have := grownCap_ge w n 0 5
    simp [Builtin.zeroCells]
    omega
set_option maxHeartbeats 400000 in
theorem clone_any (A : Option Addr) (b : Bytes) (n c : Nat) (hm : b.length = n) (hb : n ≤ 1000000) (w : World) (hs : Sl byteR 1 w.heap.size w A b) :
    Calls Try.prog 79 #[.slice A n c] w (RetB w b) := by
  have hq := fun (W : World) (a : Option Addr) (k c : Nat) => Lib.run_eql_slice_nil (P := Try.prog) W 22 5 a k c 0 0 Try.underlying22
  cases A with
  | none =>
    have hb0 : b = [] := by
      apply Classical.byContradiction; intro hn
      obtain ⟨_, _, h, _⟩ := hs hn
      cases h
    subst hb0
    obtain rfl : 0 = n := hm
    go_enter Try.func79, Try.ntmps79
    go_wp2
    go_ret
    exact ⟨_, rfl, Own.nil _, Below.refl _ _⟩
  | some ad =>
    have hl1 : (([] : Bytes).length + b.length) * 1 ≤ 140737488355328 := by simp; omega
    have hl2 : ([] : Bytes).length + b.length ≤ maxLen := by simp [maxLen]; omega
    have HS := hid hs; have HM := hid hm; have HL1 := hid hl1; have HL2 := hid hl2; clear hs hl1 hl2 hm
    go_enter Try.func79, Try.ntmps79
    go_wp2_with (at_builtin; refine wpl_app0 (W := w) (R := byteR) (B := 0) rfl (.tmp 5) (.tmp 6) _ rfl tabB _ [] b rfl (Own.made w (Nat.le_refl _)) (Nat.zero_le _) (below_new _ _) (some ad) n c (b.map byteV) rfl HM.out ((sl_bytes HS.out HM.out).alloc _) (cs_map _ _ _) (bytes_oneCell _) HL1.out HL2.out ?_; intro v0 w0 hown0 hbl0 _)
    go_ret
    exact ⟨_, rfl, hown0, hbl0⟩
theorem cs_row {B n : Nat} {w : World} {A : Option Addr} {l : Bytes} {c : Nat} (h : Sl byteR 1 B w A l) (hn : l.length = n) (g : n ≤ c) (m : c ≤ maxLen) : Cs (slR byteR 1) 1 B w [.slice A n c] [l] := by subst hn; exact Cs.one rfl ⟨A, c, rfl, g, m, h⟩
/-- A row that was just made. -/
theorem sl_made {α : Type} {R : Rep α} {B q : Nat} {w : World} {cs : List Value} {t : TypeId} {l : List α} (h : Cs R 1 B w cs l) (hB : B ≤ w.heap.size) (hq : q = w.heap.size) : Sl R 1 (w.alloc (.cells cs.toArray t)).heap.size (w.alloc (.cells cs.toArray t)) (some ⟨q, 0, none⟩) l := by
  subst hq
  have h' := h.below ((Below.refl B w).alloc hB (.cells cs.toArray t))
  refine RdC.sl (xs := cs) ⟨h.1, fun _ => ⟨_, _, rfl, fun j u hu => ?_⟩⟩ (h'.mono (by simp; omega)) (by rintro b o h; cases h; simp)
  rw [Nat.zero_add, World.cell?_alloc_new]
  simpa using hu
theorem rows2 {B q : Nat} {w : World} {A1 A2 : Option Addr} {l1 l2 : Bytes} {c1 c2 n1 n2 : Nat} (t : TypeId) (h1 : Sl byteR 1 B w A1 l1) (e1 : l1.length = n1) (g1 : n1 ≤ c1) (m1 : c1 ≤ maxLen) (h2 : Sl byteR 1 B w A2 l2) (e2 : l2.length = n2) (g2 : n2 ≤ c2) (m2 : c2 ≤ maxLen) (hB : B ≤ w.heap.size) (hq : q = w.heap.size) :
    Sl (slR byteR 1) 1 (w.alloc (.cells #[.slice A1 n1 c1, .slice A2 n2 c2] t)).heap.size (w.alloc (.cells #[.slice A1 n1 c1, .slice A2 n2 c2] t)) (some ⟨q, 0, none⟩) [l1, l2] :=
  sl_made ((cs_row h1 e1 g1 m1).append (cs_row h2 e2 g2 m2)) hB hq
theorem rows3 {B q : Nat} {w : World} {A1 A2 A3 : Option Addr} {l1 l2 l3 : Bytes} {c1 c2 c3 n1 n2 n3 : Nat} (t : TypeId) (h1 : Sl byteR 1 B w A1 l1) (e1 : l1.length = n1) (g1 : n1 ≤ c1) (m1 : c1 ≤ maxLen) (h2 : Sl byteR 1 B w A2 l2) (e2 : l2.length = n2) (g2 : n2 ≤ c2) (m2 : c2 ≤ maxLen) (h3 : Sl byteR 1 B w A3 l3) (e3 : l3.length = n3) (g3 : n3 ≤ c3) (m3 : c3 ≤ maxLen) (hB : B ≤ w.heap.size) (hq : q = w.heap.size) :
    Sl (slR byteR 1) 1 (w.alloc (.cells #[.slice A1 n1 c1, .slice A2 n2 c2, .slice A3 n3 c3] t)).heap.size (w.alloc (.cells #[.slice A1 n1 c1, .slice A2 n2 c2, .slice A3 n3 c3] t)) (some ⟨q, 0, none⟩) [l1, l2, l3] :=
  sl_made ((cs_row h1 e1 g1 m1).append ((cs_row h2 e2 g2 m2).append (cs_row h3 e3 g3 m3))) hB hq
/-- How many bytes rows have together. -/
def flen (L : List Bytes) : Nat := L.flatten.length
theorem flen_succ (L : List Bytes) (k : Nat) (x : Bytes) (h : L[k]? = some x) : (L.take (k + 1)).flatten = (L.take k).flatten ++ x := by
  rw [List.take_add_one, h]; simp
theorem flen_take (L : List Bytes) (k : Nat) : (L.take k).flatten.length ≤ L.flatten.length := by
  conv => rhs; rw [← List.take_append_drop k L]
  rw [List.flatten_append, List.length_append]
  omega
set_option maxHeartbeats 1000000 in
theorem concat_any (A : Option Addr) (L : List Bytes) (n c : Nat) (hL : L.length = n) (hn : n ≤ 1000000) (ht : L.flatten.length ≤ 3000000) (w : World) (hs : Sl (slR byteR 1) 1 w.heap.size w A L) :
    Calls Try.prog 52 #[.slice A n c] w (RetB w L.flatten) := by
  have HS := hid hs; have HL := hid hL; have HT := hid ht; clear hs hL ht
  have hn' : (n : Int) ≤ 1000000 := by omega
  go_enter Try.func52, Try.ntmps52
  go_wp2_with fail
  go_loop [3, 11] (fun s i => ∃ k : Nat, k ≤ n ∧ i = .int .i64 k ∧ s = .int .i64 (flen (L.take k) : Nat) ∧ flen (L.take k) ≤ 3000000) (fun _ i => n - (intOf i).toNat)
  case atStart => exact ⟨0, Nat.zero_le _, rfl, by simp [flen], by simp [flen]⟩
  case round =>
    obtain ⟨k, hk, rfl, rfl, hm⟩ := hrel
    by_cases hlt : k < n
    · obtain ⟨x, hx⟩ : ∃ x, L[k]? = some x := ⟨_, List.getElem?_eq_getElem (by rw [HL.out]; exact hlt)⟩
      obtain ⟨b, o, v, rfl, hb, ⟨A', c', hv, hc1, hc2, hsx⟩, hcell⟩ := HS.out.get1 hx
      simp only [List.cons.injEq, and_true] at hv
      subst hv
      have e1 := flen_succ L k x hx
      have e2 : flen (L.take (k + 1)) = flen (L.take k) + x.length := by rw [flen, e1, List.length_append]; rfl
      have e3 : flen (L.take (k + 1)) ≤ flen L := flen_take L (k + 1)
      rw [e2] at e3
      have e4 : flen (L.take k) + x.length ≤ 3000000 := by have : flen L ≤ 3000000 := HT.out; omega
      have e5 : (flen (L.take k) : Int) + x.length ≤ 3000000 := by omega
      have E2 := hid e2; have E1 := hid e1; clear e1 e2 e3 hx hsx
      generalize flen (L.take k) = T at *
      go_wp2_with fail
      go_round
      case rel => exact ⟨k + 1, by omega, by go_num, by rw [E2.out]; go_num, by rw [E2.out]; exact e4⟩
      case measure => simp [intOf]; omega
    · obtain rfl : k = n := by omega
      rw [List.take_of_length_le (by rw [HL.out]; omega)] at *
      clear hlt
      go_wp2_with fail
      refine (grow_any (flen L) (by omega) _).mono ?_; rintro e w1 ⟨v, rfl, hown, hbl⟩
      have HO := hid hown; clear hown hm
      go_wp2_with fail
      go_loopw [6, 27] (fun v i wr => ∃ q : Nat, q ≤ k ∧ i = .int .i64 q ∧ Own byteR 1 5 w.heap.size 0 wr v (L.take q).flatten ∧ Below w.heap.size w wr)
        (fun _ i _ => k - (intOf i).toNat)
      case atStart => exact ⟨0, Nat.zero_le _, rfl, by simpa using HO.out, hbl⟩
      case round =>
        obtain ⟨q, hq, rfl, hown, hbr⟩ := hrel
        have HO2 := hid hown; clear hown
        by_cases hlt : q < k
        · obtain ⟨x, hx⟩ : ∃ x, L[q]? = some x := ⟨_, List.getElem?_eq_getElem (by rw [HL.out]; exact hlt)⟩
          obtain ⟨b, o, v', rfl, hb, ⟨A', c', hv, hc1, hc2, hsx⟩, hcell⟩ := HS.out.get1 hx
          simp only [List.cons.injEq, and_true] at hv
          subst hv
          have hcell := (hbr.cell (p := ⟨b, o + q, none⟩) hb).trans hcell
          have e1 := flen_succ L q x hx
          have e3 := flen_take L (q + 1)
          rw [e1, List.length_append] at e3
          have hl1 : ((L.take q).flatten.length + x.length) * 1 ≤ 140737488355328 := by have := HT.out; omega
          have hl2 : (L.take q).flatten.length + x.length ≤ maxLen := by have := HT.out; unfold maxLen; omega
          have HX := hid (sl_bytes (hsx.below hbr) rfl)
          have HL1 := hid hl1; have HL2 := hid hl2; have E1 := hid e1; clear hl1 hl2 e1 e3 hx hsx
          generalize (L.take q).flatten = T at *
          go_wp2_with (at_builtin; refine wpl_app0 (W := w) (R := byteR) (B := 0) rfl (.tmp 31) (.tmp 32) _ rfl tabB _ T x rfl HO2.out (Nat.zero_le _) hbr A' x.length c' (x.map byteV) rfl rfl HX.out (cs_map _ _ _) (bytes_oneCell _) HL1.out HL2.out ?_; intro v2 w2 hown2 hbl2 _)
          have HO3 := hid hown2; clear hown2
          go_roundw
          case rel => exact ⟨q + 1, by omega, by go_num, by rw [E1.out]; exact HO3.out, hbl2⟩
          case measure => simp [intOf]; omega
        · obtain rfl : q = k := by omega
          rw [List.take_of_length_le (by rw [HL.out]; omega)] at *
          go_wp2_with fail
          go_ret
          exact ⟨_, rfl, HO2.out, hbr⟩
end Go.Proofs.Ytcafahcmalfepaa
/-
  A disk, as data: what each act makes of it. Plain; no program.
-/
namespace Go.Proofs.Ytcafahcmalfepaa
structure DD where
  cap : Int
  safe : Bytes
  loose : Bytes
  down : Bool
  fuse : Int
def rightB (d : DD) : Bool := decide (0 ≤ d.cap ∧ d.cap ≤ 1000000 ∧ ((d.safe.length + d.loose.length : Nat) : Int) ≤ d.cap)
def shortB (d : DD) : Bool := decide (d.safe.length ≤ 2000 ∧ d.loose.length ≤ 2000)
def sameB (a b : DD) : Bool := decide (a.cap = b.cap ∧ a.down = b.down ∧ max a.fuse (-1) = max b.fuse (-1) ∧ a.safe = b.safe ∧ a.loose = b.loose)
def newD (n : Int) : DD × Int := if n < 0 ∨ 1000000 < n then (⟨0, [], [], false, 0⟩, 1) else (⟨n, [], [], false, -1⟩, 0)
def actS (d : DD) : DD × Int := if d.down = true then (d, 11) else if d.fuse = 0 then (⟨d.cap, d.safe, d.loose, true, 0⟩, 11) else if 0 < d.fuse then (⟨d.cap, d.safe, d.loose, false, d.fuse - 1⟩, 0) else (d, 0)
def doS (d : DD) (long : Int) (f : DD → DD) : DD × Int := if (actS d).2 = 0 then (if d.cap < long then ((actS d).1, 9) else (f (actS d).1, 0)) else actS d
def addS (b : Bytes) (x : DD) : DD := ⟨x.cap, x.safe, x.loose ++ b, x.down, x.fuse⟩
def allS (x : DD) : DD := ⟨x.cap, x.safe ++ x.loose, [], x.down, x.fuse⟩
def otherS (b : Bytes) (x : DD) : DD := ⟨x.cap, b, [], x.down, x.fuse⟩
def longS (d : DD) : Nat := d.safe.length + d.loose.length
def writeS (d : DD) (b : Bytes) : DD × Int := doS d (longS d + b.length : Nat) (addS b)
def syncS (d : DD) : DD × Int := doS d (longS d : Nat) allS
def replaceS (d : DD) (b : Bytes) : DD × Int := doS d (b.length : Nat) (otherS b)
def readS (d : DD) : Bytes × Int := if d.down = true then ([], 11) else (d.safe ++ d.loose, 0)
def blowS (d : DD) (n : Int) : DD := if d.down = true then d else ⟨d.cap, d.safe, d.loose, d.down, n⟩
def keepN (n : Int) (k : Nat) : Nat := (min (max n 0) k).toNat
def crashS (d : DD) (n : Int) : DD := ⟨d.cap, d.safe ++ d.loose.take (keepN n d.loose.length), [], false, -1⟩
theorem sameB_refl (a : DD) : sameB a a = true := by simp [sameB]
theorem sameB_of {a b : DD} (h : a = b) : sameB a b = true := h ▸ sameB_refl a
end Go.Proofs.Ytcafahcmalfepaa
/-
  Package disk and the document's, told by their shadows.
-/
namespace Go.Proofs.Ytcafahcmalfepaa
open Go.RowKit
theorem TRel.one {c : Cx} {vs : Array Value} {x : AV} (h : TRel c vs [x]) : ∃ v, vs = #[v] ∧ RV c v x := by
  obtain ⟨h1, h2⟩ := h
  obtain ⟨vs⟩ := vs
  match vs, h1 with
  | [v], _ => exact ⟨v, rfl, h2 0 v x rfl rfl⟩
/-- A row of bytes that a call returns, whatever its block. -/
theorem bytes_pure {P : Program} {f : FuncId} {args : List AV} {b : Bytes} (hfn : Callable P f)
    (h : ∀ (c : Cx) (vs : Array Value), c.h = [] → RelH c → TRel c vs args → Calls P f vs c.w fun e w' => ∃ v t, e = .returned v ∧ Own byteR 1 t c.w.heap.size 0 w' v b ∧ Below c.w.heap.size c.w w') : ASpec P f args (bytesA b) := by
  by_cases hne : 0 < b.length
  · exact (own_spec hne hfn h).spec
  · obtain rfl : b = [] := by cases b with | nil => rfl | cons x l => simp at hne
    refine ⟨hfn, fun c vs hh hc ht => (h c vs hh hc ht).mono ?_⟩
    rintro e w' ⟨v, t, rfl, ⟨xs, ⟨hxl, how⟩, hxs⟩, hb⟩
    obtain ⟨g1, g2⟩ := Below.ev hc hh hb
    have hsl : ∃ A cap, v = .slice A 0 cap ∧ cap ≤ maxLen := by
      rcases how with ⟨rfl, hx0⟩ | ⟨g, cap, cur, rfl, hg, hcell, hn, hm, hcs, htake⟩
      · exact ⟨none, 0, rfl, Nat.zero_le _⟩
      · exact ⟨_, cap, rfl, hm⟩
    obtain ⟨A, cap, rfl, hm⟩ := hsl
    exact ⟨_, c.ρ, bytesA [], [], rfl, g1, g2, .sl 1 [] .no A 0 cap 0 0 (fun _ _ => undef) rfl (Nat.zero_le _) hm (fun h => absurd rfl h) (fun j e h => by simp at h) (fun j e i a h => by simp at h) (fun j e i a h => by simp at h) trivial, .one (.refl _)⟩
theorem concat_spec (L : List Bytes) (hn : L.length ≤ 1000000) (ht : L.flatten.length ≤ 3000000) : ASpec Try.prog 52 [.sl 1 (L.map rowC) .no] (bytesA L.flatten) := by
  refine bytes_pure ⟨_, Try.func52, by kernel_rfl, rfl⟩ fun c vs hh hc hr => ?_
  obtain ⟨v, rfl, hv⟩ := hr.one
  obtain ⟨A, cap, rfl, h1, h2, hs⟩ := hv.rows
  refine (concat_any A L L.length cap rfl hn ht c.w hs).mono ?_
  rintro e w' ⟨v, rfl, h, hb⟩
  exact ⟨v, _, rfl, h, hb⟩
def encD (d : DD) : AV := .agg [.int .i64 d.cap, bytesA d.safe, bytesA d.loose, .bool d.down, .int .i64 d.fuse]
def encDE (x : DD × Int) : AV := .tup [encD x.1, .int .i64 x.2]
/-- Its bytes are not so many. -/
def smD (d : DD) : Prop := d.safe.length ≤ 1000000 ∧ d.loose.length ≤ 1000000 ∧ I64 d.fuse
theorem plain16_spec (d : DD) : ASpec Try.prog 28 [encD d] (encD d) := by
  refine ⟨⟨_, Try.func28, by kernel_rfl, rfl⟩, ACall.of Try.func28 rfl fun c0 hc0 => ?_⟩; simp only [Try.ntmps28, List.length_cons, List.length_nil, Nat.reduceAdd, Nat.reduceSub, List.replicate_succ, List.replicate_zero, List.cons_append, List.nil_append]; refine Run.god tab_ok follows_ok Try.func28 60 ?_; simp only [Try.results28, encD, bytesA, drun, aops, aone, afin, ares, aresL, ares1, aresOk, aresOk1, aop, needs, ext, aev, aconst, aput, aupd, aload, astore, afieldAddr, abuild, tab_3, tab_4, tab_22, tab_42, tab_44, ok1, lay, cellsAs, TI.agg, AV.cells, AV.whole, Option.getD_some, Option.bind_some, Option.map_some, List.set_cons_zero, List.set_cons_succ, List.length_cons, List.length_nil, List.getElem?_cons_zero, List.getElem?_cons_succ, List.drop_zero, List.drop_succ_cons, List.take_succ_cons, List.take_zero, List.take_nil, List.drop_nil, List.map_cons, List.map_nil, List.cons_append, List.nil_append, List.append_nil, true_and, and_true, if_true, if_false, Nat.reduceAdd, Nat.reduceLeDiff, Nat.zero_add, Nat.add_zero, Nat.reduceLeDiff, Nat.le_refl, List.getD_eq_getElem?_getD, Bool.false_eq_true]
  (repeat' (first | exact LeL.nil | exact Le1L.nil | exact Le.refl _ | exact Le1.refl _ | exact Le1.nil _ | exact Le1.tok _ _ _ | exact LeR.one (Le.refl _) | apply LeR.tup | apply LeL.cons | apply Le1L.cons | apply Le.agg | apply Le.one | apply LeR.one))
theorem joined_spec (a b : Bytes) (ha : a.length ≤ 1000000) (hb : b.length ≤ 1000000) : OSpec Try.prog 81 [bytesA a, bytesA b] 1 ((a ++ b).map byteC) := by
  refine ⟨⟨_, Try.func81, by kernel_rfl, rfl⟩, ACall.of Try.func81 rfl fun c0 hc0 => ?_⟩; simp only [Try.ntmps81, List.length_cons, List.length_nil, Nat.reduceAdd, Nat.reduceSub, List.replicate_succ, List.replicate_zero, List.cons_append, List.nil_append]; refine Run.god tab_ok follows_ok Try.func81 60 ?_; simp only [Try.results81, bytesA, aappendM, drun, aops, aone, afin, ares, aresL, ares1, aresOk, aresOk1, aop, needs, ext, aev, aconst, aput, aupd, aelems, plains, asrc, aappend, tab_5, tab_22, ok1, Option.getD_some, Option.bind_some, Option.map_some, List.set_cons_zero, List.set_cons_succ, List.length_nil, List.getElem?_cons_zero, List.getElem?_cons_succ, List.getElem?_toArray, List.map_nil, List.length_map, List.cons_append, List.nil_append, List.all_nil, List.replicate_zero, true_and, and_true, if_true, if_false, Nat.reduceLeDiff, Nat.reduceMul, Nat.zero_add, beq_self_eq_true, Bool.and_true, Nat.reduceLT, Nat.reduceLeDiff, List.getD_eq_getElem?_getD, Bool.false_eq_true]
  refine ⟨by omega, by omega, 0, by rw [List.map_append], by simp⟩
theorem rright_spec (d : DD) (hs : smD d) : ASpec Try.prog 27 [encD d] (.bool (rightB d)) := by
  obtain ⟨h1, h2, h3⟩ := hs
  have hb : rightB d = (decide (0 ≤ d.cap) && decide (d.cap ≤ 1000000) && decide ((d.safe.length : Int) + d.loose.length ≤ d.cap)) := by
    unfold rightB; rw [Bool.eq_iff_iff]; simp; omega
  rw [hb]
  by_cases h : 0 ≤ d.cap
  · by_cases h' : d.cap ≤ 1000000
    · refine ⟨⟨_, Try.func27, by kernel_rfl, rfl⟩, ACall.of Try.func27 rfl fun c0 hc0 => ?_⟩; simp only [Try.ntmps27, List.length_cons, List.length_nil, Nat.reduceAdd, Nat.reduceSub, List.replicate_succ, List.replicate_zero, List.cons_append, List.nil_append]; refine Run.god tab_ok follows_ok Try.func27 60 ?_; simp only [Try.results27, encD, bytesA, h, h', ↓alts_t, ↓gone_tt, gslot, drun, aops, aone, afin, ares, aresL, ares1, aresOk, aresOk1, aop, needs, ext, aev, aconst, aput, aupd, aload, afieldAddr, acmp, aarith, ashift, abin, alen, tab_3, tab_22, tab_44, ok1, cellsAs, TI.agg, AV.cells, AV.whole, Option.getD_some, Option.bind_some, Option.map_some, List.set_cons_zero, List.set_cons_succ, List.length_cons, List.length_nil, List.getElem?_cons_zero, List.getElem?_cons_succ, List.getElem?_toArray, List.drop_zero, List.drop_succ_cons, List.take_succ_cons, List.take_zero, List.length_map, List.cons_append, List.nil_append, true_and, and_true, if_true, if_false, Nat.reduceAdd, Nat.reduceLeDiff, Nat.zero_add, Nat.add_zero, Bool.and_self, Bool.true_and, decide_true, Nat.reduceLeDiff, List.getD_eq_getElem?_getD, Bool.false_eq_true]
      refine ⟨by unfold I64; omega, by (repeat' (first | exact LeL.nil | exact Le1L.nil | exact Le.refl _ | exact Le1.refl _ | exact Le1.nil _ | exact Le1.tok _ _ _ | exact LeR.one (Le.refl _) | apply LeR.tup | apply LeL.cons | apply Le1L.cons | apply Le.agg | apply Le.one | apply LeR.one))⟩
    · refine ⟨⟨_, Try.func27, by kernel_rfl, rfl⟩, ACall.of Try.func27 rfl fun c0 hc0 => ?_⟩; simp only [Try.ntmps27, List.length_cons, List.length_nil, Nat.reduceAdd, Nat.reduceSub, List.replicate_succ, List.replicate_zero, List.cons_append, List.nil_append]; refine Run.god tab_ok follows_ok Try.func27 60 ?_; simp only [Try.results27, encD, bytesA, h, h', ↓alts_t, ↓alts_f, ↓gone_tt, ↓gone_tf, gslot, drun, aops, aone, afin, ares, aresL, ares1, aresOk, aresOk1, aop, needs, ext, aev, aconst, aput, aupd, aload, afieldAddr, acmp, ashift, abin, tab_3, tab_44, ok1, cellsAs, TI.agg, AV.cells, AV.whole, Option.getD_some, Option.bind_some, Option.map_some, List.set_cons_zero, List.set_cons_succ, List.length_cons, List.length_nil, List.getElem?_cons_zero, List.getElem?_cons_succ, List.getElem?_toArray, List.drop_zero, List.take_succ_cons, List.take_zero, List.cons_append, List.nil_append, true_and, and_true, if_true, if_false, Nat.reduceAdd, Nat.reduceLeDiff, Nat.zero_add, Nat.add_zero, Bool.and_false, Bool.false_and, decide_true, decide_false, Nat.reduceLeDiff, List.getD_eq_getElem?_getD, Bool.false_eq_true]
      (repeat' (first | exact LeL.nil | exact Le1L.nil | exact Le.refl _ | exact Le1.refl _ | exact Le1.nil _ | exact Le1.tok _ _ _ | exact LeR.one (Le.refl _) | apply LeR.tup | apply LeL.cons | apply Le1L.cons | apply Le.agg | apply Le.one | apply LeR.one))
  · refine ⟨⟨_, Try.func27, by kernel_rfl, rfl⟩, ACall.of Try.func27 rfl fun c0 hc0 => ?_⟩; simp only [Try.ntmps27, List.length_cons, List.length_nil, Nat.reduceAdd, Nat.reduceSub, List.replicate_succ, List.replicate_zero, List.cons_append, List.nil_append]; refine Run.god tab_ok follows_ok Try.func27 60 ?_; simp only [Try.results27, encD, bytesA, h, ↓alts_f, ↓gone_tf, gslot, drun, aops, aone, afin, ares, aresL, ares1, aresOk, aresOk1, aop, needs, ext, aev, aconst, aput, aupd, aload, afieldAddr, acmp, ashift, abin, tab_3, tab_44, ok1, cellsAs, TI.agg, AV.cells, AV.whole, Option.getD_some, Option.bind_some, Option.map_some, List.set_cons_zero, List.set_cons_succ, List.length_cons, List.length_nil, List.getElem?_cons_zero, List.getElem?_cons_succ, List.getElem?_toArray, List.drop_zero, List.take_succ_cons, List.take_zero, List.cons_append, List.nil_append, true_and, and_true, if_true, if_false, Nat.reduceAdd, Nat.reduceLeDiff, Nat.zero_add, Nat.add_zero, Bool.false_and, decide_false, Nat.reduceLeDiff, List.getD_eq_getElem?_getD, Bool.false_eq_true]
    (repeat' (first | exact LeL.nil | exact Le1L.nil | exact Le.refl _ | exact Le1.refl _ | exact Le1.nil _ | exact Le1.tok _ _ _ | exact LeR.one (Le.refl _) | apply LeR.tup | apply LeL.cons | apply Le1L.cons | apply Le.agg | apply Le.one | apply LeR.one))
theorem act_form (d : DD) : ∃ dn fu z, actS d = (⟨d.cap, d.safe, d.loose, dn, fu⟩, z) ∧ (z = 11 ∨ z = 0 ∧ dn = false) := by
  obtain ⟨ca, sa, lo, dn, fu⟩ := d
  unfold actS
  dsimp only
  by_cases h : dn = true
  · exact ⟨dn, fu, 11, by simp [h], .inl rfl⟩
  · by_cases hf : fu = 0
    · exact ⟨true, 0, 11, by simp [h, hf], .inl rfl⟩
    · by_cases hp : 0 < fu
      · exact ⟨false, fu - 1, 0, by simp [h, hf, hp], .inr ⟨rfl, rfl⟩⟩
      · exact ⟨dn, fu, 0, by simp [h, hf, hp], .inr ⟨rfl, by simpa using h⟩⟩
theorem ract_spec (d : DD) (hs : smD d) : ASpec Try.prog 80 [encD d] (encDE (actS d)) := by
  obtain ⟨h1, h2, h3⟩ := hs
  refine ⟨⟨_, Try.func80, by kernel_rfl, rfl⟩, ACall.of Try.func80 rfl fun c0 hc0 => ?_⟩; simp only [Try.ntmps80, List.length_cons, List.length_nil, Nat.reduceAdd, Nat.reduceSub, List.replicate_succ, List.replicate_zero, List.cons_append, List.nil_append]; refine Run.god tab_ok follows_ok Try.func80 60 ?_; simp only [Try.results80, encD, encDE, bytesA, alt, drun, aops, aone, afin, ares, aresL, ares1, aresOk, aresOk1, aop, needs, ext, aev, aconst, aput, aupd, aload, astore, afieldAddr, acmp, aarith, ashift, abin, tab_3, tab_4, tab_44, ok1, lay, cellsAs, TI.agg, AV.cells, AV.whole, Option.getD_some, Option.bind_some, Option.map_some, List.set_cons_zero, List.set_cons_succ, List.length_cons, List.length_nil, List.getElem?_cons_zero, List.getElem?_cons_succ, List.drop_zero, List.drop_succ_cons, List.take_succ_cons, List.take_zero, List.take_nil, List.drop_nil, List.cons_append, List.nil_append, List.append_nil, true_and, and_true, if_true, if_false, Nat.reduceAdd, Nat.reduceLeDiff, Nat.zero_add, decide_eq_true_eq, decide_eq_false_iff_not, Nat.reduceLeDiff, Nat.le_refl, List.getD_eq_getElem?_getD, Bool.false_eq_true]
  refine ⟨fun h => ?_, fun h => ⟨fun hf => ?_, fun hf => ⟨fun hp => ⟨?_, ?_⟩, fun hp => ?_⟩⟩⟩
  · simp only [actS, h, if_true]; (repeat' (first | exact LeL.nil | exact Le1L.nil | exact Le.refl _ | exact Le1.refl _ | exact Le1.nil _ | exact Le1.tok _ _ _ | exact LeR.one (Le.refl _) | apply LeR.tup | apply LeL.cons | apply Le1L.cons | apply Le.agg | apply Le.one | apply LeR.one))
  · simp only [actS, h, hf, if_true, if_false, reduceCtorEq]; (repeat' (first | exact LeL.nil | exact Le1L.nil | exact Le.refl _ | exact Le1.refl _ | exact Le1.nil _ | exact Le1.tok _ _ _ | exact LeR.one (Le.refl _) | apply LeR.tup | apply LeL.cons | apply Le1L.cons | apply Le.agg | apply Le.one | apply LeR.one))
  · unfold I64 at *; omega
  · simp only [actS, h, hf, hp, if_true, if_false, reduceCtorEq]; (repeat' (first | exact LeL.nil | exact Le1L.nil | exact Le.refl _ | exact Le1.refl _ | exact Le1.nil _ | exact Le1.tok _ _ _ | exact LeR.one (Le.refl _) | apply LeR.tup | apply LeL.cons | apply Le1L.cons | apply Le.agg | apply Le.one | apply LeR.one))
  · simp only [actS, h, hf, hp, if_false, reduceCtorEq]; (repeat' (first | exact LeL.nil | exact Le1L.nil | exact Le.refl _ | exact Le1.refl _ | exact Le1.nil _ | exact Le1.tok _ _ _ | exact LeR.one (Le.refl _) | apply LeR.tup | apply LeL.cons | apply Le1L.cons | apply Le.agg | apply Le.one | apply LeR.one))
theorem rblow_spec (d : DD) (n : Int) : ASpec Try.prog 73 [encD d, .int .i64 n] (encD (blowS d n)) := by
  refine ⟨⟨_, Try.func73, by kernel_rfl, rfl⟩, ACall.of Try.func73 rfl fun c0 hc0 => ?_⟩; simp only [Try.ntmps73, List.length_cons, List.length_nil, Nat.reduceAdd, Nat.reduceSub, List.replicate_succ, List.replicate_zero, List.cons_append, List.nil_append]; refine Run.god tab_ok follows_ok Try.func73 60 ?_; simp only [Try.results73, encD, bytesA, alt, drun, aops, aone, afin, ares, aresL, ares1, aresOk, aresOk1, aop, needs, ext, aev, aconst, aput, aupd, aload, astore, afieldAddr, abuild, tab_3, tab_4, tab_22, tab_44, ok1, lay, cellsAs, TI.agg, AV.cells, AV.whole, Option.getD_some, Option.bind_some, Option.map_some, List.set_cons_zero, List.set_cons_succ, List.length_cons, List.length_nil, List.getElem?_cons_zero, List.getElem?_cons_succ, List.drop_zero, List.drop_succ_cons, List.take_succ_cons, List.take_zero, List.take_nil, List.drop_nil, List.map_cons, List.map_nil, List.cons_append, List.nil_append, List.append_nil, true_and, and_true, if_true, if_false, Nat.reduceAdd, Nat.reduceLeDiff, Nat.zero_add, Nat.add_zero, Nat.reduceLeDiff, Nat.le_refl, List.getD_eq_getElem?_getD, Bool.false_eq_true]
  refine ⟨fun h => ?_, fun h => ?_⟩
  · simp only [blowS, h, if_true]; (repeat' (first | exact LeL.nil | exact Le1L.nil | exact Le.refl _ | exact Le1.refl _ | exact Le1.nil _ | exact Le1.tok _ _ _ | exact LeR.one (Le.refl _) | apply LeR.tup | apply LeL.cons | apply Le1L.cons | apply Le.agg | apply Le.one | apply LeR.one))
  · simp only [blowS, h, if_false, reduceCtorEq]; (repeat' (first | exact LeL.nil | exact Le1L.nil | exact Le.refl _ | exact Le1.refl _ | exact Le1.nil _ | exact Le1.tok _ _ _ | exact LeR.one (Le.refl _) | apply LeR.tup | apply LeL.cons | apply Le1L.cons | apply Le.agg | apply Le.one | apply LeR.one))
theorem rwrite_spec (d : DD) (hs : smD d) (b : Bytes) (hb : b.length ≤ 1000000) : ASpec Try.prog 69 [encD d, bytesA b] (encDE (writeS d b)) := by
  obtain ⟨h1, h2, h3⟩ := id hs
  refine ⟨⟨_, Try.func69, by kernel_rfl, rfl⟩, ACall.of Try.func69 rfl fun c0 hc0 => ?_⟩; simp only [Try.ntmps69, List.length_cons, List.length_nil, Nat.reduceAdd, Nat.reduceSub, List.replicate_succ, List.replicate_zero, List.cons_append, List.nil_append]; refine Run.god tab_ok follows_ok Try.func69 60 ?_; simp only [encD, bytesA, drun, aops, aone, aop, needs, ext, aev, aconst, aput, aupd, aload, tab_44, ok1, cellsAs, TI.agg, AV.cells, AV.whole, Option.getD_some, Option.bind_some, Option.map_some, List.set_cons_zero, List.set_cons_succ, List.length_cons, List.length_nil, List.getElem?_cons_zero, List.getElem?_cons_succ, List.drop_zero, List.take_succ_cons, List.take_nil, List.cons_append, List.nil_append, true_and, if_true, if_false, Nat.reduceAdd, Nat.zero_add, Nat.le_refl, List.getD_eq_getElem?_getD, Bool.false_eq_true]
  refine Ops.pure .free rfl rfl (ract_spec d hs) (by simp only [encD, bytesA, aev, Option.getD_some, List.getElem?_cons_zero, List.getElem?_cons_succ, List.map_cons, List.map_nil, List.nil_append, List.append_nil, List.getD_eq_getElem?_getD]; (repeat' (first | exact LeL.nil | exact Le1L.nil | exact Le.refl _ | exact Le1.refl _ | exact Le1.nil _ | exact Le1.tok _ _ _ | exact LeR.one (Le.refl _) | apply LeR.tup | apply LeL.cons | apply Le1L.cons | apply Le.agg | apply Le.one | apply LeR.one))) rfl rfl ?_
  obtain ⟨dn, fu, z, hx, hz⟩ := act_form d
  rw [hx]
  rcases hz with rfl | ⟨rfl, rfl⟩
  · refine Ops.god tab_ok follows_ok Try.func69 60 ?_; simp only [Try.results69, encD, encDE, bytesA, ↓alt_t, Int.reduceEq, drun, aops, aone, afin, ares, aresL, ares1, aresOk, aresOk1, aop, needs, ext, aev, aconst, aput, aupd, aload, astore, acmp, ashift, abin, tab_25, tab_44, ok1, lay, cellsAs, TI.agg, AV.cells, AV.whole, Option.getD_some, Option.bind_some, Option.map_some, List.set_cons_zero, List.set_cons_succ, List.length_cons, List.length_nil, List.getElem?_cons_zero, List.getElem?_cons_succ, List.drop_zero, List.drop_succ_cons, List.take_succ_cons, List.take_zero, List.take_nil, List.drop_nil, List.cons_append, List.nil_append, List.append_nil, true_and, and_true, if_true, if_false, Nat.reduceAdd, Nat.zero_add, Bool.not_false, decide_false, Nat.le_refl, List.getD_eq_getElem?_getD, Bool.false_eq_true]
    simp only [writeS, doS, hx]
    (repeat' (first | exact LeL.nil | exact Le1L.nil | exact Le.refl _ | exact Le1.refl _ | exact Le1.nil _ | exact Le1.tok _ _ _ | exact LeR.one (Le.refl _) | apply LeR.tup | apply LeL.cons | apply Le1L.cons | apply Le.agg | apply Le.one | apply LeR.one))
  · by_cases hc : d.cap < ((d.safe.length : Int) + d.loose.length + b.length)
    · refine Ops.god tab_ok follows_ok Try.func69 60 ?_; simp only [Try.results69, encD, encDE, bytesA, hc, ↓alt_t, ↓alt_f, drun, aops, aone, afin, ares, aresL, ares1, aresOk, aresOk1, aop, needs, ext, aev, aconst, aput, aupd, aload, astore, afieldAddr, acmp, aarith, ashift, abin, alen, tab_3, tab_22, tab_25, tab_44, ok1, lay, cellsAs, TI.agg, AV.cells, AV.whole, Option.getD_some, Option.bind_some, Option.map_some, List.set_cons_zero, List.set_cons_succ, List.length_cons, List.length_nil, List.getElem?_cons_zero, List.getElem?_cons_succ, List.drop_zero, List.drop_succ_cons, List.take_succ_cons, List.take_zero, List.take_nil, List.drop_nil, List.length_map, List.cons_append, List.nil_append, List.append_nil, true_and, and_true, if_true, if_false, Nat.reduceAdd, Nat.reduceLeDiff, Nat.zero_add, Nat.add_zero, Bool.not_true, decide_true, Nat.reduceLeDiff, Nat.le_refl, List.getD_eq_getElem?_getD, Bool.false_eq_true]
      refine ⟨by unfold I64; omega, by unfold I64; omega, ?_⟩
      simp only [writeS, doS, hx, longS, Int.natCast_add, hc, if_true]
      (repeat' (first | exact LeL.nil | exact Le1L.nil | exact Le.refl _ | exact Le1.refl _ | exact Le1.nil _ | exact Le1.tok _ _ _ | exact LeR.one (Le.refl _) | apply LeR.tup | apply LeL.cons | apply Le1L.cons | apply Le.agg | apply Le.one | apply LeR.one))
    · refine Ops.god tab_ok follows_ok Try.func69 60 ?_; simp only [encD, encDE, bytesA, hc, ↓alt_f, drun, adops, adone, places, mayNeed, freeOk, rdOf, AV.id, wrOf, aops, aone, aop, needs, ext, aev, aconst, aput, aupd, aload, astore, afieldAddr, acmp, aarith, ashift, abin, alen, tab_3, tab_22, tab_25, tab_44, ok1, lay, cellsAs, TI.agg, AV.cells, AV.whole, Option.getD_some, Option.bind_some, Option.map_some, List.set_cons_zero, List.set_cons_succ, List.length_cons, List.length_nil, List.getElem?_cons_zero, List.getElem?_cons_succ, List.drop_zero, List.drop_succ_cons, List.take_succ_cons, List.take_zero, List.drop_nil, List.length_map, List.cons_append, List.nil_append, List.append_nil, true_and, and_true, if_true, if_false, Nat.reduceAdd, Nat.reduceLeDiff, Nat.zero_add, Nat.add_zero, Bool.not_true, decide_true, decide_false, Nat.reduceLeDiff, Nat.le_refl, List.getD_eq_getElem?_getD, Bool.false_eq_true]
      refine ⟨by unfold I64; omega, by unfold I64; omega, rfl, ?_⟩
      refine DOps.pure rfl .free rfl rfl ((joined_spec d.loose b h2 hb).spec) (by simp only [bytesA, aev, Option.getD_some, List.getElem?_cons_zero, List.getElem?_cons_succ, List.map_cons, List.map_nil, List.nil_append, List.append_nil, List.getD_eq_getElem?_getD]; (repeat' (first | exact LeL.nil | exact Le1L.nil | exact Le.refl _ | exact Le1.refl _ | exact Le1.nil _ | exact Le1.tok _ _ _ | exact LeR.one (Le.refl _) | apply LeR.tup | apply LeL.cons | apply Le1L.cons | apply Le.agg | apply Le.one | apply LeR.one))) rfl rfl ?_
      refine DOps.god tab_ok follows_ok Try.func69 60 rfl ?_; simp only [Try.results69, drun, adops, adone, mayNeed, freeOk, rdOf, AV.id, wrOf, afin, ares, aresL, ares1, aresOk, aresOk1, aop, needs, aev, aconst, aput, aupd, aload, astore, afieldAddr, abuild, tab_3, tab_22, tab_44, ok1, lay, cellsAs, TI.agg, AV.cells, AV.whole, Option.getD_some, Option.bind_some, Option.map_some, List.set_cons_zero, List.set_cons_succ, List.length_cons, List.length_nil, List.getElem?_cons_zero, List.getElem?_cons_succ, List.drop_zero, List.drop_succ_cons, List.take_succ_cons, List.take_zero, List.take_nil, List.drop_nil, List.map_cons, List.map_nil, List.cons_append, List.nil_append, List.append_nil, true_and, and_true, if_true, if_false, Nat.reduceAdd, Nat.reduceLeDiff, Nat.zero_add, Nat.reduceLeDiff, Nat.le_refl, List.getD_eq_getElem?_getD, Bool.false_eq_true]
      refine ⟨rfl, ?_⟩
      simp only [writeS, doS, hx, longS, Int.natCast_add, hc, if_true, if_false, addS]
      (repeat' (first | exact LeL.nil | exact Le1L.nil | exact Le.refl _ | exact Le1.refl _ | exact Le1.nil _ | exact Le1.tok _ _ _ | exact LeR.one (Le.refl _) | apply LeR.tup | apply LeL.cons | apply Le1L.cons | apply Le.agg | apply Le.one | apply LeR.one))
theorem rsync_spec (d : DD) (hs : smD d) : ASpec Try.prog 70 [encD d] (encDE (if (actS d).2 = 0 then (allS (actS d).1, 0) else actS d)) := by
  obtain ⟨h1, h2, h3⟩ := id hs
  refine ⟨⟨_, Try.func70, by kernel_rfl, rfl⟩, ACall.of Try.func70 rfl fun c0 hc0 => ?_⟩; simp only [Try.ntmps70, List.length_cons, List.length_nil, Nat.reduceAdd, Nat.reduceSub, List.replicate_succ, List.replicate_zero, List.cons_append, List.nil_append]; refine Run.god tab_ok follows_ok Try.func70 60 ?_; simp only [encD, bytesA, drun, aops, aone, aop, needs, ext, aev, aconst, aput, aupd, aload, tab_44, ok1, cellsAs, TI.agg, AV.cells, AV.whole, Option.getD_some, Option.bind_some, Option.map_some, List.set_cons_zero, List.set_cons_succ, List.length_cons, List.length_nil, List.getElem?_cons_zero, List.getElem?_cons_succ, List.drop_zero, List.take_succ_cons, List.take_nil, List.cons_append, List.nil_append, true_and, if_true, if_false, Nat.reduceAdd, Nat.zero_add, Nat.le_refl, List.getD_eq_getElem?_getD, Bool.false_eq_true]
  refine Ops.pure .free rfl rfl (ract_spec d hs) (by simp only [encD, bytesA, aev, Option.getD_some, List.getElem?_cons_zero, List.getElem?_cons_succ, List.map_cons, List.map_nil, List.nil_append, List.append_nil, List.getD_eq_getElem?_getD]; (repeat' (first | exact LeL.nil | exact Le1L.nil | exact Le.refl _ | exact Le1.refl _ | exact Le1.nil _ | exact Le1.tok _ _ _ | exact LeR.one (Le.refl _) | apply LeR.tup | apply LeL.cons | apply Le1L.cons | apply Le.agg | apply Le.one | apply LeR.one))) rfl rfl ?_
  obtain ⟨dn, fu, z, hx, hz⟩ := act_form d
  rw [hx]
  rcases hz with rfl | ⟨rfl, rfl⟩
  · refine Ops.god tab_ok follows_ok Try.func70 60 ?_; simp only [Try.results70, encD, encDE, bytesA, ↓alt_t, Int.reduceEq, drun, aops, aone, afin, ares, aresL, ares1, aresOk, aresOk1, aop, needs, ext, aev, aconst, aput, aupd, aload, astore, acmp, ashift, abin, tab_25, tab_44, ok1, lay, cellsAs, TI.agg, AV.cells, AV.whole, Option.getD_some, Option.bind_some, Option.map_some, List.set_cons_zero, List.set_cons_succ, List.length_cons, List.length_nil, List.getElem?_cons_zero, List.getElem?_cons_succ, List.drop_zero, List.drop_succ_cons, List.take_succ_cons, List.take_zero, List.take_nil, List.drop_nil, List.cons_append, List.nil_append, List.append_nil, true_and, and_true, if_true, if_false, Nat.reduceAdd, Nat.zero_add, Bool.not_false, decide_false, Nat.le_refl, List.getD_eq_getElem?_getD, Bool.false_eq_true]
    (repeat' (first | exact LeL.nil | exact Le1L.nil | exact Le.refl _ | exact Le1.refl _ | exact Le1.nil _ | exact Le1.tok _ _ _ | exact LeR.one (Le.refl _) | apply LeR.tup | apply LeL.cons | apply Le1L.cons | apply Le.agg | apply Le.one | apply LeR.one))
  · refine Ops.god tab_ok follows_ok Try.func70 60 ?_; simp only [encD, encDE, bytesA, ↓alt_f, drun, adops, adone, places, mayNeed, freeOk, rdOf, AV.id, wrOf, aops, aone, aop, needs, ext, aev, aconst, aput, aupd, aload, astore, afieldAddr, acmp, ashift, abin, tab_3, tab_22, tab_25, tab_44, ok1, lay, cellsAs, TI.agg, AV.cells, AV.whole, Option.getD_some, Option.bind_some, Option.map_some, List.set_cons_zero, List.set_cons_succ, List.length_cons, List.length_nil, List.getElem?_cons_zero, List.getElem?_cons_succ, List.drop_zero, List.drop_succ_cons, List.take_succ_cons, List.take_zero, List.drop_nil, List.cons_append, List.nil_append, List.append_nil, true_and, and_true, if_true, if_false, Nat.reduceAdd, Nat.reduceLeDiff, Nat.zero_add, Nat.add_zero, Bool.not_true, decide_true, Nat.reduceLeDiff, Nat.le_refl, List.getD_eq_getElem?_getD, Bool.false_eq_true]
    refine ⟨rfl, ?_⟩
    refine DOps.pure rfl .free rfl rfl ((joined_spec d.safe d.loose h1 h2).spec) (by simp only [bytesA, aev, Option.getD_some, List.getElem?_cons_zero, List.getElem?_cons_succ, List.map_cons, List.map_nil, List.nil_append, List.append_nil, List.getD_eq_getElem?_getD]; (repeat' (first | exact LeL.nil | exact Le1L.nil | exact Le.refl _ | exact Le1.refl _ | exact Le1.nil _ | exact Le1.tok _ _ _ | exact LeR.one (Le.refl _) | apply LeR.tup | apply LeL.cons | apply Le1L.cons | apply Le.agg | apply Le.one | apply LeR.one))) rfl rfl ?_
    refine DOps.god tab_ok follows_ok Try.func70 60 rfl ?_; simp only [Try.results70, drun, adops, adone, mayNeed, freeOk, rdOf, AV.id, wrOf, afin, ares, aresL, ares1, aresOk, aresOk1, aop, needs, aev, aconst, aput, aupd, aload, astore, afieldAddr, abuild, tab_3, tab_22, tab_44, ok1, lay, cellsAs, TI.agg, AV.cells, AV.whole, Option.getD_some, Option.bind_some, Option.map_some, List.set_cons_zero, List.set_cons_succ, List.length_cons, List.length_nil, List.getElem?_cons_zero, List.getElem?_cons_succ, List.drop_zero, List.drop_succ_cons, List.take_succ_cons, List.take_zero, List.take_nil, List.drop_nil, List.map_cons, List.map_nil, List.cons_append, List.nil_append, List.append_nil, true_and, and_true, if_true, if_false, Nat.reduceAdd, Nat.reduceLeDiff, Nat.zero_add, Nat.reduceLeDiff, Nat.le_refl, List.getD_eq_getElem?_getD, Bool.false_eq_true]
    refine ⟨rfl, ?_⟩
    simp only [allS]
    (repeat' (first | exact LeL.nil | exact Le1L.nil | exact Le.refl _ | exact Le1.refl _ | exact Le1.nil _ | exact Le1.tok _ _ _ | exact LeR.one (Le.refl _) | apply LeR.tup | apply LeL.cons | apply Le1L.cons | apply Le.agg | apply Le.one | apply LeR.one))
theorem rreplace_spec (d : DD) (hs : smD d) (b : Bytes) (hb : b.length ≤ 1000000) : ASpec Try.prog 59 [encD d, bytesA b] (encDE (replaceS d b)) := by
  obtain ⟨h1, h2, h3⟩ := id hs
  refine ⟨⟨_, Try.func59, by kernel_rfl, rfl⟩, ACall.of Try.func59 rfl fun c0 hc0 => ?_⟩; simp only [Try.ntmps59, List.length_cons, List.length_nil, Nat.reduceAdd, Nat.reduceSub, List.replicate_succ, List.replicate_zero, List.cons_append, List.nil_append]; refine Run.god tab_ok follows_ok Try.func59 60 ?_; simp only [encD, bytesA, drun, aops, aone, aop, needs, ext, aev, aconst, aput, aupd, aload, tab_44, ok1, cellsAs, TI.agg, AV.cells, AV.whole, Option.getD_some, Option.bind_some, Option.map_some, List.set_cons_zero, List.set_cons_succ, List.length_cons, List.length_nil, List.getElem?_cons_zero, List.getElem?_cons_succ, List.drop_zero, List.take_succ_cons, List.take_nil, List.cons_append, List.nil_append, true_and, if_true, if_false, Nat.reduceAdd, Nat.zero_add, Nat.le_refl, List.getD_eq_getElem?_getD, Bool.false_eq_true]
  refine Ops.pure .free rfl rfl (ract_spec d hs) (by simp only [encD, bytesA, aev, Option.getD_some, List.getElem?_cons_zero, List.getElem?_cons_succ, List.map_cons, List.map_nil, List.nil_append, List.append_nil, List.getD_eq_getElem?_getD]; (repeat' (first | exact LeL.nil | exact Le1L.nil | exact Le.refl _ | exact Le1.refl _ | exact Le1.nil _ | exact Le1.tok _ _ _ | exact LeR.one (Le.refl _) | apply LeR.tup | apply LeL.cons | apply Le1L.cons | apply Le.agg | apply Le.one | apply LeR.one))) rfl rfl ?_
  obtain ⟨dn, fu, z, hx, hz⟩ := act_form d
  rw [hx]
  rcases hz with rfl | ⟨rfl, rfl⟩
  · refine Ops.god tab_ok follows_ok Try.func59 60 ?_; simp only [Try.results59, encD, encDE, bytesA, ↓alt_t, Int.reduceEq, drun, aops, aone, afin, ares, aresL, ares1, aresOk, aresOk1, aop, needs, ext, aev, aconst, aput, aupd, aload, astore, acmp, ashift, abin, tab_25, tab_44, ok1, lay, cellsAs, TI.agg, AV.cells, AV.whole, Option.getD_some, Option.bind_some, Option.map_some, List.set_cons_zero, List.set_cons_succ, List.length_cons, List.length_nil, List.getElem?_cons_zero, List.getElem?_cons_succ, List.drop_zero, List.drop_succ_cons, List.take_succ_cons, List.take_zero, List.take_nil, List.drop_nil, List.cons_append, List.nil_append, List.append_nil, true_and, and_true, if_true, if_false, Nat.reduceAdd, Nat.zero_add, Bool.not_false, decide_false, Nat.le_refl, List.getD_eq_getElem?_getD, Bool.false_eq_true]
    simp only [replaceS, doS, hx]
    (repeat' (first | exact LeL.nil | exact Le1L.nil | exact Le.refl _ | exact Le1.refl _ | exact Le1.nil _ | exact Le1.tok _ _ _ | exact LeR.one (Le.refl _) | apply LeR.tup | apply LeL.cons | apply Le1L.cons | apply Le.agg | apply Le.one | apply LeR.one))
  · by_cases hc : d.cap < (b.length : Int)
    · refine Ops.god tab_ok follows_ok Try.func59 60 ?_; simp only [Try.results59, encD, encDE, bytesA, hc, ↓alt_t, ↓alt_f, drun, aops, aone, afin, ares, aresL, ares1, aresOk, aresOk1, aop, needs, ext, aev, aconst, aput, aupd, aload, astore, afieldAddr, acmp, ashift, abin, alen, tab_3, tab_22, tab_25, tab_44, ok1, lay, cellsAs, TI.agg, AV.cells, AV.whole, Option.getD_some, Option.bind_some, Option.map_some, List.set_cons_zero, List.set_cons_succ, List.length_cons, List.length_nil, List.getElem?_cons_zero, List.getElem?_cons_succ, List.drop_zero, List.drop_succ_cons, List.take_succ_cons, List.take_zero, List.take_nil, List.drop_nil, List.length_map, List.cons_append, List.nil_append, List.append_nil, true_and, and_true, if_true, if_false, Nat.reduceAdd, Nat.reduceLeDiff, Nat.zero_add, Nat.add_zero, Bool.not_true, decide_true, Nat.reduceLeDiff, Nat.le_refl, List.getD_eq_getElem?_getD, Bool.false_eq_true]
      simp only [replaceS, doS, hx, hc, if_true]
      (repeat' (first | exact LeL.nil | exact Le1L.nil | exact Le.refl _ | exact Le1.refl _ | exact Le1.nil _ | exact Le1.tok _ _ _ | exact LeR.one (Le.refl _) | apply LeR.tup | apply LeL.cons | apply Le1L.cons | apply Le.agg | apply Le.one | apply LeR.one))
    · refine Ops.god tab_ok follows_ok Try.func59 60 ?_; simp only [encD, encDE, bytesA, hc, ↓alt_f, drun, adops, adone, places, mayNeed, freeOk, rdOf, AV.id, wrOf, aops, aone, aop, needs, ext, aev, aconst, aput, aupd, aload, astore, afieldAddr, acmp, ashift, abin, alen, tab_3, tab_22, tab_25, tab_44, ok1, lay, cellsAs, TI.agg, AV.cells, AV.whole, Option.getD_some, Option.bind_some, Option.map_some, List.set_cons_zero, List.set_cons_succ, List.length_cons, List.length_nil, List.getElem?_cons_zero, List.getElem?_cons_succ, List.drop_zero, List.drop_succ_cons, List.take_succ_cons, List.take_zero, List.drop_nil, List.length_map, List.cons_append, List.nil_append, List.append_nil, true_and, and_true, if_true, if_false, Nat.reduceAdd, Nat.reduceLeDiff, Nat.zero_add, Nat.add_zero, Bool.not_true, decide_true, decide_false, Nat.reduceLeDiff, Nat.le_refl, List.getD_eq_getElem?_getD, Bool.false_eq_true]
      refine ⟨rfl, ?_⟩
      refine DOps.pure rfl .free rfl rfl ((joined_spec [] b (by simp) hb).spec) (by simp only [bytesA, aev, aconst, Option.getD_some, List.getElem?_cons_zero, List.getElem?_cons_succ, List.map_cons, List.map_nil, List.nil_append, List.append_nil, List.getD_eq_getElem?_getD]; (repeat' (first | exact LeL.nil | exact Le1L.nil | exact Le.refl _ | exact Le1.refl _ | exact Le1.nil _ | exact Le1.tok _ _ _ | exact LeR.one (Le.refl _) | apply LeR.tup | apply LeL.cons | apply Le1L.cons | apply Le.agg | apply Le.one | apply LeR.one))) rfl rfl ?_
      refine DOps.god tab_ok follows_ok Try.func59 60 rfl ?_; simp only [Try.results59, drun, adops, adone, mayNeed, freeOk, rdOf, AV.id, wrOf, afin, ares, aresL, ares1, aresOk, aresOk1, aop, needs, aev, aconst, aput, aupd, aload, astore, afieldAddr, abuild, tab_3, tab_22, tab_44, ok1, lay, cellsAs, TI.agg, AV.cells, AV.whole, Option.getD_some, Option.bind_some, Option.map_some, List.set_cons_zero, List.set_cons_succ, List.length_cons, List.length_nil, List.getElem?_cons_zero, List.getElem?_cons_succ, List.drop_zero, List.drop_succ_cons, List.take_succ_cons, List.take_zero, List.take_nil, List.drop_nil, List.map_cons, List.map_nil, List.cons_append, List.nil_append, List.append_nil, true_and, and_true, if_true, if_false, Nat.reduceAdd, Nat.reduceLeDiff, Nat.zero_add, Nat.reduceLeDiff, Nat.le_refl, List.getD_eq_getElem?_getD, Bool.false_eq_true]
      refine ⟨rfl, ?_⟩
      simp only [replaceS, doS, hx, hc, if_true, if_false, otherS]
      (repeat' (first | exact LeL.nil | exact Le1L.nil | exact Le.refl _ | exact Le1.refl _ | exact Le1.nil _ | exact Le1.tok _ _ _ | exact LeR.one (Le.refl _) | apply LeR.tup | apply LeL.cons | apply Le1L.cons | apply Le.agg | apply Le.one | apply LeR.one))
theorem rcrash_spec (d : DD) (hs : smD d) (n : Int) : ASpec Try.prog 71 [encD d, .int .i64 n] (encD (crashS d n)) := by
  obtain ⟨h1, h2, h3⟩ := id hs
  refine ⟨⟨_, Try.func71, by kernel_rfl, rfl⟩, ACall.of Try.func71 rfl fun c0 hc0 => ?_⟩; simp only [Try.ntmps71, List.length_cons, List.length_nil, Nat.reduceAdd, Nat.reduceSub, List.replicate_succ, List.replicate_zero, List.cons_append, List.nil_append]; refine Run.god tab_ok follows_ok Try.func71 60 ?_; simp only [encD, bytesA, Option.isSome_none, Bool.false_eq_true, Int.reduceNeg, drun, adops, adone, places, mayNeed, freeOk, rdOf, AV.id, wrOf, aops, aone, aop, needs, ext, aev, aconst, aput, aupd, aload, afieldAddr, alen, aslice, tab_3, tab_5, tab_22, tab_44, ok1, cellsAs, TI.agg, AV.cells, AV.whole, Option.getD_some, Option.bind_some, Option.map_some, Option.map_none, List.set_cons_zero, List.set_cons_succ, List.length_cons, List.length_nil, List.getElem?_cons_zero, List.getElem?_cons_succ, List.drop_zero, List.drop_succ_cons, List.take_succ_cons, List.take_zero, List.map_cons, List.map_nil, List.length_map, List.cons_append, List.nil_append, true_and, and_true, if_true, if_false, Nat.reduceAdd, Nat.reduceLeDiff, Nat.zero_add, Nat.add_zero, Nat.reduceLeDiff, List.getD_eq_getElem?_getD, Option.isSome_none, Bool.false_eq_true]
  refine ⟨rfl, ?_⟩
  refine ⟨by omega, ?_⟩
  rw [← List.map_take]
  refine DOps.pure rfl .free rfl rfl ((joined_spec d.safe (d.loose.take (keepN n d.loose.length)) h1 (by simp; omega)).spec) (by simp only [bytesA, aev, Option.getD_some, List.getElem?_cons_zero, List.getElem?_cons_succ, List.map_cons, List.map_nil, List.nil_append, List.append_nil, List.getD_eq_getElem?_getD]; (repeat' (first | exact LeL.nil | exact Le1L.nil | exact Le.refl _ | exact Le1.refl _ | exact Le1.nil _ | exact Le1.tok _ _ _ | exact LeR.one (Le.refl _) | apply LeR.tup | apply LeL.cons | apply Le1L.cons | apply Le.agg | apply Le.one | apply LeR.one))) rfl rfl ?_
  refine DOps.god tab_ok follows_ok Try.func71 60 rfl ?_; simp only [Try.results71, Int.reduceNeg, drun, adops, adone, mayNeed, freeOk, rdOf, AV.id, wrOf, afin, ares, aresL, ares1, aresOk, aresOk1, aop, needs, aev, aconst, aput, aupd, aload, astore, abuild, tab_3, tab_22, tab_44, lay, cellsAs, TI.agg, AV.cells, AV.whole, Option.getD_some, Option.bind_some, Option.map_some, List.set_cons_zero, List.set_cons_succ, List.length_cons, List.length_nil, List.getElem?_cons_zero, List.getElem?_cons_succ, List.drop_zero, List.drop_succ_cons, List.take_succ_cons, List.take_zero, List.take_nil, List.drop_nil, List.map_cons, List.map_nil, List.cons_append, List.nil_append, List.append_nil, true_and, and_true, if_true, if_false, Nat.reduceAdd, Nat.reduceLeDiff, Nat.zero_add, Nat.reduceLeDiff, Nat.le_refl, List.getD_eq_getElem?_getD, Bool.false_eq_true]
  refine ⟨rfl, ?_⟩
  simp only [crashS]
  (repeat' (first | exact LeL.nil | exact Le1L.nil | exact Le.refl _ | exact Le1.refl _ | exact Le1.nil _ | exact Le1.tok _ _ _ | exact LeR.one (Le.refl _) | apply LeR.tup | apply LeL.cons | apply Le1L.cons | apply Le.agg | apply Le.one | apply LeR.one))
end Go.Proofs.Ytcafahcmalfepaa
/-
  Package octet's readers, told by their shadows.
-/
namespace Go.Proofs.Ytcafahcmalfepaa
open Go.RowKit
def takeA : Except Int (Nat × Bytes) → AV
  | .error z => .tup [.int .u64 0, bytesA [], .int .i64 z]
  | .ok (n, r) => .tup [.int .u64 n, bytesA r, .int .i64 0]
theorem shl8 (a : Int) : ashift .shl .u64 a 8 = some ⟨(0 : Int) ≤ 8, .int .u64 (IntKind.u64.wrap (a * 256)), none⟩ := rfl
theorem wrap_u8 (k : UInt8) : IntKind.i64.wrap (k.toNat : Int) = k.toNat := by
  have := k.toNat_lt
  have e : (2 : Int) ^ IntKind.i64.bits = 18446744073709551616 := by decide
  have e' : (2 : Int) ^ (IntKind.i64.bits - 1) = 9223372036854775808 := by decide
  simp only [IntKind.wrap, e, e', show IntKind.i64.signed = true from rfl, Bool.true_and, decide_eq_true_eq]
  split <;> omega
theorem wrap_nat (n : Nat) (h : n < 18446744073709551616) : IntKind.u64.wrap (n : Int) = n := by
  have e : (2 : Int) ^ IntKind.u64.bits = 18446744073709551616 := by decide
  simp only [IntKind.wrap, e, show IntKind.u64.signed = false from rfl, Bool.false_and, Bool.false_eq_true, if_false]
  omega
theorem or_acc (n : Nat) (c : UInt8) (hn : n < 72057594037927936) : bits .or .u64 (IntKind.u64.wrap ((n : Int) * 256)) (IntKind.u64.wrap (c.toNat : Int)) = (n * 256 + c.toNat : Nat) := by
  have hc := c.toNat_lt
  have e1 : IntKind.u64.wrap ((n : Int) * 256) = ((n * 256 : Nat) : Int) := by rw [← wrap_nat (n * 256) (by omega)]; simp
  have e2 : IntKind.u64.wrap (c.toNat : Int) = (c.toNat : Int) := wrap_nat _ (by omega)
  rw [e1, e2, u64_or_nat (n * 256) c.toNat (by omega) (by omega)]
  have := Nat.shiftLeft_add_eq_or_of_lt (i := 8) (show c.toNat < 2 ^ 8 by omega) n
  rw [Nat.shiftLeft_eq] at this
  rw [← this]
set_option maxRecDepth 20000 in
theorem take_nil_s : ASpec Try.prog 46 [bytesA []] (takeA (.error 2)) := by
  refine ⟨⟨_, Try.func46, by kernel_rfl, rfl⟩, ACall.of Try.func46 rfl fun c0 hc0 => ?_⟩; simp only [Try.ntmps46, List.length_cons, List.length_nil, Nat.reduceAdd, Nat.reduceSub, List.replicate_succ, List.replicate_zero, List.cons_append, List.nil_append]; refine Run.god tab_ok follows_ok Try.func46 60 ?_; simp only [Try.results46, bytesA, takeA, Int.natCast_zero, ↓alt_t, drun, aops, aone, afin, ares, aresL, ares1, aresOk, aresOk1, aop, needs, ext, aev, aconst, aput, aupd, acmp, ashift, abin, alen, tab_3, tab_22, ok1, Option.getD_some, Option.bind_some, Option.map_some, List.set_cons_zero, List.set_cons_succ, List.length_nil, List.getElem?_cons_zero, List.getElem?_cons_succ, List.map_nil, List.nil_append, true_and, and_true, if_true, if_false, decide_true, List.getD_eq_getElem?_getD, Bool.false_eq_true]
  (repeat' (first | exact LeL.nil | exact Le1L.nil | exact Le.refl _ | exact Le1.refl _ | exact Le1.nil _ | exact Le1.tok _ _ _ | exact LeR.one (Le.refl _) | apply LeR.tup | apply LeL.cons | apply Le1L.cons | apply Le.agg | apply Le.one | apply LeR.one))
theorem succ_ne (n : Nat) : (((n + 1 : Nat) : Int) = 0) = False := by simp; omega
theorem succ_pos' (n : Nat) : ((0 : Int) < ((n + 1 : Nat) : Int)) = True := by simp
set_option maxRecDepth 20000 in
theorem take_form_s (k : UInt8) (r : Bytes) (h : (8 : Int) < k.toNat) : ASpec Try.prog 46 [bytesA (k :: r)] (takeA (.error 3)) := by
  refine ⟨⟨_, Try.func46, by kernel_rfl, rfl⟩, ACall.of Try.func46 rfl fun c0 hc0 => ?_⟩; simp only [Try.ntmps46, List.length_cons, List.length_nil, Nat.reduceAdd, Nat.reduceSub, List.replicate_succ, List.replicate_zero, List.cons_append, List.nil_append]; refine Run.god tab_ok follows_ok Try.func46 60 ?_; simp only [Try.results46, bytesA, takeA, byteC, wrap_u8, h, succ_ne, decide_true, Int.toNat_zero, Int.reduceToNat, ↓alt_t, ↓alt_f, ↓alts_t, ↓gone_ft, gslot, Int.reduceLE, drun, adops, adone, places, mayNeed, freeOk, rdOf, AV.id, wrOf, aops, aone, afin, ares, aresL, ares1, aresOk, aresOk1, aop, needs, ext, aev, aconst, aput, aupd, aload, aindexAddr, acmp, ashift, abin, aconv, alen, aslice, tab_3, tab_5, tab_22, ok1, cellsAs, TI.agg, Option.getD_some, Option.bind_some, Option.map_some, Option.map_none, List.set_cons_zero, List.set_cons_succ, List.length_cons, List.length_nil, List.getElem?_cons_zero, List.getElem?_cons_succ, List.getElem?_toArray, List.drop_zero, List.drop_succ_cons, List.take_succ_cons, List.take_nil, List.map_cons, List.map_nil, List.length_map, List.cons_append, List.nil_append, List.append_nil, true_and, and_true, if_true, if_false, Nat.zero_add, decide_true, decide_false, Nat.reduceLT, Nat.le_refl, List.getD_eq_getElem?_getD, Option.isSome_none, Bool.false_eq_true]
  exact ⟨rfl, by omega, by omega, rfl, by (repeat' (first | exact LeL.nil | exact Le1L.nil | exact Le.refl _ | exact Le1.refl _ | exact Le1.nil _ | exact Le1.tok _ _ _ | exact LeR.one (Le.refl _) | apply LeR.tup | apply LeL.cons | apply Le1L.cons | apply Le.agg | apply Le.one | apply LeR.one))⟩
set_option maxRecDepth 20000 in
theorem take_short0_s (k : UInt8) (h : ¬ (8 : Int) < k.toNat) (h0 : (0 : Int) < k.toNat) : ASpec Try.prog 46 [bytesA [k]] (takeA (.error 2)) := by
  refine ⟨⟨_, Try.func46, by kernel_rfl, rfl⟩, ACall.of Try.func46 rfl fun c0 hc0 => ?_⟩; simp only [Try.ntmps46, List.length_cons, List.length_nil, Nat.reduceAdd, Nat.reduceSub, List.replicate_succ, List.replicate_zero, List.cons_append, List.nil_append]; refine Run.god tab_ok follows_ok Try.func46 60 ?_; simp only [Try.results46, bytesA, takeA, byteC, wrap_u8, h, h0, succ_ne, decide_true, Int.natCast_zero, Int.toNat_zero, Int.reduceToNat, ↓alt_t, ↓alt_f, ↓alts_t, ↓alts_f, ↓gone_tt, ↓gone_tf, ↓gone_ff, gslot, Int.reduceLT, Int.reduceLE, drun, adops, adone, places, mayNeed, freeOk, rdOf, AV.id, wrOf, aops, aone, afin, ares, aresL, ares1, aresOk, aresOk1, aop, needs, ext, aev, aconst, aput, aupd, aload, aindexAddr, acmp, ashift, abin, aconv, alen, aslice, tab_3, tab_5, tab_22, ok1, cellsAs, TI.agg, Option.getD_some, Option.bind_some, Option.map_some, Option.map_none, List.set_cons_zero, List.set_cons_succ, List.length_cons, List.length_nil, List.getElem?_cons_zero, List.getElem?_cons_succ, List.getElem?_toArray, List.drop_succ_cons, List.take_succ_cons, List.take_nil, List.drop_nil, List.map_cons, List.map_nil, List.cons_append, List.nil_append, List.append_nil, true_and, and_true, if_true, if_false, Nat.zero_add, decide_true, decide_false, Nat.reduceLT, Nat.le_refl, List.getD_eq_getElem?_getD, Option.isSome_none, Bool.false_eq_true]
  exact ⟨rfl, by omega, by omega, rfl, by (repeat' (first | exact LeL.nil | exact Le1L.nil | exact Le.refl _ | exact Le1.refl _ | exact Le1.nil _ | exact Le1.tok _ _ _ | exact LeR.one (Le.refl _) | apply LeR.tup | apply LeL.cons | apply Le1L.cons | apply Le.agg | apply Le.one | apply LeR.one))⟩
set_option maxRecDepth 20000 in
theorem take_zero_s (k c : UInt8) (r : Bytes) (h : ¬ (8 : Int) < k.toNat) (h0 : (0 : Int) < k.toNat) (hc : (c.toNat : Int) = 0) : ASpec Try.prog 46 [bytesA (k :: c :: r)] (takeA (.error 3)) := by
  refine ⟨⟨_, Try.func46, by kernel_rfl, rfl⟩, ACall.of Try.func46 rfl fun c0 hc0 => ?_⟩; simp only [Try.ntmps46, List.length_cons, List.length_nil, Nat.reduceAdd, Nat.reduceSub, List.replicate_succ, List.replicate_zero, List.cons_append, List.nil_append]; refine Run.god tab_ok follows_ok Try.func46 60 ?_; simp only [Try.results46, bytesA, takeA, byteC, wrap_u8, h, h0, hc, succ_ne, succ_pos', decide_true, Int.toNat_zero, Int.reduceToNat, ↓alt_t, ↓alt_f, ↓alts_t, ↓alts_f, ↓gone_tt, ↓gone_ff, gslot, Int.reduceLE, drun, adops, adone, places, mayNeed, freeOk, rdOf, AV.id, wrOf, aops, aone, afin, ares, aresL, ares1, aresOk, aresOk1, aop, needs, ext, aev, aconst, aput, aupd, aload, aindexAddr, acmp, ashift, abin, aconv, alen, aslice, tab_3, tab_5, tab_22, ok1, cellsAs, TI.agg, Option.getD_some, Option.bind_some, Option.map_some, Option.map_none, List.set_cons_zero, List.set_cons_succ, List.length_cons, List.length_nil, List.getElem?_cons_zero, List.getElem?_cons_succ, List.getElem?_toArray, List.drop_zero, List.drop_succ_cons, List.take_succ_cons, List.take_nil, List.map_cons, List.map_nil, List.length_map, List.cons_append, List.nil_append, List.append_nil, true_and, and_true, if_true, if_false, Nat.zero_add, decide_true, decide_false, Nat.reduceLT, Nat.le_refl, List.getD_eq_getElem?_getD, Option.isSome_none, Bool.false_eq_true]
  exact ⟨rfl, by omega, rfl, by (repeat' (first | exact LeL.nil | exact Le1L.nil | exact Le.refl _ | exact Le1.refl _ | exact Le1.nil _ | exact Le1.tok _ _ _ | exact LeR.one (Le.refl _) | apply LeR.tup | apply LeL.cons | apply Le1L.cons | apply Le.agg | apply Le.one | apply LeR.one))⟩
set_option maxRecDepth 20000 in
theorem take_short_s (k c : UInt8) (r : Bytes) (h : ¬ (8 : Int) < k.toNat) (h0 : (0 : Int) < k.toNat) (hc : ¬ (c.toNat : Int) = 0) (hl : ((r.length + 1 : Nat) : Int) < k.toNat) : ASpec Try.prog 46 [bytesA (k :: c :: r)] (takeA (.error 2)) := by
  refine ⟨⟨_, Try.func46, by kernel_rfl, rfl⟩, ACall.of Try.func46 rfl fun c0 hc0 => ?_⟩; simp only [Try.ntmps46, List.length_cons, List.length_nil, Nat.reduceAdd, Nat.reduceSub, List.replicate_succ, List.replicate_zero, List.cons_append, List.nil_append]; refine Run.god tab_ok follows_ok Try.func46 60 ?_; simp only [Try.results46, bytesA, takeA, byteC, wrap_u8, h, h0, hc, hl, succ_ne, succ_pos', decide_true, Int.toNat_zero, Int.reduceToNat, ↓alt_t, ↓alt_f, ↓alts_t, ↓alts_f, ↓gone_tt, ↓gone_ff, gslot, Int.reduceLE, drun, adops, adone, places, mayNeed, freeOk, rdOf, AV.id, wrOf, aops, aone, afin, ares, aresL, ares1, aresOk, aresOk1, aop, needs, ext, aev, aconst, aput, aupd, aload, aindexAddr, acmp, ashift, abin, aconv, alen, aslice, tab_3, tab_5, tab_22, ok1, cellsAs, TI.agg, Option.getD_some, Option.bind_some, Option.map_some, Option.map_none, List.set_cons_zero, List.set_cons_succ, List.length_cons, List.length_nil, List.getElem?_cons_zero, List.getElem?_cons_succ, List.getElem?_toArray, List.drop_zero, List.drop_succ_cons, List.take_succ_cons, List.take_nil, List.map_cons, List.map_nil, List.length_map, List.cons_append, List.nil_append, List.append_nil, true_and, and_true, if_true, if_false, Nat.zero_add, decide_true, decide_false, Nat.reduceLT, Nat.le_refl, List.getD_eq_getElem?_getD, Option.isSome_none, Bool.false_eq_true]
  exact ⟨rfl, by omega, rfl, by (repeat' (first | exact LeL.nil | exact Le1L.nil | exact Le.refl _ | exact Le1.refl _ | exact Le1.nil _ | exact Le1.tok _ _ _ | exact LeR.one (Le.refl _) | apply LeR.tup | apply LeL.cons | apply Le1L.cons | apply Le.agg | apply Le.one | apply LeR.one))⟩
set_option maxRecDepth 20000 in
theorem take_none_s (k : UInt8) (r : Bytes) (h0 : (k.toNat : Int) = 0) : ASpec Try.prog 46 [bytesA (k :: r)] (takeA (.ok (0, r))) := by
  have hl : ¬ (r.length : Int) < 0 := by omega
  refine ⟨⟨_, Try.func46, by kernel_rfl, rfl⟩, ACall.of Try.func46 rfl fun c0 hc0 => ?_⟩; simp only [Try.ntmps46, List.length_cons, List.length_nil, Nat.reduceAdd, Nat.reduceSub, List.replicate_succ, List.replicate_zero, List.cons_append, List.nil_append]; refine Run.god tab_ok follows_ok Try.func46 60 ?_; simp only [bytesA, takeA, byteC, h0, hl, show IntKind.i64.wrap 0 = 0 from rfl, succ_ne, succ_pos', Int.natCast_zero, Int.toNat_zero, Int.reduceToNat, ↓alt_f, ↓alts_f, ↓gone_tf, ↓gone_ff, gslot, Int.reduceLT, Int.reduceLE, drun, adops, adone, places, mayNeed, freeOk, rdOf, AV.id, wrOf, aops, aone, aop, needs, ext, aev, aconst, aput, aupd, aload, aindexAddr, acmp, ashift, abin, aconv, alen, aslice, tab_3, tab_5, tab_22, ok1, cellsAs, TI.agg, Option.getD_some, Option.bind_some, Option.map_some, Option.map_none, List.set_cons_zero, List.set_cons_succ, List.length_cons, List.length_nil, List.getElem?_cons_zero, List.getElem?_cons_succ, List.getElem?_toArray, List.drop_zero, List.drop_succ_cons, List.take_succ_cons, List.take_zero, List.take_nil, List.map_cons, List.length_map, List.cons_append, List.nil_append, List.append_nil, true_and, and_true, if_true, if_false, Nat.zero_add, decide_false, Nat.reduceLT, Nat.le_refl, List.getD_eq_getElem?_getD, Option.isSome_none, Bool.false_eq_true]
  refine ⟨rfl, by omega, rfl, by omega, Run.unloop ?_⟩
  refine Run.god tab_ok follows_ok Try.func46 60 ?_; simp only [Try.results46, Int.toNat_zero, ↓alt_f, Int.reduceLT, Int.reduceLE, drun, adops, adone, places, mayNeed, freeOk, rdOf, wrOf, aops, aone, afin, ares, aresL, ares1, aresOk, aresOk1, aop, needs, ext, aev, aconst, aput, aupd, acmp, ashift, abin, aslice, tab_3, tab_5, tab_22, ok1, exitTo, Option.getD_some, Option.bind_some, Option.map_some, Option.map_none, List.set_cons_zero, List.set_cons_succ, List.length_nil, List.getElem?_cons_zero, List.getElem?_cons_succ, List.drop_zero, List.length_map, List.cons_append, List.nil_append, List.append_nil, true_and, and_true, if_true, if_false, Nat.zero_add, beq_self_eq_true, decide_false, List.getD_eq_getElem?_getD, Option.isSome_none, Bool.false_eq_true]
  exact ⟨rfl, by omega, rfl, by (repeat' (first | exact LeL.nil | exact Le1L.nil | exact Le.refl _ | exact Le1.refl _ | exact Le1.nil _ | exact Le1.tok _ _ _ | exact LeR.one (Le.refl _) | apply LeR.tup | apply LeL.cons | apply Le1L.cons | apply Le.agg | apply Le.one | apply LeR.one))⟩
set_option maxRecDepth 20000 in
theorem take_some_s (k c : UInt8) (r : Bytes) (h : ¬ (8 : Int) < k.toNat) (h0 : (0 : Int) < k.toNat) (hc : ¬ (c.toNat : Int) = 0) (hl : ¬ ((r.length + 1 : Nat) : Int) < k.toNat) : ASpec Try.prog 46 [bytesA (k :: c :: r)] (takeA (.ok (fromBE ((c :: r).take k.toNat), (c :: r).drop k.toNat))) := by
  refine ⟨⟨_, Try.func46, by kernel_rfl, rfl⟩, ACall.of Try.func46 rfl fun c0 hc0 => ?_⟩; simp only [Try.ntmps46, List.length_cons, List.length_nil, Nat.reduceAdd, Nat.reduceSub, List.replicate_succ, List.replicate_zero, List.cons_append, List.nil_append]; refine Run.god tab_ok follows_ok Try.func46 60 ?_; simp only [bytesA, takeA, byteC, wrap_u8, h, h0, hc, hl, succ_ne, succ_pos', decide_true, Int.toNat_zero, Int.reduceToNat, ↓alt_f, ↓alts_t, ↓alts_f, ↓gone_tt, ↓gone_ff, gslot, Int.reduceLE, drun, adops, adone, places, mayNeed, freeOk, rdOf, AV.id, wrOf, aops, aone, aop, needs, ext, aev, aconst, aput, aupd, aload, aindexAddr, acmp, ashift, abin, aconv, alen, aslice, tab_3, tab_5, tab_22, ok1, cellsAs, TI.agg, Option.getD_some, Option.bind_some, Option.map_some, Option.map_none, List.set_cons_zero, List.set_cons_succ, List.length_cons, List.length_nil, List.getElem?_cons_zero, List.getElem?_cons_succ, List.getElem?_toArray, List.drop_zero, List.drop_succ_cons, List.take_succ_cons, List.take_nil, List.map_cons, List.length_map, List.cons_append, List.nil_append, List.append_nil, true_and, and_true, if_true, if_false, Nat.zero_add, decide_true, decide_false, Nat.reduceLT, Nat.le_refl, Int.toNat_natCast, List.getD_eq_getElem?_getD, Option.isSome_none, Bool.false_eq_true]
  refine ⟨rfl, by omega, rfl, by omega, ?_⟩
  have hlen : (List.take k.toNat ([AV.int .u8 c.toNat] :: List.map byteC r)).length = k.toNat := by simp; omega
  refine Run.loopV (α := Nat) (fun j => j ≤ k.toNat) (fun j => [(7, .int .u64 (fromBE ((c :: r).take j) : Nat)), (46, .int .i64 j)]) 0 (fun _ => []) (fun j => k.toNat - j) 0 (Nat.zero_le _) ?_ ?_
  · simp only [writes, junks, puts, hputs, List.filterMap_cons, List.filterMap_nil, Int.natCast_zero, Int.natCast_add, Int.natCast_one, List.set_cons_zero, List.set_cons_succ, List.take_zero, List.take_nil, List.cons_append, List.nil_append, List.append_nil]
    (refine Weak.of (by simp [hc0]) ?_ ?_ <;> (repeat' (first | exact WkT.nil | exact WkH.nil _ | exact Le.refl _ | exact Le.junk _ | exact Le1.refl _ | exact Le1.nil _ | exact Le1.tok _ _ _ | exact Le1L.nil | rfl | apply WkT.cons | apply WkH.cons | apply LeB.same | apply LeB.box | apply Le1L.cons | apply Le.agg | apply Le.one)))
  · intro j hj ih
    simp only [writes, junks, puts, hputs, List.filterMap_cons, List.filterMap_nil, Int.natCast_add, Int.natCast_one, List.set_cons_zero, List.set_cons_succ, List.take_nil, List.cons_append, List.nil_append, List.append_nil, hlen] at ih ⊢
    by_cases hjk : j < k.toNat
    · have hjr : j < (c :: r).length := by simp; omega
      have hg : (c :: r)[j]? = some ((c :: r)[j]) := List.getElem?_eq_getElem hjr
      have hsn : fromBE ((c :: r).take (j + 1)) = fromBE ((c :: r).take j) * 256 + ((c :: r)[j]).toNat := by
        rw [List.take_add_one, hg, ← fromBE_snoc]; rfl
      have hF := fromBE_lt ((c :: r).take j)
      have hFl : ((c :: r).take j).length = j := by rw [List.length_take]; omega
      rw [hFl] at hF
      have hpow : 256 ^ j ≤ 256 ^ 7 := Nat.pow_le_pow_right (by omega) (by omega)
      have hx : (List.take k.toNat ([AV.int .u8 c.toNat] :: List.map byteC r))[j]? = some [.int .u8 ((c :: r)[j]).toNat] := by
        have e : ([AV.int .u8 c.toNat] :: List.map byteC r) = (c :: r).map byteC := rfl
        rw [e, ← List.map_take, List.getElem?_map, List.getElem?_take_of_lt hjk, hg]; rfl
      have hor := or_acc (fromBE ((c :: r).take j)) ((c :: r)[j]) (by omega)
      rw [← hsn] at hor
      obtain ⟨G, hG⟩ : ∃ G, G = fromBE ((c :: r).take (j + 1)) := ⟨_, rfl⟩
      rw [← hG] at hor
      generalize (c :: r)[j] = x at *
      have hjj : (j : Int) < k.toNat := by omega
      refine Run.god tab_ok follows_ok Try.func46 60 ?_; simp only [hx, hjj, hlen, ↓shl8, hor, decide_true, Int.toNat_natCast, ↓alt_t, Int.reduceLE, drun, aops, aone, aop, needs, ext, aev, aconst, aput, aupd, aload, aindexAddr, acmp, aarith, ashift, abin, aconv, tab_3, tab_5, tab_22, tab_75, ok1, cellsAs, TI.agg, Option.getD_some, Option.bind_some, Option.map_some, List.set_cons_zero, List.set_cons_succ, List.length_cons, List.length_nil, List.getElem?_cons_zero, List.getElem?_cons_succ, List.take_succ_cons, List.take_nil, List.nil_append, true_and, and_true, if_true, if_false, Nat.zero_add, decide_true, Nat.reduceLT, Nat.le_refl, Int.toNat_natCast, List.getD_eq_getElem?_getD, Bool.false_eq_true]
      refine ⟨by omega, by unfold I64; omega, ih (j + 1) _ (by omega) (by omega) ?_⟩
      rw [← hG]
      simp only [Int.natCast_add, Int.natCast_one]
      (refine Weak.of (by simp [hc0]) ?_ ?_ <;> (repeat' (first | exact WkT.nil | exact WkH.nil _ | exact Le.refl _ | exact Le.junk _ | exact Le1.refl _ | exact Le1.nil _ | exact Le1.tok _ _ _ | exact Le1L.nil | rfl | apply WkT.cons | apply WkH.cons | apply LeB.same | apply LeB.box | apply Le1L.cons | apply Le.agg | apply Le.one)))
    · obtain rfl : j = k.toNat := by omega
      have hjj : ¬ (k.toNat : Int) < k.toNat := by omega
      refine Run.god tab_ok follows_ok Try.func46 60 ?_; simp only [Try.results46, hjj, ↓alt_f, drun, adops, adone, places, mayNeed, freeOk, rdOf, wrOf, aops, aone, afin, ares, aresL, ares1, aresOk, aresOk1, aop, needs, ext, aev, aconst, aput, aupd, acmp, ashift, abin, aslice, tab_3, tab_5, tab_22, ok1, exitTo, Option.getD_some, Option.bind_some, Option.map_some, Option.map_none, List.set_cons_zero, List.set_cons_succ, List.length_cons, List.length_nil, List.getElem?_cons_zero, List.getElem?_cons_succ, List.length_map, List.cons_append, List.nil_append, List.append_nil, true_and, and_true, if_true, if_false, Nat.zero_add, beq_self_eq_true, decide_false, Int.toNat_natCast, List.getD_eq_getElem?_getD, Option.isSome_none, Bool.false_eq_true]
      have e : List.drop k.toNat ([AV.int .u8 c.toNat] :: List.map byteC r) = List.map byteC (List.drop k.toNat (c :: r)) := by rw [List.map_drop]; rfl
      rw [e]
      exact ⟨rfl, by omega, rfl, by (repeat' (first | exact LeL.nil | exact Le1L.nil | exact Le.refl _ | exact Le1.refl _ | exact Le1.nil _ | exact Le1.tok _ _ _ | exact LeR.one (Le.refl _) | apply LeR.tup | apply LeL.cons | apply Le1L.cons | apply Le.agg | apply Le.one | apply LeR.one))⟩
theorem take_spec (b : Bytes) : ASpec Try.prog 46 [bytesA b] (takeA (takeN b)) := by
  match b with
  | [] => exact take_nil_s
  | k :: r =>
    by_cases h8 : (8 : Int) < k.toNat
    · have e : takeN (k :: r) = .error 3 := by
        have q : 8 < k.toNat := by omega
        simp [takeN, q]
      rw [e]
      exact take_form_s k r h8
    · have q : ¬ 8 < k.toNat := by omega
      by_cases h0 : (0 : Int) < k.toNat
      · have q2 : 0 < k.toNat := by omega
        match r with
        | [] =>
          have e : takeN [k] = .error 2 := by simp [takeN, q, q2]
          rw [e]
          exact take_short0_s k h8 h0
        | c :: r =>
          by_cases hc : (c.toNat : Int) = 0
          · have hz : c = 0 := by apply UInt8.toNat_inj.1; simpa using hc
            have e : takeN (k :: c :: r) = .error 3 := by subst hz; simp [takeN, q2]
            rw [e]
            exact take_zero_s k c r h8 h0 hc
          · have hz : ¬ c = 0 := by intro h; subst h; exact hc rfl
            by_cases hl : ((r.length + 1 : Nat) : Int) < k.toNat
            · have q3 : r.length + 1 < k.toNat := by omega
              have e : takeN (k :: c :: r) = .error 2 := by simp [takeN, hz, q, q3]
              rw [e]
              exact take_short_s k c r h8 h0 hc hl
            · have q3 : ¬ r.length + 1 < k.toNat := by omega
              have e : takeN (k :: c :: r) = .ok (fromBE ((c :: r).take k.toNat), (c :: r).drop k.toNat) := by simp [takeN, hz, q, q3]
              rw [e]
              exact take_some_s k c r h8 h0 hc hl
      · have hk : (k.toNat : Int) = 0 := by omega
        have hk' : k.toNat = 0 := by omega
        have e : takeN (k :: r) = .ok (0, r) := by simp [takeN, hk', fromBE]
        rw [e]
        exact take_none_s k r hk
end Go.Proofs.Ytcafahcmalfepaa
/-
  octet.TakeInt and octet.TakeText, told by their shadows.
-/
namespace Go.Proofs.Ytcafahcmalfepaa
open Go.RowKit
/-- The number with a sign ahead. -/
def takeZ (b : Bytes) : Except Int (Int × Bytes) := match takeN b with
  | .error z => .error z
  | .ok (n, r) => .ok (unzig n, r)
theorem taken_small {b : Bytes} {n : Nat} {r : Bytes} (h : takeN b = .ok (n, r)) : n < 18446744073709551616 ∧ r.length ≤ b.length := by
  cases b with
  | nil => simp [takeN] at h
  | cons k t =>
    simp only [takeN] at h
    split at h
    · cases h
    · split at h
      · cases h
      · rename_i h1 h2
        simp only [Except.ok.injEq, Prod.mk.injEq] at h
        obtain ⟨rfl, rfl⟩ := h
        have hF := fromBE_lt (t.take k.toNat)
        rw [List.length_take] at hF
        have : 256 ^ (min k.toNat t.length) ≤ 256 ^ 8 := Nat.pow_le_pow_right (by omega) (by omega)
        exact ⟨by omega, by simp; omega⟩
end Go.Proofs.Ytcafahcmalfepaa
/-
  The document's readers of layer 01, told by their shadows.
-/
namespace Go.Proofs.Ytcafahcmalfepaa
open Go.RowKit
theorem mul_acc (n : Nat) (c : UInt8) (hn : n < 72057594037927936) : IntKind.u64.wrap (IntKind.u64.wrap (256 * (n : Int)) + IntKind.u64.wrap (c.toNat : Int)) = (n * 256 + c.toNat : Nat) := by
  have hc := c.toNat_lt
  have e1 : IntKind.u64.wrap (256 * (n : Int)) = ((n * 256 : Nat) : Int) := by rw [← wrap_nat (n * 256) (by omega)]; congr 1; omega
  have e2 : IntKind.u64.wrap (c.toNat : Int) = (c.toNat : Int) := wrap_nat _ (by omega)
  rw [e1, e2, ← wrap_nat (n * 256 + c.toNat) (by omega)]
  simp
set_option maxRecDepth 20000 in
theorem rtake_nil : ASpec Try.prog 49 [bytesA []] (takeA (.error 2)) := by
  refine ⟨⟨_, Try.func49, by kernel_rfl, rfl⟩, ACall.of Try.func49 rfl fun c0 hc0 => ?_⟩; simp only [Try.ntmps49, List.length_cons, List.length_nil, Nat.reduceAdd, Nat.reduceSub, List.replicate_succ, List.replicate_zero, List.cons_append, List.nil_append]; refine Run.god tab_ok follows_ok Try.func49 60 ?_; simp only [Try.results49, bytesA, takeA, Int.natCast_zero, ↓alt_t, drun, aops, aone, afin, ares, aresL, ares1, aresOk, aresOk1, aop, needs, ext, aev, aconst, aput, aupd, acmp, ashift, abin, alen, tab_3, tab_22, ok1, Option.getD_some, Option.bind_some, Option.map_some, List.set_cons_zero, List.set_cons_succ, List.length_nil, List.getElem?_cons_zero, List.getElem?_cons_succ, List.map_nil, List.nil_append, true_and, and_true, if_true, if_false, decide_true, List.getD_eq_getElem?_getD, Bool.false_eq_true]
  (repeat' (first | exact LeL.nil | exact Le1L.nil | exact Le.refl _ | exact Le1.refl _ | exact Le1.nil _ | exact Le1.tok _ _ _ | exact LeR.one (Le.refl _) | apply LeR.tup | apply LeL.cons | apply Le1L.cons | apply Le.agg | apply Le.one | apply LeR.one))
set_option maxRecDepth 20000 in
theorem rtake_form (k : UInt8) (r : Bytes) (h : (8 : Int) < k.toNat) : ASpec Try.prog 49 [bytesA (k :: r)] (takeA (.error 3)) := by
  refine ⟨⟨_, Try.func49, by kernel_rfl, rfl⟩, ACall.of Try.func49 rfl fun c0 hc0 => ?_⟩; simp only [Try.ntmps49, List.length_cons, List.length_nil, Nat.reduceAdd, Nat.reduceSub, List.replicate_succ, List.replicate_zero, List.cons_append, List.nil_append]; refine Run.god tab_ok follows_ok Try.func49 60 ?_; simp only [Try.results49, bytesA, takeA, byteC, wrap_u8, h, succ_ne, decide_true, Int.toNat_zero, ↓alt_t, ↓alt_f, ↓alts_t, ↓gone_ft, gslot, Int.reduceLE, drun, aops, aone, afin, ares, aresL, ares1, aresOk, aresOk1, aop, needs, ext, aev, aconst, aput, aupd, aload, aindexAddr, acmp, ashift, abin, aconv, alen, tab_3, tab_5, tab_22, ok1, cellsAs, TI.agg, Option.getD_some, Option.bind_some, Option.map_some, List.set_cons_zero, List.set_cons_succ, List.length_cons, List.length_nil, List.getElem?_cons_zero, List.getElem?_cons_succ, List.getElem?_toArray, List.take_succ_cons, List.take_nil, List.map_cons, List.map_nil, List.length_map, List.nil_append, true_and, and_true, if_true, if_false, Nat.zero_add, decide_true, decide_false, Nat.reduceLT, Nat.le_refl, List.getD_eq_getElem?_getD, Bool.false_eq_true]
  ((repeat' (apply And.intro)) <;> try (first | rfl | omega | (unfold I64; omega)))
  (repeat' (first | exact LeL.nil | exact Le1L.nil | exact Le.refl _ | exact Le1.refl _ | exact Le1.nil _ | exact Le1.tok _ _ _ | exact LeR.one (Le.refl _) | apply LeR.tup | apply LeL.cons | apply Le1L.cons | apply Le.agg | apply Le.one | apply LeR.one))
set_option maxRecDepth 20000 in
theorem rtake_short0 (k : UInt8) (h : ¬ (8 : Int) < k.toNat) (h0 : (0 : Int) < k.toNat) : ASpec Try.prog 49 [bytesA [k]] (takeA (.error 2)) := by
  have h1 : (1 : Int) < 1 + k.toNat := by omega
  refine ⟨⟨_, Try.func49, by kernel_rfl, rfl⟩, ACall.of Try.func49 rfl fun c0 hc0 => ?_⟩; simp only [Try.ntmps49, List.length_cons, List.length_nil, Nat.reduceAdd, Nat.reduceSub, List.replicate_succ, List.replicate_zero, List.cons_append, List.nil_append]; refine Run.god tab_ok follows_ok Try.func49 60 ?_; simp only [Try.results49, bytesA, takeA, byteC, wrap_u8, h, h0, h1, Int.natCast_one, Int.lt_irrefl, decide_true, Int.toNat_zero, ↓alt_t, ↓alt_f, ↓alts_t, ↓alts_f, ↓gone_tt, ↓gone_tf, ↓gone_ff, gslot, Int.reduceEq, Int.reduceLT, Int.reduceLE, drun, aops, aone, afin, ares, aresL, ares1, aresOk, aresOk1, aop, needs, ext, aev, aconst, aput, aupd, aload, aindexAddr, acmp, aarith, ashift, abin, aconv, alen, tab_3, tab_5, tab_22, ok1, cellsAs, TI.agg, Option.getD_some, Option.bind_some, Option.map_some, List.set_cons_zero, List.set_cons_succ, List.length_cons, List.length_nil, List.getElem?_cons_zero, List.getElem?_cons_succ, List.getElem?_toArray, List.take_succ_cons, List.take_nil, List.map_cons, List.map_nil, List.nil_append, true_and, and_true, if_true, if_false, Nat.zero_add, decide_true, decide_false, Nat.reduceLT, Nat.le_refl, List.getD_eq_getElem?_getD, Bool.false_eq_true]
  ((repeat' (apply And.intro)) <;> try (first | rfl | omega | (unfold I64; omega)))
  (repeat' (first | exact LeL.nil | exact Le1L.nil | exact Le.refl _ | exact Le1.refl _ | exact Le1.nil _ | exact Le1.tok _ _ _ | exact LeR.one (Le.refl _) | apply LeR.tup | apply LeL.cons | apply Le1L.cons | apply Le.agg | apply Le.one | apply LeR.one))
theorem one_lt2 (n : Nat) : ((1 : Int) < ((n + 1 + 1 : Nat) : Int)) = True := by simp; omega
set_option maxRecDepth 20000 in
theorem rtake_zero (k c : UInt8) (r : Bytes) (h : ¬ (8 : Int) < k.toNat) (h0 : (0 : Int) < k.toNat) (hc : (c.toNat : Int) = 0) : ASpec Try.prog 49 [bytesA (k :: c :: r)] (takeA (.error 3)) := by
  refine ⟨⟨_, Try.func49, by kernel_rfl, rfl⟩, ACall.of Try.func49 rfl fun c0 hc0 => ?_⟩; simp only [Try.ntmps49, List.length_cons, List.length_nil, Nat.reduceAdd, Nat.reduceSub, List.replicate_succ, List.replicate_zero, List.cons_append, List.nil_append]; refine Run.god tab_ok follows_ok Try.func49 60 ?_; simp only [Try.results49, bytesA, takeA, byteC, wrap_u8, h, h0, hc, one_lt2, succ_ne, succ_pos', decide_true, Int.toNat_zero, Int.reduceToNat, ↓alt_t, ↓alt_f, ↓alts_t, ↓alts_f, ↓gone_tt, ↓gone_ff, gslot, Int.reduceLE, drun, aops, aone, afin, ares, aresL, ares1, aresOk, aresOk1, aop, needs, ext, aev, aconst, aput, aupd, aload, aindexAddr, acmp, ashift, abin, aconv, alen, tab_3, tab_5, tab_22, ok1, cellsAs, TI.agg, Option.getD_some, Option.bind_some, Option.map_some, List.set_cons_zero, List.set_cons_succ, List.length_cons, List.length_nil, List.getElem?_cons_zero, List.getElem?_cons_succ, List.getElem?_toArray, List.take_succ_cons, List.take_nil, List.map_cons, List.map_nil, List.length_map, List.nil_append, true_and, and_true, if_true, if_false, Nat.zero_add, decide_true, decide_false, Nat.reduceLT, Nat.le_refl, List.getD_eq_getElem?_getD, Bool.false_eq_true]
  ((repeat' (apply And.intro)) <;> try (first | rfl | omega | (unfold I64; omega)))
  (repeat' (first | exact LeL.nil | exact Le1L.nil | exact Le.refl _ | exact Le1.refl _ | exact Le1.nil _ | exact Le1.tok _ _ _ | exact LeR.one (Le.refl _) | apply LeR.tup | apply LeL.cons | apply Le1L.cons | apply Le.agg | apply Le.one | apply LeR.one))
set_option maxRecDepth 20000 in
theorem rtake_short (k c : UInt8) (r : Bytes) (h : ¬ (8 : Int) < k.toNat) (h0 : (0 : Int) < k.toNat) (hc : ¬ (c.toNat : Int) = 0) (hl : ((r.length + 1 + 1 : Nat) : Int) < 1 + k.toNat) : ASpec Try.prog 49 [bytesA (k :: c :: r)] (takeA (.error 2)) := by
  refine ⟨⟨_, Try.func49, by kernel_rfl, rfl⟩, ACall.of Try.func49 rfl fun c0 hc0 => ?_⟩; simp only [Try.ntmps49, List.length_cons, List.length_nil, Nat.reduceAdd, Nat.reduceSub, List.replicate_succ, List.replicate_zero, List.cons_append, List.nil_append]; refine Run.god tab_ok follows_ok Try.func49 60 ?_; simp only [Try.results49, bytesA, takeA, byteC, wrap_u8, h, h0, hc, hl, one_lt2, succ_ne, succ_pos', decide_true, Int.toNat_zero, Int.reduceToNat, ↓alt_t, ↓alt_f, ↓alts_t, ↓alts_f, ↓gone_tt, ↓gone_ff, gslot, Int.reduceLE, drun, aops, aone, afin, ares, aresL, ares1, aresOk, aresOk1, aop, needs, ext, aev, aconst, aput, aupd, aload, aindexAddr, acmp, aarith, ashift, abin, aconv, alen, tab_3, tab_5, tab_22, ok1, cellsAs, TI.agg, Option.getD_some, Option.bind_some, Option.map_some, List.set_cons_zero, List.set_cons_succ, List.length_cons, List.length_nil, List.getElem?_cons_zero, List.getElem?_cons_succ, List.getElem?_toArray, List.take_succ_cons, List.take_nil, List.map_cons, List.map_nil, List.length_map, List.nil_append, true_and, and_true, if_true, if_false, Nat.zero_add, decide_true, decide_false, Nat.reduceLT, Nat.le_refl, List.getD_eq_getElem?_getD, Bool.false_eq_true]
  ((repeat' (apply And.intro)) <;> try (first | rfl | omega | (unfold I64; omega)))
  (repeat' (first | exact LeL.nil | exact Le1L.nil | exact Le.refl _ | exact Le1.refl _ | exact Le1.nil _ | exact Le1.tok _ _ _ | exact LeR.one (Le.refl _) | apply LeR.tup | apply LeL.cons | apply Le1L.cons | apply Le.agg | apply Le.one | apply LeR.one))
set_option maxRecDepth 20000 in
theorem rtake_none (k : UInt8) (r : Bytes) (h0 : (k.toNat : Int) = 0) : ASpec Try.prog 49 [bytesA (k :: r)] (takeA (.ok (0, r))) := by
  have hl : ¬ ((r.length + 1 : Nat) : Int) < 1 := by omega
  refine ⟨⟨_, Try.func49, by kernel_rfl, rfl⟩, ACall.of Try.func49 rfl fun c0 hc0 => ?_⟩; simp only [Try.ntmps49, List.length_cons, List.length_nil, Nat.reduceAdd, Nat.reduceSub, List.replicate_succ, List.replicate_zero, List.cons_append, List.nil_append]; refine Run.god tab_ok follows_ok Try.func49 60 ?_; simp only [bytesA, takeA, byteC, h0, hl, Int.add_zero, show IntKind.i64.wrap 0 = 0 from rfl, succ_ne, succ_pos', Int.natCast_zero, Int.toNat_zero, ↓alt_f, ↓alts_f, ↓gone_tf, ↓gone_ff, gslot, Int.reduceLT, Int.reduceLE, drun, aops, aone, aop, needs, ext, aev, aconst, aput, aupd, aload, aindexAddr, acmp, aarith, ashift, abin, aconv, alen, tab_3, tab_5, tab_22, ok1, cellsAs, TI.agg, Option.getD_some, Option.bind_some, Option.map_some, List.set_cons_zero, List.set_cons_succ, List.length_cons, List.length_nil, List.getElem?_cons_zero, List.getElem?_cons_succ, List.getElem?_toArray, List.take_succ_cons, List.take_nil, List.map_cons, List.length_map, List.nil_append, true_and, and_true, if_true, if_false, Nat.zero_add, decide_false, Nat.reduceLT, Nat.le_refl, List.getD_eq_getElem?_getD, Bool.false_eq_true]
  ((repeat' (apply And.intro)) <;> try (first | rfl | omega | (unfold I64; omega)))
  refine Run.unloop ?_
  refine Run.god tab_ok follows_ok Try.func49 60 ?_; simp only [Try.results49, Int.add_zero, Int.reduceToNat, ↓alt_f, Int.reduceLE, drun, adops, adone, places, mayNeed, freeOk, rdOf, wrOf, aops, aone, afin, ares, aresL, ares1, aresOk, aresOk1, aop, needs, ext, aev, aconst, aput, aupd, acmp, aarith, ashift, abin, aslice, tab_3, tab_5, tab_22, ok1, exitTo, Option.getD_some, Option.bind_some, Option.map_some, Option.map_none, List.set_cons_zero, List.set_cons_succ, List.length_cons, List.length_nil, List.getElem?_cons_zero, List.getElem?_cons_succ, List.drop_zero, List.drop_succ_cons, List.length_map, List.cons_append, List.nil_append, List.append_nil, true_and, and_true, if_true, if_false, Nat.zero_add, beq_self_eq_true, decide_false, List.getD_eq_getElem?_getD, Option.isSome_none, Bool.false_eq_true]
  ((repeat' (apply And.intro)) <;> try (first | rfl | omega | (unfold I64; omega)))
  (repeat' (first | exact LeL.nil | exact Le1L.nil | exact Le.refl _ | exact Le1.refl _ | exact Le1.nil _ | exact Le1.tok _ _ _ | exact LeR.one (Le.refl _) | apply LeR.tup | apply LeL.cons | apply Le1L.cons | apply Le.agg | apply Le.one | apply LeR.one))
set_option maxRecDepth 20000 in
theorem rtake_some (k c : UInt8) (r : Bytes) (h : ¬ (8 : Int) < k.toNat) (h0 : (0 : Int) < k.toNat) (hc : ¬ (c.toNat : Int) = 0) (hl : ¬ ((r.length + 1 + 1 : Nat) : Int) < 1 + k.toNat) : ASpec Try.prog 49 [bytesA (k :: c :: r)] (takeA (.ok (fromBE ((c :: r).take k.toNat), (c :: r).drop k.toNat))) := by
  refine ⟨⟨_, Try.func49, by kernel_rfl, rfl⟩, ACall.of Try.func49 rfl fun c0 hc0 => ?_⟩; simp only [Try.ntmps49, List.length_cons, List.length_nil, Nat.reduceAdd, Nat.reduceSub, List.replicate_succ, List.replicate_zero, List.cons_append, List.nil_append]; refine Run.god tab_ok follows_ok Try.func49 60 ?_; simp only [bytesA, takeA, byteC, wrap_u8, h, h0, hc, hl, one_lt2, succ_ne, succ_pos', decide_true, Int.toNat_zero, Int.reduceToNat, ↓alt_f, ↓alts_t, ↓alts_f, ↓gone_tt, ↓gone_ff, gslot, Int.reduceLE, drun, aops, aone, aop, needs, ext, aev, aconst, aput, aupd, aload, aindexAddr, acmp, aarith, ashift, abin, aconv, alen, tab_3, tab_5, tab_22, ok1, cellsAs, TI.agg, Option.getD_some, Option.bind_some, Option.map_some, List.set_cons_zero, List.set_cons_succ, List.length_cons, List.length_nil, List.getElem?_cons_zero, List.getElem?_cons_succ, List.getElem?_toArray, List.take_succ_cons, List.take_nil, List.map_cons, List.length_map, List.nil_append, true_and, and_true, if_true, if_false, Nat.zero_add, decide_true, decide_false, Nat.reduceLT, Nat.le_refl, List.getD_eq_getElem?_getD, Bool.false_eq_true]
  ((repeat' (apply And.intro)) <;> try (first | rfl | omega | (unfold I64; omega)))
  refine Run.loopV (α := Nat) (fun j => j ≤ k.toNat) (fun j => [(6, .int .u64 (fromBE ((c :: r).take j) : Nat)), (7, .int .i64 ((j : Int) + 1))]) 0 (fun _ => []) (fun j => k.toNat - j) 0 (Nat.zero_le _) ?_ ?_
  · simp only [writes, junks, puts, hputs, List.filterMap_cons, List.filterMap_nil, Int.natCast_zero, Int.natCast_add, Int.natCast_one, List.set_cons_zero, List.set_cons_succ, List.take_zero, List.take_nil, List.cons_append, List.nil_append, List.append_nil]
    (refine Weak.of (by simp [hc0]) ?_ ?_ <;> (repeat' (first | exact WkT.nil | exact WkH.nil _ | exact Le.refl _ | exact Le.junk _ | exact Le1.refl _ | exact Le1.nil _ | exact Le1.tok _ _ _ | exact Le1L.nil | rfl | apply WkT.cons | apply WkH.cons | apply LeB.same | apply LeB.box | apply Le1L.cons | apply Le.agg | apply Le.one)))
  · intro j hj ih
    simp only [writes, junks, puts, hputs, List.filterMap_cons, List.filterMap_nil, Int.natCast_add, Int.natCast_one, List.set_cons_zero, List.set_cons_succ, List.take_nil, List.cons_append, List.nil_append, List.append_nil] at ih ⊢
    have hjn : ((j : Int) + 1).toNat = j + 1 := by omega
    by_cases hjk : j < k.toNat
    · have hjr : j < (c :: r).length := by simp; omega
      have hg : (c :: r)[j]? = some ((c :: r)[j]) := List.getElem?_eq_getElem hjr
      have hsn : fromBE ((c :: r).take (j + 1)) = fromBE ((c :: r).take j) * 256 + ((c :: r)[j]).toNat := by
        rw [List.take_add_one, hg, ← fromBE_snoc]; rfl
      have hF := fromBE_lt ((c :: r).take j)
      have hFl : ((c :: r).take j).length = j := by rw [List.length_take]; omega
      rw [hFl] at hF
      have hpow : 256 ^ j ≤ 256 ^ 7 := Nat.pow_le_pow_right (by omega) (by omega)
      have hx : ([AV.int .u8 c.toNat] :: List.map byteC r)[j]? = some [.int .u8 ((c :: r)[j]).toNat] := by
        have e : ([AV.int .u8 c.toNat] :: List.map byteC r) = (c :: r).map byteC := rfl
        rw [e, List.getElem?_map, hg]; rfl
      have hor := mul_acc (fromBE ((c :: r).take j)) ((c :: r)[j]) (by omega)
      rw [← hsn] at hor
      obtain ⟨G, hG⟩ : ∃ G, G = fromBE ((c :: r).take (j + 1)) := ⟨_, rfl⟩
      rw [← hG] at hor
      generalize (c :: r)[j] = x at *
      have hjj : (j : Int) + 1 ≤ k.toNat := by omega
      refine Run.god tab_ok follows_ok Try.func49 60 ?_; simp only [hx, hjj, hjn, List.getElem?_cons_succ, hor, decide_true, ↓alt_t, drun, aops, aone, aop, needs, ext, aev, aconst, aput, aupd, aload, aindexAddr, acmp, aarith, ashift, abin, aconv, tab_3, tab_5, tab_22, tab_75, ok1, cellsAs, TI.agg, Option.getD_some, Option.bind_some, Option.map_some, List.set_cons_zero, List.set_cons_succ, List.length_cons, List.length_nil, List.getElem?_cons_zero, List.getElem?_cons_succ, List.take_succ_cons, List.take_nil, List.length_map, List.nil_append, true_and, if_true, if_false, Nat.zero_add, decide_true, Nat.reduceLT, reduceCtorEq, Nat.le_refl, List.getD_eq_getElem?_getD, Bool.false_eq_true]
      ((repeat' (apply And.intro)) <;> try (first | rfl | omega | (unfold I64; omega)))
      refine ih (j + 1) _ (by omega) (by omega) ?_
      rw [← hG]
      simp only [Int.natCast_add, Int.natCast_one]
      (refine Weak.of (by simp [hc0]) ?_ ?_ <;> (repeat' (first | exact WkT.nil | exact WkH.nil _ | exact Le.refl _ | exact Le.junk _ | exact Le1.refl _ | exact Le1.nil _ | exact Le1.tok _ _ _ | exact Le1L.nil | rfl | apply WkT.cons | apply WkH.cons | apply LeB.same | apply LeB.box | apply Le1L.cons | apply Le.agg | apply Le.one)))
    · obtain rfl : j = k.toNat := by omega
      have hjj : ¬ (k.toNat : Int) + 1 ≤ k.toNat := by omega
      have hkn : (1 + (k.toNat : Int)).toNat = k.toNat + 1 := by omega
      refine Run.god tab_ok follows_ok Try.func49 60 ?_; simp only [Try.results49, hjj, hkn, ↓alt_f, drun, adops, adone, places, mayNeed, freeOk, rdOf, wrOf, aops, aone, afin, ares, aresL, ares1, aresOk, aresOk1, aop, needs, ext, aev, aconst, aput, aupd, acmp, aarith, ashift, abin, aslice, tab_3, tab_5, tab_22, ok1, exitTo, Option.getD_some, Option.bind_some, Option.map_some, Option.map_none, List.set_cons_zero, List.set_cons_succ, List.length_cons, List.length_nil, List.getElem?_cons_zero, List.getElem?_cons_succ, List.drop_succ_cons, List.length_map, List.cons_append, List.nil_append, List.append_nil, true_and, and_true, if_true, if_false, Nat.zero_add, beq_self_eq_true, decide_false, List.getD_eq_getElem?_getD, Option.isSome_none, Bool.false_eq_true]
      have e : List.drop k.toNat ([AV.int .u8 c.toNat] :: List.map byteC r) = List.map byteC (List.drop k.toNat (c :: r)) := by rw [List.map_drop]; rfl
      rw [e]
      ((repeat' (apply And.intro)) <;> try (first | rfl | omega | (unfold I64; omega)))
      (repeat' (first | exact LeL.nil | exact Le1L.nil | exact Le.refl _ | exact Le1.refl _ | exact Le1.nil _ | exact Le1.tok _ _ _ | exact LeR.one (Le.refl _) | apply LeR.tup | apply LeL.cons | apply Le1L.cons | apply Le.agg | apply Le.one | apply LeR.one))
theorem rtake_spec (b : Bytes) : ASpec Try.prog 49 [bytesA b] (takeA (takeN b)) := by
  match b with
  | [] => exact rtake_nil
  | k :: r =>
    by_cases h8 : (8 : Int) < k.toNat
    · have e : takeN (k :: r) = .error 3 := by
        have q : 8 < k.toNat := by omega
        simp [takeN, q]
      rw [e]
      exact rtake_form k r h8
    · have q : ¬ 8 < k.toNat := by omega
      by_cases h0 : (0 : Int) < k.toNat
      · have q2 : 0 < k.toNat := by omega
        match r with
        | [] =>
          have e : takeN [k] = .error 2 := by simp [takeN, q, q2]
          rw [e]
          exact rtake_short0 k h8 h0
        | c :: r =>
          by_cases hc : (c.toNat : Int) = 0
          · have hz : c = 0 := by apply UInt8.toNat_inj.1; simpa using hc
            have e : takeN (k :: c :: r) = .error 3 := by subst hz; simp [takeN, q2]
            rw [e]
            exact rtake_zero k c r h8 h0 hc
          · have hz : ¬ c = 0 := by intro h; subst h; exact hc rfl
            by_cases hl : ((r.length + 1 + 1 : Nat) : Int) < 1 + k.toNat
            · have q3 : r.length + 1 < k.toNat := by omega
              have e : takeN (k :: c :: r) = .error 2 := by simp [takeN, hz, q, q3]
              rw [e]
              exact rtake_short k c r h8 h0 hc hl
            · have q3 : ¬ r.length + 1 < k.toNat := by omega
              have e : takeN (k :: c :: r) = .ok (fromBE ((c :: r).take k.toNat), (c :: r).drop k.toNat) := by simp [takeN, hz, q, q3]
              rw [e]
              exact rtake_some k c r h8 h0 hc hl
      · have hk : (k.toNat : Int) = 0 := by omega
        have hk' : k.toNat = 0 := by omega
        have e : takeN (k :: r) = .ok (0, r) := by simp [takeN, hk', fromBE]
        rw [e]
        exact rtake_none k r hk
end Go.Proofs.Ytcafahcmalfepaa
/-
  math/bits.Len64 at this translation, by the shelf's contract.
-/
namespace Go.Proofs.Ytcafahcmalfepaa
open Go.Shelf
def lays129_ren : Go.Shelf.Ren := ⟨fun | 129 => 76 | n => n, fun | 53 => 75 | 3 => 3 | 4 => 4 | 46 => 80 | 5 => 5 | 9 => 9 | n => n, fun | n => n⟩
theorem lays129 : Go.Proofs.Lays.n129 Try.prog lays129_ren := {
  mixed := by kernel_rfl
  f129 := Try.func76.trans (congrArg some (by kernel_rfl))
  t3 := Try.underlying3
  a3 := Try.isAgg3
  z3 := Try.sizeOf3
  v3 := Try.zeroValue3
  t4 := Try.underlying4
  a4 := Try.isAgg4
  z4 := Try.sizeOf4
  v4 := Try.zeroValue4
  t5 := Try.underlying5
  a5 := Try.isAgg5
  z5 := Try.sizeOf5
  v5 := Try.zeroValue5
  t9 := Try.underlying9
  a9 := Try.isAgg9
  z9 := Try.sizeOf9
  v9 := Try.zeroValue9
  t46 := Try.underlying80
  a46 := Try.isAgg80
  z46 := Try.sizeOf80
  v46 := Try.zeroValue80
  t53 := Try.underlying75
  a53 := Try.isAgg75
  z53 := Try.sizeOf75
  v53 := Try.zeroValue75 }
theorem len64_any (x : Int) (w : World) (h0 : 0 ≤ x) (h1 : x ≤ 18446744073709551615) :
    Calls Try.prog 76 #[.int .u64 x] w fun e w' => e = .returned (.int .i64 (Lib.bitLen x.toNat)) ∧ w' = w := Any.bits_Len64 lays129 x w h0 h1
end Go.Proofs.Ytcafahcmalfepaa
/-
  The walks of package octet: each function's contract.
-/
namespace Go.Proofs.Ytcafahcmalfepaa
open Go.RowKit

theorem size_any (n : Nat) (hn : n < 18446744073709551616) (w : World) :
    Calls Try.prog 54 #[.int .u64 n] w fun e w' => e = .returned (.int .i64 (1 + nb n : Nat)) ∧ w = w' := by
  have h8 := nb_le n hn
  have hb := bitLen_nb n hn
  have hb2 : Lib.bitLen n ≤ 64 := by omega
  have HB := hid hb; clear hb
  go_enter Try.func54, Try.ntmps54
  go_wp2_with (go_at_call 76; refine (len64_any _ _ (by omega) (by omega)).mono ?_; rintro e w' ⟨rfl, rfl⟩; rw [Int.toNat_natCast])
  go_ret
  exact ⟨ret_int (by have := HB.out; omega), rfl⟩

theorem clip_any (A : Option Addr) (n c : Nat) (hn : n ≤ c) (hc : c ≤ maxLen) (w : World) :
    Calls Try.prog 74 #[.slice A n c] w fun e w' => e = .returned (.slice A n n) ∧ w = w' := by
  unfold maxLen at hc
  go_enter Try.func74, Try.ntmps74
  go_wp2
  go_ret
  exact ⟨rfl, rfl⟩

set_option maxHeartbeats 400000 in
theorem put_any (A : Option Addr) (b : Bytes) (m c n : Nat) (hm : b.length = m) (hmc : m ≤ c) (hc : c ≤ maxLen) (hn : n < 18446744073709551616) (hb : m ≤ 1000000) (w : World) (hs : Sl byteR 1 w.heap.size w A b) :
    Calls Try.prog 51 #[.slice A m c, .int .u64 n] w (RetB w (b ++ encN n)) := by
  have h8 := nb_le n hn
  obtain ⟨xs, hr0', hcx⟩ := hs.cells
  rw [hm] at hr0'
  have hc0' : ∀ W : World, Cs byteR 1 0 W xs b := fun W => cs_bytes.2 (cs_bytes.1 hcx)
  have hk8 : 1 + (nb n : Int) - 1 = (nb n % 256 : Nat) := by omega
  have hl1 : (b.length + [UInt8.ofNat (nb n)].length) * 1 ≤ 140737488355328 := by simp; omega
  have hl2 : b.length + [UInt8.ofNat (nb n)].length ≤ maxLen := by simp [maxLen]; omega
  have HK := hid hk8; have HL1 := hid hl1; have HL2 := hid hl2; have HR := hid hr0'; have HC := hid hc0'
  clear hk8 hl1 hl2 hcx hr0' hc0' hs
  go_enter Try.func51, Try.ntmps51
  go_wp2_with (first
    | (go_at_call 54; refine (size_any n hn _).mono ?_; rintro e w' ⟨rfl, rfl⟩)
    | (go_at_call 74; refine (clip_any A m c hmc hc _).mono ?_; rintro e w' ⟨rfl, rfl⟩)
    | (at_builtin; refine wpl_append_full (R := byteR) (B := 0) rfl (.tmp 12) (.tmp 15) _ rfl tabB A m m xs b [UInt8.ofNat (nb n)] rfl hm rfl (HR.out.alloc _) (HC.out _) (Nat.zero_le _) ⟨w.heap.size, 0, none⟩ 1 1 [.int .u8 (1 + (nb n : Int) - 1)] rfl rfl Nat.one_pos (rdc_new _ _ _ rfl) (byte_one HK.out _) (bytes1 _) HL1.out HL2.out ?_; intro v1 w1 hown hbl))
  have hown2 := hown.low (base' := w.heap.size) (by simp)
  have hbl2 : Below w.heap.size w w1 := below_then (below_new _ _) hbl
  have HO := hid hown2; clear hown hbl hown2
  go_loopw [6, 7] (fun v i wr => ∃ q : Nat, q ≤ nb n ∧ i = .int .i64 ((q : Int) - 1) ∧ Own byteR 1 5 w.heap.size 0 wr v ((b ++ [UInt8.ofNat (nb n)]) ++ (be (nb n) n).take (nb n - q)) ∧ Below w.heap.size w wr)
    (fun _ i _ => (intOf i + 1).toNat)
  case atStart => exact ⟨nb n, Nat.le_refl _, by go_num, by simpa using HO.out, hbl2⟩
  case round =>
    obtain ⟨q, hq, rfl, hown, hbr⟩ := hrel
    cases q with
    | zero =>
      have HO2 := hid hown; clear hown
      go_wp2
      go_ret
      refine ⟨_, rfl, ?_, hbr⟩
      have := HO2.out
      rw [Nat.sub_zero, List.take_of_length_le (by rw [be_length]; omega)] at this
      simpa [encN] using this
    | succ p =>
      rw [show ((p + 1 : Nat) : Int) - 1 = (p : Int) by omega]
      have HO2 := hid hown; clear hown
      have hl : ((b ++ [UInt8.ofNat (nb n)]) ++ (be (nb n) n).take (nb n - (p + 1))).length ≤ 1000010 := by
        simp only [List.length_append, List.length_cons, List.length_nil]
        have : (List.take (nb n - (p + 1)) (be (nb n) n)).length ≤ nb n := by rw [List.length_take, be_length]; omega
        omega
      have hk := shr_byte n p
      have ht := be_take (nb n) n (nb n - (p + 1)) (by omega)
      rw [show nb n - 1 - (nb n - (p + 1)) = p by omega, show nb n - (p + 1) + 1 = nb n - p by omega] at ht
      generalize hL : (b ++ [UInt8.ofNat (nb n)]) ++ (be (nb n) n).take (nb n - (p + 1)) = L at *
      have HK1 := hid hk; have HT := hid ht; have HL := hid hL; have HN := hid hl; clear hk ht hL hl
      go_wp2_with (first
        | (at_builtin; refine wpl_append (R := byteR) (B := 0) rfl (.tmp 23) (.tmp 29) _ rfl tabB _ L [UInt8.ofNat (n / 256 ^ p)] rfl (HO2.out.alloc (Nat.zero_le _) _) (Nat.zero_le _) (some ⟨wr.heap.size, 0, none⟩) 1 1 [.int .u8 ((n : Int) / 2 ^ (8 * p) % 256)] rfl rfl (rdc_new _ _ _ rfl) (byte_one HK1.out _) (bytes1 _) (by have := HN.out; simp; omega) (by have := HN.out; simp [maxLen]; omega) (le_alloc hbr.size _) ?_; intro v2 w2 hown2 hbl3 _ _))
      have HO3 := hid hown2; clear hown2
      go_roundw
      case rel =>
        refine ⟨p, by omega, by go_num, ?_, ?_⟩
        · have := HO3.out
          rw [← HL.out, List.append_assoc, ← HT.out] at this
          exact this
        · exact (hbr.trans ((Below.refl _ _).alloc hbr.size _)).trans hbl3
      case measure => simp [intOf]
end Go.Proofs.Ytcafahcmalfepaa
/-
  Numbers as bytes: what is written is taken, what is taken was written. No program in sight.
-/
namespace Go.Proofs.Ytcafahcmalfepaa
theorem fromBE_be (k n : Nat) : fromBE (be k n) = n % 256 ^ k := by
  have key : ∀ (k a n : Nat), (be k n).foldl (fun n c => n * 256 + c.toNat) a = a * 256 ^ k + n % 256 ^ k := by
    intro k
    induction k with
    | zero => intro a n; simp [be, Nat.mod_one]
    | succ k ih =>
      intro a n
      rw [be, List.foldl_cons, ih, Nat.mod_pow_succ]
      have : (UInt8.ofNat (n / 256 ^ k)).toNat = n / 256 ^ k % 256 := by simp
      rw [this, Nat.add_mul, Nat.pow_succ, Nat.mul_assoc, Nat.mul_comm 256 (256 ^ k), Nat.mul_comm (n / 256 ^ k % 256)]
      omega
  have := key k 0 n
  simpa [fromBE] using this
theorem head_be (n : Nat) (h0 : n ≠ 0) (h : n < 18446744073709551616) (r : Bytes) : (be (nb n) n ++ r).head? ≠ some 0 := by
  have h1 := nb_pos n h0
  have h2 := nb_ge n h0 h
  have h3 := nb_lt n h
  obtain ⟨k, hk⟩ : ∃ k, nb n = k + 1 := ⟨nb n - 1, by omega⟩
  rw [hk] at h2 h3 ⊢
  rw [Nat.add_sub_cancel] at h2
  rw [Nat.pow_succ] at h3
  simp only [be, List.cons_append, List.head?_cons, ne_eq, Option.some.injEq]
  intro hc
  have hc' : (UInt8.ofNat (n / 256 ^ k)).toNat = 0 := by rw [hc]; rfl
  have hp : 0 < 256 ^ k := Nat.pos_of_ne_zero (by simp)
  have h4 : n / 256 ^ k < 256 := Nat.div_lt_of_lt_mul h3
  have h5 : 1 ≤ n / 256 ^ k := (Nat.one_le_div_iff hp).2 h2
  simp at hc'
  omega
theorem takeN_enc (n : Nat) (h : n < 18446744073709551616) (r : Bytes) : takeN (encN n ++ r) = .ok (n, r) := by
  have h8 := nb_le n h
  have hk : (UInt8.ofNat (nb n)).toNat = nb n := by simp; omega
  rw [encN, List.cons_append, takeN, hk, if_neg, if_neg]
  · rw [List.take_left' (be_length _ _), List.drop_left' (be_length _ _), fromBE_be, Nat.mod_eq_of_lt (nb_lt n h)]
  · rw [List.length_append, be_length]; omega
  · rintro (h1 | ⟨h1, h2⟩)
    · omega
    · exact head_be n (by rintro rfl; rw [nb_zero] at h1; omega) h r h2
theorem be_add (k a n : Nat) (j : Nat) (h : j ≤ k) : be j (n + a * 256 ^ k) = be j n := by
  induction j with
  | zero => rfl
  | succ j ih =>
    rw [be, be, ih (by omega)]
    congr 1
    have hp : 0 < 256 ^ j := Nat.pos_of_ne_zero (by simp)
    obtain ⟨d, hd⟩ : ∃ d, k = j + (d + 1) := ⟨k - j - 1, by omega⟩
    have : a * 256 ^ k = (a * 256 ^ d * 256) * 256 ^ j := by rw [hd, Nat.pow_add, Nat.pow_succ]; ac_rfl
    rw [this, Nat.add_mul_div_right _ _ hp]
    apply UInt8.toNat_inj.1
    simp
theorem fold_be (l : Bytes) (a : Nat) : l.foldl (fun n c => n * 256 + c.toNat) a = a * 256 ^ l.length + fromBE l := by
  induction l generalizing a with
  | nil => simp [fromBE]
  | cons c l ih =>
    have hf : fromBE (c :: l) = (0 * 256 + c.toNat) * 256 ^ l.length + fromBE l := by rw [← ih]; rfl
    rw [List.foldl_cons, ih, hf, List.length_cons, Nat.pow_succ, Nat.add_mul, Nat.add_mul, Nat.mul_assoc, Nat.mul_comm 256]
    omega
theorem fromBE_cons (c : UInt8) (l : Bytes) : fromBE (c :: l) = c.toNat * 256 ^ l.length + fromBE l := by
  rw [fromBE, List.foldl_cons, fold_be]; simp
theorem be_fromBE (l : Bytes) : be l.length (fromBE l) = l := by
  induction l with
  | nil => rfl
  | cons c l ih =>
    have hp : 0 < 256 ^ l.length := Nat.pos_of_ne_zero (by simp)
    rw [List.length_cons, be, fromBE_cons, Nat.add_comm, Nat.add_mul_div_right _ _ hp, Nat.div_eq_of_lt (fromBE_lt l), Nat.zero_add, be_add _ _ _ _ (Nat.le_refl _), ih]
    simp
theorem nb_fromBE (l : Bytes) (hl : l.length ≤ 8) (h : l = [] ∨ l.head? ≠ some 0) : nb (fromBE l) = l.length := by
  match l, hl, h with
  | [], _, _ => rfl
  | c :: l, hl, h =>
    have h : c ≠ 0 := by rcases h with h | h <;> simp at h; exact h
    have hc : 1 ≤ c.toNat := by
      have : c.toNat ≠ 0 := fun h0 => h (UInt8.toNat_inj.1 h0)
      omega
    have hlt := fromBE_lt (c :: l)
    have hge : 256 ^ l.length ≤ fromBE (c :: l) := by rw [fromBE_cons]; have := Nat.mul_le_mul_right (256 ^ l.length) hc; omega
    have hp : 0 < 256 ^ l.length := Nat.pos_of_ne_zero (by simp)
    have h64 : fromBE (c :: l) < 18446744073709551616 := Nat.lt_of_lt_of_le hlt (Nat.le_trans (Nat.pow_le_pow_right (by omega) hl) (by decide))
    have h1 := nb_lt _ h64
    have h2 := nb_ge _ (by omega) h64
    rw [List.length_cons] at hlt ⊢
    generalize fromBE (c :: l) = n at *
    rcases Nat.lt_trichotomy (nb n) (l.length + 1) with h3 | h3 | h3
    · have : 256 ^ nb n ≤ 256 ^ l.length := Nat.pow_le_pow_right (by omega) (by omega)
      omega
    · exact h3
    · have : 256 ^ (l.length + 1) ≤ 256 ^ (nb n - 1) := Nat.pow_le_pow_right (by omega) (by omega)
      omega
theorem takeN_only {b r : Bytes} {n : Nat} (h : takeN b = .ok (n, r)) : encN n ++ r = b := by
  match b, h with
  | k :: t, h =>
    rw [takeN] at h
    split at h
    · cases h
    · rename_i h1
      split at h
      · cases h
      · rename_i h2
        simp only [Except.ok.injEq, Prod.mk.injEq] at h
        obtain ⟨rfl, rfl⟩ := h
        have hlen : (t.take k.toNat).length = k.toNat := by rw [List.length_take]; omega
        have hnb := nb_fromBE (t.take k.toNat) (by omega) (by
          by_cases h0 : k.toNat = 0
          · left; rw [h0]; rfl
          · right
            intro hh
            apply h1
            right
            refine ⟨by omega, ?_⟩
            cases t with
            | nil => simp at hh
            | cons c t' =>
              obtain ⟨q, hq⟩ : ∃ q, k.toNat = q + 1 := ⟨k.toNat - 1, by omega⟩
              rw [hq, List.take_succ_cons] at hh
              exact hh)
        rw [hlen] at hnb
        have hbe := be_fromBE (t.take k.toNat)
        rw [hlen] at hbe
        rw [encN, hnb, hbe, List.cons_append, List.take_append_drop, UInt8.ofNat_toNat]
end Go.Proofs.Ytcafahcmalfepaa
/-
  Sums of CRC-32C, and frames: the plain functions, and what they obey. No program in sight.
-/
namespace Go.Proofs.Ytcafahcmalfepaa
def crcBit (x : Nat) : Nat := x / 2 ^^^ (if x % 2 = 1 then 2197175160 else 0)
def crcBits : Nat → Nat → Nat
  | 0, x => x
  | k + 1, x => crcBit (crcBits k x)
def crcByte (x : Nat) : Nat := crcBits 8 x
def crcStep (x : Nat) (c : UInt8) : Nat := crcByte (x ^^^ c.toNat)
def crcRun (x : Nat) (b : Bytes) : Nat := b.foldl crcStep x
def crcMore (s : Nat) (b : Bytes) : Nat := crcRun (s ^^^ 4294967295) b ^^^ 4294967295
def crcSum (b : Bytes) : Nat := crcMore 0 b
theorem xor32 {a b : Nat} (ha : a < 4294967296) (hb : b < 4294967296) : a ^^^ b < 4294967296 := Nat.xor_lt_two_pow (n := 32) ha hb
theorem byte_lt (c : UInt8) : c.toNat < 4294967296 := by have := c.toNat_lt; omega
theorem xor_rc {a b c : Nat} (h : a ^^^ c = b ^^^ c) : a = b := by
  have e := congrArg (· ^^^ c) h
  simpa [Nat.xor_assoc] using e
theorem xor_lc {a b c : Nat} (h : c ^^^ a = c ^^^ b) : a = b := by
  rw [Nat.xor_comm c a, Nat.xor_comm c b] at h
  exact xor_rc h
theorem crcBit_lt {x : Nat} (h : x < 4294967296) : crcBit x < 4294967296 := by
  unfold crcBit
  refine xor32 (by omega) ?_
  split <;> omega
theorem crcBits_lt {x : Nat} (h : x < 4294967296) (k : Nat) : crcBits k x < 4294967296 := by
  induction k with
  | zero => exact h
  | succ k ih => exact crcBit_lt ih
theorem crcByte_lt {x : Nat} (h : x < 4294967296) : crcByte x < 4294967296 := crcBits_lt h 8
theorem crcStep_lt {x : Nat} (h : x < 4294967296) (c : UInt8) : crcStep x c < 4294967296 := crcByte_lt (xor32 h (byte_lt c))
theorem crcRun_lt {x : Nat} (h : x < 4294967296) (b : Bytes) : crcRun x b < 4294967296 := by
  induction b generalizing x with
  | nil => exact h
  | cons c b ih => exact ih (crcStep_lt h c)
theorem crcMore_lt {x : Nat} (h : x < 4294967296) (b : Bytes) : crcMore x b < 4294967296 := xor32 (crcRun_lt (xor32 h (by decide)) b) (by decide)
theorem crcSum_lt (b : Bytes) : crcSum b < 4294967296 := crcMore_lt (by decide) b
theorem xor_half (a b : Nat) : (a ^^^ b) / 2 = a / 2 ^^^ b / 2 := by
  have := Nat.shiftRight_xor_distrib (a := a) (b := b) (i := 1)
  simpa [Nat.shiftRight_eq_div_pow] using this
theorem xor_byte (a b : Nat) : (a ^^^ b) / 256 = a / 256 ^^^ b / 256 := by
  have := Nat.shiftRight_xor_distrib (a := a) (b := b) (i := 8)
  simpa [Nat.shiftRight_eq_div_pow] using this
theorem xor_odd (a b : Nat) : ((a ^^^ b) % 2 = 1) ↔ ¬ (a % 2 = 1 ↔ b % 2 = 1) := Nat.xor_mod_two_eq_one
theorem crcBit_xor (a b : Nat) : crcBit (a ^^^ b) = crcBit a ^^^ crcBit b := by
  unfold crcBit
  rw [xor_half]
  have e : (if (a ^^^ b) % 2 = 1 then 2197175160 else 0) = (if a % 2 = 1 then 2197175160 else 0) ^^^ (if b % 2 = 1 then 2197175160 else 0) := by
    by_cases h1 : a % 2 = 1
    · by_cases h2 : b % 2 = 1
      · rw [if_neg (fun h => (xor_odd a b).1 h ⟨fun _ => h2, fun _ => h1⟩), if_pos h1, if_pos h2, Nat.xor_self]
      · rw [if_pos ((xor_odd a b).2 fun h => h2 (h.1 h1)), if_pos h1, if_neg h2, Nat.xor_zero]
    · by_cases h2 : b % 2 = 1
      · rw [if_pos ((xor_odd a b).2 fun h => h1 (h.2 h2)), if_neg h1, if_pos h2, Nat.zero_xor]
      · rw [if_neg (fun h => (xor_odd a b).1 h ⟨fun k => absurd k h1, fun k => absurd k h2⟩), if_neg h1, if_neg h2, Nat.xor_self]
  rw [e]
  generalize (if a % 2 = 1 then 2197175160 else 0) = p
  generalize (if b % 2 = 1 then 2197175160 else 0) = q
  rw [Nat.xor_assoc, Nat.xor_assoc, ← Nat.xor_assoc (b / 2) p q, Nat.xor_comm (b / 2) p, Nat.xor_assoc p]
theorem crcBits_xor (k a b : Nat) : crcBits k (a ^^^ b) = crcBits k a ^^^ crcBits k b := by
  induction k with
  | zero => rfl
  | succ k ih => simp only [crcBits, ih, crcBit_xor]
theorem crcBit_even (m : Nat) : crcBit (2 * m) = m := by
  unfold crcBit
  rw [if_neg (by omega), Nat.xor_zero]
  omega
theorem crcBits_high (k h : Nat) : crcBits k (2 ^ k * h) = h := by
  induction k generalizing h with
  | zero => simp [crcBits]
  | succ k ih =>
    have e : 2 ^ (k + 1) * h = 2 ^ k * (2 * h) := by rw [Nat.pow_succ, Nat.mul_assoc]
    rw [e]
    show crcBit (crcBits k (2 ^ k * (2 * h))) = h
    rw [ih, crcBit_even]
theorem split_byte (x : Nat) : 2 ^ 8 * (x / 256) ^^^ x % 256 = x := by
  apply Nat.eq_of_testBit_eq
  intro j
  have e : x / 256 = x / 2 ^ 8 := rfl
  have e2 : x % 256 = x % 2 ^ 8 := rfl
  rw [Nat.testBit_xor, Nat.testBit_two_pow_mul, e, e2, Nat.testBit_div_two_pow, Nat.testBit_mod_two_pow]
  by_cases h : j < 8
  · have h2 : ¬ 8 ≤ j := by omega
    simp [h, h2]
  · have : 8 + (j - 8) = j := by omega
    have h2 : 8 ≤ j := by omega
    simp [h, h2, this]
/-- A register and a byte, by the table. -/
theorem crcByte_split (x : Nat) : crcByte x = x / 256 ^^^ crcByte (x % 256) := by
  have e := crcBits_xor 8 (2 ^ 8 * (x / 256)) (x % 256)
  rw [split_byte, crcBits_high] at e
  exact e
theorem crcStep_table (x : Nat) (c : UInt8) : crcStep x c = x / 256 ^^^ crcByte (x % 256 ^^^ c.toNat) := by
  have hc := c.toNat_lt
  unfold crcStep
  rw [crcByte_split, xor_byte, show c.toNat / 256 = 0 by omega, Nat.xor_zero]
  have e := Nat.xor_mod_two_pow (a := x) (b := c.toNat) (n := 8)
  rw [show (2 : Nat) ^ 8 = 256 from rfl, Nat.mod_eq_of_lt hc] at e
  rw [e]
/-- Bit by bit: what the register is behind k bits of a byte. -/
def bitStep (c : Nat) (k x : Nat) : Nat := x / 2 ^^^ (if c / 2 ^ k % 2 = x % 2 then 0 else 2197175160)
def bitRun (c : Nat) : Nat → Nat → Nat
  | 0, x => x
  | k + 1, x => bitStep c k (bitRun c k x)
theorem bitRun_crc (c x k : Nat) : bitRun c k x ^^^ c / 2 ^ k = crcBits k (x ^^^ c) := by
  induction k with
  | zero => simp [bitRun, crcBits]
  | succ k ih =>
    simp only [bitRun, crcBits, bitStep]
    rw [← ih]
    generalize bitRun c k x = y
    unfold crcBit
    have hc : c / 2 ^ (k + 1) = c / 2 ^ k / 2 := by rw [Nat.pow_succ, Nat.div_div_eq_div_mul]
    rw [hc]
    generalize c / 2 ^ k = d
    rw [xor_half]
    have e : (if (y ^^^ d) % 2 = 1 then 2197175160 else 0) = (if d % 2 = y % 2 then 0 else 2197175160) := by
      by_cases h : d % 2 = y % 2
      · rw [if_pos h, if_neg (fun k => (xor_odd y d).1 k ⟨fun _ => by omega, fun _ => by omega⟩)]
      · rw [if_neg h, if_pos ((xor_odd y d).2 fun k => h (by omega))]
    rw [e, Nat.xor_assoc, Nat.xor_assoc, Nat.xor_comm (d / 2)]
theorem bitRun_byte (c : UInt8) (x : Nat) : bitRun c.toNat 8 x = crcStep x c := by
  have h := bitRun_crc c.toNat x 8
  rw [show c.toNat / 2 ^ 8 = 0 by have := c.toNat_lt; omega, Nat.xor_zero] at h
  exact h
theorem bitRun_lt {x : Nat} (c : Nat) (h : x < 4294967296) (k : Nat) : bitRun c k x < 4294967296 := by
  induction k with
  | zero => exact h
  | succ k ih =>
    simp only [bitRun, bitStep]
    refine xor32 (by omega) ?_
    split <;> omega
/-! ### one to one -/
theorem crcBit_inj {a b : Nat} (ha : a < 4294967296) (hb : b < 4294967296) (h : crcBit a = crcBit b) : a = b := by
  have top : ∀ x, x < 4294967296 → (crcBit x).testBit 31 = decide (x % 2 = 1) := by
    intro x hx
    unfold crcBit
    rw [Nat.testBit_xor, Nat.testBit_lt_two_pow (x := x / 2) (i := 31) (by omega)]
    by_cases h1 : x % 2 = 1
    · rw [if_pos h1]; simp [h1]; decide
    · rw [if_neg h1]; simp [h1]
  have e := top a ha
  rw [h, top b hb] at e
  have e2 : (b % 2 = 1) ↔ (a % 2 = 1) := by simpa using e
  have e3 : a / 2 = b / 2 := by
    unfold crcBit at h
    rw [show (if a % 2 = 1 then 2197175160 else 0) = (if b % 2 = 1 then 2197175160 else 0) from by by_cases k : b % 2 = 1 <;> simp [k, e2.symm]] at h
    exact xor_rc h
  omega
theorem crcBits_inj {a b : Nat} (k : Nat) (ha : a < 4294967296) (hb : b < 4294967296) (h : crcBits k a = crcBits k b) : a = b := by
  induction k with
  | zero => exact h
  | succ k ih => exact ih (crcBit_inj (crcBits_lt ha k) (crcBits_lt hb k) h)
theorem crcStep_inj {a b : Nat} (c : UInt8) (ha : a < 4294967296) (hb : b < 4294967296) (h : crcStep a c = crcStep b c) : a = b :=
  xor_rc (crcBits_inj 8 (xor32 ha (byte_lt c)) (xor32 hb (byte_lt c)) h)
theorem crcStep_byte {a : Nat} {c d : UInt8} (ha : a < 4294967296) (h : crcStep a c = crcStep a d) : c = d :=
  UInt8.toNat_inj.1 (xor_lc (crcBits_inj 8 (xor32 ha (byte_lt c)) (xor32 ha (byte_lt d)) h))
theorem crcRun_inj {a b : Nat} (l : Bytes) (ha : a < 4294967296) (hb : b < 4294967296) (h : crcRun a l = crcRun b l) : a = b := by
  induction l generalizing a b with
  | nil => exact h
  | cons c l ih => exact crcStep_inj c ha hb (ih (crcStep_lt ha c) (crcStep_lt hb c) h)
theorem crcRun_append (x : Nat) (a b : Bytes) : crcRun x (a ++ b) = crcRun (crcRun x a) b := by simp [crcRun]
theorem ones_ones (x : Nat) : x ^^^ 4294967295 ^^^ 4294967295 = x := by rw [Nat.xor_assoc, Nat.xor_self, Nat.xor_zero]
/-- A sum goes on. -/
theorem crc_pieces (s : Nat) (a b : Bytes) : crcMore (crcMore s a) b = crcMore s (a ++ b) := by
  unfold crcMore
  rw [ones_ones, crcRun_append]
/-- One byte that is another one has another sum. -/
theorem crc_other (s : Nat) (hs : s < 4294967296) (a b : Bytes) (c d : UInt8) (h : crcMore s (a ++ c :: b) = crcMore s (a ++ d :: b)) : c = d := by
  unfold crcMore at h
  have h := xor_rc h
  rw [crcRun_append, crcRun_append] at h
  have hx := crcRun_lt (xor32 hs (by decide : 4294967295 < 4294967296)) a
  exact crcStep_byte hx (crcRun_inj b (crcStep_lt hx c) (crcStep_lt hx d) h)
end Go.Proofs.Ytcafahcmalfepaa
/-
  Frames, and rows of them: the plain functions, and what they obey. No program in sight.
-/
namespace Go.Proofs.Ytcafahcmalfepaa
/-- A frame ahead of its sum. -/
def frB (x : Bytes) : Bytes := 167 :: (encN x.length ++ x)
def fr (x : Bytes) : Bytes := frB x ++ be 4 (crcSum (frB x))
/-- The frame ahead, and what is behind; or why there is none. -/
def takeF (b : Bytes) : Except Int (Bytes × Bytes) :=
  match b with
  | [] => .error 2
  | m :: t => if m ≠ 167 then .error 3 else
    match takeN t with
    | .error z => .error z
    | .ok (n, r) =>
      if 100000 < n then .error 5
      else if r.length < n + 4 then .error 2
      else if be 4 (crcSum ((m :: t).take ((m :: t).length - (r.length - n)))) = (r.drop n).take 4 then .ok (r.take n, r.drop (n + 4))
      else .error 4
def frLong (n : Nat) : Nat := 1 + (1 + nb n) + n + 4
theorem frB_length (x : Bytes) : (frB x).length = 1 + (1 + nb x.length) + x.length := by simp [frB, encN_length]; omega
theorem fr_length (x : Bytes) : (fr x).length = frLong x.length := by simp [fr, frB_length, be_length, frLong]
theorem takeF_fr (x r : Bytes) (hx : x.length ≤ 100000) : takeF (fr x ++ r) = .ok (x, r) := by
  have e : fr x ++ r = 167 :: (encN x.length ++ (x ++ (be 4 (crcSum (frB x)) ++ r))) := by simp [fr, frB]
  rw [e]
  unfold takeF
  simp only [ne_eq, not_true_eq_false, if_false]
  rw [takeN_enc x.length (by omega)]
  simp only
  have hl : (x ++ (be 4 (crcSum (frB x)) ++ r)).length = x.length + 4 + r.length := by simp [be_length]; omega
  rw [if_neg (by omega), if_neg (by rw [hl]; omega), hl]
  have h1 : (167 :: (encN x.length ++ (x ++ (be 4 (crcSum (frB x)) ++ r)))).take ((167 :: (encN x.length ++ (x ++ (be 4 (crcSum (frB x)) ++ r)))).length - (x.length + 4 + r.length - x.length)) = frB x := by
    have e2 : (167 : UInt8) :: (encN x.length ++ (x ++ (be 4 (crcSum (frB x)) ++ r))) = frB x ++ (be 4 (crcSum (frB x)) ++ r) := by simp [frB]
    rw [e2]
    have e3 : (frB x ++ (be 4 (crcSum (frB x)) ++ r)).length - (x.length + 4 + r.length - x.length) = (frB x).length := by simp [be_length]; omega
    rw [e3, List.take_left]
  rw [h1]
  have h2 : (x ++ (be 4 (crcSum (frB x)) ++ r)).drop x.length = be 4 (crcSum (frB x)) ++ r := List.drop_left
  have h3 : (be 4 (crcSum (frB x)) ++ r).take 4 = be 4 (crcSum (frB x)) := List.take_left' (be_length _ _)
  have h4 : (x ++ (be 4 (crcSum (frB x)) ++ r)).drop (x.length + 4) = r := by
    rw [← List.drop_drop, h2]; exact List.drop_left' (be_length _ _)
  rw [h2, h3, if_pos rfl, h4, List.take_left]
theorem takeF_only {b x r : Bytes} (h : takeF b = .ok (x, r)) : fr x ++ r = b ∧ x.length ≤ 100000 := by
  unfold takeF at h
  split at h
  · cases h
  · rename_i m t
    split at h
    · cases h
    · rename_i hm
      have hm : m = 167 := Classical.byContradiction hm
      subst hm
      split at h
      · cases h
      · rename_i n q hq
        have hb := takeN_only hq
        split at h
        · cases h
        · rename_i hn
          split at h
          · cases h
          · rename_i hl
            split at h
            · rename_i hs
              simp only [Except.ok.injEq, Prod.mk.injEq] at h
              obtain ⟨rfl, rfl⟩ := h
              have hx : (q.take n).length = n := by rw [List.length_take]; omega
              refine ⟨?_, by omega⟩
              have e1 : frB (q.take n) = 167 :: (encN n ++ q.take n) := by rw [frB, hx]
              have e2 : ((167 : UInt8) :: t).take (((167 : UInt8) :: t).length - (q.length - n)) = frB (q.take n) := by
                rw [← hb, e1]
                have e3 : (167 : UInt8) :: (encN n ++ q) = (167 :: (encN n ++ q.take n)) ++ q.drop n := by simp
                rw [e3]
                exact List.take_left' (by simp [List.length_drop, List.length_take]; omega)
              rw [e2] at hs
              unfold fr
              rw [hs, e1, ← hb]
              simp only [List.cons_append, List.append_assoc, List.cons.injEq, true_and, List.append_cancel_left_eq]
              rw [← List.drop_drop, List.take_append_drop, List.take_append_drop]
            · cases h
theorem takeF_err {b : Bytes} {z : Int} (h : takeF b = .error z) : z = 2 ∨ z = 3 ∨ z = 4 ∨ z = 5 := by
  unfold takeF at h
  split at h
  · cases h; simp
  · split at h
    · cases h; simp
    · split at h
      · rename_i q
        cases h
        rcases takeN_err q with h | h <;> simp [h]
      · split at h
        · cases h; simp
        · split at h
          · cases h; simp
          · split at h
            · cases h
            · cases h; simp
theorem fr_pos (x : Bytes) : 0 < (fr x).length := by rw [fr_length]; unfold frLong; omega
theorem takeF_shorter {b x r : Bytes} (h : takeF b = .ok (x, r)) : r.length < b.length ∧ x.length ≤ b.length := by
  obtain ⟨rfl, _⟩ := takeF_only h
  have := fr_pos x
  have e := fr_length x
  unfold frLong at e
  rw [List.length_append]
  omega
/-- All frames ahead, and what is left. -/
def scanS (b : Bytes) : List Bytes × Bytes :=
  match h : takeF b with
  | .error _ => ([], b)
  | .ok (x, r) => (x :: (scanS r).1, (scanS r).2)
termination_by b.length
decreasing_by
  all_goals exact (takeF_shorter h).1
theorem scanS_err {b : Bytes} {z : Int} (h : takeF b = .error z) : scanS b = ([], b) := by
  rw [scanS]
  split
  · rfl
  · rename_i h2
    rw [h] at h2; cases h2
theorem scanS_ok {b x r : Bytes} (h : takeF b = .ok (x, r)) : scanS b = (x :: (scanS r).1, (scanS r).2) := by
  rw [scanS]
  split
  · rename_i h2
    rw [h] at h2; cases h2
  · rename_i h2
    rw [h] at h2
    simp only [Except.ok.injEq, Prod.mk.injEq] at h2
    obtain ⟨rfl, rfl⟩ := h2
    rfl
/-- Frames, one behind the other. -/
def frs (l : List Bytes) : Bytes := (l.map fr).flatten
theorem frs_cons (x : Bytes) (l : List Bytes) : frs (x :: l) = fr x ++ frs l := by simp [frs]
theorem frs_append (a b : List Bytes) : frs (a ++ b) = frs a ++ frs b := by simp [frs]
theorem scanS_frs (l : List Bytes) (hl : ∀ x ∈ l, x.length ≤ 100000) (r : Bytes) : scanS (frs l ++ r) = (l ++ (scanS r).1, (scanS r).2) := by
  induction l with
  | nil => simp [frs]
  | cons x l ih =>
    rw [frs_cons, List.append_assoc, scanS_ok (takeF_fr x _ (hl x (by simp))), ih (fun y hy => hl y (by simp [hy]))]
    rfl
theorem scanS_split (b : Bytes) : frs (scanS b).1 ++ (scanS b).2 = b ∧ ∀ x ∈ (scanS b).1, x.length ≤ 100000 := by
  induction h : b.length using Nat.strongRecOn generalizing b with
  | _ n ih =>
    cases hb : takeF b with
    | error z => rw [scanS_err hb]; exact ⟨by simp [frs], by simp⟩
    | ok p =>
      obtain ⟨x, r⟩ := p
      obtain ⟨h1, h2⟩ := takeF_only hb
      have hs := (takeF_shorter hb).1
      obtain ⟨i1, i2⟩ := ih r.length (by omega) r rfl
      rw [scanS_ok hb]
      refine ⟨?_, ?_⟩
      · simp only
        rw [frs_cons, List.append_assoc, i1, h1]
      · intro y hy
        rcases List.mem_cons.1 hy with rfl | hy
        · exact h2
        · exact i2 y hy
theorem scanS_le (b : Bytes) : (scanS b).2.length ≤ b.length ∧ (scanS b).1.length ≤ b.length := by
  obtain ⟨h1, _⟩ := scanS_split b
  have e := congrArg List.length h1
  rw [List.length_append] at e
  refine ⟨by omega, ?_⟩
  have key : ∀ l : List Bytes, l.length ≤ (frs l).length := by
    intro l
    induction l with
    | nil => simp
    | cons x l ih => have := fr_pos x; rw [frs_cons, List.length_append, List.length_cons]; omega
  have := key (scanS b).1
  omega
/-- A frame that is cut off before its end. -/
theorem takeF_cut (x : Bytes) (hx : x.length ≤ 100000) (k : Nat) (hk : k < (fr x).length) : ∃ z, takeF ((fr x).take k) = .error z := by
  cases h : takeF ((fr x).take k) with
  | error z => exact ⟨z, rfl⟩
  | ok p =>
    obtain ⟨y, r⟩ := p
    obtain ⟨h1, h2⟩ := takeF_only h
    have e : fr x = fr y ++ (r ++ (fr x).drop k) := by rw [← List.append_assoc, h1, List.take_append_drop]
    have e1 := takeF_fr x [] hx
    rw [List.append_nil, e, takeF_fr y _ h2] at e1
    simp only [Except.ok.injEq, Prod.mk.injEq, List.append_eq_nil_iff, List.drop_eq_nil_iff] at e1
    omega
theorem be_inj {a b : Nat} (ha : a < 4294967296) (hb : b < 4294967296) (h : be 4 a = be 4 b) : a = b := by
  have e1 := fromBE_be 4 a
  have e2 := fromBE_be 4 b
  rw [h] at e1
  rw [e1] at e2
  rw [Nat.mod_eq_of_lt (by omega), Nat.mod_eq_of_lt (by omega)] at e2
  exact e2
/-- One byte of a frame is another one, none of those that tell how many. -/
theorem takeF_spoilt (x r : Bytes) (hx : x.length ≤ 100000) (k : Nat) (hk : k < (fr x).length) (hn : k = 0 ∨ 2 + nb x.length ≤ k) (c : UInt8) (hc : (fr x)[k]? ≠ some c) : ∃ z, takeF ((fr x).set k c ++ r) = .error z := by
  have hfr : fr x = 167 :: (encN x.length ++ (x ++ be 4 (crcSum (frB x)))) := by simp [fr, frB]
  rcases hn with rfl | hn
  · refine ⟨3, ?_⟩
    rw [hfr, List.set_cons_zero]
    unfold takeF
    simp only [List.cons_append]
    rw [if_pos]
    intro h
    subst h
    exact hc (by rw [hfr]; rfl)
  · cases h : takeF ((fr x).set k c ++ r) with
    | error z => exact ⟨z, rfl⟩
    | ok p =>
      exfalso
      obtain ⟨y, q⟩ := p
      obtain ⟨h1, h2⟩ := takeF_only h
      -- the bytes that tell how many are the same
      have hlx := encN_length x.length
      obtain ⟨j, rfl⟩ : ∃ j, k = 1 + (encN x.length).length + j := ⟨k - 1 - (encN x.length).length, by omega⟩
      have hset : (fr x).set (1 + (encN x.length).length + j) c = 167 :: (encN x.length ++ (x ++ be 4 (crcSum (frB x))).set j c) := by
        rw [hfr, show 1 + (encN x.length).length + j = ((encN x.length).length + j) + 1 by omega, List.set_cons_succ, List.set_append, if_neg (by omega), show (encN x.length).length + j - (encN x.length).length = j by omega]
      rw [hset] at h1
      have hy : fr y = 167 :: (encN y.length ++ (y ++ be 4 (crcSum (frB y)))) := by simp [fr, frB]
      rw [hy] at h1
      simp only [List.cons_append, List.append_assoc, List.cons.injEq, true_and] at h1
      have t1 := takeN_enc y.length (by omega) (y ++ (be 4 (crcSum (frB y)) ++ q))
      rw [h1, takeN_enc x.length (by omega)] at t1
      simp only [Except.ok.injEq, Prod.mk.injEq] at t1
      obtain ⟨t1, t2⟩ := t1
      have hjl : j < x.length + 4 := by rw [fr_length] at hk; unfold frLong at hk; omega
      have hold : (x ++ be 4 (crcSum (frB x)))[j]? ≠ some c := by
        intro e
        apply hc
        rw [hfr, show 1 + (encN x.length).length + j = ((encN x.length).length + j) + 1 by omega, List.getElem?_cons_succ, List.getElem?_append_right (by omega), show (encN x.length).length + j - (encN x.length).length = j by omega]
        exact e
      by_cases hj : j < x.length
      · rw [List.set_append, if_pos hj, List.append_assoc] at t2
        have t3 := List.append_inj t2 (by simp [t1])
        obtain ⟨t3, t4⟩ := t3
        have t5 := (List.append_inj t4 (by simp [be_length])).1
        have hsum := be_inj (crcSum_lt _) (crcSum_lt _) t5
        -- the two sums are of bytes that are unlike in one place
        have hsplit : x = x.take j ++ x[j] :: x.drop (j + 1) := by rw [List.getElem_cons_drop, List.take_append_drop]
        have hy2 : y = x.take j ++ c :: x.drop (j + 1) := by rw [← t3, List.set_eq_take_append_cons_drop, if_pos hj]
        have f1 : frB x = (167 :: (encN x.length ++ x.take j)) ++ x[j] :: x.drop (j + 1) := by
          unfold frB
          conv => lhs; rw [show encN x.length ++ x = encN x.length ++ (x.take j ++ x[j] :: x.drop (j + 1)) by rw [← hsplit]]
          simp
        have f2 : frB y = (167 :: (encN x.length ++ x.take j)) ++ c :: x.drop (j + 1) := by
          unfold frB
          rw [← t1, hy2]
          simp
        rw [f1, f2] at hsum
        have := crc_other 0 (by decide) _ _ _ _ hsum
        rw [List.getElem?_append_left hj, List.getElem?_eq_getElem hj, this] at hold
        exact hold rfl
      · rw [List.set_append, if_neg hj, List.append_assoc] at t2
        obtain ⟨t3, t4⟩ := List.append_inj t2 t1
        subst t3
        have t5 := (List.append_inj t4 (by simp [be_length])).1
        rw [List.getElem?_append_right (by omega)] at hold
        rw [← t5, List.getElem?_set_self (by rw [be_length]; omega)] at hold
        exact hold rfl
end Go.Proofs.Ytcafahcmalfepaa
/-
  The walks of package crc: the table, sums.
-/
namespace Go.Proofs.Ytcafahcmalfepaa
open Go.RowKit Go.Deep
theorem bit_step (x : Nat) (h : x < 4294967296) : bits .xor .u32 ((x : Int) / 2) (bits .and .u32 2197175160 (IntKind.u32.wrap (-(bits .and .u32 (x : Int) 1)))) = (crcBit x : Nat) := by
  have e1 : bits .and .u32 (x : Int) 1 = ((x % 2 : Nat) : Int) := by
    have := u32_and_nat x 1 h (by omega)
    rw [Nat.and_one_is_mod] at this
    exact this
  rw [e1, IntKind.wrap_u32]
  unfold crcBit
  rw [show ((x : Int) / 2) = ((x / 2 : Nat) : Int) by omega]
  by_cases h2 : x % 2 = 1
  · rw [h2, if_pos rfl, show (-((1 : Nat) : Int)) % 4294967296 = ((4294967295 : Nat) : Int) by decide]
    have e2 := u32_and_nat 2197175160 4294967295 (by omega) (by omega)
    rw [show (2197175160 &&& 4294967295 : Nat) = 2197175160 by decide] at e2
    rw [show (2197175160 : Int) = ((2197175160 : Nat) : Int) from rfl, e2, u32_xor_nat _ _ (by omega) (by omega)]
  · rw [show x % 2 = 0 by omega, if_neg (by omega), show (-((0 : Nat) : Int)) % 4294967296 = ((0 : Nat) : Int) by decide]
    have e2 := u32_and_nat 2197175160 0 (by omega) (by omega)
    rw [show (2197175160 &&& 0 : Nat) = 0 by decide] at e2
    rw [show (2197175160 : Int) = ((2197175160 : Nat) : Int) from rfl, e2, u32_xor_nat _ _ (by omega) (by omega)]
/-- The table in block Y. -/
def TabAt (Y : Nat) (w : World) : Prop := ∀ i, i < 256 → w.cell? ⟨Y, i, none⟩ = some (.int .u32 (crcByte i : Nat))
/-- The table's first k cells, in block Y, which may be written. -/
structure TabUpTo (Y k : Nat) (w : World) : Prop where
  lt : Y < w.heap.size
  fz : ∀ j, j < 256 → w.frozen? ⟨Y, j, none⟩ = false
  there : ∀ j, j < 256 → (w.cell? ⟨Y, j, none⟩).isSome = true
  done : ∀ j, j < k → w.cell? ⟨Y, j, none⟩ = some (.int .u32 (crcByte j : Nat))
theorem TabUpTo.step {Y k : Nat} {w : World} (h : TabUpTo Y k w) (hk : k < 256) : TabUpTo Y (k + 1) (w.setCell ⟨Y, k, none⟩ (.int .u32 (crcByte k : Nat))) := by
  have key : ∀ j, j ≠ k → (w.setCell ⟨Y, k, none⟩ (.int .u32 (crcByte k : Nat))).cell? ⟨Y, j, none⟩ = w.cell? ⟨Y, j, none⟩ := fun j hj => World.cell?_setCell_other _ _ _ _ (fun e => hj (congrArg Addr.off e).symm)
  have same := World.cell?_setCell_same' w ⟨Y, k, none⟩ (.int .u32 (crcByte k : Nat)) (h.there k hk)
  refine ⟨by rw [World.size_setCell]; exact h.lt, fun j hj => by rw [World.frozen?_setCell]; exact h.fz j hj, fun j hj => ?_, fun j hj => ?_⟩
  · by_cases e : j = k
    · subst e; rw [same]; rfl
    · rw [key j e]; exact h.there j hj
  · by_cases e : j = k
    · subst e; exact same
    · rw [key j e]; exact h.done j (by omega)
theorem zeros_size : Try.zeroCells100.size = 256 := by kernel_rfl
set_option maxRecDepth 20000 in
theorem table_any (w : World) : Calls Try.prog 50 #[] w fun e w' => ∃ Y, e = .returned (.pointer (some ⟨Y, 0, none⟩)) ∧ w.heap.size ≤ Y ∧ Y < w'.heap.size ∧ TabAt Y w' ∧ Below w.heap.size w w' := by
  go_enter Try.func50, Try.ntmps50
  go_wp2_with fail
  go_loopw [6] (fun i wr => ∃ k : Nat, k ≤ 256 ∧ i = .int .i64 k ∧ TabUpTo w.heap.size k wr ∧ Below w.heap.size w wr) (fun i _ => 256 - (intOf i).toNat)
  case atStart =>
    refine ⟨0, by omega, rfl, ⟨by simp, fun j _ => World.frozen?_alloc_new _ _ _ _, fun j hj => ?_, fun j hj => by omega⟩, below_new _ _⟩
    rw [World.cell?_alloc_new]
    have := zeros_size
    rw [Array.getElem?_eq_getElem (by omega)]
    rfl
  case round =>
    obtain ⟨k, hk, rfl, ht, hb⟩ := hrel
    by_cases hlt : k < 256
    · have HT := hid ht; have HB := hid hb; clear ht hb
      go_wp2_with fail
      go_loop [3, 11] (fun x i => ∃ q : Nat, q ≤ 8 ∧ i = .int .i64 q ∧ x = .int .u32 (crcBits q k : Nat)) (fun _ i => 8 - (intOf i).toNat)
      case atStart => exact ⟨0, by omega, rfl, by go_num⟩
      case round =>
        obtain ⟨q, hq, rfl, rfl⟩ := hrel
        have hx : crcBits q k < 4294967296 := crcBits_lt (by omega) q
        have hs := bit_step _ hx
        have e : crcBit (crcBits q k) = crcBits (q + 1) k := rfl
        rw [e, IntKind.wrap_u32] at hs
        by_cases hq8 : q < 8
        · generalize crcBits q k = x at *
          go_wp2_with fail
          go_round
          case rel => exact ⟨q + 1, by omega, by go_num, rfl⟩
          case measure => simp [intOf]; omega
        · obtain rfl : q = 8 := by omega
          clear hs e
          have e8 : crcBits 8 k = crcByte k := rfl
          rw [e8] at *
          have lt := HT.out.lt; have f1 := HT.out.fz k hlt
          obtain ⟨t0, t1⟩ := Option.isSome_iff_exists.1 (HT.out.there k hlt)
          go_wp2_with fail
          go_roundw
          case rel => exact ⟨k + 1, by omega, by go_num, HT.out.step hlt, HB.out.trans (((Agree.refl wr).setCell (Z := fun j => j ≠ w.heap.size) (p := ⟨w.heap.size, k, none⟩) (by simp) _).below fun j hj => ⟨Nat.lt_of_lt_of_le hj HB.out.size, by omega⟩)⟩
          case measure => simp [intOf]; omega
    · obtain rfl : k = 256 := by omega
      go_wp2_with fail
      go_ret
      exact ⟨_, rfl, Nat.le_refl _, ht.lt, fun i hi => ht.done i hi, hb⟩
theorem ones_u32 (x : Nat) (h : x < 4294967296) : bits .xor .u32 IntKind.u32.max (x : Int) = (x ^^^ 4294967295 : Nat) := by
  have := u32_xor_nat 4294967295 x (by omega) h
  rw [Nat.xor_comm] at this
  exact this
theorem ones_u32' (x : Nat) (h : x < 4294967296) : bits .xor .u32 (x : Int) 4294967295 = (x ^^^ 4294967295 : Nat) := u32_xor_nat x 4294967295 h (by omega)
theorem idx_u8 (x : Nat) (c : UInt8) : bits .xor .u8 ((x : Int) % 256) (c.toNat : Int) = (x % 256 ^^^ c.toNat : Nat) := by
  have hc := c.toNat_lt
  have := u8_xor_nat (x % 256) c.toNat (by omega) (by omega)
  rw [show ((x : Int) % 256) = ((x % 256 : Nat) : Int) by omega]
  exact this
theorem idx_lt (x : Nat) (c : UInt8) : x % 256 ^^^ c.toNat < 256 := Nat.xor_lt_two_pow (n := 8) (by omega) c.toNat_lt
theorem crcRun_take (b : Bytes) (x k : Nat) (c : UInt8) (h : b[k]? = some c) : crcRun x (b.take (k + 1)) = crcStep (crcRun x (b.take k)) c := by
  rw [List.take_add_one, h, crcRun_append]
  rfl
theorem crc_step (x : Nat) (c : UInt8) (h : x < 4294967296) : bits .xor .u32 ((x : Int) / 256) ((crcByte (x % 256 ^^^ c.toNat) : Nat) : Int) = (crcStep x c : Nat) := by
  have hc := c.toNat_lt
  rw [crcStep_table, show ((x : Int) / 256) = ((x / 256 : Nat) : Int) by omega, u32_xor_nat _ _ (by omega) (crcByte_lt (Nat.lt_of_lt_of_le (Nat.xor_lt_two_pow (n := 8) (by omega) (by omega)) (by decide)))]
set_option maxRecDepth 20000 in
theorem more_any (s : Nat) (hs32 : s < 4294967296) (A : Option Addr) (b : Bytes) (n c : Nat) (hm : b.length = n) (hn : n ≤ 9223372036854775807) (w : World) {B : Nat} (hB : B ≤ w.heap.size) (hs : Sl byteR 1 B w A b) :
    Calls Try.prog 18 #[.int .u32 s, .slice A n c] w fun e w' => e = .returned (.int .u32 (crcMore s b : Nat)) ∧ Below w.heap.size w w' := by
  have HS := hid hs; have HM := hid hm; clear hs hm
  have hn63 : (n : Int) ≤ 9223372036854775807 := by omega
  have hs0 : s ^^^ 4294967295 < 4294967296 := xor32 hs32 (by decide)
  go_enter Try.func18, Try.ntmps18
  go_wp2_with fail
  refine (table_any _).mono ?_
  rintro e w1 ⟨Y, rfl, hY1, hY2, hT, hb⟩
  have HT := hid hT; have HB := hid hb; clear hT hb
  have hones := ones_u32 s hs32
  go_wp2_with fail
  go_loop [6, 14] (fun x i => ∃ k : Nat, k ≤ n ∧ i = .int .i64 k ∧ x = .int .u32 (crcRun (s ^^^ 4294967295) (b.take k) : Nat)) (fun _ i => n - (intOf i).toNat)
  case atStart => exact ⟨0, Nat.zero_le _, rfl, rfl⟩
  case round =>
    obtain ⟨k, hk, rfl, rfl⟩ := hrel
    by_cases hlt : k < n
    · obtain ⟨x, hx⟩ : ∃ x, b[k]? = some x := ⟨_, List.getElem?_eq_getElem (by rw [HM.out]; exact hlt)⟩
      obtain ⟨b0, o, v, rfl, hb0, hv, hcell⟩ := HS.out.get1 hx
      have hv : v = byteV x := by have h' : [v] = [byteV x] := hv; simpa using h'
      subst hv
      have hcell := (HB.out.cell (p := ⟨b0, o + k, none⟩) (Nat.lt_of_lt_of_le hb0 hB)).trans hcell
      have hr := crcRun_take b (s ^^^ 4294967295) k x hx
      have hlt2 := crcRun_lt hs0 (b.take k)
      have HR := hid hr; clear hr hx
      generalize crcRun (s ^^^ 4294967295) (b.take k) = z at *
      have h8 := idx_u8 z x
      have hil := idx_lt z x
      have hst := HT.out _ hil
      have hfin := crc_step z x hlt2
      have HF := hid hfin; clear hfin
      unfold byteV at hcell
      generalize z % 256 ^^^ x.toNat = q at *
      generalize x.toNat = cn at *
      have hqi : (q : Int) < 256 := by omega
      go_wp2_with fail
      go_round
      case rel => exact ⟨k + 1, by omega, by go_num, by rw [HR.out, ← HF.out]⟩
      case measure => simp [intOf]; omega
    · obtain rfl : k = n := by omega
      rw [List.take_of_length_le (by rw [HM.out]; omega)]
      have hz := crcRun_lt hs0 b
      have hones := ones_u32 _ hz
      go_wp2_with fail
      go_ret
      exact ⟨by first | rfl | (rw [hones]; rfl), HB.out⟩
theorem sum_any (A : Option Addr) (b : Bytes) (n c : Nat) (hm : b.length = n) (hn : n ≤ 9223372036854775807) (w : World) {B : Nat} (hB : B ≤ w.heap.size) (hs : Sl byteR 1 B w A b) :
    Calls Try.prog 16 #[.slice A n c] w fun e w' => e = .returned (.int .u32 (crcSum b : Nat)) ∧ Below w.heap.size w w' := by
  have h := more_any 0 (by decide) A b n c hm hn w hB hs
  go_enter Try.func16, Try.ntmps16
  go_wp2_with fail
  refine h.mono ?_
  rintro e w1 ⟨rfl, hb⟩
  go_wp2_with fail
  go_ret
  exact ⟨rfl, hb⟩
theorem clong_any (n : Nat) (hn : n ≤ 1000000) (w : World) :
    Calls Try.prog 22 #[.int .i64 n] w fun e w' => e = .returned (.int .i64 (frLong n : Nat)) ∧ Below w.heap.size w w' := by
  have h0 : (0 : Int) ≤ n := by omega
  have hn2 : (n : Int) ≤ 1000000 := by omega
  have h8 := nb_le n (by omega)
  go_enter Try.func22, Try.ntmps22
  go_wp2_with fail
  refine (size_any n (by omega) _).mono ?_
  rintro e w' ⟨rfl, rfl⟩
  go_wp2_with fail
  go_ret
  exact ⟨by first | rfl | (unfold frLong; go_num), Below.refl _ _⟩
end Go.Proofs.Ytcafahcmalfepaa
