/-
  Several texts in one: Tab, Rep, OctetSpec, Br, Ot, Oi, Or, Om, Len, Ox, Pa, Pb, Pc, Pd, Pf, Pm, Pg, Ph, Pl, Pn.
-/
import Derived.Test.YtkamcoechjdgpaaGreatQb
import Derived.Test.YtkamcoechjdgpaaGreatRows
import Derived.Test.YtkamcoechjdgpaaGreatQa
import Derived.Deep.Slices
import Derived.Deep.AppendLies
import Derived.Laws.OwnMore
import Derived.Laws.AppendOwnNone
import Derived.Maps.AppendAt
import Derived.Lib.BitFns
import Derived.Shelf.Strconv.Itoa0
import Derived.Test.YtkamcoechjdgpaaGreatProg
set_option maxRecDepth 20000
set_option maxHeartbeats 8000000
namespace Go.Proofs.YtkamcoechjdgpaaGreat
set_option maxHeartbeats 4000000 in
def tab : Nat → Option TI
 | 1 => some ⟨.fn,1,8,0,[],[.nilf],[],false⟩
 | 2 => some ⟨.int .i64,1,8,0,[],[.int .i64 0],[],false⟩
 | 3 => some ⟨.int .i64,1,8,0,[],[.int .i64 0],[],false⟩
 | 4 => some ⟨.bool,1,1,0,[],[.bool false],[],false⟩
 | 5 => some ⟨.int .u8,1,1,0,[],[.int .u8 0],[],false⟩
 | 6 => some ⟨.int .u8,1,1,0,[],[.int .u8 0],[],false⟩
 | 7 => some ⟨.st,4,24,0,[(0,2),(1,3),(2,4),(3,6)],[.int .i64 0,.int .i64 0,.bool false,.int .u8 0],[],false⟩
 | 8 => some ⟨.st,4,24,0,[(0,2),(1,3),(2,4),(3,6)],[.int .i64 0,.int .i64 0,.bool false,.int .u8 0],[],false⟩
 | 9 => some ⟨.str,1,16,0,[],[.str []],[],false⟩
 | 10 => some ⟨.str,1,16,0,[],[.str []],[],false⟩
 | 11 => some ⟨.str,1,16,0,[],[.str []],[],false⟩
 | 12 => some ⟨.int .u64,1,8,0,[],[.int .u64 0],[],false⟩
 | 13 => some ⟨.st,2,24,0,[(0,9),(1,12)],[.str [],.int .u64 0],[],false⟩
 | 14 => some ⟨.st,2,24,0,[(0,9),(1,12)],[.str [],.int .u64 0],[],false⟩
 | 15 => some ⟨.ptr,1,8,173,[],[.nilp],[],false⟩
 | 16 => some ⟨.ptr,1,8,176,[],[.nilp],[],false⟩
 | 17 => some ⟨.ptr,1,8,186,[],[.nilp],[],false⟩
 | 18 => some ⟨.st,1,8,0,[(0,17)],[.nilp],[],false⟩
 | 19 => some ⟨.st,1,8,0,[(0,17)],[.nilp],[],false⟩
 | 20 => some ⟨.iface,1,16,0,[],[.nilI],[],false⟩
 | 21 => some ⟨.int .i32,1,4,0,[],[.int .i32 0],[],false⟩
 | 22 => some ⟨.sl,1,24,27,[],[.nils],[],false⟩
 | 23 => some ⟨.st,3,32,0,[(0,3),(1,3),(2,9)],[.int .i64 0,.int .i64 0,.str []],[],false⟩
 | 24 => some ⟨.st,3,32,0,[(0,3),(1,3),(2,9)],[.int .i64 0,.int .i64 0,.str []],[.int .i64,.int .i64,.str],false⟩
 | 25 => some ⟨.sl,1,24,24,[],[.nils],[],false⟩
 | 26 => some ⟨.st,6,72,0,[(0,3),(1,3),(2,4),(3,3),(4,9),(5,25)],[.int .i64 0,.int .i64 0,.bool false,.int .i64 0,.str [],.nils],[],false⟩
 | 27 => some ⟨.st,6,72,0,[(0,3),(1,3),(2,4),(3,3),(4,9),(5,25)],[.int .i64 0,.int .i64 0,.bool false,.int .i64 0,.str [],.nils],[],false⟩
 | 28 => some ⟨.arr 32,32,32,5,[],[.int .u8 0,.int .u8 0,.int .u8 0,.int .u8 0,.int .u8 0,.int .u8 0,.int .u8 0,.int .u8 0,.int .u8 0,.int .u8 0,.int .u8 0,.int .u8 0,.int .u8 0,.int .u8 0,.int .u8 0,.int .u8 0,.int .u8 0,.int .u8 0,.int .u8 0,.int .u8 0,.int .u8 0,.int .u8 0,.int .u8 0,.int .u8 0,.int .u8 0,.int .u8 0,.int .u8 0,.int .u8 0,.int .u8 0,.int .u8 0,.int .u8 0,.int .u8 0],[.int .u8,.int .u8,.int .u8,.int .u8,.int .u8,.int .u8,.int .u8,.int .u8,.int .u8,.int .u8,.int .u8,.int .u8,.int .u8,.int .u8,.int .u8,.int .u8,.int .u8,.int .u8,.int .u8,.int .u8,.int .u8,.int .u8,.int .u8,.int .u8,.int .u8,.int .u8,.int .u8,.int .u8,.int .u8,.int .u8,.int .u8,.int .u8],false⟩
 | 29 => some ⟨.st,8,80,0,[(0,3),(1,3),(2,3),(3,9),(4,9),(5,3),(6,3),(7,3)],[.int .i64 0,.int .i64 0,.int .i64 0,.str [],.str [],.int .i64 0,.int .i64 0,.int .i64 0],[],false⟩
 | 30 => some ⟨.st,8,80,0,[(0,3),(1,3),(2,3),(3,9),(4,9),(5,3),(6,3),(7,3)],[.int .i64 0,.int .i64 0,.int .i64 0,.str [],.str [],.int .i64 0,.int .i64 0,.int .i64 0],[.int .i64,.int .i64,.int .i64,.str,.str,.int .i64,.int .i64,.int .i64],false⟩
 | 31 => some ⟨.int .i64,1,8,0,[],[.int .i64 0],[],false⟩
 | 32 => some ⟨.sl,1,24,9,[],[.nils],[],false⟩
 | 33 => some ⟨.st,6,72,0,[(0,3),(1,3),(2,31),(3,9),(4,3),(5,32)],[.int .i64 0,.int .i64 0,.int .i64 0,.str [],.int .i64 0,.nils],[],false⟩
 | 34 => some ⟨.st,6,72,0,[(0,3),(1,3),(2,31),(3,9),(4,3),(5,32)],[.int .i64 0,.int .i64 0,.int .i64 0,.str [],.int .i64 0,.nils],[],false⟩
 | 35 => some ⟨.st,62,384,0,[(0,3),(1,3),(2,3),(3,3),(4,9),(5,22),(6,24),(9,25),(10,27),(16,28),(48,30),(56,34)],[.int .i64 0,.int .i64 0,.int .i64 0,.int .i64 0,.str [],.nils,.int .i64 0,.int .i64 0,.str [],.nils,.int .i64 0,.int .i64 0,.bool false,.int .i64 0,.str [],.nils,.int .u8 0,.int .u8 0,.int .u8 0,.int .u8 0,.int .u8 0,.int .u8 0,.int .u8 0,.int .u8 0,.int .u8 0,.int .u8 0,.int .u8 0,.int .u8 0,.int .u8 0,.int .u8 0,.int .u8 0,.int .u8 0,.int .u8 0,.int .u8 0,.int .u8 0,.int .u8 0,.int .u8 0,.int .u8 0,.int .u8 0,.int .u8 0,.int .u8 0,.int .u8 0,.int .u8 0,.int .u8 0,.int .u8 0,.int .u8 0,.int .u8 0,.int .u8 0,.int .i64 0,.int .i64 0,.int .i64 0,.str [],.str [],.int .i64 0,.int .i64 0,.int .i64 0,.int .i64 0,.int .i64 0,.int .i64 0,.str [],.int .i64 0,.nils],[],false⟩
 | 36 => some ⟨.st,62,384,0,[(0,3),(1,3),(2,3),(3,3),(4,9),(5,22),(6,24),(9,25),(10,27),(16,28),(48,30),(56,34)],[.int .i64 0,.int .i64 0,.int .i64 0,.int .i64 0,.str [],.nils,.int .i64 0,.int .i64 0,.str [],.nils,.int .i64 0,.int .i64 0,.bool false,.int .i64 0,.str [],.nils,.int .u8 0,.int .u8 0,.int .u8 0,.int .u8 0,.int .u8 0,.int .u8 0,.int .u8 0,.int .u8 0,.int .u8 0,.int .u8 0,.int .u8 0,.int .u8 0,.int .u8 0,.int .u8 0,.int .u8 0,.int .u8 0,.int .u8 0,.int .u8 0,.int .u8 0,.int .u8 0,.int .u8 0,.int .u8 0,.int .u8 0,.int .u8 0,.int .u8 0,.int .u8 0,.int .u8 0,.int .u8 0,.int .u8 0,.int .u8 0,.int .u8 0,.int .u8 0,.int .i64 0,.int .i64 0,.int .i64 0,.str [],.str [],.int .i64 0,.int .i64 0,.int .i64 0,.int .i64 0,.int .i64 0,.int .i64 0,.str [],.int .i64 0,.nils],[],false⟩
 | 37 => some ⟨.sl,1,24,5,[],[.nils],[],false⟩
 | 38 => some ⟨.fn,1,8,0,[],[.nilf],[],false⟩
 | 39 => some ⟨.fn,1,8,0,[],[.nilf],[],false⟩
 | 41 => some ⟨.fn,1,8,0,[],[.nilf],[],false⟩
 | 42 => some ⟨.fn,1,8,0,[],[.nilf],[],false⟩
 | 43 => some ⟨.st,8,80,0,[(0,3),(1,3),(2,3),(3,9),(4,9),(5,3),(6,3),(7,3)],[.int .i64 0,.int .i64 0,.int .i64 0,.str [],.str [],.int .i64 0,.int .i64 0,.int .i64 0],[.int .i64,.int .i64,.int .i64,.str,.str,.int .i64,.int .i64,.int .i64],false⟩
 | 44 => some ⟨.st,6,72,0,[(0,3),(1,3),(2,31),(3,9),(4,3),(5,32)],[.int .i64 0,.int .i64 0,.int .i64 0,.str [],.int .i64 0,.nils],[],false⟩
 | 45 => some ⟨.st,62,384,0,[(0,3),(1,3),(2,3),(3,3),(4,9),(5,22),(6,24),(9,25),(10,27),(16,28),(48,43),(56,44)],[.int .i64 0,.int .i64 0,.int .i64 0,.int .i64 0,.str [],.nils,.int .i64 0,.int .i64 0,.str [],.nils,.int .i64 0,.int .i64 0,.bool false,.int .i64 0,.str [],.nils,.int .u8 0,.int .u8 0,.int .u8 0,.int .u8 0,.int .u8 0,.int .u8 0,.int .u8 0,.int .u8 0,.int .u8 0,.int .u8 0,.int .u8 0,.int .u8 0,.int .u8 0,.int .u8 0,.int .u8 0,.int .u8 0,.int .u8 0,.int .u8 0,.int .u8 0,.int .u8 0,.int .u8 0,.int .u8 0,.int .u8 0,.int .u8 0,.int .u8 0,.int .u8 0,.int .u8 0,.int .u8 0,.int .u8 0,.int .u8 0,.int .u8 0,.int .u8 0,.int .i64 0,.int .i64 0,.int .i64 0,.str [],.str [],.int .i64 0,.int .i64 0,.int .i64 0,.int .i64 0,.int .i64 0,.int .i64 0,.str [],.int .i64 0,.nils],[],false⟩
 | 46 => some ⟨.st,62,384,0,[(0,3),(1,3),(2,3),(3,3),(4,9),(5,22),(6,24),(9,25),(10,27),(16,28),(48,43),(56,44)],[.int .i64 0,.int .i64 0,.int .i64 0,.int .i64 0,.str [],.nils,.int .i64 0,.int .i64 0,.str [],.nils,.int .i64 0,.int .i64 0,.bool false,.int .i64 0,.str [],.nils,.int .u8 0,.int .u8 0,.int .u8 0,.int .u8 0,.int .u8 0,.int .u8 0,.int .u8 0,.int .u8 0,.int .u8 0,.int .u8 0,.int .u8 0,.int .u8 0,.int .u8 0,.int .u8 0,.int .u8 0,.int .u8 0,.int .u8 0,.int .u8 0,.int .u8 0,.int .u8 0,.int .u8 0,.int .u8 0,.int .u8 0,.int .u8 0,.int .u8 0,.int .u8 0,.int .u8 0,.int .u8 0,.int .u8 0,.int .u8 0,.int .u8 0,.int .u8 0,.int .i64 0,.int .i64 0,.int .i64 0,.str [],.str [],.int .i64 0,.int .i64 0,.int .i64 0,.int .i64 0,.int .i64 0,.int .i64 0,.str [],.int .i64 0,.nils],[],false⟩
 | 47 => some ⟨.fn,1,8,0,[],[.nilf],[],false⟩
 | 49 => some ⟨.fn,1,8,0,[],[.nilf],[],false⟩
 | 51 => some ⟨.fn,1,8,0,[],[.nilf],[],false⟩
 | 52 => some ⟨.fn,1,8,0,[],[.nilf],[],false⟩
 | 53 => some ⟨.fn,1,8,0,[],[.nilf],[],false⟩
 | 54 => some ⟨.fn,1,8,0,[],[.nilf],[],false⟩
 | 55 => some ⟨.fn,1,8,0,[],[.nilf],[],false⟩
 | 56 => some ⟨.fn,1,8,0,[],[.nilf],[],false⟩
 | 57 => some ⟨.fn,1,8,0,[],[.nilf],[],false⟩
 | 58 => some ⟨.fn,1,8,0,[],[.nilf],[],false⟩
 | 59 => some ⟨.sl,1,24,3,[],[.nils],[],false⟩
 | 60 => some ⟨.fn,1,8,0,[],[.nilf],[],false⟩
 | 61 => some ⟨.fn,1,8,0,[],[.nilf],[],false⟩
 | 63 => some ⟨.fn,1,8,0,[],[.nilf],[],false⟩
 | 65 => some ⟨.fn,1,8,0,[],[.nilf],[],false⟩
 | 67 => some ⟨.fn,1,8,0,[],[.nilf],[],false⟩
 | 68 => some ⟨.fn,1,8,0,[],[.nilf],[],false⟩
 | 69 => some ⟨.fn,1,8,0,[],[.nilf],[],false⟩
 | 70 => some ⟨.fn,1,8,0,[],[.nilf],[],false⟩
 | 71 => some ⟨.fn,1,8,0,[],[.nilf],[],false⟩
 | 72 => some ⟨.fn,1,8,0,[],[.nilf],[],false⟩
 | 73 => some ⟨.fn,1,8,0,[],[.nilf],[],false⟩
 | 74 => some ⟨.fn,1,8,0,[],[.nilf],[],false⟩
 | 75 => some ⟨.fn,1,8,0,[],[.nilf],[],false⟩
 | 76 => some ⟨.fn,1,8,0,[],[.nilf],[],false⟩
 | 77 => some ⟨.fn,1,8,0,[],[.nilf],[],false⟩
 | 78 => some ⟨.fn,1,8,0,[],[.nilf],[],false⟩
 | 79 => some ⟨.fn,1,8,0,[],[.nilf],[],false⟩
 | 80 => some ⟨.fn,1,8,0,[],[.nilf],[],false⟩
 | 81 => some ⟨.fn,1,8,0,[],[.nilf],[],false⟩
 | 82 => some ⟨.ptr,1,8,84,[],[.nilp],[],false⟩
 | 83 => some ⟨.st,3,40,0,[(0,37),(1,4),(2,31)],[.nils,.bool false,.int .i64 0],[],false⟩
 | 84 => some ⟨.st,3,40,0,[(0,37),(1,4),(2,31)],[.nils,.bool false,.int .i64 0],[],false⟩
 | 85 => some ⟨.ptr,1,8,3,[],[.nilp],[],false⟩
 | 86 => some ⟨.st,1,8,0,[(0,85)],[.nilp],[],false⟩
 | 87 => some ⟨.st,1,8,0,[(0,85)],[.nilp],[],false⟩
 | 88 => some ⟨.fn,1,8,0,[],[.nilf],[],false⟩
 | 89 => some ⟨.iface,1,16,0,[],[.nilI],[],false⟩
 | 90 => some ⟨.iface,1,16,0,[],[.nilI],[],false⟩
 | 91 => some ⟨.fn,1,8,0,[],[.nilf],[],false⟩
 | 92 => some ⟨.fn,1,8,0,[],[.nilf],[],false⟩
 | 93 => some ⟨.fn,1,8,0,[],[.nilf],[],false⟩
 | 94 => some ⟨.fn,1,8,0,[],[.nilf],[],false⟩
 | 95 => some ⟨.fn,1,8,0,[],[.nilf],[],false⟩
 | 96 => some ⟨.fn,1,8,0,[],[.nilf],[],false⟩
 | 97 => some ⟨.fn,1,8,0,[],[.nilf],[],false⟩
 | 98 => some ⟨.fn,1,8,0,[],[.nilf],[],false⟩
 | 100 => some ⟨.fn,1,8,0,[],[.nilf],[],false⟩
 | 102 => some ⟨.fn,1,8,0,[],[.nilf],[],false⟩
 | 104 => some ⟨.fn,1,8,0,[],[.nilf],[],false⟩
 | 106 => some ⟨.fn,1,8,0,[],[.nilf],[],false⟩
 | 107 => some ⟨.fn,1,8,0,[],[.nilf],[],false⟩
 | 108 => some ⟨.fn,1,8,0,[],[.nilf],[],false⟩
 | 109 => some ⟨.fn,1,8,0,[],[.nilf],[],false⟩
 | 110 => some ⟨.fn,1,8,0,[],[.nilf],[],false⟩
 | 111 => some ⟨.fn,1,8,0,[],[.nilf],[],false⟩
 | 112 => some ⟨.fn,1,8,0,[],[.nilf],[],false⟩
 | 113 => some ⟨.fn,1,8,0,[],[.nilf],[],false⟩
 | 114 => some ⟨.fn,1,8,0,[],[.nilf],[],false⟩
 | 115 => some ⟨.fn,1,8,0,[],[.nilf],[],false⟩
 | 116 => some ⟨.ptr,1,8,36,[],[.nilp],[],false⟩
 | 117 => some ⟨.ptr,1,8,9,[],[.nilp],[],false⟩
 | 118 => some ⟨.st,1,8,0,[(0,117)],[.nilp],[],false⟩
 | 119 => some ⟨.st,1,8,0,[(0,117)],[.nilp],[],false⟩
 | 120 => some ⟨.ptr,1,8,22,[],[.nilp],[],false⟩
 | 121 => some ⟨.fn,1,8,0,[],[.nilf],[],false⟩
 | 122 => some ⟨.st,2,16,0,[(0,120),(1,121)],[.nilp,.nilf],[],false⟩
 | 123 => some ⟨.st,2,16,0,[(0,120),(1,121)],[.nilp,.nilf],[],false⟩
 | 124 => some ⟨.sl,1,24,90,[],[.nils],[],false⟩
 | 125 => some ⟨.sl,1,24,90,[],[.nils],[],false⟩
 | 126 => some ⟨.fn,1,8,0,[],[.nilf],[],false⟩
 | 127 => some ⟨.ptr,1,8,24,[],[.nilp],[],false⟩
 | 128 => some ⟨.fn,1,8,0,[],[.nilf],[],false⟩
 | 129 => some ⟨.ptr,1,8,25,[],[.nilp],[],false⟩
 | 130 => some ⟨.ptr,1,8,27,[],[.nilp],[],false⟩
 | 131 => some ⟨.ptr,1,8,28,[],[.nilp],[],false⟩
 | 132 => some ⟨.st,1,8,0,[(0,131)],[.nilp],[],false⟩
 | 133 => some ⟨.st,1,8,0,[(0,131)],[.nilp],[],false⟩
 | 134 => some ⟨.ptr,1,8,30,[],[.nilp],[],false⟩
 | 135 => some ⟨.st,1,8,0,[(0,134)],[.nilp],[],false⟩
 | 136 => some ⟨.st,1,8,0,[(0,134)],[.nilp],[],false⟩
 | 137 => some ⟨.ptr,1,8,34,[],[.nilp],[],false⟩
 | 138 => some ⟨.st,1,8,0,[(0,137)],[.nilp],[],false⟩
 | 139 => some ⟨.st,1,8,0,[(0,137)],[.nilp],[],false⟩
 | 140 => some ⟨.fn,1,8,0,[],[.nilf],[],false⟩
 | 141 => some ⟨.int .u64,1,8,0,[],[.int .u64 0],[],false⟩
 | 142 => some ⟨.fn,1,8,0,[],[.nilf],[],false⟩
 | 144 => some ⟨.fn,1,8,0,[],[.nilf],[],false⟩
 | 146 => some ⟨.fn,1,8,0,[],[.nilf],[],false⟩
 | 148 => some ⟨.fn,1,8,0,[],[.nilf],[],false⟩
 | 150 => some ⟨.fn,1,8,0,[],[.nilf],[],false⟩
 | 152 => some ⟨.fn,1,8,0,[],[.nilf],[],false⟩
 | 154 => some ⟨.fn,1,8,0,[],[.nilf],[],false⟩
 | 156 => some ⟨.fn,1,8,0,[],[.nilf],[],false⟩
 | 158 => some ⟨.fn,1,8,0,[],[.nilf],[],false⟩
 | 160 => some ⟨.fn,1,8,0,[],[.nilf],[],false⟩
 | 161 => some ⟨.fn,1,8,0,[],[.nilf],[],false⟩
 | 162 => some ⟨.fn,1,8,0,[],[.nilf],[],false⟩
 | 163 => some ⟨.int .u64,1,8,0,[],[.int .u64 0],[],false⟩
 | 164 => some ⟨.ptr,1,8,4,[],[.nilp],[],false⟩
 | 165 => some ⟨.st,1,8,0,[(0,164)],[.nilp],[],false⟩
 | 166 => some ⟨.st,1,8,0,[(0,164)],[.nilp],[],false⟩
 | 167 => some ⟨.st,2,16,0,[(0,129),(1,126)],[.nilp,.nilf],[],false⟩
 | 168 => some ⟨.st,2,16,0,[(0,129),(1,126)],[.nilp,.nilf],[],false⟩
 | 169 => some ⟨.fn,1,8,0,[],[.nilf],[],false⟩
 | 170 => some ⟨.fn,1,8,0,[],[.nilf],[],false⟩
 | 171 => some ⟨.fn,1,8,0,[],[.nilf],[],false⟩
 | 172 => some ⟨.st,4,40,0,[(0,17),(1,17),(2,17),(3,9)],[.nilp,.nilp,.nilp,.str []],[],false⟩
 | 173 => some ⟨.st,4,40,0,[(0,17),(1,17),(2,17),(3,9)],[.nilp,.nilp,.nilp,.str []],[],false⟩
 | 174 => some ⟨.arr 0,0,0,16,[],[],[],false⟩
 | 177 => some ⟨.fn,1,8,0,[],[.nilf],[],false⟩
 | 178 => some ⟨.int .u32,1,4,0,[],[.int .u32 0],[],false⟩
 | 179 => some ⟨.int .u8,1,1,0,[],[.int .u8 0],[],false⟩
 | 180 => some ⟨.int .u8,1,1,0,[],[.int .u8 0],[],false⟩
 | 181 => some ⟨.fn,1,8,0,[],[.nilf],[],false⟩
 | 182 => some ⟨.ptr,1,8,5,[],[.nilp],[],false⟩
 | 183 => some ⟨.int .i32,1,4,0,[],[.int .i32 0],[],false⟩
 | 184 => some ⟨.int .i32,1,4,0,[],[.int .i32 0],[],false⟩
 | 185 => some ⟨.st,11,48,0,[(0,12),(1,12),(2,178),(3,179),(4,5),(5,5),(6,180),(7,181),(8,182),(9,183),(10,184)],[.int .u64 0,.int .u64 0,.int .u32 0,.int .u8 0,.int .u8 0,.int .u8 0,.int .u8 0,.nilf,.nilp,.int .i32 0,.int .i32 0],[],false⟩
 | 186 => some ⟨.st,11,48,0,[(0,12),(1,12),(2,178),(3,179),(4,5),(5,5),(6,180),(7,181),(8,182),(9,183),(10,184)],[.int .u64 0,.int .u64 0,.int .u32 0,.int .u8 0,.int .u8 0,.int .u8 0,.int .u8 0,.nilf,.nilp,.int .i32 0,.int .i32 0],[],false⟩
 | 188 => some ⟨.fn,1,8,0,[],[.nilf],[],false⟩
 | 189 => some ⟨.fn,1,8,0,[],[.nilf],[],false⟩
 | 190 => some ⟨.ptr,1,8,192,[],[.nilp],[],false⟩
 | 191 => some ⟨.st,2,32,0,[(0,37),(1,31)],[.nils,.int .i64 0],[],false⟩
 | 192 => some ⟨.st,2,32,0,[(0,37),(1,31)],[.nils,.int .i64 0],[],false⟩
 | 193 => some ⟨.fn,1,8,0,[],[.nilf],[],false⟩
 | 194 => some ⟨.fn,1,8,0,[],[.nilf],[],false⟩
 | 195 => some ⟨.fn,1,8,0,[],[.nilf],[],false⟩
 | 196 => some ⟨.sl,1,24,85,[],[.nils],[],false⟩
 | 198 => some ⟨.fn,1,8,0,[],[.nilf],[],false⟩
 | 199 => some ⟨.fn,1,8,0,[],[.nilf],[],false⟩
 | _ => none
theorem tab_1 : tab 1 = some ⟨.fn,1,8,0,[],[.nilf],[],false⟩ := rfl
theorem tab_2 : tab 2 = some ⟨.int .i64,1,8,0,[],[.int .i64 0],[],false⟩ := rfl
theorem tab_3 : tab 3 = some ⟨.int .i64,1,8,0,[],[.int .i64 0],[],false⟩ := rfl
theorem tab_4 : tab 4 = some ⟨.bool,1,1,0,[],[.bool false],[],false⟩ := rfl
theorem tab_5 : tab 5 = some ⟨.int .u8,1,1,0,[],[.int .u8 0],[],false⟩ := rfl
theorem tab_6 : tab 6 = some ⟨.int .u8,1,1,0,[],[.int .u8 0],[],false⟩ := rfl
theorem tab_7 : tab 7 = some ⟨.st,4,24,0,[(0,2),(1,3),(2,4),(3,6)],[.int .i64 0,.int .i64 0,.bool false,.int .u8 0],[],false⟩ := rfl
theorem tab_8 : tab 8 = some ⟨.st,4,24,0,[(0,2),(1,3),(2,4),(3,6)],[.int .i64 0,.int .i64 0,.bool false,.int .u8 0],[],false⟩ := rfl
theorem tab_9 : tab 9 = some ⟨.str,1,16,0,[],[.str []],[],false⟩ := rfl
theorem tab_10 : tab 10 = some ⟨.str,1,16,0,[],[.str []],[],false⟩ := rfl
theorem tab_11 : tab 11 = some ⟨.str,1,16,0,[],[.str []],[],false⟩ := rfl
theorem tab_12 : tab 12 = some ⟨.int .u64,1,8,0,[],[.int .u64 0],[],false⟩ := rfl
theorem tab_13 : tab 13 = some ⟨.st,2,24,0,[(0,9),(1,12)],[.str [],.int .u64 0],[],false⟩ := rfl
theorem tab_14 : tab 14 = some ⟨.st,2,24,0,[(0,9),(1,12)],[.str [],.int .u64 0],[],false⟩ := rfl
theorem tab_15 : tab 15 = some ⟨.ptr,1,8,173,[],[.nilp],[],false⟩ := rfl
theorem tab_16 : tab 16 = some ⟨.ptr,1,8,176,[],[.nilp],[],false⟩ := rfl
theorem tab_17 : tab 17 = some ⟨.ptr,1,8,186,[],[.nilp],[],false⟩ := rfl
theorem tab_18 : tab 18 = some ⟨.st,1,8,0,[(0,17)],[.nilp],[],false⟩ := rfl
theorem tab_19 : tab 19 = some ⟨.st,1,8,0,[(0,17)],[.nilp],[],false⟩ := rfl
theorem tab_20 : tab 20 = some ⟨.iface,1,16,0,[],[.nilI],[],false⟩ := rfl
theorem tab_21 : tab 21 = some ⟨.int .i32,1,4,0,[],[.int .i32 0],[],false⟩ := rfl
theorem tab_22 : tab 22 = some ⟨.sl,1,24,27,[],[.nils],[],false⟩ := rfl
theorem tab_23 : tab 23 = some ⟨.st,3,32,0,[(0,3),(1,3),(2,9)],[.int .i64 0,.int .i64 0,.str []],[],false⟩ := rfl
theorem tab_24 : tab 24 = some ⟨.st,3,32,0,[(0,3),(1,3),(2,9)],[.int .i64 0,.int .i64 0,.str []],[.int .i64,.int .i64,.str],false⟩ := rfl
theorem tab_25 : tab 25 = some ⟨.sl,1,24,24,[],[.nils],[],false⟩ := rfl
theorem tab_26 : tab 26 = some ⟨.st,6,72,0,[(0,3),(1,3),(2,4),(3,3),(4,9),(5,25)],[.int .i64 0,.int .i64 0,.bool false,.int .i64 0,.str [],.nils],[],false⟩ := rfl
theorem tab_27 : tab 27 = some ⟨.st,6,72,0,[(0,3),(1,3),(2,4),(3,3),(4,9),(5,25)],[.int .i64 0,.int .i64 0,.bool false,.int .i64 0,.str [],.nils],[],false⟩ := rfl
theorem tab_28 : tab 28 = some ⟨.arr 32,32,32,5,[],[.int .u8 0,.int .u8 0,.int .u8 0,.int .u8 0,.int .u8 0,.int .u8 0,.int .u8 0,.int .u8 0,.int .u8 0,.int .u8 0,.int .u8 0,.int .u8 0,.int .u8 0,.int .u8 0,.int .u8 0,.int .u8 0,.int .u8 0,.int .u8 0,.int .u8 0,.int .u8 0,.int .u8 0,.int .u8 0,.int .u8 0,.int .u8 0,.int .u8 0,.int .u8 0,.int .u8 0,.int .u8 0,.int .u8 0,.int .u8 0,.int .u8 0,.int .u8 0],[.int .u8,.int .u8,.int .u8,.int .u8,.int .u8,.int .u8,.int .u8,.int .u8,.int .u8,.int .u8,.int .u8,.int .u8,.int .u8,.int .u8,.int .u8,.int .u8,.int .u8,.int .u8,.int .u8,.int .u8,.int .u8,.int .u8,.int .u8,.int .u8,.int .u8,.int .u8,.int .u8,.int .u8,.int .u8,.int .u8,.int .u8,.int .u8],false⟩ := rfl
theorem tab_29 : tab 29 = some ⟨.st,8,80,0,[(0,3),(1,3),(2,3),(3,9),(4,9),(5,3),(6,3),(7,3)],[.int .i64 0,.int .i64 0,.int .i64 0,.str [],.str [],.int .i64 0,.int .i64 0,.int .i64 0],[],false⟩ := rfl
theorem tab_30 : tab 30 = some ⟨.st,8,80,0,[(0,3),(1,3),(2,3),(3,9),(4,9),(5,3),(6,3),(7,3)],[.int .i64 0,.int .i64 0,.int .i64 0,.str [],.str [],.int .i64 0,.int .i64 0,.int .i64 0],[.int .i64,.int .i64,.int .i64,.str,.str,.int .i64,.int .i64,.int .i64],false⟩ := rfl
theorem tab_31 : tab 31 = some ⟨.int .i64,1,8,0,[],[.int .i64 0],[],false⟩ := rfl
theorem tab_32 : tab 32 = some ⟨.sl,1,24,9,[],[.nils],[],false⟩ := rfl
theorem tab_33 : tab 33 = some ⟨.st,6,72,0,[(0,3),(1,3),(2,31),(3,9),(4,3),(5,32)],[.int .i64 0,.int .i64 0,.int .i64 0,.str [],.int .i64 0,.nils],[],false⟩ := rfl
theorem tab_34 : tab 34 = some ⟨.st,6,72,0,[(0,3),(1,3),(2,31),(3,9),(4,3),(5,32)],[.int .i64 0,.int .i64 0,.int .i64 0,.str [],.int .i64 0,.nils],[],false⟩ := rfl
theorem tab_35 : tab 35 = some ⟨.st,62,384,0,[(0,3),(1,3),(2,3),(3,3),(4,9),(5,22),(6,24),(9,25),(10,27),(16,28),(48,30),(56,34)],[.int .i64 0,.int .i64 0,.int .i64 0,.int .i64 0,.str [],.nils,.int .i64 0,.int .i64 0,.str [],.nils,.int .i64 0,.int .i64 0,.bool false,.int .i64 0,.str [],.nils,.int .u8 0,.int .u8 0,.int .u8 0,.int .u8 0,.int .u8 0,.int .u8 0,.int .u8 0,.int .u8 0,.int .u8 0,.int .u8 0,.int .u8 0,.int .u8 0,.int .u8 0,.int .u8 0,.int .u8 0,.int .u8 0,.int .u8 0,.int .u8 0,.int .u8 0,.int .u8 0,.int .u8 0,.int .u8 0,.int .u8 0,.int .u8 0,.int .u8 0,.int .u8 0,.int .u8 0,.int .u8 0,.int .u8 0,.int .u8 0,.int .u8 0,.int .u8 0,.int .i64 0,.int .i64 0,.int .i64 0,.str [],.str [],.int .i64 0,.int .i64 0,.int .i64 0,.int .i64 0,.int .i64 0,.int .i64 0,.str [],.int .i64 0,.nils],[],false⟩ := rfl
theorem tab_36 : tab 36 = some ⟨.st,62,384,0,[(0,3),(1,3),(2,3),(3,3),(4,9),(5,22),(6,24),(9,25),(10,27),(16,28),(48,30),(56,34)],[.int .i64 0,.int .i64 0,.int .i64 0,.int .i64 0,.str [],.nils,.int .i64 0,.int .i64 0,.str [],.nils,.int .i64 0,.int .i64 0,.bool false,.int .i64 0,.str [],.nils,.int .u8 0,.int .u8 0,.int .u8 0,.int .u8 0,.int .u8 0,.int .u8 0,.int .u8 0,.int .u8 0,.int .u8 0,.int .u8 0,.int .u8 0,.int .u8 0,.int .u8 0,.int .u8 0,.int .u8 0,.int .u8 0,.int .u8 0,.int .u8 0,.int .u8 0,.int .u8 0,.int .u8 0,.int .u8 0,.int .u8 0,.int .u8 0,.int .u8 0,.int .u8 0,.int .u8 0,.int .u8 0,.int .u8 0,.int .u8 0,.int .u8 0,.int .u8 0,.int .i64 0,.int .i64 0,.int .i64 0,.str [],.str [],.int .i64 0,.int .i64 0,.int .i64 0,.int .i64 0,.int .i64 0,.int .i64 0,.str [],.int .i64 0,.nils],[],false⟩ := rfl
theorem tab_37 : tab 37 = some ⟨.sl,1,24,5,[],[.nils],[],false⟩ := rfl
theorem tab_38 : tab 38 = some ⟨.fn,1,8,0,[],[.nilf],[],false⟩ := rfl
theorem tab_39 : tab 39 = some ⟨.fn,1,8,0,[],[.nilf],[],false⟩ := rfl
theorem tab_41 : tab 41 = some ⟨.fn,1,8,0,[],[.nilf],[],false⟩ := rfl
theorem tab_42 : tab 42 = some ⟨.fn,1,8,0,[],[.nilf],[],false⟩ := rfl
theorem tab_43 : tab 43 = some ⟨.st,8,80,0,[(0,3),(1,3),(2,3),(3,9),(4,9),(5,3),(6,3),(7,3)],[.int .i64 0,.int .i64 0,.int .i64 0,.str [],.str [],.int .i64 0,.int .i64 0,.int .i64 0],[.int .i64,.int .i64,.int .i64,.str,.str,.int .i64,.int .i64,.int .i64],false⟩ := rfl
theorem tab_44 : tab 44 = some ⟨.st,6,72,0,[(0,3),(1,3),(2,31),(3,9),(4,3),(5,32)],[.int .i64 0,.int .i64 0,.int .i64 0,.str [],.int .i64 0,.nils],[],false⟩ := rfl
theorem tab_45 : tab 45 = some ⟨.st,62,384,0,[(0,3),(1,3),(2,3),(3,3),(4,9),(5,22),(6,24),(9,25),(10,27),(16,28),(48,43),(56,44)],[.int .i64 0,.int .i64 0,.int .i64 0,.int .i64 0,.str [],.nils,.int .i64 0,.int .i64 0,.str [],.nils,.int .i64 0,.int .i64 0,.bool false,.int .i64 0,.str [],.nils,.int .u8 0,.int .u8 0,.int .u8 0,.int .u8 0,.int .u8 0,.int .u8 0,.int .u8 0,.int .u8 0,.int .u8 0,.int .u8 0,.int .u8 0,.int .u8 0,.int .u8 0,.int .u8 0,.int .u8 0,.int .u8 0,.int .u8 0,.int .u8 0,.int .u8 0,.int .u8 0,.int .u8 0,.int .u8 0,.int .u8 0,.int .u8 0,.int .u8 0,.int .u8 0,.int .u8 0,.int .u8 0,.int .u8 0,.int .u8 0,.int .u8 0,.int .u8 0,.int .i64 0,.int .i64 0,.int .i64 0,.str [],.str [],.int .i64 0,.int .i64 0,.int .i64 0,.int .i64 0,.int .i64 0,.int .i64 0,.str [],.int .i64 0,.nils],[],false⟩ := rfl
theorem tab_46 : tab 46 = some ⟨.st,62,384,0,[(0,3),(1,3),(2,3),(3,3),(4,9),(5,22),(6,24),(9,25),(10,27),(16,28),(48,43),(56,44)],[.int .i64 0,.int .i64 0,.int .i64 0,.int .i64 0,.str [],.nils,.int .i64 0,.int .i64 0,.str [],.nils,.int .i64 0,.int .i64 0,.bool false,.int .i64 0,.str [],.nils,.int .u8 0,.int .u8 0,.int .u8 0,.int .u8 0,.int .u8 0,.int .u8 0,.int .u8 0,.int .u8 0,.int .u8 0,.int .u8 0,.int .u8 0,.int .u8 0,.int .u8 0,.int .u8 0,.int .u8 0,.int .u8 0,.int .u8 0,.int .u8 0,.int .u8 0,.int .u8 0,.int .u8 0,.int .u8 0,.int .u8 0,.int .u8 0,.int .u8 0,.int .u8 0,.int .u8 0,.int .u8 0,.int .u8 0,.int .u8 0,.int .u8 0,.int .u8 0,.int .i64 0,.int .i64 0,.int .i64 0,.str [],.str [],.int .i64 0,.int .i64 0,.int .i64 0,.int .i64 0,.int .i64 0,.int .i64 0,.str [],.int .i64 0,.nils],[],false⟩ := rfl
theorem tab_47 : tab 47 = some ⟨.fn,1,8,0,[],[.nilf],[],false⟩ := rfl
theorem tab_49 : tab 49 = some ⟨.fn,1,8,0,[],[.nilf],[],false⟩ := rfl
theorem tab_51 : tab 51 = some ⟨.fn,1,8,0,[],[.nilf],[],false⟩ := rfl
theorem tab_52 : tab 52 = some ⟨.fn,1,8,0,[],[.nilf],[],false⟩ := rfl
theorem tab_53 : tab 53 = some ⟨.fn,1,8,0,[],[.nilf],[],false⟩ := rfl
theorem tab_54 : tab 54 = some ⟨.fn,1,8,0,[],[.nilf],[],false⟩ := rfl
theorem tab_55 : tab 55 = some ⟨.fn,1,8,0,[],[.nilf],[],false⟩ := rfl
theorem tab_56 : tab 56 = some ⟨.fn,1,8,0,[],[.nilf],[],false⟩ := rfl
theorem tab_57 : tab 57 = some ⟨.fn,1,8,0,[],[.nilf],[],false⟩ := rfl
theorem tab_58 : tab 58 = some ⟨.fn,1,8,0,[],[.nilf],[],false⟩ := rfl
theorem tab_59 : tab 59 = some ⟨.sl,1,24,3,[],[.nils],[],false⟩ := rfl
theorem tab_60 : tab 60 = some ⟨.fn,1,8,0,[],[.nilf],[],false⟩ := rfl
theorem tab_61 : tab 61 = some ⟨.fn,1,8,0,[],[.nilf],[],false⟩ := rfl
theorem tab_63 : tab 63 = some ⟨.fn,1,8,0,[],[.nilf],[],false⟩ := rfl
theorem tab_65 : tab 65 = some ⟨.fn,1,8,0,[],[.nilf],[],false⟩ := rfl
theorem tab_67 : tab 67 = some ⟨.fn,1,8,0,[],[.nilf],[],false⟩ := rfl
theorem tab_68 : tab 68 = some ⟨.fn,1,8,0,[],[.nilf],[],false⟩ := rfl
theorem tab_69 : tab 69 = some ⟨.fn,1,8,0,[],[.nilf],[],false⟩ := rfl
theorem tab_70 : tab 70 = some ⟨.fn,1,8,0,[],[.nilf],[],false⟩ := rfl
theorem tab_71 : tab 71 = some ⟨.fn,1,8,0,[],[.nilf],[],false⟩ := rfl
theorem tab_72 : tab 72 = some ⟨.fn,1,8,0,[],[.nilf],[],false⟩ := rfl
theorem tab_73 : tab 73 = some ⟨.fn,1,8,0,[],[.nilf],[],false⟩ := rfl
theorem tab_74 : tab 74 = some ⟨.fn,1,8,0,[],[.nilf],[],false⟩ := rfl
theorem tab_75 : tab 75 = some ⟨.fn,1,8,0,[],[.nilf],[],false⟩ := rfl
theorem tab_76 : tab 76 = some ⟨.fn,1,8,0,[],[.nilf],[],false⟩ := rfl
theorem tab_77 : tab 77 = some ⟨.fn,1,8,0,[],[.nilf],[],false⟩ := rfl
theorem tab_78 : tab 78 = some ⟨.fn,1,8,0,[],[.nilf],[],false⟩ := rfl
theorem tab_79 : tab 79 = some ⟨.fn,1,8,0,[],[.nilf],[],false⟩ := rfl
theorem tab_80 : tab 80 = some ⟨.fn,1,8,0,[],[.nilf],[],false⟩ := rfl
theorem tab_81 : tab 81 = some ⟨.fn,1,8,0,[],[.nilf],[],false⟩ := rfl
theorem tab_82 : tab 82 = some ⟨.ptr,1,8,84,[],[.nilp],[],false⟩ := rfl
theorem tab_83 : tab 83 = some ⟨.st,3,40,0,[(0,37),(1,4),(2,31)],[.nils,.bool false,.int .i64 0],[],false⟩ := rfl
theorem tab_84 : tab 84 = some ⟨.st,3,40,0,[(0,37),(1,4),(2,31)],[.nils,.bool false,.int .i64 0],[],false⟩ := rfl
theorem tab_85 : tab 85 = some ⟨.ptr,1,8,3,[],[.nilp],[],false⟩ := rfl
theorem tab_86 : tab 86 = some ⟨.st,1,8,0,[(0,85)],[.nilp],[],false⟩ := rfl
theorem tab_87 : tab 87 = some ⟨.st,1,8,0,[(0,85)],[.nilp],[],false⟩ := rfl
theorem tab_88 : tab 88 = some ⟨.fn,1,8,0,[],[.nilf],[],false⟩ := rfl
theorem tab_89 : tab 89 = some ⟨.iface,1,16,0,[],[.nilI],[],false⟩ := rfl
theorem tab_90 : tab 90 = some ⟨.iface,1,16,0,[],[.nilI],[],false⟩ := rfl
theorem tab_91 : tab 91 = some ⟨.fn,1,8,0,[],[.nilf],[],false⟩ := rfl
theorem tab_92 : tab 92 = some ⟨.fn,1,8,0,[],[.nilf],[],false⟩ := rfl
theorem tab_93 : tab 93 = some ⟨.fn,1,8,0,[],[.nilf],[],false⟩ := rfl
theorem tab_94 : tab 94 = some ⟨.fn,1,8,0,[],[.nilf],[],false⟩ := rfl
theorem tab_95 : tab 95 = some ⟨.fn,1,8,0,[],[.nilf],[],false⟩ := rfl
theorem tab_96 : tab 96 = some ⟨.fn,1,8,0,[],[.nilf],[],false⟩ := rfl
theorem tab_97 : tab 97 = some ⟨.fn,1,8,0,[],[.nilf],[],false⟩ := rfl
theorem tab_98 : tab 98 = some ⟨.fn,1,8,0,[],[.nilf],[],false⟩ := rfl
theorem tab_100 : tab 100 = some ⟨.fn,1,8,0,[],[.nilf],[],false⟩ := rfl
theorem tab_102 : tab 102 = some ⟨.fn,1,8,0,[],[.nilf],[],false⟩ := rfl
theorem tab_104 : tab 104 = some ⟨.fn,1,8,0,[],[.nilf],[],false⟩ := rfl
theorem tab_106 : tab 106 = some ⟨.fn,1,8,0,[],[.nilf],[],false⟩ := rfl
theorem tab_107 : tab 107 = some ⟨.fn,1,8,0,[],[.nilf],[],false⟩ := rfl
theorem tab_108 : tab 108 = some ⟨.fn,1,8,0,[],[.nilf],[],false⟩ := rfl
theorem tab_109 : tab 109 = some ⟨.fn,1,8,0,[],[.nilf],[],false⟩ := rfl
theorem tab_110 : tab 110 = some ⟨.fn,1,8,0,[],[.nilf],[],false⟩ := rfl
theorem tab_111 : tab 111 = some ⟨.fn,1,8,0,[],[.nilf],[],false⟩ := rfl
theorem tab_112 : tab 112 = some ⟨.fn,1,8,0,[],[.nilf],[],false⟩ := rfl
theorem tab_113 : tab 113 = some ⟨.fn,1,8,0,[],[.nilf],[],false⟩ := rfl
theorem tab_114 : tab 114 = some ⟨.fn,1,8,0,[],[.nilf],[],false⟩ := rfl
theorem tab_115 : tab 115 = some ⟨.fn,1,8,0,[],[.nilf],[],false⟩ := rfl
theorem tab_116 : tab 116 = some ⟨.ptr,1,8,36,[],[.nilp],[],false⟩ := rfl
theorem tab_117 : tab 117 = some ⟨.ptr,1,8,9,[],[.nilp],[],false⟩ := rfl
theorem tab_118 : tab 118 = some ⟨.st,1,8,0,[(0,117)],[.nilp],[],false⟩ := rfl
theorem tab_119 : tab 119 = some ⟨.st,1,8,0,[(0,117)],[.nilp],[],false⟩ := rfl
theorem tab_120 : tab 120 = some ⟨.ptr,1,8,22,[],[.nilp],[],false⟩ := rfl
theorem tab_121 : tab 121 = some ⟨.fn,1,8,0,[],[.nilf],[],false⟩ := rfl
theorem tab_122 : tab 122 = some ⟨.st,2,16,0,[(0,120),(1,121)],[.nilp,.nilf],[],false⟩ := rfl
theorem tab_123 : tab 123 = some ⟨.st,2,16,0,[(0,120),(1,121)],[.nilp,.nilf],[],false⟩ := rfl
theorem tab_124 : tab 124 = some ⟨.sl,1,24,90,[],[.nils],[],false⟩ := rfl
theorem tab_125 : tab 125 = some ⟨.sl,1,24,90,[],[.nils],[],false⟩ := rfl
theorem tab_126 : tab 126 = some ⟨.fn,1,8,0,[],[.nilf],[],false⟩ := rfl
theorem tab_127 : tab 127 = some ⟨.ptr,1,8,24,[],[.nilp],[],false⟩ := rfl
theorem tab_128 : tab 128 = some ⟨.fn,1,8,0,[],[.nilf],[],false⟩ := rfl
theorem tab_129 : tab 129 = some ⟨.ptr,1,8,25,[],[.nilp],[],false⟩ := rfl
theorem tab_130 : tab 130 = some ⟨.ptr,1,8,27,[],[.nilp],[],false⟩ := rfl
theorem tab_131 : tab 131 = some ⟨.ptr,1,8,28,[],[.nilp],[],false⟩ := rfl
theorem tab_132 : tab 132 = some ⟨.st,1,8,0,[(0,131)],[.nilp],[],false⟩ := rfl
theorem tab_133 : tab 133 = some ⟨.st,1,8,0,[(0,131)],[.nilp],[],false⟩ := rfl
theorem tab_134 : tab 134 = some ⟨.ptr,1,8,30,[],[.nilp],[],false⟩ := rfl
theorem tab_135 : tab 135 = some ⟨.st,1,8,0,[(0,134)],[.nilp],[],false⟩ := rfl
theorem tab_136 : tab 136 = some ⟨.st,1,8,0,[(0,134)],[.nilp],[],false⟩ := rfl
theorem tab_137 : tab 137 = some ⟨.ptr,1,8,34,[],[.nilp],[],false⟩ := rfl
theorem tab_138 : tab 138 = some ⟨.st,1,8,0,[(0,137)],[.nilp],[],false⟩ := rfl
theorem tab_139 : tab 139 = some ⟨.st,1,8,0,[(0,137)],[.nilp],[],false⟩ := rfl
theorem tab_140 : tab 140 = some ⟨.fn,1,8,0,[],[.nilf],[],false⟩ := rfl
theorem tab_141 : tab 141 = some ⟨.int .u64,1,8,0,[],[.int .u64 0],[],false⟩ := rfl
theorem tab_142 : tab 142 = some ⟨.fn,1,8,0,[],[.nilf],[],false⟩ := rfl
theorem tab_144 : tab 144 = some ⟨.fn,1,8,0,[],[.nilf],[],false⟩ := rfl
theorem tab_146 : tab 146 = some ⟨.fn,1,8,0,[],[.nilf],[],false⟩ := rfl
theorem tab_148 : tab 148 = some ⟨.fn,1,8,0,[],[.nilf],[],false⟩ := rfl
theorem tab_150 : tab 150 = some ⟨.fn,1,8,0,[],[.nilf],[],false⟩ := rfl
theorem tab_152 : tab 152 = some ⟨.fn,1,8,0,[],[.nilf],[],false⟩ := rfl
theorem tab_154 : tab 154 = some ⟨.fn,1,8,0,[],[.nilf],[],false⟩ := rfl
theorem tab_156 : tab 156 = some ⟨.fn,1,8,0,[],[.nilf],[],false⟩ := rfl
theorem tab_158 : tab 158 = some ⟨.fn,1,8,0,[],[.nilf],[],false⟩ := rfl
theorem tab_160 : tab 160 = some ⟨.fn,1,8,0,[],[.nilf],[],false⟩ := rfl
theorem tab_161 : tab 161 = some ⟨.fn,1,8,0,[],[.nilf],[],false⟩ := rfl
theorem tab_162 : tab 162 = some ⟨.fn,1,8,0,[],[.nilf],[],false⟩ := rfl
theorem tab_163 : tab 163 = some ⟨.int .u64,1,8,0,[],[.int .u64 0],[],false⟩ := rfl
theorem tab_164 : tab 164 = some ⟨.ptr,1,8,4,[],[.nilp],[],false⟩ := rfl
theorem tab_165 : tab 165 = some ⟨.st,1,8,0,[(0,164)],[.nilp],[],false⟩ := rfl
theorem tab_166 : tab 166 = some ⟨.st,1,8,0,[(0,164)],[.nilp],[],false⟩ := rfl
theorem tab_167 : tab 167 = some ⟨.st,2,16,0,[(0,129),(1,126)],[.nilp,.nilf],[],false⟩ := rfl
theorem tab_168 : tab 168 = some ⟨.st,2,16,0,[(0,129),(1,126)],[.nilp,.nilf],[],false⟩ := rfl
theorem tab_169 : tab 169 = some ⟨.fn,1,8,0,[],[.nilf],[],false⟩ := rfl
theorem tab_170 : tab 170 = some ⟨.fn,1,8,0,[],[.nilf],[],false⟩ := rfl
theorem tab_171 : tab 171 = some ⟨.fn,1,8,0,[],[.nilf],[],false⟩ := rfl
theorem tab_172 : tab 172 = some ⟨.st,4,40,0,[(0,17),(1,17),(2,17),(3,9)],[.nilp,.nilp,.nilp,.str []],[],false⟩ := rfl
theorem tab_173 : tab 173 = some ⟨.st,4,40,0,[(0,17),(1,17),(2,17),(3,9)],[.nilp,.nilp,.nilp,.str []],[],false⟩ := rfl
theorem tab_174 : tab 174 = some ⟨.arr 0,0,0,16,[],[],[],false⟩ := rfl
theorem tab_177 : tab 177 = some ⟨.fn,1,8,0,[],[.nilf],[],false⟩ := rfl
theorem tab_178 : tab 178 = some ⟨.int .u32,1,4,0,[],[.int .u32 0],[],false⟩ := rfl
theorem tab_179 : tab 179 = some ⟨.int .u8,1,1,0,[],[.int .u8 0],[],false⟩ := rfl
theorem tab_180 : tab 180 = some ⟨.int .u8,1,1,0,[],[.int .u8 0],[],false⟩ := rfl
theorem tab_181 : tab 181 = some ⟨.fn,1,8,0,[],[.nilf],[],false⟩ := rfl
theorem tab_182 : tab 182 = some ⟨.ptr,1,8,5,[],[.nilp],[],false⟩ := rfl
theorem tab_183 : tab 183 = some ⟨.int .i32,1,4,0,[],[.int .i32 0],[],false⟩ := rfl
theorem tab_184 : tab 184 = some ⟨.int .i32,1,4,0,[],[.int .i32 0],[],false⟩ := rfl
theorem tab_185 : tab 185 = some ⟨.st,11,48,0,[(0,12),(1,12),(2,178),(3,179),(4,5),(5,5),(6,180),(7,181),(8,182),(9,183),(10,184)],[.int .u64 0,.int .u64 0,.int .u32 0,.int .u8 0,.int .u8 0,.int .u8 0,.int .u8 0,.nilf,.nilp,.int .i32 0,.int .i32 0],[],false⟩ := rfl
theorem tab_186 : tab 186 = some ⟨.st,11,48,0,[(0,12),(1,12),(2,178),(3,179),(4,5),(5,5),(6,180),(7,181),(8,182),(9,183),(10,184)],[.int .u64 0,.int .u64 0,.int .u32 0,.int .u8 0,.int .u8 0,.int .u8 0,.int .u8 0,.nilf,.nilp,.int .i32 0,.int .i32 0],[],false⟩ := rfl
theorem tab_188 : tab 188 = some ⟨.fn,1,8,0,[],[.nilf],[],false⟩ := rfl
theorem tab_189 : tab 189 = some ⟨.fn,1,8,0,[],[.nilf],[],false⟩ := rfl
theorem tab_190 : tab 190 = some ⟨.ptr,1,8,192,[],[.nilp],[],false⟩ := rfl
theorem tab_191 : tab 191 = some ⟨.st,2,32,0,[(0,37),(1,31)],[.nils,.int .i64 0],[],false⟩ := rfl
theorem tab_192 : tab 192 = some ⟨.st,2,32,0,[(0,37),(1,31)],[.nils,.int .i64 0],[],false⟩ := rfl
theorem tab_193 : tab 193 = some ⟨.fn,1,8,0,[],[.nilf],[],false⟩ := rfl
theorem tab_194 : tab 194 = some ⟨.fn,1,8,0,[],[.nilf],[],false⟩ := rfl
theorem tab_195 : tab 195 = some ⟨.fn,1,8,0,[],[.nilf],[],false⟩ := rfl
theorem tab_196 : tab 196 = some ⟨.sl,1,24,85,[],[.nils],[],false⟩ := rfl
theorem tab_198 : tab 198 = some ⟨.fn,1,8,0,[],[.nilf],[],false⟩ := rfl
theorem tab_199 : tab 199 = some ⟨.fn,1,8,0,[],[.nilf],[],false⟩ := rfl
theorem follows_ok : Tryz.prog.follows .mixedOrders = true := by kernel_rfl
set_option maxHeartbeats 4000000 in
set_option maxRecDepth 100000 in
theorem tab_ok : TabOk Tryz.prog tab := by
 intro t ti h
 unfold tab at h
 split at h <;> first|(cases h;done)|(cases h;exact tiB_ok (by kernel_rfl))
attribute [go_sem] eq_self Int.natCast_zero Int.toNat_zero alt alts gslot akeqs keyCs aslice3 aappendM asrcM aclear AV.mid amapEntry amapUpdate aentryStore alookup arange acap acopy mapK keyTy AV.cell bytesOf_map beq_true beq_false drun adops adone places mayNeed freeOk rdOf AV.id wrOf aops aone afin ares aresL ares1 aresOk aresOk1 aop needs ext aev aconst aput aupd aload astore afieldAddr aindexAddr apart acmp aarith ashift aeqs abin isc aconv alen aslice afield aindex abuild aelems plains asrc aappend gval tab_1 tab_2 tab_3 tab_4 tab_5 tab_6 tab_7 tab_8 tab_9 tab_10 tab_11 tab_12 tab_13 tab_14 tab_15 tab_16 tab_17 tab_18 tab_19 tab_20 tab_21 tab_22 tab_23 tab_24 tab_25 tab_26 tab_27 tab_28 tab_29 tab_30 tab_31 tab_32 tab_33 tab_34 tab_35 tab_36 tab_37 tab_38 tab_39 tab_41 tab_42 tab_43 tab_44 tab_45 tab_46 tab_47 tab_49 tab_51 tab_52 tab_53 tab_54 tab_55 tab_56 tab_57 tab_58 tab_59 tab_60 tab_61 tab_63 tab_65 tab_67 tab_68 tab_69 tab_70 tab_71 tab_72 tab_73 tab_74 tab_75 tab_76 tab_77 tab_78 tab_79 tab_80 tab_81 tab_82 tab_83 tab_84 tab_85 tab_86 tab_87 tab_88 tab_89 tab_90 tab_91 tab_92 tab_93 tab_94 tab_95 tab_96 tab_97 tab_98 tab_100 tab_102 tab_104 tab_106 tab_107 tab_108 tab_109 tab_110 tab_111 tab_112 tab_113 tab_114 tab_115 tab_116 tab_117 tab_118 tab_119 tab_120 tab_121 tab_122 tab_123 tab_124 tab_125 tab_126 tab_127 tab_128 tab_129 tab_130 tab_131 tab_132 tab_133 tab_134 tab_135 tab_136 tab_137 tab_138 tab_139 tab_140 tab_141 tab_142 tab_144 tab_146 tab_148 tab_150 tab_152 tab_154 tab_156 tab_158 tab_160 tab_161 tab_162 tab_163 tab_164 tab_165 tab_166 tab_167 tab_168 tab_169 tab_170 tab_171 tab_172 tab_173 tab_174 tab_177 tab_178 tab_179 tab_180 tab_181 tab_182 tab_183 tab_184 tab_185 tab_186 tab_188 tab_189 tab_190 tab_191 tab_192 tab_193 tab_194 tab_195 tab_196 tab_198 tab_199 ok1 lay cellsAs TI.agg AV.cells AV.whole AV.plain AV.bare exitTo gotoIn findLabel Option.getD_some Option.getD_none Option.bind_some Option.bind_none Option.map_some Option.map_none List.set_cons_zero List.set_cons_succ List.length_cons List.length_nil List.getElem?_cons_zero List.getElem?_cons_succ List.getElem?_toArray List.getD_cons_zero List.getD_cons_succ List.drop_zero List.drop_succ_cons List.take_succ_cons List.take_zero List.take_nil List.drop_nil List.map_cons List.map_nil List.length_map List.cons_append List.nil_append List.append_nil List.all_cons List.all_nil List.replicate_succ List.replicate_zero true_and and_true if_true if_false Nat.zero_add Nat.add_zero beq_self_eq_true Bool.and_self Bool.and_true Bool.true_and Bool.and_false Bool.false_and Bool.not_true Bool.not_false Bool.not_eq_true' Bool.not_eq_false' decide_eq_true_eq decide_eq_false_iff_not decide_true decide_false not_false_eq_true not_true_eq_false Nat.lt_irrefl forall_const false_implies implies_true Nat.le_refl Option.some.injEq Int.toNat_natCast List.getD_eq_getElem?_getD Option.isSome_none Option.isSome_some Bool.false_eq_true Tryz.ntmps10 Tryz.ntmps109 Tryz.ntmps11 Tryz.ntmps110 Tryz.ntmps111 Tryz.ntmps112 Tryz.ntmps113 Tryz.ntmps114 Tryz.ntmps115 Tryz.ntmps116 Tryz.ntmps117 Tryz.ntmps118 Tryz.ntmps119 Tryz.ntmps12 Tryz.ntmps120 Tryz.ntmps121 Tryz.ntmps122 Tryz.ntmps123 Tryz.ntmps124 Tryz.ntmps125 Tryz.ntmps126 Tryz.ntmps127 Tryz.ntmps13 Tryz.ntmps14 Tryz.ntmps15 Tryz.ntmps16 Tryz.ntmps17 Tryz.ntmps18 Tryz.ntmps19 Tryz.ntmps20 Tryz.ntmps21 Tryz.ntmps22 Tryz.ntmps23 Tryz.ntmps24 Tryz.ntmps25 Tryz.ntmps26 Tryz.ntmps27 Tryz.ntmps28 Tryz.ntmps29 Tryz.ntmps3 Tryz.ntmps30 Tryz.ntmps31 Tryz.ntmps32 Tryz.ntmps33 Tryz.ntmps34 Tryz.ntmps35 Tryz.ntmps36 Tryz.ntmps37 Tryz.ntmps38 Tryz.ntmps39 Tryz.ntmps4 Tryz.ntmps40 Tryz.ntmps41 Tryz.ntmps42 Tryz.ntmps43 Tryz.ntmps44 Tryz.ntmps45 Tryz.ntmps46 Tryz.ntmps47 Tryz.ntmps48 Tryz.ntmps49 Tryz.ntmps5 Tryz.ntmps50 Tryz.ntmps51 Tryz.ntmps52 Tryz.ntmps53 Tryz.ntmps54 Tryz.ntmps55 Tryz.ntmps56 Tryz.ntmps57 Tryz.ntmps58 Tryz.ntmps59 Tryz.ntmps6 Tryz.ntmps60 Tryz.ntmps61 Tryz.ntmps62 Tryz.ntmps63 Tryz.ntmps64 Tryz.ntmps65 Tryz.ntmps66 Tryz.ntmps67 Tryz.ntmps68 Tryz.ntmps69 Tryz.ntmps7 Tryz.ntmps70 Tryz.ntmps71 Tryz.ntmps72 Tryz.ntmps73 Tryz.ntmps74 Tryz.ntmps75 Tryz.ntmps76 Tryz.ntmps77 Tryz.ntmps78 Tryz.ntmps79 Tryz.ntmps8 Tryz.ntmps80 Tryz.ntmps81 Tryz.ntmps82 Tryz.ntmps83 Tryz.ntmps84 Tryz.ntmps85 Tryz.ntmps86 Tryz.ntmps87 Tryz.ntmps88 Tryz.ntmps89 Tryz.ntmps9 Tryz.ntmps90 Tryz.ntmps91 Tryz.ntmps92 Tryz.results10 Tryz.results109 Tryz.results11 Tryz.results110 Tryz.results111 Tryz.results112 Tryz.results113 Tryz.results114 Tryz.results115 Tryz.results116 Tryz.results117 Tryz.results118 Tryz.results119 Tryz.results12 Tryz.results120 Tryz.results121 Tryz.results122 Tryz.results123 Tryz.results124 Tryz.results125 Tryz.results126 Tryz.results127 Tryz.results13 Tryz.results14 Tryz.results15 Tryz.results16 Tryz.results17 Tryz.results18 Tryz.results19 Tryz.results20 Tryz.results21 Tryz.results22 Tryz.results23 Tryz.results24 Tryz.results25 Tryz.results26 Tryz.results27 Tryz.results28 Tryz.results29 Tryz.results3 Tryz.results30 Tryz.results31 Tryz.results32 Tryz.results33 Tryz.results34 Tryz.results35 Tryz.results36 Tryz.results37 Tryz.results38 Tryz.results39 Tryz.results4 Tryz.results40 Tryz.results41 Tryz.results42 Tryz.results43 Tryz.results44 Tryz.results45 Tryz.results46 Tryz.results47 Tryz.results48 Tryz.results49 Tryz.results5 Tryz.results50 Tryz.results51 Tryz.results52 Tryz.results53 Tryz.results54 Tryz.results55 Tryz.results56 Tryz.results57 Tryz.results58 Tryz.results59 Tryz.results6 Tryz.results60 Tryz.results61 Tryz.results62 Tryz.results63 Tryz.results64 Tryz.results65 Tryz.results66 Tryz.results67 Tryz.results68 Tryz.results69 Tryz.results7 Tryz.results70 Tryz.results71 Tryz.results72 Tryz.results73 Tryz.results74 Tryz.results75 Tryz.results76 Tryz.results77 Tryz.results78 Tryz.results79 Tryz.results8 Tryz.results80 Tryz.results81 Tryz.results82 Tryz.results83 Tryz.results84 Tryz.results85 Tryz.results86 Tryz.results87 Tryz.results88 Tryz.results89 Tryz.results9 Tryz.results90 Tryz.results91 Tryz.results92
theorem Rg {f : FuncId} {c0 : Cx} {R : AV → List ABlk → Prop} {fn : Func} (hf : Tryz.prog.funcs[f]? = some fn) {k : List Item} {s : AState} (h : drun Tryz.prog f c0 R tab fn.results.toList 60 k s) : Run Tryz.prog f c0 R k s := Run.god tab_ok follows_ok hf 60 h
theorem Og {f : FuncId} {c0 : Cx} {R : AV → List ABlk → Prop} {fn : Func} (hf : Tryz.prog.funcs[f]? = some fn) {ops : Array Oper} {n : Nat} {rest : List Oper} {k : List Item} {s : AState} (h : aops Tryz.prog f c0 R tab ops k (drun Tryz.prog f c0 R tab fn.results.toList 60 k) n rest s) : Ops Tryz.prog f c0 R ops n rest k s := Ops.god tab_ok follows_ok hf 60 h
theorem Dg {f : FuncId} {c0 : Cx} {R : AV → List ABlk → Prop} {fn : Func} (hf : Tryz.prog.funcs[f]? = some fn) {ops : Array Oper} {n sl : Nat} {rest : List Oper} {fp : List (List Nat × List Nat)} {k : List Item} {s : AState} (hd : ops.toList.drop n = rest) (h : adops Tryz.prog f c0 R tab ops k (drun Tryz.prog f c0 R tab fn.results.toList 60 k) n rest sl fp s) : DOps Tryz.prog f c0 R ops n sl rest fp k s := DOps.god tab_ok follows_ok hf 60 hd h
theorem Sg {f : FuncId} {R : AV → List ABlk → Prop} {fn : Func} {c : Code} {args : List AV} {h : List ABlk} (hf : Tryz.prog.funcs[f]? = some fn) (hb : fn.body = some c) (H : ∀ c0 : Cx,c0.h = h → drun Tryz.prog f c0 R tab fn.results.toList 60 [.code c] ⟨args ++ List.replicate (fn.ntmps - args.length) .junk,h⟩) : ACall Tryz.prog f args h R := ACall.of hf hb fun c0 h => Rg hf (H c0 h)
end Go.Proofs.YtkamcoechjdgpaaGreat
namespace Go.Proofs.YtkamcoechjdgpaaGreat
open Go.ChangeShapes Go.WideShapes Go.ChangeAt Go.RowKit Go.Deep
structure Rep (α : Type) where
 at_ : Nat → World → List Value → α → Prop
 mono : ∀ {B B' w cs a},B ≤ B' → at_ B w cs a → at_ B' w cs a
 stable : ∀ {B w w' cs a},Below B w w' → at_ B w cs a → at_ B w' cs a
def Cs {α : Type} (R : Rep α) (k B : Nat) (w : World) (xs : List Value) (l : List α) : Prop :=
 xs.length = l.length * k ∧ ∀ (j : Nat) a,l[j]? = some a → R.at_ B w ((xs.drop (j * k)).take k) a
def Sl {α : Type} (R : Rep α) (k B : Nat) (w : World) (A : Option Addr) (l : List α) : Prop :=
 l ≠ [] → ∃ b o,A = some ⟨b,o,none⟩ ∧ b < B ∧ ∀ (j : Nat) a,l[j]? = some a → ∃ cs,cs.length = k ∧ R.at_ B w cs a ∧ ∀ i u,cs[i]? = some u → w.cell? ⟨b,o + j * k + i,none⟩ = some u
def Own {α : Type} (R : Rep α) (k : Nat) (e : TypeId) (base B : Nat) (w : World) (v : Value) (l : List α) : Prop :=
 ∃ xs,w.ownsRow base e k v l.length xs ∧ Cs R k B w xs l
section
variable {α : Type} {R : Rep α} {k B B' : Nat} {w w' : World} {A : Option Addr} {l l2 : List α}
/-! ### cells -/
/-! ### rows of the call's own -/
variable {e : TypeId} {base : Nat} {v : Value}
end
/-! ### append -/
structure Tab (P : Program) (t e : TypeId) (k bytes : Nat) : Prop where
 ht : P.underlying t = some (.slice e)
 hi : ∃ i z,P.info? e = some i ∧ i.zero = some z ∧ i.size = k ∧ i.bytes = bytes ∧ z.cells.size = k
 hk : 0 < k
section
variable {P : Program} {α : Type} {R : Rep α} {k B : Nat} {w : World} {l l2 : List α} {e : TypeId} {base bytes : Nat} {v : Value}
end
/-! ### one element behind -/
/-! ### append as a call's walk meets it: W is the world in which the call began -/
section
variable {P : Program} {α : Type} {R : Rep α} {k B : Nat} {w W : World} {e : TypeId} {bytes : Nat}
end
section
variable {P : Program} {α : Type} {R : Rep α} {k B : Nat} {w W : World} {e : TypeId} {bytes : Nat}
end
/-! ### bytes -/
end Go.Proofs.YtkamcoechjdgpaaGreat
namespace Go.Proofs.YtkamcoechjdgpaaGreat
abbrev Bytes := List UInt8
def nbF : Nat → Nat → Nat
 | 0,_ => 0
 | f + 1,n => if n = 0 then 0 else nbF f (n / 256) + 1
def nb (n : Nat) : Nat := nbF 9 n
def be : Nat → Nat → Bytes
 | 0,_ => []
 | k + 1,n => UInt8.ofNat (n / 256 ^ k) :: be k n
def encN (n : Nat) : Bytes := UInt8.ofNat (nb n) :: be (nb n) n
def encT (s : Bytes) : Bytes := encN s.length ++ s
def encL (l : List Bytes) : Bytes := encN l.length ++ (l.map encT).flatten
def zig (n : Int) : Nat := if n < 0 then (-2 * n - 1).toNat else (2 * n).toNat
theorem be_length (k n : Nat) : (be k n).length = k := by
 induction k with
 | zero => rfl
 | succ k ih => simp [be,ih]
theorem be_get (k n j : Nat) (h : j < k) : (be k n)[j]? = some (UInt8.ofNat (n / 256 ^ (k - 1 - j))) := by
 induction k generalizing j with
 | zero => omega
 | succ k ih =>
  cases j with
  | zero => simp [be]
  | succ j =>
   simp only [be,Y2]
   rw [ih j (by omega),show k + 1 - 1 - (j + 1) = k - 1 - j by omega]
theorem be_take (k n j : Nat) (h : j < k) : (be k n).take (j + 1) = (be k n).take j ++ [UInt8.ofNat (n / 256 ^ (k - 1 - j))] := by
 rw [List.take_add_one,be_get k n j h]
 rfl
theorem nbF_le (f n : Nat) : nbF f n ≤ f := by
 induction f generalizing n with
 | zero => simp [nbF]
 | succ f ih =>
  unfold nbF
  split
  ·omega
  ·have := ih (n / 256)
   omega
theorem nbF_more (f n : Nat) (h : n < 256 ^ f) : nbF (f + 1) n = nbF f n := by
 induction f generalizing n with
 | zero => simp at h;simp [nbF,h]
 | succ f ih =>
  unfold nbF
  split
  ·rfl
  ·rw [ih (n / 256) (by rw [Nat.pow_succ] at h;omega)]
theorem nb_zero : nb 0 = 0 := rfl
theorem nb_step (n : Nat) (h0 : n ≠ 0) (h : n < 18446744073709551616) : nb n = nb (n / 256) + 1 := by
 have : nb n = nbF 8 (n / 256) + 1 := by show (if n = 0 then 0 else nbF 8 (n / 256) + 1) = _;rw [if_neg h0]
 rw [this,nb,nbF_more 8 (n / 256) (by omega)]
theorem nb_le (n : Nat) (h : n < 18446744073709551616) : nb n ≤ 8 := by
 have : nb n = nbF 8 n := nbF_more 8 n (by omega)
 rw [this]
 exact nbF_le 8 n
theorem nb_lt (n : Nat) (h : n < 18446744073709551616) : n < 256 ^ nb n := by
 have key : ∀ f n,n < 256 ^ f → n < 256 ^ nbF f n := by
  intro f
  induction f with
  | zero => intro n h;simp at h;subst h;simp [nbF]
  | succ f ih =>
   intro n h
   unfold nbF
   split
   ·rename_i h0;subst h0;simp
   ·have := ih (n / 256) (by rw [Nat.pow_succ] at h;omega)
    rw [Nat.pow_succ]
    omega
 exact key 9 n (by omega)
theorem nb_ge (n : Nat) (h0 : n ≠ 0) (h : n < 18446744073709551616) : 256 ^ (nb n - 1) ≤ n := by
 have key : ∀ f n,n ≠ 0 → n < 256 ^ f → 256 ^ (nbF f n - 1) ≤ n := by
  intro f
  induction f with
  | zero => intro n h0 h;simp at h;exact absurd h h0
  | succ f ih =>
   intro n h0 h
   unfold nbF
   rw [if_neg h0]
   simp only [Nat.add_sub_cancel]
   by_cases hz : n / 256 = 0
   ·rw [hz]
    have : nbF f 0 = 0 := by cases f <;> simp [nbF]
    rw [this];simp;omega
   ·have hi := ih (n / 256) hz (by rw [Nat.pow_succ] at h;omega)
    have hp : 0 < nbF f (n / 256) := by
     cases f with
     | zero => simp at h;omega
     | succ f => unfold nbF;rw [if_neg hz];omega
    obtain ⟨q,hq⟩ : ∃ q,nbF f (n / 256) = q + 1 := ⟨nbF f (n / 256) - 1,by omega⟩
    rw [hq] at hi ⊢
    simp only [Nat.add_sub_cancel] at hi
    rw [Nat.pow_succ]
    omega
 exact key 9 n h0 (by omega)
theorem nb_pos (n : Nat) (h0 : n ≠ 0) : 1 ≤ nb n := by show 1 ≤ (if n = 0 then 0 else nbF 8 (n / 256) + 1);rw [if_neg h0];omega
theorem bitLen_nb (n : Nat) (h : n < 18446744073709551616) : (Lib.bitLen n + 7) / 8 = nb n := by
 induction n using Nat.strongRecOn with
 | _ n ih =>
  by_cases h0 : n = 0
  ·subst h0;rfl
  ·by_cases h1 : n < 256
   ·have h8 : Lib.bitLen n ≤ 8 := Lib.bitLen_le8 ⟨n,h1⟩
    have hp : 1 ≤ Lib.bitLen n := by
     have := Lib.bitLen_half n h0 (by omega)
     omega
    rw [nb_step n h0 h,show n / 256 = 0 by omega,nb_zero]
    omega
   ·have hs := Lib.bitLen_shift8 n (by omega) h
    have := ih (n / 256) (by omega) (by omega)
    rw [nb_step n h0 h,← this,hs]
    omega
theorem shr_byte (n p : Nat) : (n : Int) / 2 ^ (8 * p) % 256 = ((n / 256 ^ p) % 256 : Nat) := by
 have h : (2 : Int) ^ (8 * p) = ((256 ^ p : Nat) : Int) := by rw [Int.pow_mul];simp
 rw [h]
 rw [Int.natCast_emod,Int.natCast_ediv];rfl
theorem encN_length (n : Nat) : (encN n).length = 1 + nb n := by simp [encN,be_length];omega
theorem encN_le (n : Nat) (h : n < 18446744073709551616) : (encN n).length ≤ 9 := by have := nb_le n h;rw [encN_length];omega
theorem zig_lt (n : Int) (h : -9223372036854775808 ≤ n) (h' : n ≤ 9223372036854775807) : zig n < 18446744073709551616 := by unfold zig;split <;> omega
def encRow (l : List Bytes) : Bytes := (l.map encT).flatten
theorem encL_row (l : List Bytes) : encL l = encN l.length ++ encRow l := rfl
theorem encRow_succ (l : List Bytes) (k : Nat) (a : Bytes) (h : l[k]? = some a) : encRow (l.take (k + 1)) = encRow (l.take k) ++ encT a := by
 rw [encRow,encRow,List.take_add_one,h]
 simp
theorem encT_le (s : Bytes) (h : s.length < 18446744073709551616) : (encT s).length ≤ s.length + 9 := by
 have := encN_le s.length h
 simp [encT]
 omega
def tot (l : List Bytes) : Nat := (l.map fun s => s.length + 9).sum
theorem tot_cons (x : Bytes) (l : List Bytes) : tot (x :: l) = x.length + 9 + tot l := by simp [tot]
theorem tot_take (l : List Bytes) (k : Nat) : tot (l.take k) ≤ tot l := by
 induction l generalizing k with
 | nil => simp
 | cons x l ih =>
  cases k with
  | zero => simp [tot]
  | succ k =>
   have := ih k
   rw [List.take_succ_cons,tot_cons,tot_cons]
   omega
theorem tot_mem {l : List Bytes} {k : Nat} {a : Bytes} (h : l[k]? = some a) : a.length + 9 ≤ tot l := by
 induction l generalizing k with
 | nil => simp at h
 | cons x l ih =>
  cases k with
  | zero => simp at h;subst h;rw [tot_cons];omega
  | succ k => have := ih (k := k) (by simpa using h);rw [tot_cons];omega
theorem encRow_le (l : List Bytes) (h : tot l < 18446744073709551616) : (encRow l).length ≤ tot l := by
 induction l with
 | nil => simp [encRow,tot]
 | cons x l ih =>
  simp only [tot,Yf,List.sum_cons] at h ⊢
  have h1 := encT_le x (by omega)
  have h2 := ih (by unfold tot;omega)
  simp only [encRow,Yf,List.flatten_cons,List.length_append] at h2 ⊢
  unfold tot at h2
  omega
theorem tot_length (l : List Bytes) : 9 * l.length ≤ tot l := by
 induction l with
 | nil => simp
 | cons x l ih => simp [tot] at ih ⊢;omega
/-! ### taking -/
def fromBE (l : Bytes) : Nat := l.foldl (fun n c => n * 256 + c.toNat) 0
theorem fromBE_snoc (l : Bytes) (c : UInt8) : fromBE (l ++ [c]) = fromBE l * 256 + c.toNat := by simp [fromBE]
theorem fromBE_lt (l : Bytes) : fromBE l < 256 ^ l.length := by
 have key : ∀ (l : Bytes) (n : Nat),l.foldl (fun n c => n * 256 + c.toNat) n < (n + 1) * 256 ^ l.length := by
  intro l
  induction l with
  | nil => intro n;simp
  | cons c l ih =>
   intro n
   have h := ih (n * 256 + c.toNat)
   have hc := c.toNat_lt
   simp only [List.foldl_cons,Ya]
   refine Nat.lt_of_lt_of_le h ?_
   rw [Nat.pow_succ,Nat.mul_comm (256 ^ l.length) 256,← Nat.mul_assoc]
   exact Nat.mul_le_mul_right _ (by omega)
 have := key l 0
 rw [Nat.zero_add,Nat.one_mul] at this
 exact this
def takeN : Bytes → Except Int (Nat × Bytes)
 | [] => .error 2
 | k :: r => if 8 < k.toNat ∨ (0 < k.toNat ∧ r.head? = some 0) then .error 3 else if r.length < k.toNat then .error 2 else .ok (fromBE (r.take k.toNat),r.drop k.toNat)
def takeT (b : Bytes) (most : Int) : Except Int (Bytes × Bytes) :=
 match takeN b with
 | .error z => .error z
 | .ok (n,r) => if (max most 0).toNat < n then .error 5 else if r.length < n then .error 2 else .ok (r.take n,r.drop n)
def takeTs (most : Int) : Nat → Bytes → Except Int (List Bytes × Bytes)
 | 0,b => .ok ([],b)
 | n + 1,b => match takeT b most with
  | .error z => .error z
  | .ok (s,r) => match takeTs most n r with
   | .error z => .error z
   | .ok (l,r') => .ok (s :: l,r')
def takeL (b : Bytes) (many most : Int) : Except Int (List Bytes × Bytes) :=
 match takeN b with
 | .error z => .error z
 | .ok (n,r) => if (max many 0).toNat < n then .error 5 else takeTs most n r
def unzig (u : Nat) : Int := if u % 2 = 1 then -(u / 2 : Nat) - 1 else (u / 2 : Nat)
def glue (l : List Bytes) : Except Int (List Bytes × Bytes) → Except Int (List Bytes × Bytes)
 | .error z => .error z
 | .ok (l',r) => .ok (l ++ l',r)
theorem takeTs_ok {most : Int} {n : Nat} {b s r : Bytes} (h : takeT b most = .ok (s,r)) (l : List Bytes) : glue l (takeTs most (n + 1) b) = glue (l ++ [s]) (takeTs most n r) := by
 simp only [takeTs,h]
 cases takeTs most n r with
 | error z => rfl
 | ok p => obtain ⟨l',r'⟩ := p;simp [glue]
theorem takeTs_err {most : Int} {n : Nat} {b : Bytes} {z : Int} (h : takeT b most = .error z) (l : List Bytes) : glue l (takeTs most (n + 1) b) = .error z := by
 simp only [takeTs,h,glue]
theorem takeN_shorter {b r : Bytes} {n : Nat} (h : takeN b = .ok (n,r)) : r.length + 1 ≤ b.length := by
 unfold takeN at h
 split at h
 ·cases h
 ·split at h
  ·cases h
  ·split at h
   ·cases h
   ·simp only [Except.ok.injEq,Prod.mk.injEq] at h
    obtain ⟨_,rfl⟩ := h
    simp
theorem takeT_shorter {b s r : Bytes} {most : Int} (h : takeT b most = .ok (s,r)) : s.length + r.length + 1 ≤ b.length ∧ s.length ≤ (max most 0).toNat := by
 unfold takeT at h
 split at h
 ·cases h
 ·rename_i n q hq
  have := takeN_shorter hq
  split at h
  ·cases h
  ·split at h
   ·cases h
   ·simp only [Except.ok.injEq,Prod.mk.injEq] at h
    obtain ⟨rfl,rfl⟩ := h
    simp only [List.length_take,List.length_drop]
    omega
theorem takeN_err {b : Bytes} {z : Int} (h : takeN b = .error z) : z = 2 ∨ z = 3 := by
 unfold takeN at h
 split at h
 ·cases h;simp
 ·split at h
  ·cases h;simp
  ·split at h
   ·cases h;simp
   ·cases h
theorem takeT_err {b : Bytes} {z most : Int} (h : takeT b most = .error z) : z = 2 ∨ z = 3 ∨ z = 5 := by
 unfold takeT at h
 split at h
 ·rename_i q
  cases h
  rcases takeN_err q with h|h <;> simp [h]
 ·split at h
  ·cases h;simp
  ·split at h
   ·cases h;simp
   ·cases h
theorem still_spec {P : Program} {f : FuncId} {args : List AV} {res : AV} {v : Value} (hfn : Callable P f) (hv : ∀ c,RV c v res) (h : ∀ (c : Cx) (vs : Array Value),TRel c vs args → Calls P f vs c.w fun e w' => e = .returned v ∧ w' = c.w) : ASpec P f args res := by
 refine ⟨hfn,fun c vs hh hc ht => (h c vs ht).mono ?_⟩
 rintro e w' ⟨rfl,rfl⟩
 exact ⟨_,c.ρ,_,c.h,rfl,hc,Ev.refl c,hv _,.one (.refl _)⟩
def takeA : Except Int (Nat × Bytes) → AV
 | .error z => .tup [.int .u64 0,bytesA [],.int .i64 z]
 | .ok (n,r) => .tup [.int .u64 n,bytesA r,.int .i64 0]
theorem shl8 (a : Int) : ashift .shl .u64 a 8 = some ⟨(0 : Int) ≤ 8,.int .u64 (IntKind.u64.wrap (a * 256)),none⟩ := rfl
theorem wrap_u8 (k : UInt8) : IntKind.i64.wrap (k.toNat : Int) = k.toNat := by
 have := k.toNat_lt
 have e : (2 : Int) ^ IntKind.i64.bits = 18446744073709551616 := by decide
 have e' : (2 : Int) ^ (IntKind.i64.bits - 1) = 9223372036854775808 := by decide
 simp only [IntKind.wrap,e,e',show IntKind.i64.signed = true from rfl,Bool.true_and,decide_eq_true_eq]
 split <;> omega
theorem wrap_nat (n : Nat) (h : n < 18446744073709551616) : IntKind.u64.wrap (n : Int) = n := by
 have e : (2 : Int) ^ IntKind.u64.bits = 18446744073709551616 := by decide
 simp only [IntKind.wrap,e,show IntKind.u64.signed = false from rfl,Bool.false_and,Y8,Yr]
 omega
theorem or_acc (n : Nat) (c : UInt8) (hn : n < 72057594037927936) : bits .or .u64 (IntKind.u64.wrap ((n : Int) * 256)) (IntKind.u64.wrap (c.toNat : Int)) = (n * 256 + c.toNat : Nat) := by
 have hc := c.toNat_lt
 have e1 : IntKind.u64.wrap ((n : Int) * 256) = ((n * 256 : Nat) : Int) := by rw [← wrap_nat (n * 256) (by omega)];simp
 have e2 : IntKind.u64.wrap (c.toNat : Int) = (c.toNat : Int) := wrap_nat _ (by omega)
 rw [e1,e2,u64_or_nat (n * 256) c.toNat (by omega) (by omega)]
 have := Nat.shiftLeft_add_eq_or_of_lt (i := 8) (show c.toNat < 2 ^ 8 by omega) n
 rw [Nat.shiftLeft_eq] at this
 rw [← this]
theorem take_nil_s : ASpec Tryz.prog 88 [bytesA []] (takeA (.error 2)) := by
 refine ⟨⟨_,Tryz.func88,by kernel_rfl,rfl⟩,Sg Tryz.func88 rfl fun c0 hc0 => ?_⟩;simp only [go_sem,bytesA,takeA,↓alt_t,Nat.reduceAdd,Nat.reduceSub]
 (repeat' first|exact .refl _|apply LeR.tup|apply Le.agg|constructor)
theorem succ_ne (n : Nat) : (((n + 1 : Nat) : Int) = 0) = False := by simp;omega
theorem succ_pos' (n : Nat) : ((0 : Int) < ((n + 1 : Nat) : Int)) = True := by simp
theorem take_form_s (k : UInt8) (r : Bytes) (h : (8 : Int) < k.toNat) : ASpec Tryz.prog 88 [bytesA (k :: r)] (takeA (.error 3)) := by
 refine ⟨⟨_,Tryz.func88,by kernel_rfl,rfl⟩,Sg Tryz.func88 rfl fun c0 hc0 => ?_⟩;simp only [go_sem,bytesA,takeA,byteC,wrap_u8,h,succ_ne,Int.reduceToNat,↓alt_t,↓alt_f,↓alts_t,↓gone_ft,Int.reduceLE,Nat.reduceLT,Nat.reduceAdd,Nat.reduceSub]
 exact ⟨rfl,by omega,by omega,rfl,by (repeat' first|exact .refl _|apply LeR.tup|apply Le.agg|constructor)⟩
theorem take_short0_s (k : UInt8) (h : ¬ (8 : Int) < k.toNat) (h0 : (0 : Int) < k.toNat) : ASpec Tryz.prog 88 [bytesA [k]] (takeA (.error 2)) := by
 refine ⟨⟨_,Tryz.func88,by kernel_rfl,rfl⟩,Sg Tryz.func88 rfl fun c0 hc0 => ?_⟩;simp only [go_sem,bytesA,takeA,byteC,wrap_u8,h,h0,succ_ne,Int.reduceToNat,↓alt_t,↓alt_f,↓alts_t,↓alts_f,↓gone_tt,↓gone_tf,↓gone_ff,Int.reduceLT,Int.reduceLE,Nat.reduceLT,Nat.reduceAdd,Nat.reduceSub]
 exact ⟨rfl,by omega,by omega,rfl,by (repeat' first|exact .refl _|apply LeR.tup|apply Le.agg|constructor)⟩
theorem take_zero_s (k c : UInt8) (r : Bytes) (h : ¬ (8 : Int) < k.toNat) (h0 : (0 : Int) < k.toNat) (hc : (c.toNat : Int) = 0) : ASpec Tryz.prog 88 [bytesA (k :: c :: r)] (takeA (.error 3)) := by
 refine ⟨⟨_,Tryz.func88,by kernel_rfl,rfl⟩,Sg Tryz.func88 rfl fun c0 hc0 => ?_⟩;simp only [go_sem,bytesA,takeA,byteC,wrap_u8,h,h0,hc,succ_ne,succ_pos',Int.reduceToNat,↓alt_t,↓alt_f,↓alts_t,↓alts_f,↓gone_tt,↓gone_ff,Int.reduceLE,Nat.reduceLT,Nat.reduceAdd,Nat.reduceSub]
 exact ⟨rfl,by omega,rfl,by (repeat' first|exact .refl _|apply LeR.tup|apply Le.agg|constructor)⟩
theorem take_short_s (k c : UInt8) (r : Bytes) (h : ¬ (8 : Int) < k.toNat) (h0 : (0 : Int) < k.toNat) (hc : ¬ (c.toNat : Int) = 0) (hl : ((r.length + 1 : Nat) : Int) < k.toNat) : ASpec Tryz.prog 88 [bytesA (k :: c :: r)] (takeA (.error 2)) := by
 refine ⟨⟨_,Tryz.func88,by kernel_rfl,rfl⟩,Sg Tryz.func88 rfl fun c0 hc0 => ?_⟩;simp only [go_sem,bytesA,takeA,byteC,wrap_u8,h,h0,hc,hl,succ_ne,succ_pos',Int.reduceToNat,↓alt_t,↓alt_f,↓alts_t,↓alts_f,↓gone_tt,↓gone_ff,Int.reduceLE,Nat.reduceLT,Nat.reduceAdd,Nat.reduceSub]
 exact ⟨rfl,by omega,rfl,by (repeat' first|exact .refl _|apply LeR.tup|apply Le.agg|constructor)⟩
theorem take_none_s (k : UInt8) (r : Bytes) (h0 : (k.toNat : Int) = 0) : ASpec Tryz.prog 88 [bytesA (k :: r)] (takeA (.ok (0,r))) := by
 have hl : ¬ (r.length : Int) < 0 := by omega
 refine ⟨⟨_,Tryz.func88,by kernel_rfl,rfl⟩,Sg Tryz.func88 rfl fun c0 hc0 => ?_⟩;simp only [go_sem,bytesA,takeA,byteC,h0,hl,show IntKind.i64.wrap 0 = 0 from rfl,succ_ne,succ_pos',Int.reduceToNat,↓alt_f,↓alts_f,↓gone_tf,↓gone_ff,Int.reduceLT,Int.reduceLE,Nat.reduceLT,Nat.reduceAdd,Nat.reduceSub]
 refine ⟨rfl,by omega,rfl,by omega,Run.unloop ?_⟩
 refine Rg Tryz.func88 ?_;simp only [go_sem,↓alt_f,Int.reduceLT,Int.reduceLE]
 exact ⟨rfl,by omega,rfl,by (repeat' first|exact .refl _|apply LeR.tup|apply Le.agg|constructor)⟩
theorem take_some_s (k c : UInt8) (r : Bytes) (h : ¬ (8 : Int) < k.toNat) (h0 : (0 : Int) < k.toNat) (hc : ¬ (c.toNat : Int) = 0) (hl : ¬ ((r.length + 1 : Nat) : Int) < k.toNat) : ASpec Tryz.prog 88 [bytesA (k :: c :: r)] (takeA (.ok (fromBE ((c :: r).take k.toNat),(c :: r).drop k.toNat))) := by
 refine ⟨⟨_,Tryz.func88,by kernel_rfl,rfl⟩,Sg Tryz.func88 rfl fun c0 hc0 => ?_⟩;simp only [go_sem,bytesA,takeA,byteC,wrap_u8,h,h0,hc,hl,succ_ne,succ_pos',Int.reduceToNat,↓alt_f,↓alts_t,↓alts_f,↓gone_tt,↓gone_ff,Int.reduceLE,Nat.reduceLT,Nat.reduceAdd,Nat.reduceSub]
 refine ⟨rfl,by omega,rfl,by omega,?_⟩
 have hlen : (List.take k.toNat ([AV.int .u8 c.toNat] :: List.map byteC r)).length = k.toNat := by simp;omega
 refine Run.loopV (α := Nat) (fun j => j ≤ k.toNat) (fun j => [(7,.int .u64 (fromBE ((c :: r).take j) : Nat)),(46,.int .i64 j)]) 0 (fun _ => []) (fun j => k.toNat - j) 0 (Nat.zero_le _) ?_ ?_
 ·simp only [go_sem,writes,junks,puts,hputs,List.filterMap_cons,List.filterMap_nil,Int.natCast_add,Int.natCast_one]
  (refine Weak.of (by simp [hc0]) ?_ ?_ <;> (repeat' first|exact .refl _|exact .junk _|exact .nil|exact .nil _|exact .tok _ _ _|rfl|apply WkT.cons|apply WkH.cons|apply LeB.same|apply LeB.box|apply Le1L.cons|apply Le.agg|apply Le.one))
 ·intro j hj ih
  simp only [writes,junks,puts,hputs,List.filterMap_cons,List.filterMap_nil,Int.natCast_add,Int.natCast_one,Y6,Y7,Yk,Y5,Y3,Yd,hlen] at ih ⊢
  by_cases hjk : j < k.toNat
  ·have hjr : j < (c :: r).length := by simp;omega
   have hg : (c :: r)[j]? = some ((c :: r)[j]) := List.getElem?_eq_getElem hjr
   have hsn : fromBE ((c :: r).take (j + 1)) = fromBE ((c :: r).take j) * 256 + ((c :: r)[j]).toNat := by
    rw [List.take_add_one,hg,← fromBE_snoc];rfl
   have hF := fromBE_lt ((c :: r).take j)
   have hFl : ((c :: r).take j).length = j := by rw [List.length_take];omega
   rw [hFl] at hF
   have hpow : 256 ^ j ≤ 256 ^ 7 := Nat.pow_le_pow_right (by omega) (by omega)
   have hx : (List.take k.toNat ([AV.int .u8 c.toNat] :: List.map byteC r))[j]? = some [.int .u8 ((c :: r)[j]).toNat] := by
    have e : ([AV.int .u8 c.toNat] :: List.map byteC r) = (c :: r).map byteC := rfl
    rw [e,← List.map_take,List.getElem?_map,List.getElem?_take_of_lt hjk,hg];rfl
   have hor := or_acc (fromBE ((c :: r).take j)) ((c :: r)[j]) (by omega)
   rw [← hsn] at hor
   obtain ⟨G,hG⟩ : ∃ G,G = fromBE ((c :: r).take (j + 1)) := ⟨_,rfl⟩
   rw [← hG] at hor
   generalize (c :: r)[j] = x at *
   have hjj : (j : Int) < k.toNat := by omega
   refine Rg Tryz.func88 ?_;simp only [go_sem,hx,hjj,hlen,↓shl8,hor,↓alt_t,Int.reduceLE,Nat.reduceLT]
   refine ⟨by omega,by unfold I64;omega,ih (j + 1) _ (by omega) (by omega) ?_⟩
   rw [← hG]
   simp only [Int.natCast_add,Int.natCast_one]
   (refine Weak.of (by simp [hc0]) ?_ ?_ <;> (repeat' first|exact .refl _|exact .junk _|exact .nil|exact .nil _|exact .tok _ _ _|rfl|apply WkT.cons|apply WkH.cons|apply LeB.same|apply LeB.box|apply Le1L.cons|apply Le.agg|apply Le.one))
  ·obtain rfl : j = k.toNat := by omega
   have hjj : ¬ (k.toNat : Int) < k.toNat := by omega
   refine Rg Tryz.func88 ?_;simp only [go_sem,hjj,↓alt_f]
   have e : List.drop k.toNat ([AV.int .u8 c.toNat] :: List.map byteC r) = List.map byteC (List.drop k.toNat (c :: r)) := by rw [List.map_drop];rfl
   rw [e]
   exact ⟨rfl,by omega,rfl,by (repeat' first|exact .refl _|apply LeR.tup|apply Le.agg|constructor)⟩
theorem take_spec (b : Bytes) : ASpec Tryz.prog 88 [bytesA b] (takeA (takeN b)) := by
 match b with
 | [] => exact take_nil_s
 | k :: r =>
  by_cases h8 : (8 : Int) < k.toNat
  ·have e : takeN (k :: r) = .error 3 := by
    have q : 8 < k.toNat := by omega
    simp [takeN,q]
   rw [e]
   exact take_form_s k r h8
  ·have q : ¬ 8 < k.toNat := by omega
   by_cases h0 : (0 : Int) < k.toNat
   ·have q2 : 0 < k.toNat := by omega
    match r with
    | [] =>
     have e : takeN [k] = .error 2 := by simp [takeN,q,q2]
     rw [e]
     exact take_short0_s k h8 h0
    | c :: r =>
     by_cases hc : (c.toNat : Int) = 0
     ·have hz : c = 0 := by apply UInt8.toNat_inj.1;simpa using hc
      have e : takeN (k :: c :: r) = .error 3 := by subst hz;simp [takeN,q2]
      rw [e]
      exact take_zero_s k c r h8 h0 hc
     ·have hz : ¬ c = 0 := by intro h;subst h;exact hc rfl
      by_cases hl : ((r.length + 1 : Nat) : Int) < k.toNat
      ·have q3 : r.length + 1 < k.toNat := by omega
       have e : takeN (k :: c :: r) = .error 2 := by simp [takeN,hz,q,q3]
       rw [e]
       exact take_short_s k c r h8 h0 hc hl
      ·have q3 : ¬ r.length + 1 < k.toNat := by omega
       have e : takeN (k :: c :: r) = .ok (fromBE ((c :: r).take k.toNat),(c :: r).drop k.toNat) := by simp [takeN,hz,q,q3]
       rw [e]
       exact take_some_s k c r h8 h0 hc hl
   ·have hk : (k.toNat : Int) = 0 := by omega
    have hk' : k.toNat = 0 := by omega
    have e : takeN (k :: r) = .ok (0,r) := by simp [takeN,hk',fromBE]
    rw [e]
    exact take_none_s k r hk
def takeZ (b : Bytes) : Except Int (Int × Bytes) := match takeN b with
 | .error z => .error z
 | .ok (n,r) => .ok (unzig n,r)
theorem taken_small {b : Bytes} {n : Nat} {r : Bytes} (h : takeN b = .ok (n,r)) : n < 18446744073709551616 ∧ r.length ≤ b.length := by
 cases b with
 | nil => simp [takeN] at h
 | cons k t =>
  simp only [takeN] at h
  split at h
  ·cases h
  ·split at h
   ·cases h
   ·rename_i h1 h2
    simp only [Except.ok.injEq,Prod.mk.injEq] at h
    obtain ⟨rfl,rfl⟩ := h
    have hF := fromBE_lt (t.take k.toNat)
    rw [List.length_take] at hF
    have : 256 ^ (min k.toNat t.length) ≤ 256 ^ 8 := Nat.pow_le_pow_right (by omega) (by omega)
    exact ⟨by omega,by simp;omega⟩
theorem ofInt_small (a : Nat) (ha : a < 9223372036854775808) : (BitVec.ofInt 64 (a : Int)).toNat = a := by
 rw [BitVec.ofInt_natCast,BitVec.toNat_ofNat]
 exact Nat.mod_eq_of_lt (by omega)
theorem and_one (n : Nat) (hn : n < 18446744073709551616) : bits .and .u64 (n : Int) 1 = ((n % 2 : Nat) : Int) := by
 have := u64_and_nat n 1 hn (by omega)
 rw [Nat.and_one_is_mod] at this
 exact this
theorem xor_unzig (n : Nat) (hn : n < 18446744073709551616) : bits .xor .i64 ((n / 2 : Nat) : Int) (-((n % 2 : Nat) : Int)) = unzig n := by
 have hd : n / 2 < 9223372036854775808 := by omega
 generalize hx : n / 2 = x at *
 show IntKind.i64.wrap ((BitVec.ofInt 64 (x : Int) ^^^ BitVec.ofInt 64 _).toNat : Int) = _
 rcases (by omega : n % 2 = 0 ∨ n % 2 = 1) with h|h
 ·rw [h]
  have e0 : (-((0 : Nat) : Int)) = 0 := by omega
  rw [e0,BitVec.toNat_xor,ofInt_small x hd,show (BitVec.ofInt 64 0).toNat = 0 from rfl,Nat.xor_zero,IntKind.wrap_i64,unzig,if_neg (by omega),hx]
  omega
 ·rw [h]
  have e0 : (-((1 : Nat) : Int)) = -1 := by omega
  rw [e0,show BitVec.ofInt 64 (-1) = BitVec.allOnes 64 by decide,BitVec.xor_allOnes,BitVec.toNat_not,ofInt_small x hd,IntKind.wrap_i64,unzig,if_pos h,hx]
  omega
theorem wrap_n64 (n : Nat) (h : n < 9223372036854775808) : IntKind.i64.wrap (n : Int) = n := by
 have e : (2 : Int) ^ IntKind.i64.bits = 18446744073709551616 := by decide
 have e' : (2 : Int) ^ (IntKind.i64.bits - 1) = 9223372036854775808 := by decide
 simp only [IntKind.wrap,e,e',show IntKind.i64.signed = true from rfl,Bool.true_and,decide_eq_true_eq]
 split <;> omega
def takeZA : Except Int (Int × Bytes) → AV
 | .error z => .tup [.int .i64 0,bytesA [],.int .i64 z]
 | .ok (n,r) => .tup [.int .i64 n,bytesA r,.int .i64 0]
theorem shr1 (a : Int) : ashift .shr .u64 a 1 = some ⟨(0 : Int) ≤ 1,.int .u64 (a.fdiv 2),none⟩ := rfl
theorem takeint_spec (b : Bytes) : ASpec Tryz.prog 70 [bytesA b] (takeZA (takeZ b)) := by
 have hsp := take_spec b
 cases ht : takeN b with
 | error z =>
  rw [ht] at hsp
  refine ⟨⟨_,Tryz.func70,by kernel_rfl,rfl⟩,Sg Tryz.func70 rfl fun c0 hc0 => ?_⟩;simp only [go_sem,bytesA,Nat.reduceAdd,Nat.reduceSub]
  refine Ops.pure .free rfl rfl (hsp) (by simp only [go_sem,bytesA];(repeat' first|exact .refl _|apply LeR.tup|apply Le.agg|constructor)) rfl rfl ?_
  refine Og Tryz.func70 ?_;simp only [go_sem,takeA,bytesA,↓shr1,Int.reduceLE]
  have e1 : IntKind.i64.wrap (Int.fdiv 0 2) = ((0 / 2 : Nat) : Int) := rfl
  have e2 : IntKind.i64.wrap (bits .and .u64 0 1) = ((0 % 2 : Nat) : Int) := by decide
  have e3 := xor_unzig 0 (by omega)
  rw [e1,e2,e3,takeZ,ht]
  exact ⟨by unfold I64;omega,by simp only [takeZA];(repeat' first|exact .refl _|apply LeR.tup|apply Le.agg|constructor)⟩
 | ok p =>
  obtain ⟨n,r⟩ := p
  obtain ⟨hn,_⟩ := taken_small ht
  rw [ht] at hsp
  refine ⟨⟨_,Tryz.func70,by kernel_rfl,rfl⟩,Sg Tryz.func70 rfl fun c0 hc0 => ?_⟩;simp only [go_sem,bytesA,Nat.reduceAdd,Nat.reduceSub]
  refine Ops.pure .free rfl rfl (hsp) (by simp only [go_sem,bytesA];(repeat' first|exact .refl _|apply LeR.tup|apply Le.agg|constructor)) rfl rfl ?_
  refine Og Tryz.func70 ?_;simp only [go_sem,takeA,bytesA,↓shr1,and_one n hn,Int.reduceLE]
  have e1 : IntKind.i64.wrap ((n : Int).fdiv 2) = ((n / 2 : Nat) : Int) := by
   rw [Int.fdiv_eq_ediv_of_nonneg _ (by decide),show (n : Int) / 2 = ((n / 2 : Nat) : Int) by omega,wrap_n64 _ (by omega)]
  have e2 : IntKind.i64.wrap ((n % 2 : Nat) : Int) = ((n % 2 : Nat) : Int) := wrap_n64 _ (by omega)
  rw [e1,e2,xor_unzig n hn,takeZ,ht]
  exact ⟨by unfold I64;omega,by simp only [takeZA];(repeat' first|exact .refl _|apply LeR.tup|apply Le.agg|constructor)⟩
def takeTA : Except Int (Bytes × Bytes) → AV
 | .error z => .tup [.str [],bytesA [],.int .i64 z]
 | .ok (s,r) => .tup [.str s,bytesA r,.int .i64 0]
theorem taketext_spec (b : Bytes) (most : Int) (hb : b.length ≤ 1000000) (hm : 0 ≤ most ∧ most ≤ 1000000) : ASpec Tryz.prog 110 [bytesA b,.int .i64 most] (takeTA (takeT b most)) := by
 have hsp := take_spec b
 cases ht : takeN b with
 | error z =>
  rw [ht] at hsp
  have hz : ¬ z = 0 := by rcases takeN_err ht with h|h <;> omega
  refine ⟨⟨_,Tryz.func110,by kernel_rfl,rfl⟩,Sg Tryz.func110 rfl fun c0 hc0 => ?_⟩;simp only [go_sem,bytesA,Nat.reduceAdd,Nat.reduceSub]
  refine Ops.pure .free rfl rfl (hsp) (by simp only [go_sem,bytesA];(repeat' first|exact .refl _|apply LeR.tup|apply Le.agg|constructor)) rfl rfl ?_
  refine Og Tryz.func110 ?_;simp only [go_sem,takeA,bytesA,hz,↓alt_t]
  rw [takeT,ht]
  simp only [takeTA]
  (repeat' first|exact .refl _|apply LeR.tup|apply Le.agg|constructor)
 | ok p =>
  obtain ⟨n,r⟩ := p
  obtain ⟨hn,hl⟩ := taken_small ht
  rw [ht] at hsp
  have hw : IntKind.u64.wrap most = most := by
   obtain ⟨m,rfl⟩ := Int.eq_ofNat_of_zero_le hm.1
   exact wrap_nat m (by omega)
  have hw2 : IntKind.u64.wrap (r.length : Int) = r.length := wrap_nat _ (by omega)
  have hmx : max most 0 = most := by omega
  by_cases h1 : most < (n : Int)
  ·refine ⟨⟨_,Tryz.func110,by kernel_rfl,rfl⟩,Sg Tryz.func110 rfl fun c0 hc0 => ?_⟩;simp only [go_sem,bytesA,Nat.reduceAdd,Nat.reduceSub]
   refine Ops.pure .free rfl rfl (hsp) (by simp only [go_sem,bytesA];(repeat' first|exact .refl _|apply LeR.tup|apply Le.agg|constructor)) rfl rfl ?_
   refine Og Tryz.func110 ?_;simp only [go_sem,takeA,bytesA,hw,hmx,h1,↓alt_t,↓alt_f]
   rw [takeT,ht]
   simp only [if_pos (show (max most 0).toNat < n by omega),takeTA]
   (repeat' first|exact .refl _|apply LeR.tup|apply Le.agg|constructor)
  ·by_cases h2 : (r.length : Int) < (n : Int)
   ·refine ⟨⟨_,Tryz.func110,by kernel_rfl,rfl⟩,Sg Tryz.func110 rfl fun c0 hc0 => ?_⟩;simp only [go_sem,bytesA,Nat.reduceAdd,Nat.reduceSub]
    refine Ops.pure .free rfl rfl (hsp) (by simp only [go_sem,bytesA];(repeat' first|exact .refl _|apply LeR.tup|apply Le.agg|constructor)) rfl rfl ?_
    refine Og Tryz.func110 ?_;simp only [go_sem,takeA,bytesA,hw,hw2,hmx,h1,h2,↓alt_t,↓alt_f]
    rw [takeT,ht]
    simp only [if_neg (show ¬ (max most 0).toNat < n by omega),if_pos (show r.length < n by omega),takeTA]
    (repeat' first|exact .refl _|apply LeR.tup|apply Le.agg|constructor)
   ·refine ⟨⟨_,Tryz.func110,by kernel_rfl,rfl⟩,Sg Tryz.func110 rfl fun c0 hc0 => ?_⟩;simp only [go_sem,bytesA,Nat.reduceAdd,Nat.reduceSub]
    refine Ops.pure .free rfl rfl (hsp) (by simp only [go_sem,bytesA];(repeat' first|exact .refl _|apply LeR.tup|apply Le.agg|constructor)) rfl rfl ?_
    refine Og Tryz.func110 ?_;simp only [go_sem,takeA,bytesA,hw,hw2,hmx,h1,h2,↓alt_f]
    rw [takeT,ht]
    simp only [if_neg (show ¬ (max most 0).toNat < n by omega),if_neg (show ¬ r.length < n by omega),takeTA]
    rw [← List.map_take,← List.map_drop,bytesOf_map]
    exact ⟨rfl,by omega,rfl,by omega,rfl,by (repeat' first|exact .refl _|apply LeR.tup|apply Le.agg|constructor)⟩
structure Ord where
 a : Int
 b : Int
 kind : Int
 s : Bytes
 t : Bytes
 x : Int
 y : Int
 z : Int
deriving DecidableEq
def encO (o : Ord) : AV := .agg [.int .i64 o.a,.int .i64 o.b,.int .i64 o.kind,.str o.s,.str o.t,.int .i64 o.x,.int .i64 o.y,.int .i64 o.z]
def usedO (o : Ord) : Ord :=
 if o.kind = 1 then ⟨o.a,o.b,o.kind,o.s,o.t,0,o.y,0⟩
 else if o.kind = 2 ∨ o.kind = 5 ∨ o.kind = 10 ∨ o.kind = 11 then ⟨o.a,o.b,o.kind,o.s,[],0,0,0⟩
 else if o.kind = 3 then ⟨o.a,o.b,o.kind,o.s,o.t,o.x,0,0⟩
 else if o.kind = 4 then ⟨o.a,o.b,o.kind,o.s,[],o.x,0,0⟩
 else if o.kind = 6 then ⟨o.a,o.b,o.kind,[],[],0,o.y,o.z⟩
 else if o.kind = 7 ∨ o.kind = 8 then ⟨o.a,o.b,o.kind,[],[],0,o.y,0⟩
 else if o.kind = 9 then ⟨o.a,o.b,o.kind,[],[],0,0,o.z⟩
 else ⟨o.a,o.b,o.kind,[],[],0,0,0⟩
theorem used_1 (o : Ord) (h : o.kind = 1) : ASpec Tryz.prog 58 [encO o] (encO (usedO o)) := by
 refine ⟨⟨_,Tryz.func58,by kernel_rfl,rfl⟩,Sg Tryz.func58 rfl fun c0 hc0 => ?_⟩;simp only [go_sem,encO,h,↓alt_t,Nat.reduceAdd,Nat.reduceLeDiff,Nat.reduceBEq,Nat.reduceSub]
 refine ⟨rfl,rfl,?_⟩
 simp only [usedO,h,Int.reduceEq,reduceIte,or_self]
 (repeat' first|exact .refl _|apply LeR.tup|apply Le.agg|constructor)
theorem used_2 (o : Ord) (h : o.kind = 2) : ASpec Tryz.prog 58 [encO o] (encO (usedO o)) := by
 refine ⟨⟨_,Tryz.func58,by kernel_rfl,rfl⟩,Sg Tryz.func58 rfl fun c0 hc0 => ?_⟩;simp only [go_sem,encO,h,↓alt_t,↓alt_f,Int.reduceEq,Nat.reduceAdd,Nat.reduceLeDiff,Nat.reduceBEq,Nat.reduceSub]
 simp only [usedO,h,Int.reduceEq,reduceIte,or_false,or_self]
 (repeat' first|exact .refl _|apply LeR.tup|apply Le.agg|constructor)
theorem used_3 (o : Ord) (h : o.kind = 3) : ASpec Tryz.prog 58 [encO o] (encO (usedO o)) := by
 refine ⟨⟨_,Tryz.func58,by kernel_rfl,rfl⟩,Sg Tryz.func58 rfl fun c0 hc0 => ?_⟩;simp only [go_sem,encO,h,↓alt_t,↓alt_f,Int.reduceEq,Nat.reduceAdd,Nat.reduceLeDiff,Nat.reduceBEq,Nat.reduceSub]
 refine ⟨rfl,rfl,?_⟩
 simp only [usedO,h,Int.reduceEq,reduceIte,or_self]
 (repeat' first|exact .refl _|apply LeR.tup|apply Le.agg|constructor)
theorem used_4 (o : Ord) (h : o.kind = 4) : ASpec Tryz.prog 58 [encO o] (encO (usedO o)) := by
 refine ⟨⟨_,Tryz.func58,by kernel_rfl,rfl⟩,Sg Tryz.func58 rfl fun c0 hc0 => ?_⟩;simp only [go_sem,encO,h,↓alt_t,↓alt_f,Int.reduceEq,Nat.reduceAdd,Nat.reduceLeDiff,Nat.reduceBEq,Nat.reduceSub]
 refine ⟨rfl,rfl,?_⟩
 simp only [usedO,h,Int.reduceEq,reduceIte,or_self]
 (repeat' first|exact .refl _|apply LeR.tup|apply Le.agg|constructor)
theorem used_5 (o : Ord) (h : o.kind = 5) : ASpec Tryz.prog 58 [encO o] (encO (usedO o)) := by
 refine ⟨⟨_,Tryz.func58,by kernel_rfl,rfl⟩,Sg Tryz.func58 rfl fun c0 hc0 => ?_⟩;simp only [go_sem,encO,h,↓alt_t,↓alt_f,Int.reduceEq,Nat.reduceAdd,Nat.reduceLeDiff,Nat.reduceBEq,Nat.reduceSub]
 simp only [usedO,h,Int.reduceEq,reduceIte,or_true,or_false,or_self]
 (repeat' first|exact .refl _|apply LeR.tup|apply Le.agg|constructor)
theorem used_6 (o : Ord) (h : o.kind = 6) : ASpec Tryz.prog 58 [encO o] (encO (usedO o)) := by
 refine ⟨⟨_,Tryz.func58,by kernel_rfl,rfl⟩,Sg Tryz.func58 rfl fun c0 hc0 => ?_⟩;simp only [go_sem,encO,h,↓alt_t,↓alt_f,Int.reduceEq,Nat.reduceAdd,Nat.reduceLeDiff,Nat.reduceBEq,Nat.reduceSub]
 refine Rg Tryz.func58 ?_;simp only [go_sem,Nat.reduceAdd,Nat.reduceLeDiff,Nat.reduceBEq]
 simp only [usedO,h,Int.reduceEq,reduceIte,or_self]
 (repeat' first|exact .refl _|apply LeR.tup|apply Le.agg|constructor)
theorem used_7 (o : Ord) (h : o.kind = 7) : ASpec Tryz.prog 58 [encO o] (encO (usedO o)) := by
 refine ⟨⟨_,Tryz.func58,by kernel_rfl,rfl⟩,Sg Tryz.func58 rfl fun c0 hc0 => ?_⟩;simp only [go_sem,encO,h,↓alt_f,Int.reduceEq,Nat.reduceAdd,Nat.reduceLeDiff,Nat.reduceSub]
 refine Rg Tryz.func58 ?_;simp only [go_sem,↓alt_t,Nat.reduceAdd,Nat.reduceLeDiff,Nat.reduceBEq]
 simp only [usedO,h,Int.reduceEq,reduceIte,or_false,or_self]
 (repeat' first|exact .refl _|apply LeR.tup|apply Le.agg|constructor)
theorem used_8 (o : Ord) (h : o.kind = 8) : ASpec Tryz.prog 58 [encO o] (encO (usedO o)) := by
 refine ⟨⟨_,Tryz.func58,by kernel_rfl,rfl⟩,Sg Tryz.func58 rfl fun c0 hc0 => ?_⟩;simp only [go_sem,encO,h,↓alt_f,Int.reduceEq,Nat.reduceAdd,Nat.reduceLeDiff,Nat.reduceSub]
 refine Rg Tryz.func58 ?_;simp only [go_sem,↓alt_t,↓alt_f,Int.reduceEq,Nat.reduceAdd,Nat.reduceLeDiff,Nat.reduceBEq]
 simp only [usedO,h,Int.reduceEq,reduceIte,or_true,or_self]
 (repeat' first|exact .refl _|apply LeR.tup|apply Le.agg|constructor)
theorem used_9 (o : Ord) (h : o.kind = 9) : ASpec Tryz.prog 58 [encO o] (encO (usedO o)) := by
 refine ⟨⟨_,Tryz.func58,by kernel_rfl,rfl⟩,Sg Tryz.func58 rfl fun c0 hc0 => ?_⟩;simp only [go_sem,encO,h,↓alt_f,Int.reduceEq,Nat.reduceAdd,Nat.reduceLeDiff,Nat.reduceSub]
 refine Rg Tryz.func58 ?_;simp only [go_sem,↓alt_t,↓alt_f,Int.reduceEq,Nat.reduceAdd,Nat.reduceBEq]
 simp only [usedO,h,Int.reduceEq,reduceIte,or_self]
 (repeat' first|exact .refl _|apply LeR.tup|apply Le.agg|constructor)
theorem used_10 (o : Ord) (h : o.kind = 10) : ASpec Tryz.prog 58 [encO o] (encO (usedO o)) := by
 refine ⟨⟨_,Tryz.func58,by kernel_rfl,rfl⟩,Sg Tryz.func58 rfl fun c0 hc0 => ?_⟩;simp only [go_sem,encO,h,↓alt_t,↓alt_f,Int.reduceEq,Nat.reduceAdd,Nat.reduceLeDiff,Nat.reduceBEq,Nat.reduceSub]
 simp only [usedO,h,Int.reduceEq,reduceIte,or_true,or_false,or_self]
 (repeat' first|exact .refl _|apply LeR.tup|apply Le.agg|constructor)
theorem used_11 (o : Ord) (h : o.kind = 11) : ASpec Tryz.prog 58 [encO o] (encO (usedO o)) := by
 refine ⟨⟨_,Tryz.func58,by kernel_rfl,rfl⟩,Sg Tryz.func58 rfl fun c0 hc0 => ?_⟩;simp only [go_sem,encO,h,↓alt_t,↓alt_f,Int.reduceEq,Nat.reduceAdd,Nat.reduceLeDiff,Nat.reduceBEq,Nat.reduceSub]
 simp only [usedO,h,Int.reduceEq,reduceIte,or_true,or_self]
 (repeat' first|exact .refl _|apply LeR.tup|apply Le.agg|constructor)
theorem used_0 (o : Ord) (h1 : ¬ o.kind = 1) (h2 : ¬ o.kind = 2) (h3 : ¬ o.kind = 3) (h4 : ¬ o.kind = 4) (h5 : ¬ o.kind = 5) (h6 : ¬ o.kind = 6) (h7 : ¬ o.kind = 7) (h8 : ¬ o.kind = 8) (h9 : ¬ o.kind = 9) (h10 : ¬ o.kind = 10) (h11 : ¬ o.kind = 11) : ASpec Tryz.prog 58 [encO o] (encO (usedO o)) := by
 refine ⟨⟨_,Tryz.func58,by kernel_rfl,rfl⟩,Sg Tryz.func58 rfl fun c0 hc0 => ?_⟩;simp only [go_sem,encO,h1,h2,h3,h4,h5,h6,h10,h11,↓alt_f,Nat.reduceAdd,Nat.reduceLeDiff,Nat.reduceSub]
 refine Rg Tryz.func58 ?_;simp only [go_sem,h7,h8,h9,↓alt_f,Nat.reduceAdd,Nat.reduceBEq]
 simp only [usedO,h1,h2,h3,h4,h5,h6,h7,h8,h9,h10,h11,Yr,or_self]
 (repeat' first|exact .refl _|apply LeR.tup|apply Le.agg|constructor)
theorem used_spec (o : Ord) : ASpec Tryz.prog 58 [encO o] (encO (usedO o)) :=
 if h1 : o.kind = 1 then used_1 o h1 else
 if h2 : o.kind = 2 then used_2 o h2 else
 if h3 : o.kind = 3 then used_3 o h3 else
 if h4 : o.kind = 4 then used_4 o h4 else
 if h5 : o.kind = 5 then used_5 o h5 else
 if h6 : o.kind = 6 then used_6 o h6 else
 if h7 : o.kind = 7 then used_7 o h7 else
 if h8 : o.kind = 8 then used_8 o h8 else
 if h9 : o.kind = 9 then used_9 o h9 else
 if h10 : o.kind = 10 then used_10 o h10 else
 if h11 : o.kind = 11 then used_11 o h11 else
 used_0 o h1 h2 h3 h4 h5 h6 h7 h8 h9 h10 h11
def mayO (o : Ord) : Bool := decide (0 ≤ o.a) && decide (o.a ≤ 1000) && decide (1 ≤ o.b) && decide (o.b ≤ 1000000000) && decide (0 ≤ o.kind) && decide (o.kind ≤ 11) && decide ((o.s.length : Int) ≤ 100) && decide ((o.t.length : Int) ≤ 1000) && decide (o = usedO o)
theorem may_0 (o : Ord)  (q1 : ¬ 0 ≤ o.a) : ASpec Tryz.prog 25 [encO o] (.bool (mayO o)) := by
 have e : mayO o = false := by simp [mayO,q1]
 rw [e]
 refine ⟨⟨_,Tryz.func25,by kernel_rfl,rfl⟩,Sg Tryz.func25 rfl fun c0 hc0 => ?_⟩;simp only [go_sem,encO,q1,↓alts_f,↓gone_tf,↓gdone_tf,Nat.reduceAdd,Nat.reduceLeDiff,Nat.reduceSub]
 exact ⟨rfl,rfl,.one (.refl _)⟩
theorem may_1 (o : Ord) (q1 : 0 ≤ o.a) (q2 : ¬ o.a ≤ 1000) : ASpec Tryz.prog 25 [encO o] (.bool (mayO o)) := by
 have e : mayO o = false := by simp [mayO,q1,q2]
 rw [e]
 refine ⟨⟨_,Tryz.func25,by kernel_rfl,rfl⟩,Sg Tryz.func25 rfl fun c0 hc0 => ?_⟩;simp only [go_sem,encO,q1,q2,↓alts_t,↓alts_f,↓gone_tt,↓gone_tf,↓gdone_tf,Nat.reduceAdd,Nat.reduceLeDiff,Nat.reduceSub]
 exact ⟨rfl,rfl,.one (.refl _)⟩
theorem may_2 (o : Ord) (q1 : 0 ≤ o.a) (q2 : o.a ≤ 1000) (q3 : ¬ 1 ≤ o.b) : ASpec Tryz.prog 25 [encO o] (.bool (mayO o)) := by
 have e : mayO o = false := by simp [mayO,q1,q2,q3]
 rw [e]
 refine ⟨⟨_,Tryz.func25,by kernel_rfl,rfl⟩,Sg Tryz.func25 rfl fun c0 hc0 => ?_⟩;simp only [go_sem,encO,q1,q2,q3,↓alts_t,↓alts_f,↓gone_tt,↓gone_tf,↓gdone_tf,Nat.reduceAdd,Nat.reduceLeDiff,Nat.reduceSub]
 exact ⟨rfl,rfl,.one (.refl _)⟩
theorem may_3 (o : Ord) (q1 : 0 ≤ o.a) (q2 : o.a ≤ 1000) (q3 : 1 ≤ o.b) (q4 : ¬ o.b ≤ 1000000000) : ASpec Tryz.prog 25 [encO o] (.bool (mayO o)) := by
 have e : mayO o = false := by simp [mayO,q1,q2,q3,q4]
 rw [e]
 refine ⟨⟨_,Tryz.func25,by kernel_rfl,rfl⟩,Sg Tryz.func25 rfl fun c0 hc0 => ?_⟩;simp only [go_sem,encO,q1,q2,q3,q4,↓alts_t,↓alts_f,↓gone_tt,↓gdone_tf,Nat.reduceAdd,Nat.reduceLeDiff,Nat.reduceSub]
 exact ⟨rfl,rfl,.one (.refl _)⟩
theorem may_4 (o : Ord) (q1 : 0 ≤ o.a) (q2 : o.a ≤ 1000) (q3 : 1 ≤ o.b) (q4 : o.b ≤ 1000000000) (q5 : ¬ 0 ≤ o.kind) : ASpec Tryz.prog 25 [encO o] (.bool (mayO o)) := by
 have e : mayO o = false := by simp [mayO,q1,q2,q3,q4,q5]
 rw [e]
 refine ⟨⟨_,Tryz.func25,by kernel_rfl,rfl⟩,Sg Tryz.func25 rfl fun c0 hc0 => ?_⟩;simp only [go_sem,encO,q1,q2,q3,q4,q5,↓alts_t,↓alts_f,↓gone_tt,↓gdone_tt,↓gdone_tf,Nat.reduceAdd,Nat.reduceLeDiff,Nat.reduceSub]
 exact ⟨rfl,rfl,.one (.refl _)⟩
theorem may_5 (o : Ord) (q1 : 0 ≤ o.a) (q2 : o.a ≤ 1000) (q3 : 1 ≤ o.b) (q4 : o.b ≤ 1000000000) (q5 : 0 ≤ o.kind) (q6 : ¬ o.kind ≤ 11) : ASpec Tryz.prog 25 [encO o] (.bool (mayO o)) := by
 have e : mayO o = false := by simp [mayO,q1,q2,q3,q4,q5,q6]
 rw [e]
 refine ⟨⟨_,Tryz.func25,by kernel_rfl,rfl⟩,Sg Tryz.func25 rfl fun c0 hc0 => ?_⟩;simp only [go_sem,encO,q1,q2,q3,q4,q5,q6,↓alts_t,↓alts_f,↓gone_tt,↓gdone_tt,↓gdone_tf,Nat.reduceAdd,Nat.reduceLeDiff,Nat.reduceSub]
 exact ⟨rfl,rfl,.one (.refl _)⟩
theorem may_6 (o : Ord) (q1 : 0 ≤ o.a) (q2 : o.a ≤ 1000) (q3 : 1 ≤ o.b) (q4 : o.b ≤ 1000000000) (q5 : 0 ≤ o.kind) (q6 : o.kind ≤ 11) (q7 : ¬ (o.s.length : Int) ≤ 100) : ASpec Tryz.prog 25 [encO o] (.bool (mayO o)) := by
 have e : mayO o = false := by simp [mayO,q1,q2,q3,q4,q5,q6,q7]
 rw [e]
 refine ⟨⟨_,Tryz.func25,by kernel_rfl,rfl⟩,Sg Tryz.func25 rfl fun c0 hc0 => ?_⟩;simp only [go_sem,encO,q1,q2,q3,q4,q5,q6,q7,↓alts_t,↓alts_f,↓gone_tt,↓gdone_tt,↓gdone_tf,Nat.reduceAdd,Nat.reduceLeDiff,Nat.reduceSub]
 exact ⟨rfl,rfl,.one (.refl _)⟩
theorem may_7 (o : Ord) (q1 : 0 ≤ o.a) (q2 : o.a ≤ 1000) (q3 : 1 ≤ o.b) (q4 : o.b ≤ 1000000000) (q5 : 0 ≤ o.kind) (q6 : o.kind ≤ 11) (q7 : (o.s.length : Int) ≤ 100) (q8 : ¬ (o.t.length : Int) ≤ 1000) : ASpec Tryz.prog 25 [encO o] (.bool (mayO o)) := by
 have e : mayO o = false := by simp [mayO,q1,q2,q3,q4,q5,q6,q7,q8]
 rw [e]
 refine ⟨⟨_,Tryz.func25,by kernel_rfl,rfl⟩,Sg Tryz.func25 rfl fun c0 hc0 => ?_⟩;simp only [go_sem,encO,q1,q2,q3,q4,q5,q6,q7,q8,↓alts_t,↓alts_f,↓gone_tt,↓gdone_tt,↓gdone_tf,Nat.reduceAdd,Nat.reduceLeDiff,Nat.reduceSub]
 exact ⟨rfl,rfl,.one (.refl _)⟩
theorem ord_eq (o p : Ord) : (decide (o.a = p.a) && (decide (o.b = p.b) && (decide (o.kind = p.kind) && (decide (o.s = p.s) && (decide (o.t = p.t) && (decide (o.x = p.x) && (decide (o.y = p.y) && (decide (o.z = p.z) && true)))))))) = decide (o = p) := by
 obtain ⟨a,b,k,s,t,x,y,z⟩ := o
 obtain ⟨a',b',k',s',t',x',y',z'⟩ := p
 rw [Bool.eq_iff_iff];simp
theorem may_8 (o : Ord) (q1 : 0 ≤ o.a) (q2 : o.a ≤ 1000) (q3 : 1 ≤ o.b) (q4 : o.b ≤ 1000000000) (q5 : 0 ≤ o.kind) (q6 : o.kind ≤ 11) (q7 : (o.s.length : Int) ≤ 100) (q8 : (o.t.length : Int) ≤ 1000) : ASpec Tryz.prog 25 [encO o] (.bool (mayO o)) := by
 have e : mayO o = decide (o = usedO o) := by simp [mayO,q1,q2,q3,q4,q5,q6,q7,q8]
 rw [e,← ord_eq]
 refine ⟨⟨_,Tryz.func25,by kernel_rfl,rfl⟩,Sg Tryz.func25 rfl fun c0 hc0 => ?_⟩;simp only [go_sem,encO,q1,q2,q3,q4,q5,q6,q7,q8,↓alts_t,↓gone_tt,↓gdone_tt,Nat.reduceAdd,Nat.reduceLeDiff,Nat.reduceSub]
 refine ⟨rfl,?_⟩
 refine DOps.pure rfl (Wanted.test 23 true true rfl) rfl rfl (used_spec o) (by simp only [go_sem,encO];(repeat' first|exact .refl _|apply LeR.tup|apply Le.agg|constructor)) rfl rfl ?_
 refine Dg Tryz.func25 rfl ?_;simp only [go_sem,encO,↓alts_t,↓gdone_tt,Nat.reduceAdd]
 exact ⟨rfl,.one (.refl _)⟩
theorem may_spec (o : Ord) : ASpec Tryz.prog 25 [encO o] (.bool (mayO o)) :=
 if q1 : 0 ≤ o.a then
 if q2 : o.a ≤ 1000 then
 if q3 : 1 ≤ o.b then
 if q4 : o.b ≤ 1000000000 then
 if q5 : 0 ≤ o.kind then
 if q6 : o.kind ≤ 11 then
 if q7 : (o.s.length : Int) ≤ 100 then
 if q8 : (o.t.length : Int) ≤ 1000 then
 may_8 o q1 q2 q3 q4 q5 q6 q7 q8
 else may_7 o q1 q2 q3 q4 q5 q6 q7 q8
 else may_6 o q1 q2 q3 q4 q5 q6 q7
 else may_5 o q1 q2 q3 q4 q5 q6
 else may_4 o q1 q2 q3 q4 q5
 else may_3 o q1 q2 q3 q4
 else may_2 o q1 q2 q3
 else may_1 o q1 q2
 else may_0 o q1
end Go.Proofs.YtkamcoechjdgpaaGreat
namespace Go.Proofs.YtkamcoechjdgpaaGreat
open Go.Shelf
def lays129_ren : Go.Shelf.Ren := ⟨fun|129 => 93|n => n,fun|53 => 141|3 => 3|4 => 4|46 => 163|5 => 5|9 => 9|n => n,fun|n => n⟩
theorem lays129 : Go.Proofs.Lays.n129 Tryz.prog lays129_ren := {
 mixed := by kernel_rfl
 f129 := Tryz.func93.trans (congrArg some (by kernel_rfl))
 t3 := Tryz.underlying3
 a3 := Tryz.isAgg3
 z3 := Tryz.sizeOf3
 v3 := Tryz.zeroValue3
 t4 := Tryz.underlying4
 a4 := Tryz.isAgg4
 z4 := Tryz.sizeOf4
 v4 := Tryz.zeroValue4
 t5 := Tryz.underlying5
 a5 := Tryz.isAgg5
 z5 := Tryz.sizeOf5
 v5 := Tryz.zeroValue5
 t9 := Tryz.underlying9
 a9 := Tryz.isAgg9
 z9 := Tryz.sizeOf9
 v9 := Tryz.zeroValue9
 t46 := Tryz.underlying163
 a46 := Tryz.isAgg163
 z46 := Tryz.sizeOf163
 v46 := Tryz.zeroValue163
 t53 := Tryz.underlying141
 a53 := Tryz.isAgg141
 z53 := Tryz.sizeOf141
 v53 := Tryz.zeroValue141 }
theorem len64_any (x : Int) (w : World) (h0 : 0 ≤ x) (h1 : x ≤ 18446744073709551615) :
  Calls Tryz.prog 93 #[.int .u64 x] w fun e w' => e = .returned (.int .i64 (Lib.bitLen x.toNat)) ∧ w' = w := Any.bits_Len64 lays129 x w h0 h1
theorem len64_spec (n : Nat) (h : n < 18446744073709551616) : ASpec Tryz.prog 93 [.int .u64 n] (.int .i64 (Lib.bitLen n)) := by
 refine still_spec ⟨_,Tryz.func93,by kernel_rfl,rfl⟩ (v := .int .i64 (Lib.bitLen n)) (fun c => .int _ _) fun c vs ht => ?_
 obtain ⟨h1,h2⟩ := ht
 obtain ⟨vs⟩ := vs
 match vs,h1 with
 | [v],_ =>
  have hv := h2 0 v _ rfl rfl
  cases hv
  exact len64_any n c.w (by omega) (by omega)
theorem sizeN_spec (n : Nat) (h : n < 18446744073709551616) : ASpec Tryz.prog 91 [.int .u64 n] (.int .i64 (1 + nb n : Nat)) := by
 have hb := bitLen_nb n h
 have hl := nb_le n h
 have h1 := len64_spec n h
 have hq : ((Lib.bitLen n : Int) + 7).tdiv 8 = (nb n : Int) := by rw [Int.tdiv_eq_ediv_of_nonneg (by omega)];omega
 refine ⟨⟨_,Tryz.func91,by kernel_rfl,rfl⟩,Sg Tryz.func91 rfl fun c0 hc0 => ?_⟩;simp only [go_sem,Nat.reduceAdd,Nat.reduceSub]
 refine Ops.pure .free rfl rfl (h1) (by simp only [go_sem];(repeat' first|exact .refl _|apply LeR.tup|apply Le.agg|constructor)) rfl rfl ?_
 refine Og Tryz.func91 ?_;simp only [go_sem,hq]
 unfold I64
 refine ⟨by omega,⟨by omega,by omega⟩,by omega,?_⟩
 rw [show (1 + (nb n : Int)) = ((1 + nb n : Nat) : Int) by omega]
 (repeat' first|exact .refl _|apply LeR.tup|apply Le.agg|constructor)
theorem clip_spec (b : Bytes) : OSpec Tryz.prog 92 [bytesA b] 1 (b.map byteC) := by
 refine ⟨⟨_,Tryz.func92,by kernel_rfl,rfl⟩,Sg Tryz.func92 rfl fun c0 hc0 => ?_⟩;simp only [go_sem,bytesA,Nat.reduceAdd,Nat.reduceSub]
 refine ⟨by omega,0,?_,?_⟩
 ·rw [List.take_of_length_le (by simp)]
 ·simp
theorem put_byte (n q : Nat) (h : n < 18446744073709551616) (hq : q ≤ 7) : IntKind.u8.wrap ((n : Int).fdiv (2 ^ min (8 * (q : Int)).toNat IntKind.u64.bits)) = ((UInt8.ofNat (n / 256 ^ q)).toNat : Int) := by
 have e1 : (8 * (q : Int)).toNat = 8 * q := by omega
 have e2 : min (8 * q) IntKind.u64.bits = 8 * q := by show min (8 * q) 64 = 8 * q;omega
 rw [e1,e2,Int.fdiv_eq_ediv_of_nonneg _ (by exact Int.le_of_lt (Int.pow_pos (by omega)))]
 have h3 := shr_byte n q
 have e3 : IntKind.u8.wrap ((n : Int) / 2 ^ (8 * q)) = (n : Int) / 2 ^ (8 * q) % 256 := by
  unfold IntKind.wrap
  simp [IntKind.bits,IntKind.signed]
 rw [e3,h3]
 simp
theorem put_spec (b : Bytes) (n : Nat) (hb : b.length ≤ 1000000) (h1 : n < 18446744073709551616) : OSpec Tryz.prog 89 [bytesA b,.int .u64 n] 1 ((b ++ encN n).map byteC) := by
 have hs := sizeN_spec n h1
 have hl := nb_le n h1
 have hw : IntKind.u8.wrap (nb n : Int) = ((UInt8.ofNat (nb n)).toNat : Int) := by
  unfold IntKind.wrap
  simp [IntKind.bits,IntKind.signed]
 have he : ((1 + nb n : Nat) : Int) - 1 = (nb n : Int) := by omega
 have hci : encN n = UInt8.ofNat (nb n) :: be (nb n) n := rfl
 generalize hk : nb n = k at *
 refine ⟨⟨_,Tryz.func89,by kernel_rfl,rfl⟩,Sg Tryz.func89 rfl fun c0 hc0 => ?_⟩;simp only [go_sem,bytesA,Nat.reduceAdd,Nat.reduceSub]
 refine Ops.pure .free rfl rfl (hs) (by simp only [go_sem];(repeat' first|exact .refl _|apply LeR.tup|apply Le.agg|constructor)) rfl rfl ?_
 refine Og Tryz.func89 ?_;simp only [go_sem,he]
 refine ⟨by unfold I64;omega,?_⟩
 refine Ops.own .free rfl rfl (clip_spec b) (by simp only [go_sem,bytesA];(repeat' first|exact .refl _|apply LeR.tup|apply Le.agg|constructor)) rfl ?_
 refine Og Tryz.func89 ?_;simp only [go_sem,hw,Nat.reduceLeDiff,Nat.reduceMul,Nat.reduceBEq,Nat.reduceLT]
 (and_intros <;> try first|rfl|omega|(unfold I64;omega))
 refine Run.loopV (α := Nat) (fun p => p ≤ k) (fun p => [(6,.sl 1 ((b ++ UInt8.ofNat k :: (be k n).take p).map byteC) (.own 0)),(7,.int .i64 ((k : Int) - 1 - p)),(15,.junk)]) 1 (fun p => [(0,.tok 1 (b ++ UInt8.ofNat k :: (be k n).take p).length)]) (fun p => k - p) 0 (Nat.zero_le _) ?_ ?_
 ·simp only [go_sem,writes,junks,puts,hputs,List.filterMap_cons,List.filterMap_nil,Int.natCast_add,Int.natCast_one,List.map_append,List.length_append,Int.sub_zero,byteC]
  (refine Weak.of (by simp [hc0]) ?_ ?_ <;> (repeat' first|exact .refl _|exact .junk _|exact .nil|exact .nil _|exact .tok _ _ _|rfl|apply WkT.cons|apply WkH.cons|apply LeB.same|apply LeB.box|apply Le1L.cons|apply Le.agg|apply Le.one))
 rintro q hq ih
 simp only [writes,junks,puts,hputs,List.filterMap_cons,List.filterMap_nil,Int.natCast_add,Int.natCast_one,Y6,Y7,Yg,Yj,Y5,Y3,Yd] at hq ih ⊢
 by_cases hlt : q < k
 ·obtain ⟨r,hr⟩ : ∃ r,r = k - 1 - q := ⟨_,rfl⟩
  have hr' : (k : Int) - 1 - (q : Int) = (r : Int) := by omega
  have hbt := put_byte n r h1 (by omega)
  simp only [IntKind.bits] at hbt
  have h0 : (0 : Int) ≤ (r : Int) := by omega
  have htk := be_take k n q hlt
  rw [← hr] at htk
  have hbl := be_length k n
  refine Rg Tryz.func89 ?_;simp only [go_sem,hr',h0,hbt,↓alt_t,Nat.reduceLeDiff,Nat.reduceMul,Nat.reduceBEq,Nat.reduceLT]
  refine ⟨by unfold I64;omega,by omega,⟨by simp only [List.length_append,Ya,List.length_take,hbl];omega,by simp only [List.length_append,Ya,List.length_take,hbl];omega⟩,by unfold I64;omega,?_⟩
  refine ih (q + 1) _ (by omega) (by omega) ?_
  rw [htk]
  simp only [Int.natCast_add,Int.natCast_one,Ya,Y9,Yf,Ye,Y5,Yp,List.map_append,List.length_append,List.length_take,hbl,byteC,List.append_assoc,← hr',Int.sub_sub]
  (refine Weak.of (by simp [hc0]) ?_ ?_ <;> (repeat' first|exact .refl _|exact .junk _|exact .nil|exact .nil _|exact .tok _ _ _|rfl|apply WkT.cons|apply WkH.cons|apply LeB.same|apply LeB.box|apply Le1L.cons|apply Le.agg|apply Le.one))
 ·obtain rfl : q = k := by omega
  have h0 : ¬ (0 : Int) ≤ (q : Int) - 1 - q := by omega
  rw [show (be q n).take q = be q n from List.take_of_length_le (by rw [be_length];omega)]
  refine Rg Tryz.func89 ?_;simp only [go_sem,h0,↓alt_f]
  rw [hci]
  exact ⟨0,rfl,rfl⟩
theorem xor_ones (x : Nat) (h : x < 18446744073709551616) : x ^^^ 18446744073709551615 = 18446744073709551615 - x := by
 have h1 : (BitVec.ofNat 64 x ^^^ BitVec.allOnes 64).toNat = x ^^^ 18446744073709551615 := by
  rw [BitVec.toNat_xor,BitVec.toNat_ofNat,BitVec.toNat_allOnes,Nat.mod_eq_of_lt (by omega)]
 rw [← h1,BitVec.xor_allOnes,BitVec.toNat_not,BitVec.toNat_ofNat,Nat.mod_eq_of_lt (by omega)]
theorem zig_eq (n : Int) (h : I64 n) : bits .xor .u64 (IntKind.u64.wrap (IntKind.u64.wrap n * 2 ^ min 1 IntKind.u64.bits)) (IntKind.u64.wrap (n.fdiv (2 ^ min 63 IntKind.i64.bits))) = (zig n : Int) := by
 unfold I64 at h
 have e1 : min 1 IntKind.u64.bits = 1 := rfl
 have e2 : min 63 IntKind.i64.bits = 63 := rfl
 rw [e1,e2,IntKind.wrap_u64,IntKind.wrap_u64,IntKind.wrap_u64,Int.fdiv_eq_ediv_of_nonneg _ (by decide)]
 by_cases h0 : n < 0
 ·obtain ⟨x,hx⟩ := Int.eq_ofNat_of_zero_le (show 0 ≤ n % 18446744073709551616 * 2 ^ 1 % 18446744073709551616 by omega)
  rw [hx,show n / 2 ^ 63 % 18446744073709551616 = ((18446744073709551615 : Nat) : Int) by omega,u64_xor_nat _ _ (by omega) (by omega),xor_ones _ (by omega)]
  unfold zig
  rw [if_pos h0]
  omega
 ·obtain ⟨x,hx⟩ := Int.eq_ofNat_of_zero_le (show 0 ≤ n % 18446744073709551616 * 2 ^ 1 % 18446744073709551616 by omega)
  rw [hx,show n / 2 ^ 63 % 18446744073709551616 = ((0 : Nat) : Int) by omega,u64_xor_nat _ _ (by omega) (by omega),Nat.xor_zero]
  unfold zig
  rw [if_neg h0]
  omega
theorem int_spec (b : Bytes) (n : Int) (hb : b.length ≤ 1000000) (h1 : I64 n) : OSpec Tryz.prog 71 [bytesA b,.int .i64 n] 1 ((b ++ encN (zig n)).map byteC) := by
 have hz := zig_eq n h1
 simp only [IntKind.bits] at hz
 have hp := put_spec b (zig n) hb (by unfold I64 at h1;exact zig_lt n h1.1 h1.2)
 refine ⟨⟨_,Tryz.func71,by kernel_rfl,rfl⟩,Sg Tryz.func71 rfl fun c0 hc0 => ?_⟩;simp only [go_sem,bytesA,hz,Int.reduceToNat,Int.reduceLE,Nat.reduceAdd,Nat.reduceSub]
 refine Ops.own .free rfl rfl (hp) (by simp only [go_sem,bytesA];(repeat' first|exact .refl _|apply LeR.tup|apply Le.agg|constructor)) rfl ?_
 refine Og Tryz.func71 ?_;simp only [go_sem]
 exact ⟨0,rfl,by simp⟩
theorem text_spec (b s : Bytes) (hb : b.length ≤ 1000000) (h1 : s.length ≤ 1000000) : OSpec Tryz.prog 111 [bytesA b,.str s] 1 ((b ++ encT s).map byteC) := by
 have hp := put_spec b s.length hb (by omega)
 have hw : IntKind.u64.wrap (s.length : Int) = s.length := wrap_nat s.length (by omega)
 have hl := encN_le s.length (by omega)
 have he : (b ++ encT s).map byteC = (b ++ encN s.length).map byteC ++ s.map byteC := by unfold encT;simp
 have hel : (b ++ encT s).length = (b ++ encN s.length).length + s.length := by unfold encT;simp;omega
 refine ⟨⟨_,Tryz.func111,by kernel_rfl,rfl⟩,Sg Tryz.func111 rfl fun c0 hc0 => ?_⟩;simp only [go_sem,bytesA,hw,Nat.reduceAdd,Nat.reduceSub]
 refine Ops.own .free rfl rfl (hp) (by simp only [go_sem,bytesA];(repeat' first|exact .refl _|apply LeR.tup|apply Le.agg|constructor)) rfl ?_
 refine Og Tryz.func111 ?_;simp only [go_sem]
 refine ⟨⟨by simp;omega,by simp;omega⟩,0,?_,?_⟩
 ·rw [he]
 ·rw [hel];rfl
def intC (n : Int) : List AV := [.int .i64 n]
def encZs (l : List Int) : Bytes := (l.map fun n => encN (zig n)).flatten
theorem encZs_le : ∀ (l : List Int),(∀ n ∈ l,I64 n) → (encZs l).length ≤ 9 * l.length
 | [],_ => by simp [encZs]
 | n :: l,h => by
  have ih := encZs_le l fun m hm => h m (List.mem_cons_of_mem _ hm)
  have h0 := h n List.mem_cons_self
  unfold I64 at h0
  have h1 := encN_le (zig n) (zig_lt n (by omega) (by omega))
  unfold encZs at ih ⊢
  simp only [Yf,List.flatten_cons,List.length_append,Ya]
  omega
theorem ints_spec (b : Bytes) (l : List Int) (hb : b.length ≤ 900000) (hl : l.length ≤ 1000) (hz : ∀ n ∈ l,I64 n) : ASpec Tryz.prog 120 [bytesA b,.sl 1 (l.map intC) .no] (bytesA (b ++ encZs l)) := by
 refine ⟨⟨_,Tryz.func120,by kernel_rfl,rfl⟩,Sg Tryz.func120 rfl fun c0 hc0 => ?_⟩;simp only [go_sem,bytesA,Nat.reduceAdd,Nat.reduceSub]
 refine Run.loopV (α := Nat) (fun k => k ≤ l.length) (fun k => [(0,bytesA (b ++ encZs (l.take k))),(9,.int .i64 k)]) 0 (fun _ => []) (fun k => l.length - k) 0 (Nat.zero_le _) ?_ ?_
 ·simp only [go_sem,writes,junks,puts,hputs,List.filterMap_cons,List.filterMap_nil,bytesA,encZs,List.flatten_nil]
  (refine Weak.of (by simp [hc0]) ?_ ?_ <;> (repeat' first|exact .refl _|exact .junk _|exact .nil|exact .nil _|exact .tok _ _ _|rfl|apply WkT.cons|apply WkH.cons|apply LeB.same|apply LeB.box|apply Le1L.cons|apply Le.agg|apply Le.one))
 ·intro k hI ih
  simp only [writes,junks,puts,hputs,List.filterMap_cons,List.filterMap_nil,Y6,Y7,Yk,Y5,Y3,Yd] at ih ⊢
  by_cases hk : k < l.length
  ·obtain ⟨x,hx⟩ : ∃ x,l[k]? = some x := ⟨_,List.getElem?_eq_getElem hk⟩
   have hkk : (k : Int) < l.length := by omega
   have hxm := List.mem_of_getElem? hx
   have hle := encZs_le (l.take k) fun n hn => hz n (List.mem_of_mem_take hn)
   rw [List.length_take] at hle
   have hsn : encZs (l.take (k + 1)) = encZs (l.take k) ++ encN (zig x) := by
    rw [List.take_add_one,hx]
    simp [encZs]
   refine Rg Tryz.func120 ?_;simp only [go_sem,hx,hkk,intC,List.getElem?_map,↓alt_t,Nat.reduceAdd,Nat.reduceLT]
   refine ⟨by omega,?_⟩
   refine Ops.own .free rfl rfl (int_spec (b ++ encZs (l.take k)) x (by rw [List.length_append];omega) (hz x hxm)) (by simp only [go_sem,bytesA];(repeat' first|exact .refl _|apply LeR.tup|apply Le.agg|constructor)) rfl ?_
   refine Og Tryz.func120 ?_;simp only [go_sem,bytesA]
   refine ⟨by unfold I64;omega,ih (k + 1) _ (by omega) (by omega) ?_⟩
   rw [hsn,← List.append_assoc]
   simp only [Int.natCast_add,Int.natCast_one,bytesA]
   (refine Weak.of (by simp [hc0]) ?_ ?_ <;> (repeat' first|exact .refl _|exact .junk _|exact .nil|exact .nil _|exact .tok _ _ _|rfl|apply WkT.cons|apply WkH.cons|apply LeB.same|apply LeB.box|apply Le1L.cons|apply Le.agg|apply Le.one))
  ·obtain rfl : k = l.length := by omega
   have hkk : ¬ (l.length : Int) < l.length := by omega
   refine Rg Tryz.func120 ?_;simp only [go_sem,hkk,bytesA,↓alt_f]
   rw [List.take_length]
   (repeat' first|exact .refl _|apply LeR.tup|apply Le.agg|constructor)
theorem takeN_err' {b : Bytes} {z : Int} (h : takeN b = .error z) : ¬ z = 0 := by rcases takeN_err h with h|h <;> omega
theorem takeZ_err {b : Bytes} {z : Int} (h : takeZ b = .error z) : ¬ z = 0 := by
 unfold takeZ at h
 split at h
 ·rename_i z' h'
  cases h
  exact takeN_err' h'
 ·cases h
def rdI : List Nat → List AV → Bytes → Int → List AV × Bytes × Int
 | [],cs,b,e => (cs,b,e)
 | o :: os,cs,b,e => if e = 0 then match takeZ b with
   | .ok (n,r) => rdI os (lay cs o [.int .i64 n]) r 0
   | .error z => rdI os (lay cs o [.int .i64 0]) [] z
  else rdI os cs b e
theorem bel_ps (n i : Nat) (h : i < n) : ∀ offs : List Nat,belLL n (offs.map fun o => [.ptr i o]) = true
 | [] => rfl
 | o :: offs => by simp [belLL,belL,AV.bel,h,bel_ps n i h offs]
theorem bel_app {n : Nat} : ∀ {a b : List AV},belL n a = true → belL n b = true → belL n (a ++ b) = true
 | [],b,_,h => h
 | x :: a,b,h,h' => by
  simp only [belL,Bool.and_eq_true,Y5] at h ⊢
  exact ⟨h.1,bel_app h.2 h'⟩
theorem bel_sub {n : Nat} {l : List AV} (h : belL n l = true) (o : Nat) : belL n (l.take o) = true ∧ belL n (l.drop o) = true := by
 induction l generalizing o with
 | nil => simp [belL]
 | cons x l ih =>
  simp only [belL,Bool.and_eq_true] at h
  cases o with
  | zero => exact ⟨rfl,by simp [belL,h.1,h.2]⟩
  | succ o =>
   obtain ⟨h1,h2⟩ := ih h.2 o
   exact ⟨by simp [belL,h.1,h1],by simpa using h2⟩
theorem bel_lay {n : Nat} {cs xs : List AV} (o : Nat) (h : belL n cs = true) (h' : belL n xs = true) : belL n (lay cs o xs) = true := bel_app (bel_app (bel_sub h _).1 h') (bel_sub h _).2
theorem lay_length {cs xs : List AV} {o : Nat} (h : o + xs.length ≤ cs.length) : (lay cs o xs).length = cs.length := by simp [lay];omega
theorem rdI_ok {o : Nat} {os : List Nat} {cs : List AV} {b : Bytes} {n : Int} {r : Bytes} (h : takeZ b = .ok (n,r)) : rdI (o :: os) cs b 0 = rdI os (lay cs o [.int .i64 n]) r 0 := by simp [rdI,h]
theorem rdI_error {o : Nat} {os : List Nat} {cs : List AV} {b : Bytes} {z : Int} (h : takeZ b = .error z) : rdI (o :: os) cs b 0 = rdI os (lay cs o [.int .i64 0]) [] z := by simp [rdI,h]
theorem rdI_no {o : Nat} {os : List Nat} {cs : List AV} {b : Bytes} {e : Int} (h : ¬ e = 0) : rdI (o :: os) cs b e = rdI os cs b e := by simp [rdI,h]
theorem rints_call (offs : List Nat) (ho : offs.length ≤ 1000) (hoo : ∀ o ∈ offs,o < 8) (z : ABlk) (hz : z.bel 4 = true) (q : ABlk) (hq : q.bel 4 = true) (b : Bytes) (cs : List AV) (hcs : cs.length = 8) (hbe : belL 4 cs = true) (R : AV → List ABlk → Prop)
  (hR : R (.tup []) [z,.box [bytesA (rdI offs cs b 0).2.1,.int .i64 (rdI offs cs b 0).2.2],.box (rdI offs cs b 0).1,q]) :
  ACall Tryz.prog 118 [.ptr 1 0,.psl 1 (offs.map fun o => [.ptr 2 o])] [z,.box [bytesA b,.int .i64 0],.box cs,q] R := by
 refine Sg Tryz.func118 rfl fun c1 hc1 => ?_;simp only [go_sem,Nat.reduceAdd,Nat.reduceSub]
 refine Run.loopV (α := Nat × List AV × Bytes × Int) (fun x => x.1 ≤ offs.length ∧ x.2.1.length = 8 ∧ belL 4 x.2.1 = true ∧ rdI (offs.drop x.1) x.2.1 x.2.2.1 x.2.2.2 = rdI offs cs b 0) (fun x => [(8,.int .i64 x.1)]) 4 (fun x => [(1,.box [bytesA x.2.2.1,.int .i64 x.2.2.2]),(2,.box x.2.1)]) (fun x => offs.length - x.1) (0,cs,b,0) ⟨Nat.zero_le _,hcs,hbe,rfl⟩ ?_ ?_
 ·simp only [go_sem,writes,junks,puts,hputs,List.filterMap_cons,List.filterMap_nil]
  (refine Weak.of (by simp [hc1]) ?_ ?_ <;> (repeat' (first|exact WkT.nil|exact WkH.nil _|exact Le.refl _|exact Le.junk _|exact Le1.refl _|exact Le1.nil _|exact Le1.tok _ _ _|exact Le1L.nil|rfl|assumption|exact bel_ps 4 2 (by omega) offs|exact hbl|apply WkT.cons|apply WkH.cons|apply LeB.same|apply LeB.box|apply Le1L.cons|apply Le.agg|apply Le.one)))
 ·rintro ⟨k,xs,y,e⟩ ⟨hI,hxs,hxb,hrd⟩ ih
  simp only [writes,junks,puts,hputs,List.filterMap_cons,List.filterMap_nil,Y6,Y7,Yg,Yk,Y5,Y3,Yd] at hI hxs hxb hrd ih ⊢
  by_cases hk : k < offs.length
  ·obtain ⟨o,hx⟩ : ∃ x,offs[k]? = some x := ⟨_,List.getElem?_eq_getElem hk⟩
   have hkk : (k : Int) < offs.length := by omega
   have ho8 := hoo o (List.mem_of_getElem? hx)
   have hd : offs.drop k = o :: offs.drop (k + 1) := by
    obtain ⟨hk',rfl⟩ := List.getElem?_eq_some_iff.1 hx
    exact List.drop_eq_getElem_cons hk'
   rw [hd] at hrd
   by_cases he : e = 0
   ·subst he
    cases ht : takeZ y with
    | error z =>
     rw [rdI_error ht] at hrd
     have hsp := takeint_spec y
     rw [ht] at hsp
     refine Rg Tryz.func118 ?_;simp only [go_sem,hx,hkk,bytesA,List.getElem?_map,↓alt_t,Nat.reduceAdd,Nat.reduceLeDiff,Nat.reduceLT]
     refine ⟨by omega,?_⟩
     refine Ops.pure .free rfl rfl (hsp) (by simp only [go_sem,bytesA];(repeat' first|exact .refl _|apply LeR.tup|apply Le.agg|constructor)) rfl rfl ?_
     refine Og Tryz.func118 ?_;simp only [go_sem,takeZA,bytesA,Nat.reduceAdd,Nat.reduceLeDiff]
     have hbl : belL 4 (lay xs o [.int .i64 0]) = true := bel_lay o hxb rfl
     refine ⟨by omega,by unfold I64;omega,ih (k + 1,lay xs o [.int .i64 0],[],z) _ ⟨by omega,by rw [lay_length (by simp;omega)];exact hxs,hbl,hrd⟩ (by simp;omega) ?_⟩
     simp only [go_sem,Int.natCast_add,Int.natCast_one,bytesA] at hbl ⊢
     (refine Weak.of (by simp [hc1]) ?_ ?_ <;> (repeat' (first|exact WkT.nil|exact WkH.nil _|exact Le.refl _|exact Le.junk _|exact Le1.refl _|exact Le1.nil _|exact Le1.tok _ _ _|exact Le1L.nil|rfl|assumption|exact bel_ps 4 2 (by omega) offs|exact hbl|apply WkT.cons|apply WkH.cons|apply LeB.same|apply LeB.box|apply Le1L.cons|apply Le.agg|apply Le.one)))
    | ok p =>
     obtain ⟨n,r⟩ := p
     rw [rdI_ok ht] at hrd
     have hsp := takeint_spec y
     rw [ht] at hsp
     refine Rg Tryz.func118 ?_;simp only [go_sem,hx,hkk,bytesA,List.getElem?_map,↓alt_t,Nat.reduceAdd,Nat.reduceLeDiff,Nat.reduceLT]
     refine ⟨by omega,?_⟩
     refine Ops.pure .free rfl rfl (hsp) (by simp only [go_sem,bytesA];(repeat' first|exact .refl _|apply LeR.tup|apply Le.agg|constructor)) rfl rfl ?_
     refine Og Tryz.func118 ?_;simp only [go_sem,takeZA,bytesA,Nat.reduceAdd,Nat.reduceLeDiff]
     have hbl : belL 4 (lay xs o [.int .i64 n]) = true := bel_lay o hxb rfl
     refine ⟨by omega,by unfold I64;omega,ih (k + 1,lay xs o [.int .i64 n],r,0) _ ⟨by omega,by rw [lay_length (by simp;omega)];exact hxs,hbl,hrd⟩ (by simp;omega) ?_⟩
     simp only [go_sem,Int.natCast_add,Int.natCast_one,bytesA] at hbl ⊢
     (refine Weak.of (by simp [hc1]) ?_ ?_ <;> (repeat' (first|exact WkT.nil|exact WkH.nil _|exact Le.refl _|exact Le.junk _|exact Le1.refl _|exact Le1.nil _|exact Le1.tok _ _ _|exact Le1L.nil|rfl|assumption|exact bel_ps 4 2 (by omega) offs|exact hbl|apply WkT.cons|apply WkH.cons|apply LeB.same|apply LeB.box|apply Le1L.cons|apply Le.agg|apply Le.one)))
   ·rw [rdI_no he] at hrd
    refine Rg Tryz.func118 ?_;simp only [go_sem,hx,hkk,he,bytesA,List.getElem?_map,↓alt_t,↓alt_f,Nat.reduceAdd,Nat.reduceLT]
    refine ⟨by omega,by unfold I64;omega,ih (k + 1,xs,y,e) _ ⟨by omega,hxs,hxb,hrd⟩ (by simp;omega) ?_⟩
    simp only [Int.natCast_add,Int.natCast_one,bytesA]
    (refine Weak.of (by simp [hc1]) ?_ ?_ <;> (repeat' (first|exact WkT.nil|exact WkH.nil _|exact Le.refl _|exact Le.junk _|exact Le1.refl _|exact Le1.nil _|exact Le1.tok _ _ _|exact Le1L.nil|rfl|assumption|exact bel_ps 4 2 (by omega) offs|exact hbl|apply WkT.cons|apply WkH.cons|apply LeB.same|apply LeB.box|apply Le1L.cons|apply Le.agg|apply Le.one)))
  ·obtain rfl : k = offs.length := by omega
   rw [List.drop_length] at hrd
   have hkk : ¬ (offs.length : Int) < offs.length := by omega
   refine Rg Tryz.func118 ?_;simp only [go_sem,hkk,bytesA,↓alt_f]
   rw [← hrd] at hR
   exact hR
def seqZ : Nat → Bytes → Except Int (List Int × Bytes)
 | 0,b => .ok ([],b)
 | k + 1,b => match takeZ b with
  | .error z => .error z
  | .ok (n,r) => match seqZ k r with
   | .error z => .error z
   | .ok (l,r') => .ok (n :: l,r')
def layAll : List Nat → List AV → List Int → List AV
 | o :: os,cs,n :: l => layAll os (lay cs o [.int .i64 n]) l
 | _,cs,_ => cs
theorem seqZ_len : ∀ (k : Nat) (b : Bytes) (l : List Int) (r : Bytes),seqZ k b = .ok (l,r) → l.length = k
 | 0,b,l,r,h => by simp only [seqZ,Except.ok.injEq,Prod.mk.injEq] at h;rw [← h.1];rfl
 | k + 1,b,l,r,h => by
  simp only [seqZ] at h
  split at h
  ·cases h
  ·split at h
   ·cases h
   ·rename_i h2
    simp only [Except.ok.injEq,Prod.mk.injEq] at h
    rw [← h.1,List.length_cons,seqZ_len k _ _ _ h2]
theorem takeZ_len {b r : Bytes} {n : Int} (h : takeZ b = .ok (n,r)) : r.length ≤ b.length := by
 unfold takeZ at h
 split at h
 ·cases h
 ·rename_i h'
  cases h
  exact (taken_small h').2
theorem seqZ_rest : ∀ (k : Nat) (b : Bytes) (l : List Int) (r : Bytes),seqZ k b = .ok (l,r) → r.length ≤ b.length
 | 0,b,l,r,h => by simp only [seqZ,Except.ok.injEq,Prod.mk.injEq] at h;rw [← h.2];exact Nat.le_refl _
 | k + 1,b,l,r,h => by
  simp only [seqZ] at h
  split at h
  ·cases h
  ·rename_i h1
   split at h
   ·cases h
   ·rename_i h2
    simp only [Except.ok.injEq,Prod.mk.injEq] at h
    rw [← h.2]
    exact Nat.le_trans (seqZ_rest k _ _ _ h2) (takeZ_len h1)
theorem seqZ_err : ∀ (k : Nat) (b : Bytes) (z : Int),seqZ k b = .error z → ¬ z = 0
 | 0,b,z,h => by simp [seqZ] at h
 | k + 1,b,z,h => by
  simp only [seqZ] at h
  split at h
  ·rename_i h1;cases h;exact takeZ_err h1
  ·split at h
   ·rename_i h2;cases h;exact seqZ_err k _ _ h2
   ·cases h
theorem rdI_stop : ∀ (offs : List Nat) (cs : List AV) (b : Bytes) (z : Int),¬ z = 0 → rdI offs cs b z = (cs,b,z)
 | [],_,_,_,_ => rfl
 | _ :: offs,cs,b,z,h => by rw [rdI_no h];exact rdI_stop offs cs b z h
theorem rdI_seq : ∀ (offs : List Nat) (cs : List AV) (b : Bytes) (l : List Int) (r : Bytes),seqZ offs.length b = .ok (l,r) → rdI offs cs b 0 = (layAll offs cs l,r,0)
 | [],cs,b,l,r,h => by
  simp only [Y9,seqZ,Except.ok.injEq,Prod.mk.injEq] at h
  rw [← h.1,← h.2];rfl
 | o :: offs,cs,b,l,r,h => by
  simp only [Ya,seqZ] at h
  split at h
  ·cases h
  ·rename_i h1
   split at h
   ·cases h
   ·rename_i h2
    simp only [Except.ok.injEq,Prod.mk.injEq] at h
    rw [rdI_ok h1,rdI_seq offs _ _ _ _ h2,← h.1,← h.2]
    rfl
theorem rdI_seqE : ∀ (offs : List Nat) (cs : List AV) (b : Bytes) (z : Int),seqZ offs.length b = .error z → ∃ cs',rdI offs cs b 0 = (cs',[],z)
 | [],cs,b,z,h => by simp [seqZ] at h
 | o :: offs,cs,b,z,h => by
  simp only [Ya,seqZ] at h
  split at h
  ·rename_i h1
   cases h
   exact ⟨_,by rw [rdI_error h1,rdI_stop _ _ _ _ (takeZ_err h1)]⟩
  ·rename_i h1
   split at h
   ·rename_i h2
    cases h
    rw [rdI_ok h1]
    exact rdI_seqE offs _ _ _ h2
   ·cases h
def takeO (b : Bytes) : Except Int (Ord × Bytes) := match seqZ 6 b with
 | .error z => .error z
 | .ok (l,r) => match takeT r 100 with
  | .error z => .error z
  | .ok (s,r2) => match takeT r2 1000 with
   | .error z => .error z
   | .ok (t,r3) =>
    if mayO ⟨l.getD 0 0,l.getD 1 0,l.getD 2 0,s,t,l.getD 3 0,l.getD 4 0,l.getD 5 0⟩ then .ok (⟨l.getD 0 0,l.getD 1 0,l.getD 2 0,s,t,l.getD 3 0,l.getD 4 0,l.getD 5 0⟩,r3) else .error 3
def takeOA : Except Int (Ord × Bytes) → AV
 | .error z => .tup [encO ⟨0,0,0,[],[],0,0,0⟩,bytesA [],.int .i64 z]
 | .ok (o,r) => .tup [encO o,bytesA r,.int .i64 0]
theorem takeT_err' {b : Bytes} {m z : Int} (h : takeT b m = .error z) : ¬ z = 0 := by rcases takeT_err h with h|h|h <;> omega
theorem take12_spec (b : Bytes) (hb : b.length ≤ 1000000) : ASpec Tryz.prog 116 [bytesA b] (takeOA (takeO b)) := by
 cases hq : seqZ 6 b with
 | error z =>
  obtain ⟨cs',hrd⟩ := rdI_seqE [0,1,2,5,6,7] [.int .i64 0,.int .i64 0,.int .i64 0,.str [],.str [],.int .i64 0,.int .i64 0,.int .i64 0] b z hq
  have hz := seqZ_err _ _ _ hq
  have e : takeO b = .error z := by rw [takeO,hq]
  rw [e]
  refine ⟨⟨_,Tryz.func116,by kernel_rfl,rfl⟩,Sg Tryz.func116 rfl fun c0 hc0 => ?_⟩;simp only [go_sem,bytesA,Nat.reduceAdd,Nat.reduceLeDiff,Nat.reduceMul,Nat.reduceBEq,Nat.reduceLT,Nat.reduceSub]
  refine Ops.call .free rfl rfl ⟨_,Tryz.func118,by kernel_rfl,rfl⟩ (rints_call [0,1,2,5,6,7] (by decide) (by decide) _ rfl _ rfl b _ rfl rfl _ ?_)
  rw [hrd]
  refine Og Tryz.func116 ?_;simp only [go_sem,bytesA,Nat.reduceAdd]
  refine Ops.call .free rfl rfl ⟨_,Tryz.func119,by kernel_rfl,rfl⟩ ?_
  refine ACall.of Tryz.func119 rfl fun c1 hc1 => ?_;simp only [Tryz.ntmps119,Nat.reduceAdd,Y3];refine Rg Tryz.func119 ?_;simp only [go_sem,hz,↓alt_f,Nat.reduceAdd,Nat.reduceSub]
  refine Og Tryz.func116 ?_;simp only [go_sem,Nat.reduceAdd]
  refine Ops.call .free rfl rfl ⟨_,Tryz.func119,by kernel_rfl,rfl⟩ ?_
  refine ACall.of Tryz.func119 rfl fun c1 hc1 => ?_;simp only [Tryz.ntmps119,Nat.reduceAdd,Y3];refine Rg Tryz.func119 ?_;simp only [go_sem,hz,↓alt_f,Nat.reduceAdd,Nat.reduceSub]
  refine Og Tryz.func116 ?_;simp only [go_sem,hz,↓alt_t,Nat.reduceAdd]
  refine ⟨rfl,rfl,?_⟩
  simp only [takeOA,encO,bytesA,Ye]
  (repeat' first|exact .refl _|apply LeR.tup|apply Le.agg|constructor)
 | ok p =>
  obtain ⟨l,r⟩ := p
  have hrd := rdI_seq [0,1,2,5,6,7] [.int .i64 0,.int .i64 0,.int .i64 0,.str [],.str [],.int .i64 0,.int .i64 0,.int .i64 0] b l r hq
  have hl := seqZ_len _ _ _ _ hq
  have hr := seqZ_rest _ _ _ _ hq
  obtain ⟨n0,n1,n2,n3,n4,n5,rfl⟩ : ∃ n0 n1 n2 n3 n4 n5,l = [n0,n1,n2,n3,n4,n5] := by
   match l,hl with
   | [n0,n1,n2,n3,n4,n5],_ => exact ⟨n0,n1,n2,n3,n4,n5,rfl⟩
  simp only [go_sem,layAll,Nat.reduceAdd] at hrd
  have hs1 := taketext_spec r 100 (by omega) (by omega)
  refine ⟨⟨_,Tryz.func116,by kernel_rfl,rfl⟩,Sg Tryz.func116 rfl fun c0 hc0 => ?_⟩;simp only [go_sem,bytesA,Nat.reduceAdd,Nat.reduceLeDiff,Nat.reduceMul,Nat.reduceBEq,Nat.reduceLT,Nat.reduceSub]
  refine Ops.call .free rfl rfl ⟨_,Tryz.func118,by kernel_rfl,rfl⟩ (rints_call [0,1,2,5,6,7] (by decide) (by decide) _ rfl _ rfl b _ rfl rfl _ ?_)
  rw [hrd]
  refine Og Tryz.func116 ?_;simp only [go_sem,bytesA,Nat.reduceAdd]
  refine Ops.call .free rfl rfl ⟨_,Tryz.func119,by kernel_rfl,rfl⟩ ?_
  refine ACall.of Tryz.func119 rfl fun c1 hc1 => ?_;simp only [Tryz.ntmps119,Nat.reduceAdd,Y3];refine Rg Tryz.func119 ?_;simp only [go_sem,↓alt_t,Nat.reduceAdd,Nat.reduceLeDiff,Nat.reduceSub]
  cases ht : takeT r 100 with
  | error z =>
   have e : takeO b = .error z := by rw [takeO,hq];simp only [ht]
   have hz := takeT_err' ht
   rw [e]
   rw [ht] at hs1
   refine Ops.pure .free rfl rfl (hs1) (by simp only [go_sem,bytesA];(repeat' first|exact .refl _|apply LeR.tup|apply Le.agg|constructor)) rfl rfl ?_
   refine Og Tryz.func119 ?_;simp only [go_sem,takeTA,bytesA,Nat.reduceAdd,Nat.reduceLeDiff]
   refine Og Tryz.func116 ?_;simp only [go_sem,Nat.reduceAdd]
   refine Ops.call .free rfl rfl ⟨_,Tryz.func119,by kernel_rfl,rfl⟩ ?_
   refine ACall.of Tryz.func119 rfl fun c1 hc1 => ?_;simp only [Tryz.ntmps119,Nat.reduceAdd,Y3];refine Rg Tryz.func119 ?_;simp only [go_sem,hz,↓alt_f,Nat.reduceAdd,Nat.reduceSub]
   refine Og Tryz.func116 ?_;simp only [go_sem,hz,↓alt_t,Nat.reduceAdd]
   refine ⟨rfl,rfl,?_⟩
   simp only [takeOA,encO,bytesA,Ye]
   (repeat' first|exact .refl _|apply LeR.tup|apply Le.agg|constructor)
  | ok p =>
   obtain ⟨t,r2⟩ := p
   rw [ht] at hs1
   have h2 := takeT_shorter ht
   have hs2 := taketext_spec r2 1000 (by omega) (by omega)
   refine Ops.pure .free rfl rfl (hs1) (by simp only [go_sem,bytesA];(repeat' first|exact .refl _|apply LeR.tup|apply Le.agg|constructor)) rfl rfl ?_
   refine Og Tryz.func119 ?_;simp only [go_sem,takeTA,bytesA,Nat.reduceAdd,Nat.reduceLeDiff]
   refine Og Tryz.func116 ?_;simp only [go_sem,Nat.reduceAdd]
   refine Ops.call .free rfl rfl ⟨_,Tryz.func119,by kernel_rfl,rfl⟩ ?_
   refine ACall.of Tryz.func119 rfl fun c1 hc1 => ?_;simp only [Tryz.ntmps119,Nat.reduceAdd,Y3];refine Rg Tryz.func119 ?_;simp only [go_sem,↓alt_t,Nat.reduceAdd,Nat.reduceLeDiff,Nat.reduceSub]
   cases hu : takeT r2 1000 with
   | error z =>
    have e : takeO b = .error z := by rw [takeO,hq];simp only [ht,hu]
    have hz := takeT_err' hu
    rw [e]
    rw [hu] at hs2
    refine Ops.pure .free rfl rfl (hs2) (by simp only [go_sem,bytesA];(repeat' first|exact .refl _|apply LeR.tup|apply Le.agg|constructor)) rfl rfl ?_
    refine Og Tryz.func119 ?_;simp only [go_sem,takeTA,bytesA,Nat.reduceAdd,Nat.reduceLeDiff]
    refine Og Tryz.func116 ?_;simp only [go_sem,hz,↓alt_t,Nat.reduceAdd]
    refine ⟨rfl,rfl,?_⟩
    simp only [takeOA,encO,bytesA,Ye]
    (repeat' first|exact .refl _|apply LeR.tup|apply Le.agg|constructor)
   | ok p =>
    obtain ⟨u,r3⟩ := p
    rw [hu] at hs2
    refine Ops.pure .free rfl rfl (hs2) (by simp only [go_sem,bytesA];(repeat' first|exact .refl _|apply LeR.tup|apply Le.agg|constructor)) rfl rfl ?_
    refine Og Tryz.func119 ?_;simp only [go_sem,takeTA,bytesA,Nat.reduceAdd,Nat.reduceLeDiff]
    refine Og Tryz.func116 ?_;simp only [go_sem,↓alt_f,Nat.reduceAdd]
    have hm := may_spec ⟨n0,n1,n2,t,u,n3,n4,n5⟩
    cases hmm : mayO ⟨n0,n1,n2,t,u,n3,n4,n5⟩ with
    | true =>
     have e : takeO b = .ok (⟨n0,n1,n2,t,u,n3,n4,n5⟩,r3) := by rw [takeO,hq];simp [ht,hu,hmm]
     rw [e]
     rw [hmm] at hm
     refine Ops.pure .free rfl rfl (hm) (by simp only [go_sem,encO];(repeat' first|exact .refl _|apply LeR.tup|apply Le.agg|constructor)) rfl rfl ?_
     refine Og Tryz.func116 ?_;simp only [go_sem,↓alt_f,Nat.reduceAdd,Nat.reduceLeDiff]
     refine ⟨rfl,rfl,?_⟩
     simp only [takeOA,encO,bytesA]
     (repeat' first|exact .refl _|apply LeR.tup|apply Le.agg|constructor)
    | false =>
     have e : takeO b = .error 3 := by rw [takeO,hq];simp [ht,hu,hmm]
     rw [e]
     rw [hmm] at hm
     refine Ops.pure .free rfl rfl (hm) (by simp only [go_sem,encO];(repeat' first|exact .refl _|apply LeR.tup|apply Le.agg|constructor)) rfl rfl ?_
     refine Og Tryz.func116 ?_;simp only [go_sem,↓alt_t,Nat.reduceAdd]
     simp only [takeOA,encO,bytesA,Ye]
     (repeat' first|exact .refl _|apply LeR.tup|apply Le.agg|constructor)
def putO (o : Ord) : Bytes := encZs [o.a,o.b,o.kind,o.x,o.y,o.z] ++ encT o.s ++ encT o.t
def smO (o : Ord) : Prop := I64 o.a ∧ I64 o.b ∧ I64 o.kind ∧ I64 o.x ∧ I64 o.y ∧ I64 o.z ∧ o.s.length ≤ 100000 ∧ o.t.length ≤ 100000
theorem put12_spec (b : Bytes) (o : Ord) (hb : b.length ≤ 100000) (ho : smO o) : ASpec Tryz.prog 117 [bytesA b,encO o] (bytesA (b ++ putO o)) := by
 obtain ⟨h1,h2,h3,h4,h5,h6,h7,h8⟩ := ho
 have hi := ints_spec b [o.a,o.b,o.kind,o.x,o.y,o.z] (by omega) (by simp) (by simp;exact ⟨h1,h2,h3,h4,h5,h6⟩)
 have hl := encZs_le [o.a,o.b,o.kind,o.x,o.y,o.z] (by simp;exact ⟨h1,h2,h3,h4,h5,h6⟩)
 simp only [Ya,Y9,Nat.reduceAdd,Nat.reduceMul] at hl
 have ht := encT_le o.s (by omega)
 refine ⟨⟨_,Tryz.func117,by kernel_rfl,rfl⟩,Sg Tryz.func117 rfl fun c0 hc0 => ?_⟩;simp only [go_sem,encO,bytesA,Nat.reduceAdd,Nat.reduceLeDiff,Nat.reduceMul,Nat.reduceBEq,Nat.reduceLT,Nat.reduceSub]
 refine ⟨rfl,?_⟩
 refine DOps.pure rfl .free rfl rfl (hi) (by simp only [go_sem,bytesA,intC];(repeat' first|exact .refl _|apply LeR.tup|apply Le.agg|constructor)) rfl rfl ?_
 refine Dg Tryz.func117 rfl ?_;simp only [go_sem,bytesA,Nat.reduceAdd,Nat.reduceLeDiff]
 have hs1 := (text_spec (b ++ encZs [o.a,o.b,o.kind,o.x,o.y,o.z]) o.s (by rw [List.length_append];omega) (by omega)).spec
 refine DOps.pure rfl .free rfl rfl (hs1) (by simp only [go_sem,bytesA];(repeat' first|exact .refl _|apply LeR.tup|apply Le.agg|constructor)) rfl rfl ?_
 refine Dg Tryz.func117 rfl ?_;simp only [go_sem,Nat.reduceAdd,Nat.reduceLeDiff]
 have hs2 := (text_spec (b ++ encZs [o.a,o.b,o.kind,o.x,o.y,o.z] ++ encT o.s) o.t (by simp only [List.length_append];omega) (by omega)).spec
 refine DOps.pure rfl .free rfl rfl (hs2) (by simp only [go_sem,bytesA];(repeat' first|exact .refl _|apply LeR.tup|apply Le.agg|constructor)) rfl rfl ?_
 refine Dg Tryz.func117 rfl ?_;simp only [go_sem,Nat.reduceAdd]
 refine ⟨rfl,?_⟩
 simp only [putO,List.append_assoc]
 (repeat' first|exact .refl _|apply LeR.tup|apply Le.agg|constructor)
def textC (s : Bytes) : List AV := [.str s]
def textsA (l : List Bytes) : AV := .sl 1 (l.map textC) .no
theorem list_spec (b : Bytes) (l : List Bytes) (hb : b.length + tot l ≤ 900000) : ASpec Tryz.prog 125 [bytesA b,textsA l] (bytesA (b ++ encL l)) := by
 have hll := tot_length l
 have hn := encN_le l.length (by omega)
 have hw : IntKind.u64.wrap (l.length : Int) = l.length := wrap_nat _ (by omega)
 refine ⟨⟨_,Tryz.func125,by kernel_rfl,rfl⟩,Sg Tryz.func125 rfl fun c0 hc0 => ?_⟩;simp only [go_sem,bytesA,textsA,hw,Nat.reduceAdd,Nat.reduceSub]
 refine Ops.pure .free rfl rfl ((put_spec b l.length (by omega) (by omega)).spec) (by simp only [go_sem,bytesA];(repeat' first|exact .refl _|apply LeR.tup|apply Le.agg|constructor)) rfl rfl ?_
 refine Og Tryz.func125 ?_;simp only [go_sem]
 refine Run.loopV (α := Nat) (fun k => k ≤ l.length) (fun k => [(5,bytesA (b ++ encN l.length ++ encRow (l.take k))),(15,.int .i64 k)]) 0 (fun _ => []) (fun k => l.length - k) 0 (Nat.zero_le _) ?_ ?_
 ·simp only [go_sem,writes,junks,puts,hputs,List.filterMap_cons,List.filterMap_nil,bytesA,encRow,List.flatten_nil]
  (refine Weak.of (by simp [hc0]) ?_ ?_ <;> (repeat' first|exact .refl _|exact .junk _|exact .nil|exact .nil _|exact .tok _ _ _|rfl|apply WkT.cons|apply WkH.cons|apply LeB.same|apply LeB.box|apply Le1L.cons|apply Le.agg|apply Le.one))
 ·intro k hI ih
  simp only [writes,junks,puts,hputs,List.filterMap_cons,List.filterMap_nil,Y6,Y7,Yk,Y5,Y3,Yd] at ih ⊢
  by_cases hk : k < l.length
  ·obtain ⟨x,hx⟩ : ∃ x,l[k]? = some x := ⟨_,List.getElem?_eq_getElem hk⟩
   have hkk : (k : Int) < l.length := by omega
   have hxt := tot_mem hx
   have hle := encRow_le (l.take k) (by have := tot_take l k;omega)
   have htk := tot_take l k
   have hsn := encRow_succ l k x hx
   refine Rg Tryz.func125 ?_;simp only [go_sem,hx,hkk,textC,List.getElem?_map,↓alt_t,Nat.reduceAdd,Nat.reduceLT]
   refine ⟨by omega,?_⟩
   refine Ops.own .free rfl rfl (text_spec (b ++ encN l.length ++ encRow (l.take k)) x (by simp only [List.length_append];omega) (by omega)) (by simp only [go_sem,bytesA];(repeat' first|exact .refl _|apply LeR.tup|apply Le.agg|constructor)) rfl ?_
   refine Og Tryz.func125 ?_;simp only [go_sem,bytesA]
   refine ⟨by unfold I64;omega,ih (k + 1) _ (by omega) (by omega) ?_⟩
   rw [hsn,← List.append_assoc]
   simp only [Int.natCast_add,Int.natCast_one,bytesA]
   (refine Weak.of (by simp [hc0]) ?_ ?_ <;> (repeat' first|exact .refl _|exact .junk _|exact .nil|exact .nil _|exact .tok _ _ _|rfl|apply WkT.cons|apply WkH.cons|apply LeB.same|apply LeB.box|apply Le1L.cons|apply Le.agg|apply Le.one))
  ·obtain rfl : k = l.length := by omega
   have hkk : ¬ (l.length : Int) < l.length := by omega
   refine Rg Tryz.func125 ?_;simp only [go_sem,hkk,bytesA,↓alt_f]
   rw [List.take_length,encL_row,← List.append_assoc]
   (repeat' first|exact .refl _|apply LeR.tup|apply Le.agg|constructor)
structure Rpl where
 a : Int
 b : Int
 e : Int
 s : Bytes
 x : Int
 l : List Bytes
deriving DecidableEq
def encR (r : Rpl) : AV := .agg [.int .i64 r.a,.int .i64 r.b,.int .i64 r.e,.str r.s,.int .i64 r.x,textsA r.l]
def putR (r : Rpl) : Bytes := encZs [r.a,r.b,r.e,r.x] ++ encT r.s ++ encL r.l
def smR (r : Rpl) : Prop := I64 r.a ∧ I64 r.b ∧ I64 r.e ∧ I64 r.x ∧ r.s.length ≤ 100000 ∧ tot r.l ≤ 100000
theorem putreply_spec (b : Bytes) (r : Rpl) (hb : b.length ≤ 100000) (ho : smR r) : ASpec Tryz.prog 123 [bytesA b,encR r] (bytesA (b ++ putR r)) := by
 obtain ⟨h1,h2,h3,h4,h7,h8⟩ := ho
 have hi := ints_spec b [r.a,r.b,r.e,r.x] (by omega) (by simp) (by simp;exact ⟨h1,h2,h3,h4⟩)
 have hl := encZs_le [r.a,r.b,r.e,r.x] (by simp;exact ⟨h1,h2,h3,h4⟩)
 simp only [Ya,Y9,Nat.reduceAdd,Nat.reduceMul] at hl
 have ht := encT_le r.s (by omega)
 refine ⟨⟨_,Tryz.func123,by kernel_rfl,rfl⟩,Sg Tryz.func123 rfl fun c0 hc0 => ?_⟩;simp only [go_sem,encR,textsA,bytesA,Nat.reduceAdd,Nat.reduceLeDiff,Nat.reduceMul,Nat.reduceBEq,Nat.reduceLT,Nat.reduceSub]
 refine ⟨rfl,?_⟩
 refine DOps.pure rfl .free rfl rfl (hi) (by simp only [go_sem,bytesA,intC];(repeat' first|exact .refl _|apply LeR.tup|apply Le.agg|constructor)) rfl rfl ?_
 refine Dg Tryz.func123 rfl ?_;simp only [go_sem,bytesA,Nat.reduceAdd,Nat.reduceLeDiff]
 have hs1 := (text_spec (b ++ encZs [r.a,r.b,r.e,r.x]) r.s (by rw [List.length_append];omega) (by omega)).spec
 refine DOps.pure rfl .free rfl rfl (hs1) (by simp only [go_sem,bytesA];(repeat' first|exact .refl _|apply LeR.tup|apply Le.agg|constructor)) rfl rfl ?_
 refine Dg Tryz.func123 rfl ?_;simp only [go_sem,Nat.reduceAdd]
 have hs2 := list_spec (b ++ encZs [r.a,r.b,r.e,r.x] ++ encT r.s) r.l (by simp only [List.length_append];omega)
 refine DOps.pure rfl .free rfl rfl (hs2) (by simp only [go_sem,bytesA,textsA];(repeat' first|exact .refl _|apply LeR.tup|apply Le.agg|constructor)) rfl rfl ?_
 refine Dg Tryz.func123 rfl ?_;simp only [go_sem,bytesA,Nat.reduceAdd]
 refine ⟨rfl,?_⟩
 simp only [putR,List.append_assoc]
 (repeat' first|exact .refl _|apply LeR.tup|apply Le.agg|constructor)
def takeLA : Except Int (List Bytes × Bytes) → AV
 | .error z => .tup [textsA [],bytesA [],.int .i64 z]
 | .ok (s,r) => .tup [textsA s,bytesA r,.int .i64 0]
theorem takelist_spec (b : Bytes) (many most : Int) (hb : b.length ≤ 1000000) (hma : 0 ≤ many ∧ many ≤ 1000000) (hm : 0 ≤ most ∧ most ≤ 1000000) : ASpec Tryz.prog 124 [bytesA b,.int .i64 many,.int .i64 most] (takeLA (takeL b many most)) := by
 have hsp := take_spec b
 cases ht : takeN b with
 | error z =>
  rw [ht] at hsp
  have hz := takeN_err' ht
  refine ⟨⟨_,Tryz.func124,by kernel_rfl,rfl⟩,Sg Tryz.func124 rfl fun c0 hc0 => ?_⟩;simp only [go_sem,bytesA,Nat.reduceAdd,Nat.reduceSub]
  refine Ops.pure .free rfl rfl (hsp) (by simp only [go_sem,bytesA];(repeat' first|exact .refl _|apply LeR.tup|apply Le.agg|constructor)) rfl rfl ?_
  refine Og Tryz.func124 ?_;simp only [go_sem,takeA,bytesA,hz,↓alt_t]
  rw [takeL,ht]
  simp only [takeLA,textsA,bytesA,Ye]
  (repeat' first|exact .refl _|apply LeR.tup|apply Le.agg|constructor)
 | ok p =>
  obtain ⟨n,r⟩ := p
  obtain ⟨hn,hl⟩ := taken_small ht
  rw [ht] at hsp
  have hw : IntKind.u64.wrap many = many := by
   obtain ⟨m,rfl⟩ := Int.eq_ofNat_of_zero_le hma.1
   exact wrap_nat m (by omega)
  have hmx : max many 0 = many := by omega
  by_cases h1 : many < (n : Int)
  ·refine ⟨⟨_,Tryz.func124,by kernel_rfl,rfl⟩,Sg Tryz.func124 rfl fun c0 hc0 => ?_⟩;simp only [go_sem,bytesA,Nat.reduceAdd,Nat.reduceSub]
   refine Ops.pure .free rfl rfl (hsp) (by simp only [go_sem,bytesA];(repeat' first|exact .refl _|apply LeR.tup|apply Le.agg|constructor)) rfl rfl ?_
   refine Og Tryz.func124 ?_;simp only [go_sem,takeA,bytesA,hw,hmx,h1,↓alt_t,↓alt_f]
   rw [takeL,ht]
   simp only [if_pos (show (max many 0).toNat < n by omega),takeLA,textsA,bytesA,Ye]
   (repeat' first|exact .refl _|apply LeR.tup|apply Le.agg|constructor)
  ·have e : takeL b many most = takeTs most n r := by
    rw [takeL,ht]
    simp only [if_neg (show ¬ (max many 0).toNat < n by omega)]
   rw [e]
   refine ⟨⟨_,Tryz.func124,by kernel_rfl,rfl⟩,Sg Tryz.func124 rfl fun c0 hc0 => ?_⟩;simp only [go_sem,bytesA,Nat.reduceAdd,Nat.reduceSub]
   refine Ops.pure .free rfl rfl (hsp) (by simp only [go_sem,bytesA];(repeat' first|exact .refl _|apply LeR.tup|apply Le.agg|constructor)) rfl rfl ?_
   refine Og Tryz.func124 ?_;simp only [go_sem,takeA,bytesA,hw,hmx,h1,↓alt_f]
   refine Run.weak (Weak.own 12 1 rfl) ?_
   simp only [Y6,Y7,Y9,Y3]
   refine Run.loopV (α := Nat × List Bytes × Bytes) (fun x => x.1 ≤ n ∧ x.2.1.length = x.1 ∧ x.2.2.length ≤ r.length ∧ takeTs most n r = glue x.2.1 (takeTs most (n - x.1) x.2.2)) (fun x => [(10,bytesA x.2.2),(12,.sl 1 (x.2.1.map textC) (.own 0)),(33,.int .u64 x.1)]) 1 (fun x => [(0,.tok 1 x.2.1.length)]) (fun x => n - x.1) (0,[],r) ⟨Nat.zero_le _,rfl,Nat.le_refl _,by simp only [Nat.sub_zero];cases takeTs most n r <;> rfl⟩ ?_ ?_
   ·simp only [go_sem,writes,junks,puts,hputs,List.filterMap_cons,List.filterMap_nil,bytesA]
    (refine Weak.of (by simp [hc0]) ?_ ?_ <;> (repeat' first|exact .refl _|exact .junk _|exact .nil|exact .nil _|exact .tok _ _ _|rfl|apply WkT.cons|apply WkH.cons|apply LeB.same|apply LeB.box|apply Le1L.cons|apply Le.agg|apply Le.one))
   ·rintro ⟨k,l,y⟩ ⟨hI,hll,hyl,hrd⟩ ih
    simp only [writes,junks,puts,hputs,List.filterMap_cons,List.filterMap_nil,Y6,Y7,Yg,Yk,Y5,Y3,Yd] at hI hll hyl hrd ih ⊢
    by_cases hk : k < n
    ·have hkk : (k : Int) < n := by omega
     have hs := taketext_spec y most (by omega) hm
     obtain ⟨m,hm⟩ : ∃ m,n - k = m + 1 := ⟨n - k - 1,by omega⟩
     rw [hm] at hrd
     cases hty : takeT y most with
     | error z =>
      rw [takeTs_err hty] at hrd
      rw [hty] at hs
      have hz := takeT_err' hty
      refine Rg Tryz.func124 ?_;simp only [go_sem,hkk,bytesA,↓alt_t,Nat.reduceAdd]
      refine Ops.pure .free rfl rfl (hs) (by simp only [go_sem,bytesA];(repeat' first|exact .refl _|apply LeR.tup|apply Le.agg|constructor)) rfl rfl ?_
      refine Og Tryz.func124 ?_;simp only [go_sem,takeTA,bytesA,hz,↓alt_t]
      rw [hrd]
      simp only [takeLA,textsA,bytesA,Ye]
      (repeat' first|exact .refl _|apply LeR.tup|apply Le.agg|constructor)
     | ok p =>
      obtain ⟨s,y2⟩ := p
      rw [takeTs_ok hty] at hrd
      rw [hty] at hs
      have hsh := (takeT_shorter hty).1
      refine Rg Tryz.func124 ?_;simp only [go_sem,hkk,bytesA,↓alt_t,Nat.reduceAdd]
      refine Ops.pure .free rfl rfl (hs) (by simp only [go_sem,bytesA];(repeat' first|exact .refl _|apply LeR.tup|apply Le.agg|constructor)) rfl rfl ?_
      have hwk : IntKind.u64.wrap ((k : Int) + 1) = (k : Int) + 1 := wrap_nat (k + 1) (by omega)
      refine Og Tryz.func124 ?_;simp only [go_sem,takeTA,bytesA,hwk,↓alt_f,Nat.reduceLeDiff,Nat.reduceMul,Nat.reduceBEq,Nat.reduceLT,reduceCtorEq]
      refine ⟨by omega,ih (k + 1,l ++ [s],y2) _ ⟨by dsimp only;omega,by simp;omega,by dsimp only;omega,?_⟩ (by dsimp only;omega) ?_⟩
      ·rw [hrd]
       show _ = glue (l ++ [s]) (takeTs most (n - (k + 1)) y2)
       rw [show n - (k + 1) = m by omega]
      ·simp only [Int.natCast_add,Int.natCast_one,Ya,Y9,Yf,Ye,Yp,bytesA,List.map_append,textC,List.length_append]
       (refine Weak.of (by simp [hc0]) ?_ ?_ <;> (repeat' first|exact .refl _|exact .junk _|exact .nil|exact .nil _|exact .tok _ _ _|rfl|apply WkT.cons|apply WkH.cons|apply LeB.same|apply LeB.box|apply Le1L.cons|apply Le.agg|apply Le.one))
    ·obtain rfl : k = n := by omega
     have hkk : ¬ (k : Int) < k := by omega
     rw [Nat.sub_self] at hrd
     refine Rg Tryz.func124 ?_;simp only [go_sem,hkk,bytesA,↓alt_f]
     rw [hrd]
     simp only [takeTs,glue,Yd,takeLA,textsA,bytesA]
     (repeat' first|exact .refl _|apply LeR.tup|apply Le.agg|constructor)
theorem mul_acc (n : Nat) (c : UInt8) (hn : n < 72057594037927936) : IntKind.u64.wrap (IntKind.u64.wrap (256 * (n : Int)) + IntKind.u64.wrap (c.toNat : Int)) = (n * 256 + c.toNat : Nat) := by
 have hc := c.toNat_lt
 have e1 : IntKind.u64.wrap (256 * (n : Int)) = ((n * 256 : Nat) : Int) := by rw [← wrap_nat (n * 256) (by omega)];congr 1;omega
 have e2 : IntKind.u64.wrap (c.toNat : Int) = (c.toNat : Int) := wrap_nat _ (by omega)
 rw [e1,e2,← wrap_nat (n * 256 + c.toNat) (by omega)]
 simp
theorem rtake_nil : ASpec Tryz.prog 77 [bytesA []] (takeA (.error 2)) := by
 refine ⟨⟨_,Tryz.func77,by kernel_rfl,rfl⟩,Sg Tryz.func77 rfl fun c0 hc0 => ?_⟩;simp only [go_sem,bytesA,takeA,↓alt_t,Nat.reduceAdd,Nat.reduceSub]
 (repeat' first|exact .refl _|apply LeR.tup|apply Le.agg|constructor)
theorem rtake_form (k : UInt8) (r : Bytes) (h : (8 : Int) < k.toNat) : ASpec Tryz.prog 77 [bytesA (k :: r)] (takeA (.error 3)) := by
 refine ⟨⟨_,Tryz.func77,by kernel_rfl,rfl⟩,Sg Tryz.func77 rfl fun c0 hc0 => ?_⟩;simp only [go_sem,bytesA,takeA,byteC,wrap_u8,h,succ_ne,↓alt_t,↓alt_f,↓alts_t,↓gone_ft,Int.reduceLE,Nat.reduceLT,Nat.reduceAdd,Nat.reduceSub]
 (and_intros <;> try first|rfl|omega|(unfold I64;omega))
 (repeat' first|exact .refl _|apply LeR.tup|apply Le.agg|constructor)
theorem rtake_short0 (k : UInt8) (h : ¬ (8 : Int) < k.toNat) (h0 : (0 : Int) < k.toNat) : ASpec Tryz.prog 77 [bytesA [k]] (takeA (.error 2)) := by
 have h1 : (1 : Int) < 1 + k.toNat := by omega
 refine ⟨⟨_,Tryz.func77,by kernel_rfl,rfl⟩,Sg Tryz.func77 rfl fun c0 hc0 => ?_⟩;simp only [go_sem,bytesA,takeA,byteC,wrap_u8,h,h0,h1,Int.natCast_one,Int.lt_irrefl,↓alt_t,↓alt_f,↓alts_t,↓alts_f,↓gone_tt,↓gone_tf,↓gone_ff,Int.reduceEq,Int.reduceLT,Int.reduceLE,Nat.reduceLT,Nat.reduceAdd,Nat.reduceSub]
 (and_intros <;> try first|rfl|omega|(unfold I64;omega))
 (repeat' first|exact .refl _|apply LeR.tup|apply Le.agg|constructor)
theorem one_lt2 (n : Nat) : ((1 : Int) < ((n + 1 + 1 : Nat) : Int)) = True := by simp;omega
theorem rtake_zero (k c : UInt8) (r : Bytes) (h : ¬ (8 : Int) < k.toNat) (h0 : (0 : Int) < k.toNat) (hc : (c.toNat : Int) = 0) : ASpec Tryz.prog 77 [bytesA (k :: c :: r)] (takeA (.error 3)) := by
 refine ⟨⟨_,Tryz.func77,by kernel_rfl,rfl⟩,Sg Tryz.func77 rfl fun c0 hc0 => ?_⟩;simp only [go_sem,bytesA,takeA,byteC,wrap_u8,h,h0,hc,one_lt2,succ_ne,succ_pos',Int.reduceToNat,↓alt_t,↓alt_f,↓alts_t,↓alts_f,↓gone_tt,↓gone_ff,Int.reduceLE,Nat.reduceLT,Nat.reduceAdd,Nat.reduceSub]
 (and_intros <;> try first|rfl|omega|(unfold I64;omega))
 (repeat' first|exact .refl _|apply LeR.tup|apply Le.agg|constructor)
theorem rtake_short (k c : UInt8) (r : Bytes) (h : ¬ (8 : Int) < k.toNat) (h0 : (0 : Int) < k.toNat) (hc : ¬ (c.toNat : Int) = 0) (hl : ((r.length + 1 + 1 : Nat) : Int) < 1 + k.toNat) : ASpec Tryz.prog 77 [bytesA (k :: c :: r)] (takeA (.error 2)) := by
 refine ⟨⟨_,Tryz.func77,by kernel_rfl,rfl⟩,Sg Tryz.func77 rfl fun c0 hc0 => ?_⟩;simp only [go_sem,bytesA,takeA,byteC,wrap_u8,h,h0,hc,hl,one_lt2,succ_ne,succ_pos',Int.reduceToNat,↓alt_t,↓alt_f,↓alts_t,↓alts_f,↓gone_tt,↓gone_ff,Int.reduceLE,Nat.reduceLT,Nat.reduceAdd,Nat.reduceSub]
 (and_intros <;> try first|rfl|omega|(unfold I64;omega))
 (repeat' first|exact .refl _|apply LeR.tup|apply Le.agg|constructor)
theorem rtake_none (k : UInt8) (r : Bytes) (h0 : (k.toNat : Int) = 0) : ASpec Tryz.prog 77 [bytesA (k :: r)] (takeA (.ok (0,r))) := by
 have hl : ¬ ((r.length + 1 : Nat) : Int) < 1 := by omega
 refine ⟨⟨_,Tryz.func77,by kernel_rfl,rfl⟩,Sg Tryz.func77 rfl fun c0 hc0 => ?_⟩;simp only [go_sem,bytesA,takeA,byteC,h0,hl,Int.add_zero,show IntKind.i64.wrap 0 = 0 from rfl,succ_ne,succ_pos',↓alt_f,↓alts_f,↓gone_tf,↓gone_ff,Int.reduceLT,Int.reduceLE,Nat.reduceLT,Nat.reduceAdd,Nat.reduceSub]
 (and_intros <;> try first|rfl|omega|(unfold I64;omega))
 refine Run.unloop ?_
 refine Rg Tryz.func77 ?_;simp only [go_sem,Int.add_zero,Int.reduceToNat,↓alt_f,Int.reduceLE]
 (and_intros <;> try first|rfl|omega|(unfold I64;omega))
 (repeat' first|exact .refl _|apply LeR.tup|apply Le.agg|constructor)
theorem rtake_some (k c : UInt8) (r : Bytes) (h : ¬ (8 : Int) < k.toNat) (h0 : (0 : Int) < k.toNat) (hc : ¬ (c.toNat : Int) = 0) (hl : ¬ ((r.length + 1 + 1 : Nat) : Int) < 1 + k.toNat) : ASpec Tryz.prog 77 [bytesA (k :: c :: r)] (takeA (.ok (fromBE ((c :: r).take k.toNat),(c :: r).drop k.toNat))) := by
 refine ⟨⟨_,Tryz.func77,by kernel_rfl,rfl⟩,Sg Tryz.func77 rfl fun c0 hc0 => ?_⟩;simp only [go_sem,bytesA,takeA,byteC,wrap_u8,h,h0,hc,hl,one_lt2,succ_ne,succ_pos',Int.reduceToNat,↓alt_f,↓alts_t,↓alts_f,↓gone_tt,↓gone_ff,Int.reduceLE,Nat.reduceLT,Nat.reduceAdd,Nat.reduceSub]
 (and_intros <;> try first|rfl|omega|(unfold I64;omega))
 refine Run.loopV (α := Nat) (fun j => j ≤ k.toNat) (fun j => [(6,.int .u64 (fromBE ((c :: r).take j) : Nat)),(7,.int .i64 ((j : Int) + 1))]) 0 (fun _ => []) (fun j => k.toNat - j) 0 (Nat.zero_le _) ?_ ?_
 ·simp only [go_sem,writes,junks,puts,hputs,List.filterMap_cons,List.filterMap_nil,Int.natCast_add,Int.natCast_one]
  (refine Weak.of (by simp [hc0]) ?_ ?_ <;> (repeat' first|exact .refl _|exact .junk _|exact .nil|exact .nil _|exact .tok _ _ _|rfl|apply WkT.cons|apply WkH.cons|apply LeB.same|apply LeB.box|apply Le1L.cons|apply Le.agg|apply Le.one))
 ·intro j hj ih
  simp only [writes,junks,puts,hputs,List.filterMap_cons,List.filterMap_nil,Int.natCast_add,Int.natCast_one,Y6,Y7,Yk,Y5,Y3,Yd] at ih ⊢
  have hjn : ((j : Int) + 1).toNat = j + 1 := by omega
  by_cases hjk : j < k.toNat
  ·have hjr : j < (c :: r).length := by simp;omega
   have hg : (c :: r)[j]? = some ((c :: r)[j]) := List.getElem?_eq_getElem hjr
   have hsn : fromBE ((c :: r).take (j + 1)) = fromBE ((c :: r).take j) * 256 + ((c :: r)[j]).toNat := by
    rw [List.take_add_one,hg,← fromBE_snoc];rfl
   have hF := fromBE_lt ((c :: r).take j)
   have hFl : ((c :: r).take j).length = j := by rw [List.length_take];omega
   rw [hFl] at hF
   have hpow : 256 ^ j ≤ 256 ^ 7 := Nat.pow_le_pow_right (by omega) (by omega)
   have hx : ([AV.int .u8 c.toNat] :: List.map byteC r)[j]? = some [.int .u8 ((c :: r)[j]).toNat] := by
    have e : ([AV.int .u8 c.toNat] :: List.map byteC r) = (c :: r).map byteC := rfl
    rw [e,List.getElem?_map,hg];rfl
   have hor := mul_acc (fromBE ((c :: r).take j)) ((c :: r)[j]) (by omega)
   rw [← hsn] at hor
   obtain ⟨G,hG⟩ : ∃ G,G = fromBE ((c :: r).take (j + 1)) := ⟨_,rfl⟩
   rw [← hG] at hor
   generalize (c :: r)[j] = x at *
   have hjj : (j : Int) + 1 ≤ k.toNat := by omega
   refine Rg Tryz.func77 ?_;simp only [go_sem,hx,hjj,hjn,hor,↓alt_t,Nat.reduceLT,reduceCtorEq]
   (and_intros <;> try first|rfl|omega|(unfold I64;omega))
   refine ih (j + 1) _ (by omega) (by omega) ?_
   rw [← hG]
   simp only [Int.natCast_add,Int.natCast_one]
   (refine Weak.of (by simp [hc0]) ?_ ?_ <;> (repeat' first|exact .refl _|exact .junk _|exact .nil|exact .nil _|exact .tok _ _ _|rfl|apply WkT.cons|apply WkH.cons|apply LeB.same|apply LeB.box|apply Le1L.cons|apply Le.agg|apply Le.one))
  ·obtain rfl : j = k.toNat := by omega
   have hjj : ¬ (k.toNat : Int) + 1 ≤ k.toNat := by omega
   have hkn : (1 + (k.toNat : Int)).toNat = k.toNat + 1 := by omega
   refine Rg Tryz.func77 ?_;simp only [go_sem,hjj,hkn,↓alt_f]
   have e : List.drop k.toNat ([AV.int .u8 c.toNat] :: List.map byteC r) = List.map byteC (List.drop k.toNat (c :: r)) := by rw [List.map_drop];rfl
   rw [e]
   (and_intros <;> try first|rfl|omega|(unfold I64;omega))
   (repeat' first|exact .refl _|apply LeR.tup|apply Le.agg|constructor)
theorem rtake_spec (b : Bytes) : ASpec Tryz.prog 77 [bytesA b] (takeA (takeN b)) := by
 match b with
 | [] => exact rtake_nil
 | k :: r =>
  by_cases h8 : (8 : Int) < k.toNat
  ·have e : takeN (k :: r) = .error 3 := by
    have q : 8 < k.toNat := by omega
    simp [takeN,q]
   rw [e]
   exact rtake_form k r h8
  ·have q : ¬ 8 < k.toNat := by omega
   by_cases h0 : (0 : Int) < k.toNat
   ·have q2 : 0 < k.toNat := by omega
    match r with
    | [] =>
     have e : takeN [k] = .error 2 := by simp [takeN,q,q2]
     rw [e]
     exact rtake_short0 k h8 h0
    | c :: r =>
     by_cases hc : (c.toNat : Int) = 0
     ·have hz : c = 0 := by apply UInt8.toNat_inj.1;simpa using hc
      have e : takeN (k :: c :: r) = .error 3 := by subst hz;simp [takeN,q2]
      rw [e]
      exact rtake_zero k c r h8 h0 hc
     ·have hz : ¬ c = 0 := by intro h;subst h;exact hc rfl
      by_cases hl : ((r.length + 1 + 1 : Nat) : Int) < 1 + k.toNat
      ·have q3 : r.length + 1 < k.toNat := by omega
       have e : takeN (k :: c :: r) = .error 2 := by simp [takeN,hz,q,q3]
       rw [e]
       exact rtake_short k c r h8 h0 hc hl
      ·have q3 : ¬ r.length + 1 < k.toNat := by omega
       have e : takeN (k :: c :: r) = .ok (fromBE ((c :: r).take k.toNat),(c :: r).drop k.toNat) := by simp [takeN,hz,q,q3]
       rw [e]
       exact rtake_some k c r h8 h0 hc hl
   ·have hk : (k.toNat : Int) = 0 := by omega
    have hk' : k.toNat = 0 := by omega
    have e : takeN (k :: r) = .ok (0,r) := by simp [takeN,hk',fromBE]
    rw [e]
    exact rtake_none k r hk
theorem rtakeint_spec (b : Bytes) : ASpec Tryz.prog 50 [bytesA b] (takeZA (takeZ b)) := by
 have hsp := rtake_spec b
 cases ht : takeN b with
 | error z =>
  rw [ht] at hsp
  have hz := takeN_err' ht
  refine ⟨⟨_,Tryz.func50,by kernel_rfl,rfl⟩,Sg Tryz.func50 rfl fun c0 hc0 => ?_⟩;simp only [go_sem,bytesA,Nat.reduceAdd,Nat.reduceSub]
  refine Ops.pure .free rfl rfl (hsp) (by simp only [go_sem,bytesA];(repeat' first|exact .refl _|apply LeR.tup|apply Le.agg|constructor)) rfl rfl ?_
  refine Og Tryz.func50 ?_;simp only [go_sem,takeA,bytesA,hz,↓alt_t]
  rw [takeZ,ht]
  simp only [takeZA]
  (repeat' first|exact .refl _|apply LeR.tup|apply Le.agg|constructor)
 | ok p =>
  obtain ⟨n,r⟩ := p
  obtain ⟨hn,_⟩ := taken_small ht
  rw [ht] at hsp
  have e1 : (n : Int).tmod 2 = ((n % 2 : Nat) : Int) := rfl
  have e2 : IntKind.u64.wrap ((n : Int).tdiv 2) = ((n / 2 : Nat) : Int) := wrap_nat (n / 2) (by omega)
  have e3 : IntKind.i64.wrap ((n / 2 : Nat) : Int) = ((n / 2 : Nat) : Int) := wrap_n64 _ (by omega)
  by_cases h : ((n % 2 : Nat) : Int) = 1
  ·have hu : unzig n = -((n / 2 : Nat) : Int) - 1 := by rw [unzig,if_pos (by omega)]
   generalize hq : n / 2 = q at *
   generalize hm : n % 2 = m at *
   refine ⟨⟨_,Tryz.func50,by kernel_rfl,rfl⟩,Sg Tryz.func50 rfl fun c0 hc0 => ?_⟩;simp only [go_sem,bytesA,Nat.reduceAdd,Nat.reduceSub]
   refine Ops.pure .free rfl rfl (hsp) (by simp only [go_sem,bytesA];(repeat' first|exact .refl _|apply LeR.tup|apply Le.agg|constructor)) rfl rfl ?_
   refine Og Tryz.func50 ?_;simp only [go_sem,takeA,bytesA,e1,e2,e3,h,↓alt_t,↓alt_f,reduceCtorEq]
   rw [takeZ,ht]
   simp only [takeZA,hu]
   (and_intros <;> try first|rfl|omega|(unfold I64;omega))
   (repeat' first|exact .refl _|apply LeR.tup|apply Le.agg|constructor)
  ·have hu : unzig n = ((n / 2 : Nat) : Int) := by rw [unzig,if_neg (by omega)]
   generalize hq : n / 2 = q at *
   generalize hm : n % 2 = m at *
   refine ⟨⟨_,Tryz.func50,by kernel_rfl,rfl⟩,Sg Tryz.func50 rfl fun c0 hc0 => ?_⟩;simp only [go_sem,bytesA,Nat.reduceAdd,Nat.reduceSub]
   refine Ops.pure .free rfl rfl (hsp) (by simp only [go_sem,bytesA];(repeat' first|exact .refl _|apply LeR.tup|apply Le.agg|constructor)) rfl rfl ?_
   refine Og Tryz.func50 ?_;simp only [go_sem,takeA,bytesA,e1,e2,e3,h,↓alt_f,reduceCtorEq]
   rw [takeZ,ht]
   simp only [takeZA,hu]
   (and_intros <;> try first|rfl|omega|(unfold I64;omega))
   (repeat' first|exact .refl _|apply LeR.tup|apply Le.agg|constructor)
theorem rtaketext_spec (b : Bytes) (most : Int) (hb : b.length ≤ 1000000) (hm : 0 ≤ most ∧ most ≤ 1000000) : ASpec Tryz.prog 78 [bytesA b,.int .i64 most] (takeTA (takeT b most)) := by
 have hsp := rtake_spec b
 cases ht : takeN b with
 | error z =>
  rw [ht] at hsp
  have hz : ¬ z = 0 := takeN_err' ht
  refine ⟨⟨_,Tryz.func78,by kernel_rfl,rfl⟩,Sg Tryz.func78 rfl fun c0 hc0 => ?_⟩;simp only [go_sem,bytesA,Nat.reduceAdd,Nat.reduceSub]
  refine Ops.pure .free rfl rfl (hsp) (by simp only [go_sem,bytesA];(repeat' first|exact .refl _|apply LeR.tup|apply Le.agg|constructor)) rfl rfl ?_
  refine Og Tryz.func78 ?_;simp only [go_sem,takeA,bytesA,hz,↓alt_t]
  rw [takeT,ht]
  simp only [takeTA]
  (repeat' first|exact .refl _|apply LeR.tup|apply Le.agg|constructor)
 | ok p =>
  obtain ⟨n,r⟩ := p
  obtain ⟨hn,hl⟩ := taken_small ht
  rw [ht] at hsp
  have hw : IntKind.u64.wrap most = most := by
   obtain ⟨m,rfl⟩ := Int.eq_ofNat_of_zero_le hm.1
   exact wrap_nat m (by omega)
  have hw2 : IntKind.u64.wrap (r.length : Int) = r.length := wrap_nat _ (by omega)
  have hmx : max most 0 = most := by omega
  by_cases h1 : most < (n : Int)
  ·refine ⟨⟨_,Tryz.func78,by kernel_rfl,rfl⟩,Sg Tryz.func78 rfl fun c0 hc0 => ?_⟩;simp only [go_sem,bytesA,Nat.reduceAdd,Nat.reduceSub]
   refine Ops.pure .free rfl rfl (hsp) (by simp only [go_sem,bytesA];(repeat' first|exact .refl _|apply LeR.tup|apply Le.agg|constructor)) rfl rfl ?_
   refine Og Tryz.func78 ?_;simp only [go_sem,takeA,bytesA,hw,hmx,h1,↓alt_t,↓alt_f]
   rw [takeT,ht]
   simp only [if_pos (show (max most 0).toNat < n by omega),takeTA]
   (repeat' first|exact .refl _|apply LeR.tup|apply Le.agg|constructor)
  ·by_cases h2 : (r.length : Int) < (n : Int)
   ·refine ⟨⟨_,Tryz.func78,by kernel_rfl,rfl⟩,Sg Tryz.func78 rfl fun c0 hc0 => ?_⟩;simp only [go_sem,bytesA,Nat.reduceAdd,Nat.reduceSub]
    refine Ops.pure .free rfl rfl (hsp) (by simp only [go_sem,bytesA];(repeat' first|exact .refl _|apply LeR.tup|apply Le.agg|constructor)) rfl rfl ?_
    refine Og Tryz.func78 ?_;simp only [go_sem,takeA,bytesA,hw,hw2,hmx,h1,h2,↓alt_t,↓alt_f]
    rw [takeT,ht]
    simp only [if_neg (show ¬ (max most 0).toNat < n by omega),if_pos (show r.length < n by omega),takeTA]
    (repeat' first|exact .refl _|apply LeR.tup|apply Le.agg|constructor)
   ·refine ⟨⟨_,Tryz.func78,by kernel_rfl,rfl⟩,Sg Tryz.func78 rfl fun c0 hc0 => ?_⟩;simp only [go_sem,bytesA,Nat.reduceAdd,Nat.reduceSub]
    refine Ops.pure .free rfl rfl (hsp) (by simp only [go_sem,bytesA];(repeat' first|exact .refl _|apply LeR.tup|apply Le.agg|constructor)) rfl rfl ?_
    refine Og Tryz.func78 ?_;simp only [go_sem,takeA,bytesA,hw,hw2,hmx,h1,h2,↓alt_f]
    rw [takeT,ht]
    simp only [if_neg (show ¬ (max most 0).toNat < n by omega),if_neg (show ¬ r.length < n by omega),takeTA]
    rw [← List.map_take,← List.map_drop,bytesOf_map]
    (and_intros <;> try first|rfl|omega|(unfold I64;omega))
    (repeat' first|exact .refl _|apply LeR.tup|apply Le.agg|constructor)
theorem rtakelist_spec (b : Bytes) (many most : Int) (hb : b.length ≤ 1000000) (hma : 0 ≤ many ∧ many ≤ 1000000) (hm : 0 ≤ most ∧ most ≤ 1000000) : ASpec Tryz.prog 80 [bytesA b,.int .i64 many,.int .i64 most] (takeLA (takeL b many most)) := by
 have hsp := rtake_spec b
 cases ht : takeN b with
 | error z =>
  rw [ht] at hsp
  have hz := takeN_err' ht
  refine ⟨⟨_,Tryz.func80,by kernel_rfl,rfl⟩,Sg Tryz.func80 rfl fun c0 hc0 => ?_⟩;simp only [go_sem,bytesA,Nat.reduceAdd,Nat.reduceSub]
  refine Ops.pure .free rfl rfl (hsp) (by simp only [go_sem,bytesA];(repeat' first|exact .refl _|apply LeR.tup|apply Le.agg|constructor)) rfl rfl ?_
  refine Og Tryz.func80 ?_;simp only [go_sem,takeA,bytesA,hz,↓alt_t]
  rw [takeL,ht]
  simp only [takeLA,textsA,bytesA,Ye]
  (repeat' first|exact .refl _|apply LeR.tup|apply Le.agg|constructor)
 | ok p =>
  obtain ⟨n,r⟩ := p
  obtain ⟨hn,hl⟩ := taken_small ht
  rw [ht] at hsp
  have hw : IntKind.u64.wrap many = many := by
   obtain ⟨m,rfl⟩ := Int.eq_ofNat_of_zero_le hma.1
   exact wrap_nat m (by omega)
  have hmx : max many 0 = many := by omega
  by_cases h1 : many < (n : Int)
  ·refine ⟨⟨_,Tryz.func80,by kernel_rfl,rfl⟩,Sg Tryz.func80 rfl fun c0 hc0 => ?_⟩;simp only [go_sem,bytesA,Nat.reduceAdd,Nat.reduceSub]
   refine Ops.pure .free rfl rfl (hsp) (by simp only [go_sem,bytesA];(repeat' first|exact .refl _|apply LeR.tup|apply Le.agg|constructor)) rfl rfl ?_
   refine Og Tryz.func80 ?_;simp only [go_sem,takeA,bytesA,hw,hmx,h1,↓alt_t,↓alt_f]
   rw [takeL,ht]
   simp only [if_pos (show (max many 0).toNat < n by omega),takeLA,textsA,bytesA,Ye]
   (repeat' first|exact .refl _|apply LeR.tup|apply Le.agg|constructor)
  ·have e : takeL b many most = takeTs most n r := by
    rw [takeL,ht]
    simp only [if_neg (show ¬ (max many 0).toNat < n by omega)]
   rw [e]
   refine ⟨⟨_,Tryz.func80,by kernel_rfl,rfl⟩,Sg Tryz.func80 rfl fun c0 hc0 => ?_⟩;simp only [go_sem,bytesA,Nat.reduceAdd,Nat.reduceSub]
   refine Ops.pure .free rfl rfl (hsp) (by simp only [go_sem,bytesA];(repeat' first|exact .refl _|apply LeR.tup|apply Le.agg|constructor)) rfl rfl ?_
   refine Og Tryz.func80 ?_;simp only [go_sem,takeA,bytesA,hw,hmx,h1,↓alt_f,Nat.reduceLeDiff,Nat.reduceMul,Nat.reduceLT]
   (and_intros <;> try first|rfl|omega|(unfold I64;omega))
   refine Run.loopV (α := Nat × List Bytes × Bytes) (fun x => x.1 ≤ n ∧ x.2.1.length = x.1 ∧ x.2.2.length ≤ r.length ∧ takeTs most n r = glue x.2.1 (takeTs most (n - x.1) x.2.2)) (fun x => [(10,bytesA x.2.2),(12,.sl 1 (x.2.1.map textC) (.own 0)),(13,.int .u64 x.1)]) 1 (fun x => [(0,.tok 1 x.2.1.length)]) (fun x => n - x.1) (0,[],r) ⟨Nat.zero_le _,rfl,Nat.le_refl _,by simp only [Nat.sub_zero];cases takeTs most n r <;> rfl⟩ ?_ ?_
   ·simp only [go_sem,writes,junks,puts,hputs,List.filterMap_cons,List.filterMap_nil,bytesA]
    (refine Weak.of (by simp [hc0]) ?_ ?_ <;> (repeat' first|exact .refl _|exact .junk _|exact .nil|exact .nil _|exact .tok _ _ _|rfl|apply WkT.cons|apply WkH.cons|apply LeB.same|apply LeB.box|apply Le1L.cons|apply Le.agg|apply Le.one))
   ·rintro ⟨k,l,y⟩ ⟨hI,hll,hyl,hrd⟩ ih
    simp only [writes,junks,puts,hputs,List.filterMap_cons,List.filterMap_nil,Y6,Y7,Yg,Yk,Y5,Y3,Yd] at hI hll hyl hrd ih ⊢
    by_cases hk : k < n
    ·have hkk : (k : Int) < n := by omega
     have hs := rtaketext_spec y most (by omega) hm
     obtain ⟨m,hm⟩ : ∃ m,n - k = m + 1 := ⟨n - k - 1,by omega⟩
     rw [hm] at hrd
     cases hty : takeT y most with
     | error z =>
      rw [takeTs_err hty] at hrd
      rw [hty] at hs
      have hz := takeT_err' hty
      refine Rg Tryz.func80 ?_;simp only [go_sem,hkk,bytesA,↓alt_t,Nat.reduceAdd]
      refine Ops.pure .free rfl rfl (hs) (by simp only [go_sem,bytesA];(repeat' first|exact .refl _|apply LeR.tup|apply Le.agg|constructor)) rfl rfl ?_
      refine Og Tryz.func80 ?_;simp only [go_sem,takeTA,bytesA,hz,↓alt_t]
      rw [hrd]
      simp only [takeLA,textsA,bytesA,Ye]
      (repeat' first|exact .refl _|apply LeR.tup|apply Le.agg|constructor)
     | ok p =>
      obtain ⟨s,y2⟩ := p
      rw [takeTs_ok hty] at hrd
      rw [hty] at hs
      have hsh := (takeT_shorter hty).1
      refine Rg Tryz.func80 ?_;simp only [go_sem,hkk,bytesA,↓alt_t,Nat.reduceAdd]
      refine Ops.pure .free rfl rfl (hs) (by simp only [go_sem,bytesA];(repeat' first|exact .refl _|apply LeR.tup|apply Le.agg|constructor)) rfl rfl ?_
      have hwk : IntKind.u64.wrap ((k : Int) + 1) = (k : Int) + 1 := wrap_nat (k + 1) (by omega)
      refine Og Tryz.func80 ?_;simp only [go_sem,takeTA,bytesA,hwk,↓alt_f,Nat.reduceLeDiff,Nat.reduceMul,Nat.reduceBEq,Nat.reduceLT,reduceCtorEq]
      (and_intros <;> try first|rfl|omega|(unfold I64;omega))
      refine ih (k + 1,l ++ [s],y2) _ ⟨by dsimp only;omega,by simp;omega,by dsimp only;omega,?_⟩ (by dsimp only;omega) ?_
      ·rw [hrd]
       show _ = glue (l ++ [s]) (takeTs most (n - (k + 1)) y2)
       rw [show n - (k + 1) = m by omega]
      ·simp only [Int.natCast_add,Int.natCast_one,Ya,Y9,Yf,Ye,Yp,bytesA,List.map_append,textC,List.length_append]
       (refine Weak.of (by simp [hc0]) ?_ ?_ <;> (repeat' first|exact .refl _|exact .junk _|exact .nil|exact .nil _|exact .tok _ _ _|rfl|apply WkT.cons|apply WkH.cons|apply LeB.same|apply LeB.box|apply Le1L.cons|apply Le.agg|apply Le.one))
    ·obtain rfl : k = n := by omega
     have hkk : ¬ (k : Int) < k := by omega
     rw [Nat.sub_self] at hrd
     refine Rg Tryz.func80 ?_;simp only [go_sem,hkk,bytesA,↓alt_f]
     rw [hrd]
     simp only [takeTs,glue,Yd,takeLA,textsA,bytesA]
     (repeat' first|exact .refl _|apply LeR.tup|apply Le.agg|constructor)
theorem bel_pss (n : Nat) (hn : 3 < n) : ∀ ps : List (Nat × Nat),(∀ p ∈ ps,(p.1 = 2 ∧ p.2 < 6) ∨ (p.1 = 3 ∧ p.2 < 1)) → belLL n (ps.map fun p => [.ptr p.1 p.2]) = true
 | [],_ => rfl
 | p :: ps,h => by
  have h1 := h p List.mem_cons_self
  have h2 := bel_pss n hn ps fun q hq => h q (List.mem_cons_of_mem _ hq)
  have h3 : p.1 < n := by omega
  simp [belLL,belL,AV.bel,h2,h3]
def layP (c : List AV × List AV) (p : Nat × Nat) (n : Int) : List AV × List AV := if p.1 = 2 then (lay c.1 p.2 [.int .i64 n],c.2) else (c.1,lay c.2 p.2 [.int .i64 n])
def rdP : List (Nat × Nat) → List AV × List AV → Bytes → Int → (List AV × List AV) × Bytes × Int
 | [],cs,b,e => (cs,b,e)
 | o :: os,cs,b,e => if e = 0 then match takeZ b with
   | .ok (n,r) => rdP os (layP cs o n) r 0
   | .error z => rdP os (layP cs o 0) [] z
  else rdP os cs b e
theorem rdP_ok {o : Nat × Nat} {os : List (Nat × Nat)} {cs : List AV × List AV} {b : Bytes} {n : Int} {r : Bytes} (h : takeZ b = .ok (n,r)) : rdP (o :: os) cs b 0 = rdP os (layP cs o n) r 0 := by simp [rdP,h]
theorem rdP_error {o : Nat × Nat} {os : List (Nat × Nat)} {cs : List AV × List AV} {b : Bytes} {z : Int} (h : takeZ b = .error z) : rdP (o :: os) cs b 0 = rdP os (layP cs o 0) [] z := by simp [rdP,h]
theorem rdP_no {o : Nat × Nat} {os : List (Nat × Nat)} {cs : List AV × List AV} {b : Bytes} {e : Int} (h : ¬ e = 0) : rdP (o :: os) cs b e = rdP os cs b e := by simp [rdP,h]
theorem rdP_stop : ∀ (ps : List (Nat × Nat)) (cs : List AV × List AV) (b : Bytes) (z : Int),¬ z = 0 → rdP ps cs b z = (cs,b,z)
 | [],_,_,_,_ => rfl
 | _ :: ps,cs,b,z,h => by rw [rdP_no h];exact rdP_stop ps cs b z h
def layPs : List (Nat × Nat) → List AV × List AV → List Int → List AV × List AV
 | o :: os,cs,n :: l => layPs os (layP cs o n) l
 | _,cs,_ => cs
theorem rdP_seq : ∀ (ps : List (Nat × Nat)) (cs : List AV × List AV) (b : Bytes) (l : List Int) (r : Bytes),seqZ ps.length b = .ok (l,r) → rdP ps cs b 0 = (layPs ps cs l,r,0)
 | [],cs,b,l,r,h => by
  simp only [Y9,seqZ,Except.ok.injEq,Prod.mk.injEq] at h
  rw [← h.1,← h.2];rfl
 | o :: ps,cs,b,l,r,h => by
  simp only [Ya,seqZ] at h
  split at h
  ·cases h
  ·rename_i h1
   split at h
   ·cases h
   ·rename_i h2
    simp only [Except.ok.injEq,Prod.mk.injEq] at h
    rw [rdP_ok h1,rdP_seq ps _ _ _ _ h2,← h.1,← h.2]
    rfl
theorem rdP_seqE : ∀ (ps : List (Nat × Nat)) (cs : List AV × List AV) (b : Bytes) (z : Int),seqZ ps.length b = .error z → (∀ p ∈ ps,(p.1 = 2 ∧ p.2 < 6) ∨ (p.1 = 3 ∧ p.2 < 1)) → cs.1.length = 6 → cs.2.length = 1 → ∃ c1 c2,rdP ps cs b 0 = ((c1,c2),[],z) ∧ c1.length = 6 ∧ ∃ n,c2 = [.int .i64 n] ∨ c2 = cs.2
 | [],cs,b,z,h,_,_,_ => by simp [seqZ] at h
 | o :: ps,(c1,c2),b,z,h,hp,l1,l2 => by
  have ho := hp o List.mem_cons_self
  have hps := fun q hq => hp q (List.mem_cons_of_mem _ hq)
  have hlay : ∀ n,(layP (c1,c2) o n).1.length = 6 ∧ ((layP (c1,c2) o n).2 = [.int .i64 n] ∨ (layP (c1,c2) o n).2 = c2) := fun n => by
   unfold layP
   simp only at l1 l2
   rcases ho with ⟨e1,e2⟩|⟨e1,e2⟩
   ·rw [if_pos e1]
    exact ⟨by rw [lay_length (by simp;omega)];exact l1,.inr rfl⟩
   ·rw [if_neg (by omega)]
    refine ⟨l1,.inl ?_⟩
    have : o.2 = 0 := by omega
    match c2,l2 with
    | [c],_ => rw [this];rfl
  simp only [Ya,seqZ] at h
  split at h
  ·rename_i h1
   cases h
   rw [rdP_error h1,rdP_stop _ _ _ _ (takeZ_err h1)]
   obtain ⟨g1,g2⟩ := hlay 0
   exact ⟨_,_,rfl,g1,0,g2⟩
  ·rename_i n r h1
   split at h
   ·rename_i h2
    cases h
    rw [rdP_ok h1]
    obtain ⟨g1,g2⟩ := hlay n
    obtain ⟨d1,d2,e1,e2,m,e3⟩ := rdP_seqE ps (layP (c1,c2) o n) r _ h2 hps g1 (by rcases g2 with g|g <;> rw [g];exact rfl;exact l2)
    refine ⟨d1,d2,e1,e2,?_⟩
    rcases e3 with e3|e3
    ·exact ⟨m,.inl e3⟩
    ·rcases g2 with g|g
     ·exact ⟨n,.inl (e3.trans g)⟩
     ·exact ⟨0,.inr (e3.trans g)⟩
   ·cases h
theorem rints2_call (ps : List (Nat × Nat)) (ho : ps.length ≤ 1000) (hpp : ∀ p ∈ ps,(p.1 = 2 ∧ p.2 < 6) ∨ (p.1 = 3 ∧ p.2 < 1)) (z : ABlk) (hz : z.bel 5 = true) (q : ABlk) (hq : q.bel 5 = true) (b : Bytes) (cs es : List AV) (hcs : cs.length = 6) (hes : es.length = 1) (hbe : belL 5 cs = true) (hbf : belL 5 es = true) (R : AV → List ABlk → Prop)
  (hR : R (.tup []) [z,.box [bytesA (rdP ps (cs,es) b 0).2.1,.int .i64 (rdP ps (cs,es) b 0).2.2],.box (rdP ps (cs,es) b 0).1.1,.box (rdP ps (cs,es) b 0).1.2,q]) :
  ACall Tryz.prog 118 [.ptr 1 0,.psl 1 (ps.map fun p => [.ptr p.1 p.2])] [z,.box [bytesA b,.int .i64 0],.box cs,.box es,q] R := by
 refine Sg Tryz.func118 rfl fun c1 hc1 => ?_;simp only [go_sem,Nat.reduceAdd,Nat.reduceSub]
 refine Run.loopV (α := Nat × (List AV × List AV) × Bytes × Int) (fun x => x.1 ≤ ps.length ∧ x.2.1.1.length = 6 ∧ x.2.1.2.length = 1 ∧ belL 5 x.2.1.1 = true ∧ belL 5 x.2.1.2 = true ∧ rdP (ps.drop x.1) x.2.1 x.2.2.1 x.2.2.2 = rdP ps (cs,es) b 0) (fun x => [(8,.int .i64 x.1)]) 5 (fun x => [(1,.box [bytesA x.2.2.1,.int .i64 x.2.2.2]),(2,.box x.2.1.1),(3,.box x.2.1.2)]) (fun x => ps.length - x.1) (0,(cs,es),b,0) ⟨Nat.zero_le _,hcs,hes,hbe,hbf,rfl⟩ ?_ ?_
 ·simp only [go_sem,writes,junks,puts,hputs,List.filterMap_cons,List.filterMap_nil]
  (refine Weak.of (by simp [hc1]) ?_ ?_ <;> (repeat' (first|exact WkT.nil|exact WkH.nil _|exact Le.refl _|exact Le.junk _|exact Le1.refl _|exact Le1.nil _|exact Le1.tok _ _ _|exact Le1L.nil|rfl|assumption|exact bel_pss 5 (by decide) ps hpp|exact hbl|apply WkT.cons|apply WkH.cons|apply LeB.same|apply LeB.box|apply Le1L.cons|apply Le.agg|apply Le.one)))
 ·rintro ⟨k,⟨xs,ys⟩,y,e⟩ ⟨hI,hxs,hys,hxb,hyb,hrd⟩ ih
  simp only [writes,junks,puts,hputs,List.filterMap_cons,List.filterMap_nil,Y6,Y7,Yg,Yk,Y5,Y3,Yd] at hI hxs hys hxb hyb hrd ih ⊢
  by_cases hk : k < ps.length
  ·obtain ⟨⟨o1,o⟩,hx⟩ : ∃ x,ps[k]? = some x := ⟨_,List.getElem?_eq_getElem hk⟩
   have hkk : (k : Int) < ps.length := by omega
   have ho8 := hpp _ (List.mem_of_getElem? hx)
   have hd : ps.drop k = (o1,o) :: ps.drop (k + 1) := by
    obtain ⟨hk',e⟩ := List.getElem?_eq_some_iff.1 hx
    rw [← e]
    exact List.drop_eq_getElem_cons hk'
   rw [hd] at hrd
   by_cases he : e = 0
   ·subst he
    have hsp := takeint_spec y
    rcases ho8 with ⟨w1,w2⟩|⟨w1,w2⟩
    ·simp only at w1 w2
     subst w1
     cases ht : takeZ y with
     | error z =>
      rw [rdP_error ht,layP,if_pos rfl] at hrd
      rw [ht] at hsp
      refine Rg Tryz.func118 ?_;simp only [go_sem,hx,hkk,bytesA,List.getElem?_map,↓alt_t,Nat.reduceAdd,Nat.reduceLeDiff,Nat.reduceLT]
      refine ⟨by omega,?_⟩
      refine Ops.pure .free rfl rfl (hsp) (by simp only [go_sem,bytesA];(repeat' first|exact .refl _|apply LeR.tup|apply Le.agg|constructor)) rfl rfl ?_
      refine Og Tryz.func118 ?_;simp only [go_sem,takeZA,bytesA,Nat.reduceAdd,Nat.reduceLeDiff]
      have hbl : belL 5 (lay xs o [.int .i64 0]) = true := bel_lay o hxb rfl
      refine ⟨by omega,by unfold I64;omega,ih (k + 1,(lay xs o [.int .i64 0],ys),[],z) _ ⟨by dsimp only;omega,by rw [lay_length (by simp;omega)];exact hxs,hys,hbl,hyb,hrd⟩ (by dsimp only;omega) ?_⟩
      simp only [go_sem,Int.natCast_add,Int.natCast_one,bytesA] at hbl ⊢
      (refine Weak.of (by simp [hc1]) ?_ ?_ <;> (repeat' (first|exact WkT.nil|exact WkH.nil _|exact Le.refl _|exact Le.junk _|exact Le1.refl _|exact Le1.nil _|exact Le1.tok _ _ _|exact Le1L.nil|rfl|assumption|exact bel_pss 5 (by decide) ps hpp|exact hbl|apply WkT.cons|apply WkH.cons|apply LeB.same|apply LeB.box|apply Le1L.cons|apply Le.agg|apply Le.one)))
     | ok p =>
      obtain ⟨n,r⟩ := p
      rw [rdP_ok ht,layP,if_pos rfl] at hrd
      rw [ht] at hsp
      refine Rg Tryz.func118 ?_;simp only [go_sem,hx,hkk,bytesA,List.getElem?_map,↓alt_t,Nat.reduceAdd,Nat.reduceLeDiff,Nat.reduceLT]
      refine ⟨by omega,?_⟩
      refine Ops.pure .free rfl rfl (hsp) (by simp only [go_sem,bytesA];(repeat' first|exact .refl _|apply LeR.tup|apply Le.agg|constructor)) rfl rfl ?_
      refine Og Tryz.func118 ?_;simp only [go_sem,takeZA,bytesA,Nat.reduceAdd,Nat.reduceLeDiff]
      have hbl : belL 5 (lay xs o [.int .i64 n]) = true := bel_lay o hxb rfl
      refine ⟨by omega,by unfold I64;omega,ih (k + 1,(lay xs o [.int .i64 n],ys),r,0) _ ⟨by dsimp only;omega,by rw [lay_length (by simp;omega)];exact hxs,hys,hbl,hyb,hrd⟩ (by dsimp only;omega) ?_⟩
      simp only [go_sem,Int.natCast_add,Int.natCast_one,bytesA] at hbl ⊢
      (refine Weak.of (by simp [hc1]) ?_ ?_ <;> (repeat' (first|exact WkT.nil|exact WkH.nil _|exact Le.refl _|exact Le.junk _|exact Le1.refl _|exact Le1.nil _|exact Le1.tok _ _ _|exact Le1L.nil|rfl|assumption|exact bel_pss 5 (by decide) ps hpp|exact hbl|apply WkT.cons|apply WkH.cons|apply LeB.same|apply LeB.box|apply Le1L.cons|apply Le.agg|apply Le.one)))
    ·simp only at w1 w2
     subst w1
     cases ht : takeZ y with
     | error z =>
      rw [rdP_error ht,layP,if_neg (show ¬ (3 : Nat) = 2 by decide)] at hrd
      rw [ht] at hsp
      refine Rg Tryz.func118 ?_;simp only [go_sem,hx,hkk,bytesA,List.getElem?_map,↓alt_t,Nat.reduceAdd,Nat.reduceLeDiff,Nat.reduceLT]
      refine ⟨by omega,?_⟩
      refine Ops.pure .free rfl rfl (hsp) (by simp only [go_sem,bytesA];(repeat' first|exact .refl _|apply LeR.tup|apply Le.agg|constructor)) rfl rfl ?_
      refine Og Tryz.func118 ?_;simp only [go_sem,takeZA,bytesA,Nat.reduceAdd,Nat.reduceLeDiff]
      have hbl : belL 5 (lay ys o [.int .i64 0]) = true := bel_lay o hyb rfl
      refine ⟨by omega,by unfold I64;omega,ih (k + 1,(xs,lay ys o [.int .i64 0]),[],z) _ ⟨by dsimp only;omega,hxs,by rw [lay_length (by simp;omega)];exact hys,hxb,hbl,hrd⟩ (by dsimp only;omega) ?_⟩
      simp only [go_sem,Int.natCast_add,Int.natCast_one,bytesA] at hbl ⊢
      (refine Weak.of (by simp [hc1]) ?_ ?_ <;> (repeat' (first|exact WkT.nil|exact WkH.nil _|exact Le.refl _|exact Le.junk _|exact Le1.refl _|exact Le1.nil _|exact Le1.tok _ _ _|exact Le1L.nil|rfl|assumption|exact bel_pss 5 (by decide) ps hpp|exact hbl|apply WkT.cons|apply WkH.cons|apply LeB.same|apply LeB.box|apply Le1L.cons|apply Le.agg|apply Le.one)))
     | ok p =>
      obtain ⟨n,r⟩ := p
      rw [rdP_ok ht,layP,if_neg (show ¬ (3 : Nat) = 2 by decide)] at hrd
      rw [ht] at hsp
      refine Rg Tryz.func118 ?_;simp only [go_sem,hx,hkk,bytesA,List.getElem?_map,↓alt_t,Nat.reduceAdd,Nat.reduceLeDiff,Nat.reduceLT]
      refine ⟨by omega,?_⟩
      refine Ops.pure .free rfl rfl (hsp) (by simp only [go_sem,bytesA];(repeat' first|exact .refl _|apply LeR.tup|apply Le.agg|constructor)) rfl rfl ?_
      refine Og Tryz.func118 ?_;simp only [go_sem,takeZA,bytesA,Nat.reduceAdd,Nat.reduceLeDiff]
      have hbl : belL 5 (lay ys o [.int .i64 n]) = true := bel_lay o hyb rfl
      refine ⟨by omega,by unfold I64;omega,ih (k + 1,(xs,lay ys o [.int .i64 n]),r,0) _ ⟨by dsimp only;omega,hxs,by rw [lay_length (by simp;omega)];exact hys,hxb,hbl,hrd⟩ (by dsimp only;omega) ?_⟩
      simp only [go_sem,Int.natCast_add,Int.natCast_one,bytesA] at hbl ⊢
      (refine Weak.of (by simp [hc1]) ?_ ?_ <;> (repeat' (first|exact WkT.nil|exact WkH.nil _|exact Le.refl _|exact Le.junk _|exact Le1.refl _|exact Le1.nil _|exact Le1.tok _ _ _|exact Le1L.nil|rfl|assumption|exact bel_pss 5 (by decide) ps hpp|exact hbl|apply WkT.cons|apply WkH.cons|apply LeB.same|apply LeB.box|apply Le1L.cons|apply Le.agg|apply Le.one)))
   ·rw [rdP_no he] at hrd
    refine Rg Tryz.func118 ?_;simp only [go_sem,hx,hkk,he,bytesA,List.getElem?_map,↓alt_t,↓alt_f,Nat.reduceAdd,Nat.reduceLT]
    refine ⟨by omega,by unfold I64;omega,ih (k + 1,(xs,ys),y,e) _ ⟨by dsimp only;omega,hxs,hys,hxb,hyb,hrd⟩ (by dsimp only;omega) ?_⟩
    simp only [Int.natCast_add,Int.natCast_one,bytesA]
    (refine Weak.of (by simp [hc1]) ?_ ?_ <;> (repeat' (first|exact WkT.nil|exact WkH.nil _|exact Le.refl _|exact Le.junk _|exact Le1.refl _|exact Le1.nil _|exact Le1.tok _ _ _|exact Le1L.nil|rfl|assumption|exact bel_pss 5 (by decide) ps hpp|exact hbl|apply WkT.cons|apply WkH.cons|apply LeB.same|apply LeB.box|apply Le1L.cons|apply Le.agg|apply Le.one)))
  ·obtain rfl : k = ps.length := by omega
   rw [List.drop_length] at hrd
   have hkk : ¬ (ps.length : Int) < ps.length := by omega
   refine Rg Tryz.func118 ?_;simp only [go_sem,hkk,bytesA,↓alt_f]
   rw [← hrd] at hR
   exact hR
def takeRp (b : Bytes) : Except Int (Rpl × Bytes) := match seqZ 4 b with
 | .error z => .error z
 | .ok (l,r) => match takeT r 1000 with
  | .error z => .error z
  | .ok (s,r2) => match takeL r2 200 1000 with
   | .error z => .error z
   | .ok (t,r3) =>
    if l.getD 2 0 < 0 ∨ 16 < l.getD 2 0 then .error 3 else .ok (⟨l.getD 0 0,l.getD 1 0,l.getD 2 0,s,l.getD 3 0,t⟩,r3)
def takeRpA : Except Int (Rpl × Bytes) → AV
 | .error z => .tup [encR ⟨0,0,0,[],0,[]⟩,bytesA [],.int .i64 z]
 | .ok (o,r) => .tup [encR o,bytesA r,.int .i64 0]
theorem takeTs_err' {most : Int} : ∀ {n : Nat} {b : Bytes} {z : Int},takeTs most n b = .error z → ¬ z = 0
 | 0,b,z,h => by simp [takeTs] at h
 | n + 1,b,z,h => by
  simp only [takeTs] at h
  split at h
  ·rename_i h1;cases h;exact takeT_err' h1
  ·split at h
   ·rename_i h2;cases h;exact takeTs_err' h2
   ·cases h
theorem takeL_err' {b : Bytes} {many most z : Int} (h : takeL b many most = .error z) : ¬ z = 0 := by
 unfold takeL at h
 split at h
 ·rename_i h1;cases h;exact takeN_err' h1
 ·split at h
  ·cases h;omega
  ·exact takeTs_err' h
theorem takereply_spec (b : Bytes) (hb : b.length ≤ 1000000) : ASpec Tryz.prog 122 [bytesA b] (takeRpA (takeRp b)) := by
 have hps : ∀ p ∈ [((2 : Nat),(0 : Nat)),(2,1),(3,0),(2,4)],(p.1 = 2 ∧ p.2 < 6) ∨ (p.1 = 3 ∧ p.2 < 1) := by decide
 cases hq : seqZ 4 b with
 | error z =>
  obtain ⟨c1,c2,hrd,hc1,n,hc2⟩ := rdP_seqE [(2,0),(2,1),(3,0),(2,4)] ([.int .i64 0,.int .i64 0,.int .i64 0,.str [],.int .i64 0,.nils],[.int .i64 0]) b z hq hps rfl rfl
  have hc2 : ∃ n,c2 = [.int .i64 n] := by
   rcases hc2 with h|h
   ·exact ⟨n,h⟩
   ·exact ⟨0,h⟩
  obtain ⟨n,rfl⟩ := hc2
  obtain ⟨d0,d1,d2,d3,d4,d5,rfl⟩ : ∃ d0 d1 d2 d3 d4 d5,c1 = [d0,d1,d2,d3,d4,d5] := by
   match c1,hc1 with
   | [d0,d1,d2,d3,d4,d5],_ => exact ⟨d0,d1,d2,d3,d4,d5,rfl⟩
  have hz := seqZ_err _ _ _ hq
  have e : takeRp b = .error z := by rw [takeRp,hq]
  rw [e]
  refine ⟨⟨_,Tryz.func122,by kernel_rfl,rfl⟩,Sg Tryz.func122 rfl fun c0 hc0 => ?_⟩;simp only [go_sem,bytesA,Nat.reduceAdd,Nat.reduceLeDiff,Nat.reduceMul,Nat.reduceBEq,Nat.reduceLT,Nat.reduceSub]
  refine Ops.call .free rfl rfl ⟨_,Tryz.func118,by kernel_rfl,rfl⟩ (rints2_call [(2,0),(2,1),(3,0),(2,4)] (by decide) hps _ rfl _ rfl b _ _ rfl rfl rfl rfl _ ?_)
  rw [hrd]
  refine Og Tryz.func122 ?_;simp only [go_sem,bytesA,Nat.reduceAdd]
  refine Ops.call .free rfl rfl ⟨_,Tryz.func119,by kernel_rfl,rfl⟩ ?_
  refine ACall.of Tryz.func119 rfl fun c1 hc1 => ?_;simp only [Tryz.ntmps119,Nat.reduceAdd,Y3];refine Rg Tryz.func119 ?_;simp only [go_sem,hz,↓alt_f,Nat.reduceAdd,Nat.reduceSub]
  refine Og Tryz.func122 ?_;simp only [go_sem,hz,↓alt_t,↓alt_f,Nat.reduceAdd,Nat.reduceLeDiff]
  refine ⟨rfl,rfl,?_⟩
  simp only [takeRpA,encR,textsA,bytesA,Ye]
  (repeat' first|exact .refl _|apply LeR.tup|apply Le.agg|constructor)
 | ok p =>
  obtain ⟨l,r⟩ := p
  have hrd := rdP_seq [(2,0),(2,1),(3,0),(2,4)] ([.int .i64 0,.int .i64 0,.int .i64 0,.str [],.int .i64 0,.nils],[.int .i64 0]) b l r hq
  have hl := seqZ_len _ _ _ _ hq
  have hr := seqZ_rest _ _ _ _ hq
  obtain ⟨n0,n1,n2,n3,rfl⟩ : ∃ n0 n1 n2 n3,l = [n0,n1,n2,n3] := by
   match l,hl with
   | [n0,n1,n2,n3],_ => exact ⟨n0,n1,n2,n3,rfl⟩
  simp only [go_sem,layPs,layP,Nat.reduceAdd,Nat.reduceEqDiff] at hrd
  have hs1 := taketext_spec r 1000 (by omega) (by omega)
  refine ⟨⟨_,Tryz.func122,by kernel_rfl,rfl⟩,Sg Tryz.func122 rfl fun c0 hc0 => ?_⟩;simp only [go_sem,bytesA,Nat.reduceAdd,Nat.reduceLeDiff,Nat.reduceMul,Nat.reduceBEq,Nat.reduceLT,Nat.reduceSub]
  refine Ops.call .free rfl rfl ⟨_,Tryz.func118,by kernel_rfl,rfl⟩ (rints2_call [(2,0),(2,1),(3,0),(2,4)] (by decide) hps _ rfl _ rfl b _ _ rfl rfl rfl rfl _ ?_)
  rw [hrd]
  refine Og Tryz.func122 ?_;simp only [go_sem,bytesA,Nat.reduceAdd]
  refine Ops.call .free rfl rfl ⟨_,Tryz.func119,by kernel_rfl,rfl⟩ ?_
  refine ACall.of Tryz.func119 rfl fun c1 hc1 => ?_;simp only [Tryz.ntmps119,Nat.reduceAdd,Y3];refine Rg Tryz.func119 ?_;simp only [go_sem,↓alt_t,Nat.reduceAdd,Nat.reduceLeDiff,Nat.reduceSub]
  cases ht : takeT r 1000 with
  | error z =>
   have e : takeRp b = .error z := by rw [takeRp,hq];simp only [ht]
   have hz := takeT_err' ht
   rw [e]
   rw [ht] at hs1
   refine Ops.pure .free rfl rfl (hs1) (by simp only [go_sem,bytesA];(repeat' first|exact .refl _|apply LeR.tup|apply Le.agg|constructor)) rfl rfl ?_
   refine Og Tryz.func119 ?_;simp only [go_sem,takeTA,bytesA,Nat.reduceAdd,Nat.reduceLeDiff]
   refine Og Tryz.func122 ?_;simp only [go_sem,hz,↓alt_t,↓alt_f,Nat.reduceAdd,Nat.reduceLeDiff]
   refine ⟨rfl,rfl,?_⟩
   simp only [takeRpA,encR,textsA,bytesA,Ye]
   (repeat' first|exact .refl _|apply LeR.tup|apply Le.agg|constructor)
  | ok p =>
   obtain ⟨t,r2⟩ := p
   rw [ht] at hs1
   have h2 := takeT_shorter ht
   have hs2 := takelist_spec r2 200 1000 (by omega) (by omega) (by omega)
   refine Ops.pure .free rfl rfl (hs1) (by simp only [go_sem,bytesA];(repeat' first|exact .refl _|apply LeR.tup|apply Le.agg|constructor)) rfl rfl ?_
   refine Og Tryz.func119 ?_;simp only [go_sem,takeTA,bytesA,Nat.reduceAdd,Nat.reduceLeDiff]
   refine Og Tryz.func122 ?_;simp only [go_sem,↓alt_t,Nat.reduceAdd,Nat.reduceLeDiff]
   cases hu : takeL r2 200 1000 with
   | error z =>
    have e : takeRp b = .error z := by rw [takeRp,hq];simp only [ht,hu]
    have hz := takeL_err' hu
    rw [e]
    rw [hu] at hs2
    refine Ops.pure .free rfl rfl (hs2) (by simp only [go_sem,bytesA];(repeat' first|exact .refl _|apply LeR.tup|apply Le.agg|constructor)) rfl rfl ?_
    refine Og Tryz.func122 ?_;simp only [go_sem,takeLA,textsA,bytesA,hz,↓alt_t,Nat.reduceAdd,Nat.reduceLeDiff]
    refine ⟨rfl,rfl,?_⟩
    simp only [takeRpA,encR,textsA,bytesA,Ye]
    (repeat' first|exact .refl _|apply LeR.tup|apply Le.agg|constructor)
   | ok p =>
    obtain ⟨u,r3⟩ := p
    rw [hu] at hs2
    refine Ops.pure .free rfl rfl (hs2) (by simp only [go_sem,bytesA];(repeat' first|exact .refl _|apply LeR.tup|apply Le.agg|constructor)) rfl rfl ?_
    by_cases g1 : n2 < 0
    ·have e : takeRp b = .error 3 := by rw [takeRp,hq];simp [ht,hu,g1]
     rw [e]
     refine Og Tryz.func122 ?_;simp only [go_sem,takeLA,textsA,bytesA,g1,↓alt_t,↓alt_f,↓alts_t,↓gone_ft,Nat.reduceAdd,Nat.reduceLeDiff]
     simp only [takeRpA,encR,textsA,bytesA,Ye]
     (repeat' first|exact .refl _|apply LeR.tup|apply Le.agg|constructor)
    ·by_cases g2 : 16 < n2
     ·have e : takeRp b = .error 3 := by rw [takeRp,hq];simp [ht,hu,g2]
      rw [e]
      refine Og Tryz.func122 ?_;simp only [go_sem,takeLA,textsA,bytesA,g1,g2,↓alt_t,↓alt_f,↓alts_f,↓gone_ff,Nat.reduceAdd,Nat.reduceLeDiff]
      simp only [takeRpA,encR,textsA,bytesA,Ye]
      (repeat' first|exact .refl _|apply LeR.tup|apply Le.agg|constructor)
     ·have e : takeRp b = .ok (⟨n0,n1,n2,t,n3,u⟩,r3) := by rw [takeRp,hq];simp [ht,hu,g1,g2]
      rw [e]
      refine Og Tryz.func122 ?_;simp only [go_sem,takeLA,textsA,bytesA,g1,g2,↓alt_f,↓alts_f,↓gone_ff,Nat.reduceAdd,Nat.reduceLeDiff]
      refine ⟨rfl,rfl,?_⟩
      simp only [takeRpA,encR,textsA,bytesA]
      (repeat' first|exact .refl _|apply LeR.tup|apply Le.agg|constructor)
theorem in_spec (s : Bytes) (c : UInt8) (n : Int) (hn : n = c.toNat) (hs : s.length ≤ 1000) : ASpec Tryz.prog 64 [.str s,.int .u8 n] (.bool (s.contains c)) := by
 subst hn
 refine ⟨⟨_,Tryz.func64,by kernel_rfl,rfl⟩,Sg Tryz.func64 rfl fun c0 hc0 => ?_⟩;simp only [go_sem,Nat.reduceAdd,Nat.reduceSub]
 refine Run.loopV (α := Nat) (fun k => k ≤ s.length ∧ s.contains c = (s.drop k).contains c) (fun k => [(5,.int .i64 k)]) 0 (fun _ => []) (fun k => s.length - k) 0 ⟨Nat.zero_le _,rfl⟩ ?_ ?_
 ·simp only [go_sem,writes,junks,puts,hputs,List.filterMap_cons,List.filterMap_nil]
  (refine Weak.of (by simp [hc0]) ?_ ?_ <;> (repeat' first|exact .refl _|exact .junk _|exact .nil|exact .nil _|exact .tok _ _ _|rfl|apply WkT.cons|apply WkH.cons|apply LeB.same|apply LeB.box|apply Le1L.cons|apply Le.agg|apply Le.one))
 ·rintro k ⟨hI,hk2⟩ ih
  simp only [writes,junks,puts,hputs,List.filterMap_cons,List.filterMap_nil,Y6,Y7,Yk,Y5,Y3,Yd] at ih ⊢
  by_cases hk : k < s.length
  ·obtain ⟨x,hx⟩ : ∃ x,s[k]? = some x := ⟨_,List.getElem?_eq_getElem hk⟩
   have hkk : (k : Int) < s.length := by omega
   have hd : s.drop k = x :: s.drop (k + 1) := by
    obtain ⟨hk',rfl⟩ := List.getElem?_eq_some_iff.1 hx
    exact List.drop_eq_getElem_cons hk'
   rw [hd] at hk2
   by_cases hxc : (x.toNat : Int) = c.toNat
   ·have hxc' : x = c := UInt8.toNat_inj.1 (by omega)
    subst hxc'
    refine Rg Tryz.func64 ?_;simp only [go_sem,hx,hkk,↓alt_t]
    rw [hk2,List.contains_cons]
    simp only [BEq.rfl,Bool.true_or]
    (and_intros <;> try first|rfl|omega|(unfold I64;omega))
    (repeat' first|exact .refl _|apply LeR.tup|apply Le.agg|constructor)
   ·have hxc' : (c == x) = false := by
     rw [beq_eq_false_iff_ne];intro h;exact hxc (by rw [h])
    rw [List.contains_cons,hxc',Bool.false_or] at hk2
    refine Rg Tryz.func64 ?_;simp only [go_sem,hx,hkk,hxc,↓alt_t,↓alt_f]
    (and_intros <;> try first|rfl|omega|(unfold I64;omega))
    refine ih (k + 1) _ ⟨by omega,hk2⟩ (by omega) ?_
    simp only [Int.natCast_add,Int.natCast_one]
    (refine Weak.of (by simp [hc0]) ?_ ?_ <;> (repeat' first|exact .refl _|exact .junk _|exact .nil|exact .nil _|exact .tok _ _ _|rfl|apply WkT.cons|apply WkH.cons|apply LeB.same|apply LeB.box|apply Le1L.cons|apply Le.agg|apply Le.one))
  ·obtain rfl : k = s.length := by omega
   have hkk : ¬ (s.length : Int) < s.length := by omega
   rw [List.drop_length] at hk2
   refine Rg Tryz.func64 ?_;simp only [go_sem,hkk,↓alt_f]
   rw [hk2]
   (repeat' first|exact .refl _|apply LeR.tup|apply Le.agg|constructor)
theorem uses_0 : ASpec Tryz.prog 63 [.int .i64 0] (.str []) := by
 refine ⟨⟨_,Tryz.func63,by kernel_rfl,rfl⟩,Sg Tryz.func63 rfl fun c0 hc0 => ?_⟩;simp only [go_sem,↓alt_f,Int.reduceEq,Nat.reduceAdd,Nat.reduceSub]
 (repeat' first|exact .refl _|apply LeR.tup|apply Le.agg|constructor)
theorem uses_1 : ASpec Tryz.prog 63 [.int .i64 1] (.str [112,118,115]) := by
 refine ⟨⟨_,Tryz.func63,by kernel_rfl,rfl⟩,Sg Tryz.func63 rfl fun c0 hc0 => ?_⟩;simp only [go_sem,↓alt_t,Nat.reduceAdd,Nat.reduceSub]
 (repeat' first|exact .refl _|apply LeR.tup|apply Le.agg|constructor)
theorem uses_2 : ASpec Tryz.prog 63 [.int .i64 2] (.str [112]) := by
 refine ⟨⟨_,Tryz.func63,by kernel_rfl,rfl⟩,Sg Tryz.func63 rfl fun c0 hc0 => ?_⟩;simp only [go_sem,↓alt_t,↓alt_f,Int.reduceEq,Nat.reduceAdd,Nat.reduceSub]
 (repeat' first|exact .refl _|apply LeR.tup|apply Le.agg|constructor)
theorem uses_3 : ASpec Tryz.prog 63 [.int .i64 3] (.str [112,118,110]) := by
 refine ⟨⟨_,Tryz.func63,by kernel_rfl,rfl⟩,Sg Tryz.func63 rfl fun c0 hc0 => ?_⟩;simp only [go_sem,↓alt_t,↓alt_f,Int.reduceEq,Nat.reduceAdd,Nat.reduceSub]
 (repeat' first|exact .refl _|apply LeR.tup|apply Le.agg|constructor)
theorem uses_4 : ASpec Tryz.prog 63 [.int .i64 4] (.str [112,110]) := by
 refine ⟨⟨_,Tryz.func63,by kernel_rfl,rfl⟩,Sg Tryz.func63 rfl fun c0 hc0 => ?_⟩;simp only [go_sem,↓alt_t,↓alt_f,Int.reduceEq,Nat.reduceAdd,Nat.reduceSub]
 (repeat' first|exact .refl _|apply LeR.tup|apply Le.agg|constructor)
theorem uses_5 : ASpec Tryz.prog 63 [.int .i64 5] (.str [112]) := by
 refine ⟨⟨_,Tryz.func63,by kernel_rfl,rfl⟩,Sg Tryz.func63 rfl fun c0 hc0 => ?_⟩;simp only [go_sem,↓alt_t,↓alt_f,Int.reduceEq,Nat.reduceAdd,Nat.reduceSub]
 (repeat' first|exact .refl _|apply LeR.tup|apply Le.agg|constructor)
theorem uses_6 : ASpec Tryz.prog 63 [.int .i64 6] (.str [115,116]) := by
 refine ⟨⟨_,Tryz.func63,by kernel_rfl,rfl⟩,Sg Tryz.func63 rfl fun c0 hc0 => ?_⟩;simp only [go_sem,↓alt_t,↓alt_f,Int.reduceEq,Nat.reduceAdd,Nat.reduceSub]
 (repeat' first|exact .refl _|apply LeR.tup|apply Le.agg|constructor)
theorem uses_7 : ASpec Tryz.prog 63 [.int .i64 7] (.str [115]) := by
 refine ⟨⟨_,Tryz.func63,by kernel_rfl,rfl⟩,Sg Tryz.func63 rfl fun c0 hc0 => ?_⟩;simp only [go_sem,↓alt_t,↓alt_f,Int.reduceEq,Nat.reduceAdd,Nat.reduceSub]
 (repeat' first|exact .refl _|apply LeR.tup|apply Le.agg|constructor)
theorem uses_8 : ASpec Tryz.prog 63 [.int .i64 8] (.str [115]) := by
 refine ⟨⟨_,Tryz.func63,by kernel_rfl,rfl⟩,Sg Tryz.func63 rfl fun c0 hc0 => ?_⟩;simp only [go_sem,↓alt_t,↓alt_f,Int.reduceEq,Nat.reduceAdd,Nat.reduceSub]
 (repeat' first|exact .refl _|apply LeR.tup|apply Le.agg|constructor)
theorem uses_9 : ASpec Tryz.prog 63 [.int .i64 9] (.str [116]) := by
 refine ⟨⟨_,Tryz.func63,by kernel_rfl,rfl⟩,Sg Tryz.func63 rfl fun c0 hc0 => ?_⟩;simp only [go_sem,↓alt_t,↓alt_f,Int.reduceEq,Nat.reduceAdd,Nat.reduceSub]
 (repeat' first|exact .refl _|apply LeR.tup|apply Le.agg|constructor)
theorem uses_10 : ASpec Tryz.prog 63 [.int .i64 10] (.str [112]) := by
 refine ⟨⟨_,Tryz.func63,by kernel_rfl,rfl⟩,Sg Tryz.func63 rfl fun c0 hc0 => ?_⟩;simp only [go_sem,↓alt_t,↓alt_f,Int.reduceEq,Nat.reduceAdd,Nat.reduceSub]
 (repeat' first|exact .refl _|apply LeR.tup|apply Le.agg|constructor)
theorem uses_11 : ASpec Tryz.prog 63 [.int .i64 11] (.str [112]) := by
 refine ⟨⟨_,Tryz.func63,by kernel_rfl,rfl⟩,Sg Tryz.func63 rfl fun c0 hc0 => ?_⟩;simp only [go_sem,↓alt_t,↓alt_f,Int.reduceEq,Nat.reduceAdd,Nat.reduceSub]
 (repeat' first|exact .refl _|apply LeR.tup|apply Le.agg|constructor)
theorem rmay_no (o : Ord) (h : ¬ (0 ≤ o.a ∧ o.a ≤ 1000 ∧ 1 ≤ o.b ∧ o.b ≤ 1000000000 ∧ 0 ≤ o.kind ∧ o.kind ≤ 11 ∧ (o.s.length : Int) ≤ 100 ∧ (o.t.length : Int) ≤ 1000)) (r : ASpec Tryz.prog 31 [encO o] (.bool false)) : ASpec Tryz.prog 31 [encO o] (.bool (mayO o)) := by
 have e : mayO o = false := by
  rw [Bool.eq_false_iff]
  intro q
  simp only [mayO,Bool.and_eq_true,decide_eq_true_eq] at q
  omega
 rw [e]
 exact r
theorem tri {α : Type} (p : Bool) (s t : α) : p = true ∨ p = false ∧ s = t ∨ p = false ∧ ¬ s = t := by cases p <;> simp [Classical.em]
theorem rmay_u {a b k x y z : Int} {s t u : Bytes} {p v n σ τ r : Bool} (hu : ASpec Tryz.prog 63 [.int .i64 k] (.str u)) (hp : u.contains 112 = p) (hv : u.contains 118 = v) (hn : u.contains 110 = n) (hs : u.contains 115 = σ) (ht : u.contains 116 = τ) (hl : u.length ≤ 1000) (q0 : ¬ a < 0) (q1 : ¬ 1000 < a) (q2 : ¬ b < 1) (q3 : ¬ 1000000000 < b) (q4 : ¬ k < 0) (q5 : ¬ 11 < k) (q6 : ¬ (100 : Int) < s.length) (q7 : ¬ (1000 : Int) < t.length)
  (hr : r = ((p || decide (s = [])) && (v || decide (t = [])) && (n || decide (x = 0)) && (σ || decide (y = 0)) && (τ || decide (z = 0)))) : ASpec Tryz.prog 31 [encO ⟨a,b,k,s,t,x,y,z⟩] (.bool r) := by
 refine ⟨⟨_,Tryz.func31,by kernel_rfl,rfl⟩,Sg Tryz.func31 rfl fun c0 hc0 => ?_⟩;simp only [go_sem,encO,q0,q1,q2,q3,q4,q5,q6,q7,↓alt_f,↓alts_f,↓gone_ff,Nat.reduceAdd,Nat.reduceLeDiff,Nat.reduceSub]
 refine Ops.pure .free rfl rfl (hu) (by simp only [go_sem];(repeat' first|exact .refl _|apply LeR.tup|apply Le.agg|constructor)) rfl rfl ?_
 refine Og Tryz.func31 ?_;simp only [go_sem]
 refine Ops.pure .free rfl rfl ((in_spec u 112 112 rfl hl)) (by simp only [go_sem];(repeat' first|exact .refl _|apply LeR.tup|apply Le.agg|constructor)) rfl rfl ?_
 rw [hp]
 rcases tri p s [] with rfl|⟨rfl,rfl⟩|⟨rfl,g⟩
 rotate_left 2
 ·obtain rfl : r = false := by simp [hr,g]
  refine Og Tryz.func31 ?_;simp only [go_sem,g,↓alts_f,↓gone_tf,↓gone_ff,Nat.reduceAdd,Nat.reduceLeDiff]
  (repeat' first|exact .refl _|apply LeR.tup|apply Le.agg|constructor)
 all_goals
  refine Og Tryz.func31 ?_;simp only [go_sem,↓alts_t,↓alts_f,↓gone_tt,↓gone_ft,↓gone_ff,Nat.reduceAdd,Nat.reduceLeDiff]
  refine Ops.pure (Wanted.test 7 true true rfl) rfl rfl ((in_spec u 118 118 rfl hl)) (by simp only [go_sem];(repeat' first|exact .refl _|apply LeR.tup|apply Le.agg|constructor)) rfl rfl ?_
  rw [hv]
  rcases tri v t [] with rfl|⟨rfl,rfl⟩|⟨rfl,g⟩
  rotate_left 2
  ·obtain rfl : r = false := by simp [hr,g]
   refine Og Tryz.func31 ?_;simp only [go_sem,g,↓alts_t,↓alts_f,↓gone_tt,↓gone_tf,↓gone_ff,Nat.reduceAdd,Nat.reduceLeDiff]
   (repeat' first|exact .refl _|apply LeR.tup|apply Le.agg|constructor)
 all_goals
  refine Og Tryz.func31 ?_;simp only [go_sem,↓alts_t,↓alts_f,↓gone_tt,↓gone_ft,↓gone_ff,Nat.reduceAdd,Nat.reduceLeDiff]
  refine Ops.pure (Wanted.test 1 true true rfl) rfl rfl ((in_spec u 110 110 rfl hl)) (by simp only [go_sem];(repeat' first|exact .refl _|apply LeR.tup|apply Le.agg|constructor)) rfl rfl ?_
  rw [hn]
  rcases tri n x 0 with rfl|⟨rfl,rfl⟩|⟨rfl,g⟩
  rotate_left 2
  ·obtain rfl : r = false := by simp [hr,g]
   refine Og Tryz.func31 ?_;simp only [go_sem,g,↓alts_t,↓alts_f,↓gone_tt,↓gone_tf,↓gone_ff,Nat.reduceAdd,Nat.reduceLeDiff]
   (repeat' first|exact .refl _|apply LeR.tup|apply Le.agg|constructor)
 all_goals
  refine Og Tryz.func31 ?_;simp only [go_sem,↓alts_t,↓alts_f,↓gone_tt,↓gone_ft,↓gone_ff,Nat.reduceAdd,Nat.reduceLeDiff]
  refine Ops.pure (Wanted.test 10 true true rfl) rfl rfl ((in_spec u 115 115 rfl hl)) (by simp only [go_sem];(repeat' first|exact .refl _|apply LeR.tup|apply Le.agg|constructor)) rfl rfl ?_
  rw [hs]
  rcases tri σ y 0 with rfl|⟨rfl,rfl⟩|⟨rfl,g⟩
  rotate_left 2
  ·obtain rfl : r = false := by simp [hr,g]
   refine Og Tryz.func31 ?_;simp only [go_sem,g,↓alts_t,↓alts_f,↓gone_tt,↓gone_tf,↓gone_ff,Nat.reduceAdd,Nat.reduceLeDiff]
   (repeat' first|exact .refl _|apply LeR.tup|apply Le.agg|constructor)
 all_goals
  refine Og Tryz.func31 ?_;simp only [go_sem,↓alts_t,↓alts_f,↓gone_tt,↓gone_ft,↓gone_ff,Nat.reduceAdd,Nat.reduceLeDiff]
  refine Ops.pure (Wanted.test 19 true true rfl) rfl rfl ((in_spec u 116 116 rfl hl)) (by simp only [go_sem];(repeat' first|exact .refl _|apply LeR.tup|apply Le.agg|constructor)) rfl rfl ?_
  rw [ht]
  rcases tri τ z 0 with rfl|⟨rfl,rfl⟩|⟨rfl,g⟩
  rotate_left 2
  ·obtain rfl : r = false := by simp [hr,g]
   refine Og Tryz.func31 ?_;simp only [go_sem,g,↓alts_t,↓alts_f,↓gone_tt,↓gone_ff,Nat.reduceAdd]
   (repeat' first|exact .refl _|apply LeR.tup|apply Le.agg|constructor)
 all_goals
  obtain rfl : r = true := by simp [hr]
  refine Og Tryz.func31 ?_;simp only [go_sem,↓alts_t,↓alts_f,↓gone_tt,↓gone_ft,↓gone_ff,Nat.reduceAdd]
  (repeat' first|exact .refl _|apply LeR.tup|apply Le.agg|constructor)
theorem rmay12_spec (o : Ord) : ASpec Tryz.prog 31 [encO o] (.bool (mayO o)) := by
 by_cases q0 : o.a < 0
 ·refine rmay_no o (by omega) ?_
  refine ⟨⟨_,Tryz.func31,by kernel_rfl,rfl⟩,Sg Tryz.func31 rfl fun c0 hc0 => ?_⟩;simp only [go_sem,encO,q0,↓alt_t,↓alts_t,↓gone_ft,Nat.reduceAdd,Nat.reduceLeDiff,Nat.reduceSub]
  (repeat' first|exact .refl _|apply LeR.tup|apply Le.agg|constructor)
 by_cases q1 : 1000 < o.a
 ·refine rmay_no o (by omega) ?_
  refine ⟨⟨_,Tryz.func31,by kernel_rfl,rfl⟩,Sg Tryz.func31 rfl fun c0 hc0 => ?_⟩;simp only [go_sem,encO,q0,q1,↓alt_t,↓alts_t,↓alts_f,↓gone_ft,↓gone_ff,Nat.reduceAdd,Nat.reduceLeDiff,Nat.reduceSub]
  (repeat' first|exact .refl _|apply LeR.tup|apply Le.agg|constructor)
 by_cases q2 : o.b < 1
 ·refine rmay_no o (by omega) ?_
  refine ⟨⟨_,Tryz.func31,by kernel_rfl,rfl⟩,Sg Tryz.func31 rfl fun c0 hc0 => ?_⟩;simp only [go_sem,encO,q0,q1,q2,↓alt_t,↓alts_t,↓alts_f,↓gone_ft,↓gone_ff,Nat.reduceAdd,Nat.reduceLeDiff,Nat.reduceSub]
  (repeat' first|exact .refl _|apply LeR.tup|apply Le.agg|constructor)
 by_cases q3 : 1000000000 < o.b
 ·refine rmay_no o (by omega) ?_
  refine ⟨⟨_,Tryz.func31,by kernel_rfl,rfl⟩,Sg Tryz.func31 rfl fun c0 hc0 => ?_⟩;simp only [go_sem,encO,q0,q1,q2,q3,↓alt_t,↓alts_t,↓alts_f,↓gone_ft,↓gone_ff,Nat.reduceAdd,Nat.reduceLeDiff,Nat.reduceSub]
  (repeat' first|exact .refl _|apply LeR.tup|apply Le.agg|constructor)
 by_cases q4 : o.kind < 0
 ·refine rmay_no o (by omega) ?_
  refine ⟨⟨_,Tryz.func31,by kernel_rfl,rfl⟩,Sg Tryz.func31 rfl fun c0 hc0 => ?_⟩;simp only [go_sem,encO,q0,q1,q2,q3,q4,↓alt_t,↓alts_t,↓alts_f,↓gone_ft,↓gone_ff,Nat.reduceAdd,Nat.reduceLeDiff,Nat.reduceSub]
  (repeat' first|exact .refl _|apply LeR.tup|apply Le.agg|constructor)
 by_cases q5 : 11 < o.kind
 ·refine rmay_no o (by omega) ?_
  refine ⟨⟨_,Tryz.func31,by kernel_rfl,rfl⟩,Sg Tryz.func31 rfl fun c0 hc0 => ?_⟩;simp only [go_sem,encO,q0,q1,q2,q3,q4,q5,↓alt_t,↓alts_t,↓alts_f,↓gone_ft,↓gone_ff,Nat.reduceAdd,Nat.reduceLeDiff,Nat.reduceSub]
  (repeat' first|exact .refl _|apply LeR.tup|apply Le.agg|constructor)
 by_cases q6 : (100 : Int) < o.s.length
 ·refine rmay_no o (by omega) ?_
  refine ⟨⟨_,Tryz.func31,by kernel_rfl,rfl⟩,Sg Tryz.func31 rfl fun c0 hc0 => ?_⟩;simp only [go_sem,encO,q0,q1,q2,q3,q4,q5,q6,↓alt_t,↓alts_t,↓alts_f,↓gone_ft,↓gone_ff,Nat.reduceAdd,Nat.reduceLeDiff,Nat.reduceSub]
  (repeat' first|exact .refl _|apply LeR.tup|apply Le.agg|constructor)
 by_cases q7 : (1000 : Int) < o.t.length
 ·refine rmay_no o (by omega) ?_
  refine ⟨⟨_,Tryz.func31,by kernel_rfl,rfl⟩,Sg Tryz.func31 rfl fun c0 hc0 => ?_⟩;simp only [go_sem,encO,q0,q1,q2,q3,q4,q5,q6,q7,↓alt_t,↓alts_f,↓gone_ff,Nat.reduceAdd,Nat.reduceLeDiff,Nat.reduceSub]
  (repeat' first|exact .refl _|apply LeR.tup|apply Le.agg|constructor)
 obtain ⟨a,b,k,s,t,x,y,z⟩ := o
 simp only at q0 q1 q2 q3 q4 q5 q6 q7
 have r0 : 0 ≤ a := by omega
 have r1 : a ≤ 1000 := by omega
 have r2 : 1 ≤ b := by omega
 have r3 : b ≤ 1000000000 := by omega
 have r6 : (s.length : Int) ≤ 100 := by omega
 have r7 : (t.length : Int) ≤ 1000 := by omega
 have hk : k = 0 ∨ k = 1 ∨ k = 2 ∨ k = 3 ∨ k = 4 ∨ k = 5 ∨ k = 6 ∨ k = 7 ∨ k = 8 ∨ k = 9 ∨ k = 10 ∨ k = 11 := by omega
 rcases hk with rfl|rfl|rfl|rfl|rfl|rfl|rfl|rfl|rfl|rfl|rfl|rfl
 ·exact rmay_u uses_0 rfl rfl rfl rfl rfl (by decide) q0 q1 q2 q3 q4 q5 q6 q7 (by simp [mayO,usedO,r0,r1,r2,r3,r6,r7,Bool.and_assoc])
 ·exact rmay_u uses_1 rfl rfl rfl rfl rfl (by decide) q0 q1 q2 q3 q4 q5 q6 q7 (by simp [mayO,usedO,r0,r1,r2,r3,r6,r7,Bool.and_assoc])
 ·exact rmay_u uses_2 rfl rfl rfl rfl rfl (by decide) q0 q1 q2 q3 q4 q5 q6 q7 (by simp [mayO,usedO,r0,r1,r2,r3,r6,r7,Bool.and_assoc])
 ·exact rmay_u uses_3 rfl rfl rfl rfl rfl (by decide) q0 q1 q2 q3 q4 q5 q6 q7 (by simp [mayO,usedO,r0,r1,r2,r3,r6,r7,Bool.and_assoc])
 ·exact rmay_u uses_4 rfl rfl rfl rfl rfl (by decide) q0 q1 q2 q3 q4 q5 q6 q7 (by simp [mayO,usedO,r0,r1,r2,r3,r6,r7,Bool.and_assoc])
 ·exact rmay_u uses_5 rfl rfl rfl rfl rfl (by decide) q0 q1 q2 q3 q4 q5 q6 q7 (by simp [mayO,usedO,r0,r1,r2,r3,r6,r7,Bool.and_assoc])
 ·exact rmay_u uses_6 rfl rfl rfl rfl rfl (by decide) q0 q1 q2 q3 q4 q5 q6 q7 (by simp [mayO,usedO,r0,r1,r2,r3,r6,r7,Bool.and_assoc])
 ·exact rmay_u uses_7 rfl rfl rfl rfl rfl (by decide) q0 q1 q2 q3 q4 q5 q6 q7 (by simp [mayO,usedO,r0,r1,r2,r3,r6,r7,Bool.and_assoc])
 ·exact rmay_u uses_8 rfl rfl rfl rfl rfl (by decide) q0 q1 q2 q3 q4 q5 q6 q7 (by simp [mayO,usedO,r0,r1,r2,r3,r6,r7,Bool.and_assoc])
 ·exact rmay_u uses_9 rfl rfl rfl rfl rfl (by decide) q0 q1 q2 q3 q4 q5 q6 q7 (by simp [mayO,usedO,r0,r1,r2,r3,r6,r7,Bool.and_assoc])
 ·exact rmay_u uses_10 rfl rfl rfl rfl rfl (by decide) q0 q1 q2 q3 q4 q5 q6 q7 (by simp [mayO,usedO,r0,r1,r2,r3,r6,r7,Bool.and_assoc])
 ·exact rmay_u uses_11 rfl rfl rfl rfl rfl (by decide) q0 q1 q2 q3 q4 q5 q6 q7 (by simp [mayO,usedO,r0,r1,r2,r3,r6,r7,Bool.and_assoc])
def glueZ (l : List Int) : Except Int (List Int × Bytes) → Except Int (List Int × Bytes)
 | .error z => .error z
 | .ok (l',r) => .ok (l ++ l',r)
theorem glueZ_nil (x : Except Int (List Int × Bytes)) : glueZ [] x = x := by cases x <;> rfl
theorem seqZ_ok {k : Nat} {b r : Bytes} {n : Int} {l : List Int} (h : takeZ b = .ok (n,r)) : glueZ l (seqZ (k + 1) b) = glueZ (l ++ [n]) (seqZ k r) := by
 rw [seqZ,h]
 cases hq : seqZ k r with
 | error z => simp [hq,glueZ]
 | ok p => simp [hq,glueZ]
theorem seqZ_error {k : Nat} {b : Bytes} {z : Int} {l : List Int} (h : takeZ b = .error z) : glueZ l (seqZ (k + 1) b) = .error z := by rw [seqZ,h];rfl
def seqA : Except Int (List Int × Bytes) → AV
 | .error z => .tup [.sl 1 [] .no,bytesA [],.int .i64 z]
 | .ok (l,r) => .tup [.sl 1 (l.map intC) .no,bytesA r,.int .i64 0]
theorem rints_spec (b : Bytes) (m : Nat) (hm : m ≤ 1000) : ASpec Tryz.prog 79 [bytesA b,.int .i64 m] (seqA (seqZ m b)) := by
 refine ⟨⟨_,Tryz.func79,by kernel_rfl,rfl⟩,Sg Tryz.func79 rfl fun c0 hc0 => ?_⟩;simp only [go_sem,bytesA,Nat.reduceLeDiff,Nat.reduceMul,Nat.reduceLT,Nat.reduceAdd,Nat.reduceSub]
 (and_intros <;> try first|rfl|omega|(unfold I64;omega))
 refine Run.loopV (α := Nat × List Int × Bytes) (fun x => x.1 ≤ m ∧ x.2.1.length = x.1 ∧ seqZ m b = glueZ x.2.1 (seqZ (m - x.1) x.2.2)) (fun x => [(0,bytesA x.2.2),(7,.sl 1 (x.2.1.map intC) (.own 0)),(8,.int .i64 x.1)]) 1 (fun x => [(0,.tok 1 x.2.1.length)]) (fun x => m - x.1) (0,[],b) ⟨Nat.zero_le _,rfl,by simp only [Nat.sub_zero,glueZ_nil]⟩ ?_ ?_
 ·simp only [go_sem,writes,junks,puts,hputs,List.filterMap_cons,List.filterMap_nil,bytesA]
  (refine Weak.of (by simp [hc0]) ?_ ?_ <;> (repeat' first|exact .refl _|exact .junk _|exact .nil|exact .nil _|exact .tok _ _ _|rfl|apply WkT.cons|apply WkH.cons|apply LeB.same|apply LeB.box|apply Le1L.cons|apply Le.agg|apply Le.one))
 ·rintro ⟨k,l,y⟩ ⟨hI,hll,hrd⟩ ih
  simp only [writes,junks,puts,hputs,List.filterMap_cons,List.filterMap_nil,Y6,Y7,Yg,Yk,Y5,Y3,Yd] at hI hll hrd ih ⊢
  by_cases hk : k < m
  ·have hkk : (k : Int) < m := by omega
   have hs := rtakeint_spec y
   obtain ⟨q,hq⟩ : ∃ q,m - k = q + 1 := ⟨m - k - 1,by omega⟩
   rw [hq] at hrd
   cases hty : takeZ y with
   | error z =>
    rw [seqZ_error hty] at hrd
    rw [hty] at hs
    have hz := takeZ_err hty
    refine Rg Tryz.func79 ?_;simp only [go_sem,hkk,bytesA,↓alt_t]
    refine Ops.pure .free rfl rfl (hs) (by simp only [go_sem,bytesA];(repeat' first|exact .refl _|apply LeR.tup|apply Le.agg|constructor)) rfl rfl ?_
    refine Og Tryz.func79 ?_;simp only [go_sem,takeZA,bytesA,hz,↓alt_t]
    rw [hrd]
    simp only [seqA,bytesA,Ye]
    (repeat' first|exact .refl _|apply LeR.tup|apply Le.agg|constructor)
   | ok p =>
    obtain ⟨n,y2⟩ := p
    rw [seqZ_ok hty] at hrd
    rw [hty] at hs
    refine Rg Tryz.func79 ?_;simp only [go_sem,hkk,bytesA,↓alt_t]
    refine Ops.pure .free rfl rfl (hs) (by simp only [go_sem,bytesA];(repeat' first|exact .refl _|apply LeR.tup|apply Le.agg|constructor)) rfl rfl ?_
    refine Og Tryz.func79 ?_;simp only [go_sem,takeZA,bytesA,↓alt_f,Nat.reduceLeDiff,Nat.reduceMul,Nat.reduceBEq,Nat.reduceLT]
    (and_intros <;> try first|rfl|omega|(unfold I64;omega))
    refine ih (k + 1,l ++ [n],y2) _ ⟨by dsimp only;omega,by simp;omega,?_⟩ (by dsimp only;omega) ?_
    ·rw [hrd]
     show _ = glueZ (l ++ [n]) (seqZ (m - (k + 1)) y2)
     rw [show m - (k + 1) = q by omega]
    ·simp only [Int.natCast_add,Int.natCast_one,Ya,Y9,Yf,Ye,Yp,bytesA,List.map_append,intC,List.length_append]
     (refine Weak.of (by simp [hc0]) ?_ ?_ <;> (repeat' first|exact .refl _|exact .junk _|exact .nil|exact .nil _|exact .tok _ _ _|rfl|apply WkT.cons|apply WkH.cons|apply LeB.same|apply LeB.box|apply Le1L.cons|apply Le.agg|apply Le.one))
  ·obtain rfl : k = m := by omega
   have hkk : ¬ (k : Int) < k := by omega
   rw [Nat.sub_self] at hrd
   refine Rg Tryz.func79 ?_;simp only [go_sem,hkk,bytesA,↓alt_f]
   rw [hrd]
   simp only [seqZ,glueZ,Yd,seqA,bytesA]
   (repeat' first|exact .refl _|apply LeR.tup|apply Le.agg|constructor)
theorem rtake12_spec (b : Bytes) (hb : b.length ≤ 1000000) : ASpec Tryz.prog 53 [bytesA b] (takeOA (takeO b)) := by
 have hi := rints_spec b 6 (by omega)
 cases hq : seqZ 6 b with
 | error z =>
  have hz := seqZ_err _ _ _ hq
  have e : takeO b = .error z := by rw [takeO,hq]
  rw [hq] at hi
  rw [e]
  refine ⟨⟨_,Tryz.func53,by kernel_rfl,rfl⟩,Sg Tryz.func53 rfl fun c0 hc0 => ?_⟩;simp only [go_sem,bytesA,Nat.reduceAdd,Nat.reduceSub]
  refine Ops.pure .free rfl rfl (hi) (by simp only [go_sem,bytesA];(repeat' first|exact .refl _|apply LeR.tup|apply Le.agg|constructor)) rfl rfl ?_
  refine Og Tryz.func53 ?_;simp only [go_sem,seqA,bytesA,hz,↓alt_t,Nat.reduceAdd]
  (and_intros <;> try first|rfl|omega|(unfold I64;omega))
  simp only [takeOA,encO,bytesA,Ye]
  (repeat' first|exact .refl _|apply LeR.tup|apply Le.agg|constructor)
 | ok p =>
  obtain ⟨l,r⟩ := p
  have hl := seqZ_len _ _ _ _ hq
  have hr := seqZ_rest _ _ _ _ hq
  obtain ⟨n0,n1,n2,n3,n4,n5,rfl⟩ : ∃ n0 n1 n2 n3 n4 n5,l = [n0,n1,n2,n3,n4,n5] := by
   match l,hl with
   | [n0,n1,n2,n3,n4,n5],_ => exact ⟨n0,n1,n2,n3,n4,n5,rfl⟩
  rw [hq] at hi
  have hs1 := rtaketext_spec r 100 (by omega) (by omega)
  cases ht : takeT r 100 with
  | error z =>
   have e : takeO b = .error z := by rw [takeO,hq];simp only [ht]
   have hz := takeT_err' ht
   rw [ht] at hs1
   rw [e]
   refine ⟨⟨_,Tryz.func53,by kernel_rfl,rfl⟩,Sg Tryz.func53 rfl fun c0 hc0 => ?_⟩;simp only [go_sem,bytesA,Nat.reduceAdd,Nat.reduceSub]
   refine Ops.pure .free rfl rfl (hi) (by simp only [go_sem,bytesA];(repeat' first|exact .refl _|apply LeR.tup|apply Le.agg|constructor)) rfl rfl ?_
   refine Og Tryz.func53 ?_;simp only [go_sem,seqA,bytesA,↓alt_f]
   refine Ops.pure .free rfl rfl (hs1) (by simp only [go_sem,bytesA];(repeat' first|exact .refl _|apply LeR.tup|apply Le.agg|constructor)) rfl rfl ?_
   refine Og Tryz.func53 ?_;simp only [go_sem,takeTA,bytesA,hz,↓alt_t,Nat.reduceAdd]
   (and_intros <;> try first|rfl|omega|(unfold I64;omega))
   simp only [takeOA,encO,bytesA,Ye]
   (repeat' first|exact .refl _|apply LeR.tup|apply Le.agg|constructor)
  | ok p =>
   obtain ⟨t,r2⟩ := p
   have h2 := takeT_shorter ht
   have hs2 := rtaketext_spec r2 1000 (by omega) (by omega)
   rw [ht] at hs1
   cases hu : takeT r2 1000 with
   | error z =>
    have e : takeO b = .error z := by rw [takeO,hq];simp only [ht,hu]
    have hz := takeT_err' hu
    rw [hu] at hs2
    rw [e]
    refine ⟨⟨_,Tryz.func53,by kernel_rfl,rfl⟩,Sg Tryz.func53 rfl fun c0 hc0 => ?_⟩;simp only [go_sem,bytesA,Nat.reduceAdd,Nat.reduceSub]
    refine Ops.pure .free rfl rfl (hi) (by simp only [go_sem,bytesA];(repeat' first|exact .refl _|apply LeR.tup|apply Le.agg|constructor)) rfl rfl ?_
    refine Og Tryz.func53 ?_;simp only [go_sem,seqA,bytesA,↓alt_f]
    refine Ops.pure .free rfl rfl (hs1) (by simp only [go_sem,bytesA];(repeat' first|exact .refl _|apply LeR.tup|apply Le.agg|constructor)) rfl rfl ?_
    refine Og Tryz.func53 ?_;simp only [go_sem,takeTA,bytesA,↓alt_f]
    refine Ops.pure .free rfl rfl (hs2) (by simp only [go_sem,bytesA];(repeat' first|exact .refl _|apply LeR.tup|apply Le.agg|constructor)) rfl rfl ?_
    refine Og Tryz.func53 ?_;simp only [go_sem,takeTA,bytesA,hz,↓alt_t,Nat.reduceAdd]
    (and_intros <;> try first|rfl|omega|(unfold I64;omega))
    simp only [takeOA,encO,bytesA,Ye]
    (repeat' first|exact .refl _|apply LeR.tup|apply Le.agg|constructor)
   | ok p =>
    obtain ⟨u,r3⟩ := p
    rw [hu] at hs2
    have hm := rmay12_spec ⟨n0,n1,n2,t,u,n3,n4,n5⟩
    cases hmo : mayO ⟨n0,n1,n2,t,u,n3,n4,n5⟩ with
    | true =>
     have e : takeO b = .ok (⟨n0,n1,n2,t,u,n3,n4,n5⟩,r3) := by rw [takeO,hq];simp [ht,hu,hmo]
     rw [hmo] at hm
     rw [e]
     refine ⟨⟨_,Tryz.func53,by kernel_rfl,rfl⟩,Sg Tryz.func53 rfl fun c0 hc0 => ?_⟩;simp only [go_sem,bytesA,Nat.reduceAdd,Nat.reduceSub]
     refine Ops.pure .free rfl rfl (hi) (by simp only [go_sem,bytesA];(repeat' first|exact .refl _|apply LeR.tup|apply Le.agg|constructor)) rfl rfl ?_
     refine Og Tryz.func53 ?_;simp only [go_sem,seqA,bytesA,↓alt_f]
     refine Ops.pure .free rfl rfl (hs1) (by simp only [go_sem,bytesA];(repeat' first|exact .refl _|apply LeR.tup|apply Le.agg|constructor)) rfl rfl ?_
     refine Og Tryz.func53 ?_;simp only [go_sem,takeTA,bytesA,↓alt_f]
     refine Ops.pure .free rfl rfl (hs2) (by simp only [go_sem,bytesA];(repeat' first|exact .refl _|apply LeR.tup|apply Le.agg|constructor)) rfl rfl ?_
     refine Og Tryz.func53 ?_;simp only [go_sem,takeTA,bytesA,intC,Int.reduceToNat,↓alt_f,Int.reduceLE,Nat.reduceAdd,Nat.reduceLeDiff,Nat.reduceLT]
     (and_intros <;> try first|rfl|omega|(unfold I64;omega))
     refine Ops.pure .free rfl rfl (hm) (by simp only [go_sem,encO];(repeat' first|exact .refl _|apply LeR.tup|apply Le.agg|constructor)) rfl rfl ?_
     refine Og Tryz.func53 ?_;simp only [go_sem,↓alt_f,Nat.reduceAdd]
     (and_intros <;> try first|rfl|omega|(unfold I64;omega))
     simp only [takeOA,encO,bytesA]
     (repeat' first|exact .refl _|apply LeR.tup|apply Le.agg|constructor)
    | false =>
     have e : takeO b = .error 3 := by rw [takeO,hq];simp [ht,hu,hmo]
     rw [hmo] at hm
     rw [e]
     refine ⟨⟨_,Tryz.func53,by kernel_rfl,rfl⟩,Sg Tryz.func53 rfl fun c0 hc0 => ?_⟩;simp only [go_sem,bytesA,Nat.reduceAdd,Nat.reduceSub]
     refine Ops.pure .free rfl rfl (hi) (by simp only [go_sem,bytesA];(repeat' first|exact .refl _|apply LeR.tup|apply Le.agg|constructor)) rfl rfl ?_
     refine Og Tryz.func53 ?_;simp only [go_sem,seqA,bytesA,↓alt_f]
     refine Ops.pure .free rfl rfl (hs1) (by simp only [go_sem,bytesA];(repeat' first|exact .refl _|apply LeR.tup|apply Le.agg|constructor)) rfl rfl ?_
     refine Og Tryz.func53 ?_;simp only [go_sem,takeTA,bytesA,↓alt_f]
     refine Ops.pure .free rfl rfl (hs2) (by simp only [go_sem,bytesA];(repeat' first|exact .refl _|apply LeR.tup|apply Le.agg|constructor)) rfl rfl ?_
     refine Og Tryz.func53 ?_;simp only [go_sem,takeTA,bytesA,intC,Int.reduceToNat,↓alt_f,Int.reduceLE,Nat.reduceAdd,Nat.reduceLeDiff,Nat.reduceLT]
     (and_intros <;> try first|rfl|omega|(unfold I64;omega))
     refine Ops.pure .free rfl rfl (hm) (by simp only [go_sem,encO];(repeat' first|exact .refl _|apply LeR.tup|apply Le.agg|constructor)) rfl rfl ?_
     refine Og Tryz.func53 ?_;simp only [go_sem,↓alt_t,Nat.reduceAdd]
     (and_intros <;> try first|rfl|omega|(unfold I64;omega))
     simp only [takeOA,encO,bytesA,Ye]
     (repeat' first|exact .refl _|apply LeR.tup|apply Le.agg|constructor)
theorem rtakereply_spec (b : Bytes) (hb : b.length ≤ 1000000) : ASpec Tryz.prog 54 [bytesA b] (takeRpA (takeRp b)) := by
 have hi := rints_spec b 4 (by omega)
 cases hq : seqZ 4 b with
 | error z =>
  have hz := seqZ_err _ _ _ hq
  have e : takeRp b = .error z := by rw [takeRp,hq]
  rw [hq] at hi
  rw [e]
  refine ⟨⟨_,Tryz.func54,by kernel_rfl,rfl⟩,Sg Tryz.func54 rfl fun c0 hc0 => ?_⟩;simp only [go_sem,bytesA,Nat.reduceAdd,Nat.reduceSub]
  refine Ops.pure .free rfl rfl (hi) (by simp only [go_sem,bytesA];(repeat' first|exact .refl _|apply LeR.tup|apply Le.agg|constructor)) rfl rfl ?_
  refine Og Tryz.func54 ?_;simp only [go_sem,seqA,bytesA,hz,↓alt_t,Nat.reduceAdd]
  (and_intros <;> try first|rfl|omega|(unfold I64;omega))
  simp only [takeRpA,encR,textsA,bytesA,Ye]
  (repeat' first|exact .refl _|apply LeR.tup|apply Le.agg|constructor)
 | ok p =>
  obtain ⟨l,r⟩ := p
  have hl := seqZ_len _ _ _ _ hq
  have hr := seqZ_rest _ _ _ _ hq
  obtain ⟨n0,n1,n2,n3,rfl⟩ : ∃ n0 n1 n2 n3,l = [n0,n1,n2,n3] := by
   match l,hl with
   | [n0,n1,n2,n3],_ => exact ⟨n0,n1,n2,n3,rfl⟩
  rw [hq] at hi
  have hs1 := rtaketext_spec r 1000 (by omega) (by omega)
  cases ht : takeT r 1000 with
  | error z =>
   have e : takeRp b = .error z := by rw [takeRp,hq];simp only [ht]
   have hz := takeT_err' ht
   rw [ht] at hs1
   rw [e]
   refine ⟨⟨_,Tryz.func54,by kernel_rfl,rfl⟩,Sg Tryz.func54 rfl fun c0 hc0 => ?_⟩;simp only [go_sem,bytesA,Nat.reduceAdd,Nat.reduceSub]
   refine Ops.pure .free rfl rfl (hi) (by simp only [go_sem,bytesA];(repeat' first|exact .refl _|apply LeR.tup|apply Le.agg|constructor)) rfl rfl ?_
   refine Og Tryz.func54 ?_;simp only [go_sem,seqA,bytesA,↓alt_f]
   refine Ops.pure .free rfl rfl (hs1) (by simp only [go_sem,bytesA];(repeat' first|exact .refl _|apply LeR.tup|apply Le.agg|constructor)) rfl rfl ?_
   refine Og Tryz.func54 ?_;simp only [go_sem,takeTA,bytesA,hz,↓alt_t,Nat.reduceAdd]
   (and_intros <;> try first|rfl|omega|(unfold I64;omega))
   simp only [takeRpA,encR,textsA,bytesA,Ye]
   (repeat' first|exact .refl _|apply LeR.tup|apply Le.agg|constructor)
  | ok p =>
   obtain ⟨t,r2⟩ := p
   have h2 := takeT_shorter ht
   have hs2 := rtakelist_spec r2 200 1000 (by omega) (by omega) (by omega)
   rw [ht] at hs1
   cases hu : takeL r2 200 1000 with
   | error z =>
    have e : takeRp b = .error z := by rw [takeRp,hq];simp only [ht,hu]
    have hz := takeL_err' hu
    rw [hu] at hs2
    rw [e]
    refine ⟨⟨_,Tryz.func54,by kernel_rfl,rfl⟩,Sg Tryz.func54 rfl fun c0 hc0 => ?_⟩;simp only [go_sem,bytesA,Nat.reduceAdd,Nat.reduceSub]
    refine Ops.pure .free rfl rfl (hi) (by simp only [go_sem,bytesA];(repeat' first|exact .refl _|apply LeR.tup|apply Le.agg|constructor)) rfl rfl ?_
    refine Og Tryz.func54 ?_;simp only [go_sem,seqA,bytesA,↓alt_f]
    refine Ops.pure .free rfl rfl (hs1) (by simp only [go_sem,bytesA];(repeat' first|exact .refl _|apply LeR.tup|apply Le.agg|constructor)) rfl rfl ?_
    refine Og Tryz.func54 ?_;simp only [go_sem,takeTA,bytesA,↓alt_f]
    refine Ops.pure .free rfl rfl (hs2) (by simp only [go_sem,bytesA];(repeat' first|exact .refl _|apply LeR.tup|apply Le.agg|constructor)) rfl rfl ?_
    refine Og Tryz.func54 ?_;simp only [go_sem,takeLA,textsA,bytesA,hz,↓alt_t,Nat.reduceAdd]
    (and_intros <;> try first|rfl|omega|(unfold I64;omega))
    simp only [takeRpA,encR,textsA,bytesA,Ye]
    (repeat' first|exact .refl _|apply LeR.tup|apply Le.agg|constructor)
   | ok p =>
    obtain ⟨u,r3⟩ := p
    rw [hu] at hs2
    by_cases g1 : n2 < 0
    ·have e : takeRp b = .error 3 := by rw [takeRp,hq];simp [ht,hu,g1]
     rw [e]
     refine ⟨⟨_,Tryz.func54,by kernel_rfl,rfl⟩,Sg Tryz.func54 rfl fun c0 hc0 => ?_⟩;simp only [go_sem,bytesA,Nat.reduceAdd,Nat.reduceSub]
     refine Ops.pure .free rfl rfl (hi) (by simp only [go_sem,bytesA];(repeat' first|exact .refl _|apply LeR.tup|apply Le.agg|constructor)) rfl rfl ?_
     refine Og Tryz.func54 ?_;simp only [go_sem,seqA,bytesA,↓alt_f]
     refine Ops.pure .free rfl rfl (hs1) (by simp only [go_sem,bytesA];(repeat' first|exact .refl _|apply LeR.tup|apply Le.agg|constructor)) rfl rfl ?_
     refine Og Tryz.func54 ?_;simp only [go_sem,takeTA,bytesA,↓alt_f]
     refine Ops.pure .free rfl rfl (hs2) (by simp only [go_sem,bytesA];(repeat' first|exact .refl _|apply LeR.tup|apply Le.agg|constructor)) rfl rfl ?_
     refine Og Tryz.func54 ?_;simp only [go_sem,takeLA,textsA,bytesA,intC,g1,Int.reduceToNat,↓alt_t,↓alt_f,↓alts_t,↓gone_ft,Int.reduceLE,Nat.reduceAdd,Nat.reduceLT]
     (and_intros <;> try first|rfl|omega|(unfold I64;omega))
     simp only [takeRpA,encR,textsA,bytesA,Ye]
     (repeat' first|exact .refl _|apply LeR.tup|apply Le.agg|constructor)
    ·by_cases g2 : 16 < n2
     ·have e : takeRp b = .error 3 := by rw [takeRp,hq];simp [ht,hu,g2]
      rw [e]
      refine ⟨⟨_,Tryz.func54,by kernel_rfl,rfl⟩,Sg Tryz.func54 rfl fun c0 hc0 => ?_⟩;simp only [go_sem,bytesA,Nat.reduceAdd,Nat.reduceSub]
      refine Ops.pure .free rfl rfl (hi) (by simp only [go_sem,bytesA];(repeat' first|exact .refl _|apply LeR.tup|apply Le.agg|constructor)) rfl rfl ?_
      refine Og Tryz.func54 ?_;simp only [go_sem,seqA,bytesA,↓alt_f]
      refine Ops.pure .free rfl rfl (hs1) (by simp only [go_sem,bytesA];(repeat' first|exact .refl _|apply LeR.tup|apply Le.agg|constructor)) rfl rfl ?_
      refine Og Tryz.func54 ?_;simp only [go_sem,takeTA,bytesA,↓alt_f]
      refine Ops.pure .free rfl rfl (hs2) (by simp only [go_sem,bytesA];(repeat' first|exact .refl _|apply LeR.tup|apply Le.agg|constructor)) rfl rfl ?_
      refine Og Tryz.func54 ?_;simp only [go_sem,takeLA,textsA,bytesA,intC,g1,g2,Int.reduceToNat,↓alt_t,↓alt_f,↓alts_f,↓gone_ff,Int.reduceLE,Nat.reduceAdd,Nat.reduceLT]
      (and_intros <;> try first|rfl|omega|(unfold I64;omega))
      simp only [takeRpA,encR,textsA,bytesA,Ye]
      (repeat' first|exact .refl _|apply LeR.tup|apply Le.agg|constructor)
     ·have e : takeRp b = .ok (⟨n0,n1,n2,t,n3,u⟩,r3) := by rw [takeRp,hq];simp [ht,hu,g1,g2]
      rw [e]
      refine ⟨⟨_,Tryz.func54,by kernel_rfl,rfl⟩,Sg Tryz.func54 rfl fun c0 hc0 => ?_⟩;simp only [go_sem,bytesA,Nat.reduceAdd,Nat.reduceSub]
      refine Ops.pure .free rfl rfl (hi) (by simp only [go_sem,bytesA];(repeat' first|exact .refl _|apply LeR.tup|apply Le.agg|constructor)) rfl rfl ?_
      refine Og Tryz.func54 ?_;simp only [go_sem,seqA,bytesA,↓alt_f]
      refine Ops.pure .free rfl rfl (hs1) (by simp only [go_sem,bytesA];(repeat' first|exact .refl _|apply LeR.tup|apply Le.agg|constructor)) rfl rfl ?_
      refine Og Tryz.func54 ?_;simp only [go_sem,takeTA,bytesA,↓alt_f]
      refine Ops.pure .free rfl rfl (hs2) (by simp only [go_sem,bytesA];(repeat' first|exact .refl _|apply LeR.tup|apply Le.agg|constructor)) rfl rfl ?_
      refine Og Tryz.func54 ?_;simp only [go_sem,takeLA,textsA,bytesA,intC,g1,g2,Int.reduceToNat,↓alt_f,↓alts_f,↓gone_ff,Int.reduceLE,Nat.reduceAdd,Nat.reduceLeDiff,Nat.reduceLT]
      (and_intros <;> try first|rfl|omega|(unfold I64;omega))
      simp only [takeRpA,encR,textsA,bytesA]
      (repeat' first|exact .refl _|apply LeR.tup|apply Le.agg|constructor)
end Go.Proofs.YtkamcoechjdgpaaGreat
