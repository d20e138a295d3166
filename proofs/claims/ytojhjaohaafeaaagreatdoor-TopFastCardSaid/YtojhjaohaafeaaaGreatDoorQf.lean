/-
  Several texts in one: Ha, Vb, Ca, Ot, Oi, Str, Conv, Len, Octet, OctetB, Nd, Pe, Na, Rb, Rc, Rd0, Rt, Rv, Ru, Re, Ne, Nf, Ng, Nh, Ni, Ss, Tn, St, Su, Sv, TakeLaw, Bq.
-/
import Derived.Test.YtojhjaohaafeaaaGreatDoorQa
import Derived.Test.YtojhjaohaafeaaaGreatDoorQc
import Derived.Test.YtojhjaohaafeaaaGreatDoorQd
import Derived.Test.YtojhjaohaafeaaaGreatDoorQb
import Derived.Lib.AppendStr
import Derived.Laws.IdiomStrings
import Derived.Test.YtojhjaohaafeaaaGreatDoorRows
import Derived.Shelf.Strconv.Itoa0
import Derived.Test.YtojhjaohaafeaaaGreatDoorProg
set_option maxRecDepth 20000
set_option maxHeartbeats 8000000
open Go.Proofs.Tryz
namespace Go.Proofs.YtojhjaohaafeaaaGreatDoor
open Go.RowKit
abbrev i(n:Int):AV:=.int .i64 n
abbrev z0(l:List AV):List AV:=.int .u8 0::.int .u8 0::.int .u8 0::.int .u8 0::.int .u8 0::.int .u8 0::.int .u8 0::.int .u8 0::.int .u8 0::.int .u8 0::.int .u8 0::.int .u8 0::.int .u8 0::.int .u8 0::.int .u8 0::.int .u8 0::.int .u8 0::.int .u8 0::.int .u8 0::.int .u8 0::.int .u8 0::.int .u8 0::.int .u8 0::.int .u8 0::.int .u8 0::.int .u8 0::.int .u8 0::.int .u8 0::.int .u8 0::.int .u8 0::.int .u8 0::.int .u8 0::l
def q0:List AV:=[.nils,i (-1)]
def q1:List AV:=(.nils::.nils::.bool false::.str []::q0)
def q2:List AV:=(.nils::.nils::i 1::i 0::.nils::q1)
def q3:List AV:=(.bool false::i 0::.str []::q2)
def q4:List AV:=(i 1::i 0::i 0::i 0::q3)
def q5:List AV:=[.str [],i 0,i 0]
def q6:List AV:=(.str [47]::q5)
def q7:AV:=.sl 4 [q6] .no
def q8:List (List AV):=[[i 0],[i 0]]
def q9:AV:=.sl 1 ([i 0]::[i 0]::q8) .no
def q10:AV:=.agg [i 1,i 0,i 0,i 2,i 1,i 0,i 0,i 0,q9,i 0,i 4,i 2,i 0,.nils,i 1,i 0,.nils,i 0,.int .u8 0,.int .u8 0,.int .u8 0,.int .u8 0,.int .u8 0,.int .u8 0,.int .u8 0,.int .u8 0,.int .u8 0,.int .u8 0,.int .u8 0,.int .u8 0,.int .u8 0,.int .u8 0,.int .u8 0,.int .u8 0,.int .u8 0,.int .u8 0,.int .u8 0,.int .u8 0,.int .u8 0,.int .u8 0,.int .u8 0,.int .u8 0,.int .u8 0,.int .u8 0,.int .u8 0,.int .u8 0,.int .u8 0,.int .u8 0,.int .u8 0,.int .u8 0,q7,i 0,.nils,.nils,.nils,.nils,.sl 18 [q4,q4] .no,.nils]
def q11:List AV:=[i 0,.str [],i 0,.nils]
def q12:List AV:=(.str []::i 0::i 0::i 0::i 0::i 0::q11)
def q13:AV:=.agg (i 8::i 0::i 0::i 0::.str []::.nils::i 0::i 0::.str []::.nils::i 0::i 0::.bool false::i 0::.str []::.nils::z0 (i 0::i 1::i 1::.str [47,97]::q12))
def q14:List AV:=(z0 (i 0::i 0::i 0::.str []::q12))
def q15:List AV:=(.bool false::i 0::.str []::.nils::q14)
def q16:List AV:=(i 0::i 0::q15)
def q17:List AV:=(.nils::q16)
def q18:List AV:=(i 0::i 0::.str []::q17)
def q19:List AV:=(.nils::q18)
def q20:AV:=.str [1,1,0,1,2,1,2,0,0,0,1,2,47,97,0]
def q21:List AV:=(i 0::i 0::q20::q19)
def q22:List AV:=(i 1::i 0::q21)
def q23:List AV:=[.sl 8 [[i 0,i 1,i 1,.str [47,97],.str [],i 0,i 0,i 0]] .no]
def q24:List AV:=[.nils,.nils,.bool false,.str [],.nils,i 0]
def q25:List AV:=(.nils::.nils::i 1::i 0::.nils::q24)
def q26:List AV:=(.bool false::i 0::.str []::q25)
def q27:List AV:=(i 0::i 4::i 2::i 0::.nils::i 1::i 0::.nils::i 0::z0 (q7::i 0::.nils::.nils::.nils::.nils::.sl 18 [(i 1::i 0::i 0::i 0::q26),q4] .no::q23))
def q28:AV:=.agg (i 1::i 0::i 0::i 2::i 1::i 0::i 0::i 0::q9::q27)
def q29:List AV:=(i 1::i 0::i 1::i 0::q3)
def q30:AV:=.sl 18 [q29,q29] .no
def q31:AV:=.agg [i 1,i 0,i 1,i 2,i 1,i 0,i 1,i 0,q9,i 0,i 4,i 2,i 0,.nils,i 1,i 0,.nils,i 0,.int .u8 0,.int .u8 0,.int .u8 0,.int .u8 0,.int .u8 0,.int .u8 0,.int .u8 0,.int .u8 0,.int .u8 0,.int .u8 0,.int .u8 0,.int .u8 0,.int .u8 0,.int .u8 0,.int .u8 0,.int .u8 0,.int .u8 0,.int .u8 0,.int .u8 0,.int .u8 0,.int .u8 0,.int .u8 0,.int .u8 0,.int .u8 0,.int .u8 0,.int .u8 0,.int .u8 0,.int .u8 0,.int .u8 0,.int .u8 0,.int .u8 0,.int .u8 0,q7,i 0,.nils,.nils,.nils,.nils,q30,.nils]
def q32:List AV:=(i 0::i 4::i 2::i 0::.nils::i 1::i 0::.nils::i 0::z0 (q7::i 0::.nils::.nils::.nils::.nils::q30::q23))
def q33:AV:=.agg (i 1::i 0::i 1::i 2::i 1::i 0::i 1::i 0::q9::q32)
def q34:List AV:=(i 1::i 0::i 2::i 0::q3)
def q35:AV:=.sl 18 [q34,q34] .no
def q36:AV:=.agg [i 1,i 0,i 2,i 2,i 1,i 0,i 2,i 0,q9,i 0,i 4,i 2,i 0,.nils,i 1,i 0,.nils,i 0,.int .u8 0,.int .u8 0,.int .u8 0,.int .u8 0,.int .u8 0,.int .u8 0,.int .u8 0,.int .u8 0,.int .u8 0,.int .u8 0,.int .u8 0,.int .u8 0,.int .u8 0,.int .u8 0,.int .u8 0,.int .u8 0,.int .u8 0,.int .u8 0,.int .u8 0,.int .u8 0,.int .u8 0,.int .u8 0,.int .u8 0,.int .u8 0,.int .u8 0,.int .u8 0,.int .u8 0,.int .u8 0,.int .u8 0,.int .u8 0,.int .u8 0,.int .u8 0,q7,i 0,.nils,.nils,.nils,.nils,q35,.nils]
def q37:List AV:=(i 0::i 4::i 2::i 0::.nils::i 1::i 0::.nils::i 0::z0 (q7::i 0::.nils::.nils::.nils::.nils::q35::q23))
def q38:AV:=.agg (i 1::i 0::i 2::i 2::i 1::i 0::i 2::i 0::q9::q37)
def q39:List AV:=(i 1::i 0::i 3::i 0::q3)
def q40:AV:=.sl 18 [q39,q39] .no
def q41:AV:=.agg [i 1,i 0,i 3,i 2,i 1,i 0,i 3,i 0,q9,i 0,i 4,i 2,i 0,.nils,i 1,i 0,.nils,i 0,.int .u8 0,.int .u8 0,.int .u8 0,.int .u8 0,.int .u8 0,.int .u8 0,.int .u8 0,.int .u8 0,.int .u8 0,.int .u8 0,.int .u8 0,.int .u8 0,.int .u8 0,.int .u8 0,.int .u8 0,.int .u8 0,.int .u8 0,.int .u8 0,.int .u8 0,.int .u8 0,.int .u8 0,.int .u8 0,.int .u8 0,.int .u8 0,.int .u8 0,.int .u8 0,.int .u8 0,.int .u8 0,.int .u8 0,.int .u8 0,.int .u8 0,.int .u8 0,q7,i 0,.nils,.nils,.nils,.nils,q40,.nils]
def q42:List AV:=(i 0::i 4::i 2::i 0::.nils::i 1::i 0::.nils::i 0::z0 (q7::i 0::.nils::.nils::.nils::.nils::q40::q23))
def q43:AV:=.agg (i 1::i 0::i 3::i 2::i 1::i 0::i 3::i 0::q9::q42)
def q44:List AV:=(.str []::q19)
def q45:List AV:=(i 0::i 1::q44)
def q46:List AV:=(i 6::i 0::q45)
def q47:AV:=.agg q46
def q48:AV:=.sl 1 ([i 1]::[i 0]::q8) .no
def q49:AV:=.agg (i 1::i 0::i 1::i 2::i 1::i 0::i 1::i 0::q48::q32)
def q50:AV:=.tup [q49,.nils]
def q51:AV:=.agg (i 1::i 0::i 2::i 2::i 1::i 0::i 2::i 0::q48::q37)
def q52:AV:=.agg (i 1::i 0::i 3::i 2::i 1::i 0::i 3::i 0::q48::q42)
def q53:List AV:=(i 6::i 1::q45)
def q54:AV:=.agg q53
def q55:AV:=.agg (i 1::i 0::i 0::i 2::i 1::i 0::i 0::i 0::.sl 1 ([i 0]::[i 1]::q8) .no::q27)
def q56:List AV:=(i 0::.str []::.nils::i 0::i 0::.str []::.nils::i 2::i 1::q15)
def q57:List AV:=(i 4::i 0::i 1::q56)
def q58:List AV:=(i 4::i 0::i 0::q56)
def q59:List AV:=(i 6::i 2::q45)
def q60:List AV:=(i 1::i 0::i 2::i 1::q3)
def q61:List AV:=(i 0::i 4::i 2::i 0::.nils::i 1::i 0::.nils::i 0::z0 (q7::i 0::.nils::.nils::.nils::.nils::.sl 18 [q60,q60] .no::q23))
def q62:AV:=.sl 1 [[i 1],[i 1],[i 1],[i 0]] .no
def q63:AV:=.agg (i 1::i 0::i 2::i 2::i 1::i 0::i 2::i 1::q62::q61)
def q64:List AV:=(i 0::.str []::.nils::i 0::i 0::.str []::.nils::i 3::i 1::q15)
def q65:List AV:=(i 4::i 0::i 1::q64)
def q66:List AV:=(i 4::i 0::i 0::q64)
def q67:List AV:=(i 6::i 3::q45)
def q68:List AV:=(i 1::i 0::i 3::i 1::q3)
def q69:List AV:=(i 0::i 4::i 2::i 0::.nils::i 1::i 0::.nils::i 0::z0 (q7::i 0::.nils::.nils::.nils::.nils::.sl 18 [q68,q68] .no::q23))
def q70:AV:=.agg (i 1::i 0::i 3::i 2::i 1::i 0::i 3::i 1::.sl 1 [[i 1],[i 1],[i 0],[i 1]] .no::q69)
def q71:AV:=.agg q59
def q72:List AV:=(i 0::.str []::.nils::i 0::i 0::.str []::.nils::i 0::i 1::q15)
def q73:List AV:=(i 4::i 0::i 1::q72)
def q74:List AV:=(i 4::i 0::i 0::q72)
def q75:List AV:=(i 1::i 0::i 0::i 1::q3)
def q76:List AV:=(i 0::i 4::i 2::i 0::.nils::i 1::i 0::.nils::i 0::z0 (q7::i 0::.nils::.nils::.nils::.nils::.sl 18 [(i 1::i 0::i 0::i 1::q26),q75] .no::q23))
def q77:AV:=.agg (i 1::i 0::i 0::i 2::i 1::i 0::i 0::i 1::q62::q76)
def q78:List AV:=(i 0::.str []::.nils::i 0::i 0::.str []::.nils::i 1::i 1::q15)
def q79:List AV:=(i 4::i 0::i 1::q78)
def q80:List AV:=(i 4::i 0::i 0::q78)
def q81:List AV:=(i 1::i 0::i 1::i 1::q3)
def q82:List AV:=(i 0::i 4::i 2::i 0::.nils::i 1::i 0::.nils::i 0::z0 (q7::i 0::.nils::.nils::.nils::.nils::.sl 18 [q81,q81] .no::q23))
def q83:AV:=.agg (i 1::i 0::i 1::i 2::i 1::i 0::i 1::i 1::q62::q82)
def q84:List (List AV):=[[i 1],[i 1]]
def q85:List (List AV):=([i 1]::q84)
def q86:AV:=.sl 1 ([i 1]::q85) .no
def q87:AV:=.agg (i 1::i 0::i 3::i 2::i 1::i 0::i 3::i 1::q86::q69)
def q88:AV:=.tup [q87,.nils]
def q89:AV:=.agg q67
def q90:AV:=.agg (i 1::i 0::i 0::i 2::i 1::i 0::i 0::i 1::q86::q76)
def q91:AV:=.tup [q90,.nils]
def q92:AV:=.agg (i 1::i 0::i 1::i 2::i 1::i 0::i 1::i 1::q86::q82)
def q93:AV:=.tup [q92,.nils]
def q94:AV:=.agg (i 1::i 0::i 2::i 2::i 1::i 0::i 2::i 1::q86::q61)
def q95:AV:=.tup [q94,.nils]
def q96:AV:=.agg q22
def q97:AV:=.agg q58
def q98:List AV:=[.bool false,i 0,.str [],.nils]
def q99:List AV:=(i 2::i 1::q98)
def q100:List AV:=[i 1,i 0,i 1,i 1,.bool false,i 0,.str [],.nils,.nils,i 1,i 0,.nils,.nils,.nils,.bool false,.str [],.sl 6 [q99] .no,i (-1)]
def q101:AV:=.agg (i 1::i 0::i 1::i 2::i 1::i 0::i 1::i 1::q86::i 0::i 4::i 2::i 0::.nils::i 1::i 0::.nils::i 0::z0 (q7::i 0::.nils::.nils::.nils::.nils::.sl 18 [q100,q81] .no::q23))
def q102:AV:=.agg q57
def q103:AV:=.agg (i 1::i 0::i 1::i 2::i 1::i 0::i 1::i 1::q86::i 0::i 4::i 2::i 0::.nils::i 1::i 0::.nils::i 0::z0 (q7::i 0::.nils::.nils::.nils::.nils::.sl 18 [q100,q100] .no::q23))
def q104:AV:=.tup [q103,.nils]
def q105:AV:=.agg q66
def q106:List (List AV):=[q99,(i 3::i 1::q98)]
def q107:List AV:=[i 1,i 0,i 1,i 1,.bool false,i 0,.str [],.nils,.nils,i 1,i 0,.nils,.nils,.nils,.bool false,.str [],.sl 6 q106 .no,i (-1)]
def q108:AV:=.agg (i 1::i 0::i 1::i 2::i 1::i 0::i 1::i 1::q86::i 0::i 4::i 2::i 0::.nils::i 1::i 0::.nils::i 0::z0 (q7::i 0::.nils::.nils::.nils::.nils::.sl 18 [q107,q100] .no::q23))
def q109:AV:=.agg q65
def q110:AV:=.agg (i 1::i 0::i 1::i 2::i 1::i 0::i 1::i 1::q86::i 0::i 4::i 2::i 0::.nils::i 1::i 0::.nils::i 0::z0 (q7::i 0::.nils::.nils::.nils::.nils::.sl 18 [q107,q107] .no::q23))
def q111:AV:=.tup [q110,.nils]
def q112:AV:=.agg q74
def q113:List AV:=(i 0::i 1::q98)
def q114:AV:=.sl 6 (q113::q106) .no
def q115:List AV:=(i 1::i 1::i 0::i 1::q20::q114::q18)
def q116:List AV:=[i 1,i 0,i 1,i 1,.bool false,i 0,.str [],.nils,.nils,i 1,i 0,.nils,.nils,.nils,.bool false,.str [],q114,i 1]
def q117:AV:=.agg (i 1::i 0::i 1::i 2::i 1::i 0::i 1::i 1::q86::i 0::i 4::i 2::i 0::.nils::i 1::i 0::.nils::i 0::z0 (q7::i 0::.nils::.nils::.nils::.nils::.sl 18 [q116,q107] .no::q23))
def q118:AV:=.agg q73
def q119:List (List AV):=[[i 1,i 0,i 1,i 1,.bool false,i 0,.str [],.nils,.nils,i 1,i 0,.nils,.nils,.nils,.bool false,.str [],q114,i (-1)]]
def q120:AV:=.agg (i 1::i 0::i 1::i 2::i 1::i 0::i 1::i 1::q86::i 0::i 4::i 2::i 0::.nils::i 1::i 0::.nils::i 0::z0 (q7::i 0::.nils::.nils::.nils::.nils::.sl 18 (q116::q119) .no::q23))
def q121:AV:=.tup [q120,.nils]
def q122:AV:=.agg q80
def q123:List AV:=(i 1::i 1::q98)
def q124:AV:=.sl 6 (q113::q123::q106) .no
def q125:List AV:=[.nils,.nils,.bool false,.str [],q124,i 1]
def q126:List AV:=(.nils::.nils::i 1::i 0::.nils::q125)
def q127:List AV:=(i 1::i 0::i 1::i 1::.bool false::i 0::.str []::q126)
def q128:AV:=.agg (i 1::i 0::i 1::i 2::i 1::i 0::i 1::i 1::q86::i 0::i 4::i 2::i 0::.nils::i 1::i 0::.nils::i 0::z0 (q7::i 0::.nils::.nils::.nils::.nils::.sl 18 (q127::q119) .no::q23))
def q129:AV:=.agg q79
def q130:List AV:=[i 1,i 0,i 1,i 1,.bool false,i 0,.str [],.nils,.nils,i 1,i 0,.nils,.nils,.nils,.bool false,.str [],q124,i (-1)]
def q131:AV:=.agg (i 1::i 0::i 1::i 2::i 1::i 0::i 1::i 1::q86::i 0::i 4::i 2::i 0::.nils::i 1::i 0::.nils::i 0::z0 (q7::i 0::.nils::.nils::.nils::.nils::.sl 18 [q127,q130] .no::q23))
def q132:AV:=.agg q115
def q133:List AV:=(i 1::q20::q17)
def q134:List AV:=(i 2::i 0::i 0::i 0::.str []::.nils::i 0::q133)
def q135:AV:=.agg (i 1::i 0::i 0::i 2::i 1::i 0::i 0::i 1::q86::i 0::i 4::i 2::i 0::.nils::i 1::i 0::.nils::i 0::z0 (q7::i 0::.nils::.nils::.nils::.nils::.sl 18 [(i 1::i 0::i 0::i 1::.bool true::i 1::q20::q25),q75] .no::q23))
def q136:List AV:=(i 2::i 0::i 0::i 0::.str []::.nils::i 1::q133)
def q137:AV:=.agg (i 1::i 0::i 1::i 2::i 1::i 0::i 1::i 1::q86::i 0::i 4::i 2::i 0::.nils::i 1::i 0::.nils::i 0::z0 (q7::i 0::.nils::.nils::.nils::.nils::.sl 18 [(i 1::i 0::i 1::i 1::.bool true::i 1::q20::q126),q130] .no::q23))
def q138:List AV:=(i 2::i 0::i 0::i 0::.str []::.nils::i 2::q133)
def q139:List AV:=(i 1::.bool true::i 1::q20::q2)
def q140:AV:=.agg (i 1::i 0::i 2::i 2::i 1::i 0::i 2::i 1::q86::i 0::i 4::i 2::i 0::.nils::i 1::i 0::.nils::i 0::z0 (q7::i 0::.nils::.nils::.nils::.nils::.sl 18 [(i 1::i 0::i 2::q139),q60] .no::q23))
def q141:List AV:=(i 2::i 0::i 0::i 0::.str []::.nils::i 3::q133)
def q142:AV:=.agg (i 1::i 0::i 3::i 2::i 1::i 0::i 3::i 1::q86::i 0::i 4::i 2::i 0::.nils::i 1::i 0::.nils::i 0::z0 (q7::i 0::.nils::.nils::.nils::.nils::.sl 18 [(i 1::i 0::i 3::q139),q68] .no::q23))
def q143:AV:=.agg q134
def q144:List AV:=[i 0,i 1,q20]
def q145:AV:=.sl 3 [q144] .no
def q146:AV:=.agg (i 1::i 0::i 0::i 2::i 1::i 0::i 0::i 1::q86::i 0::i 4::i 2::i 0::.nils::i 1::i 0::.nils::i 0::z0 (q7::i 0::.nils::.nils::.nils::.nils::.sl 18 [(i 1::i 0::i 0::i 1::.bool true::i 1::q20::.nils::q145::i 1::i 0::q145::q24),q75] .no::q23))
def q147:AV:=.agg (i 1::i 0::i 1::i 2::i 1::i 0::i 1::i 1::q86::i 0::i 4::i 2::i 0::.nils::i 1::i 0::.nils::i 0::z0 (q7::i 0::.nils::.nils::.nils::.nils::.sl 18 [(i 1::i 0::i 1::i 1::.bool true::i 1::q20::.nils::q145::i 1::i 0::q145::q125),q130] .no::q23))
def q148:List AV:=(i 1::.bool true::i 1::q20::.nils::q145::i 1::i 0::q145::q1)
def q149:AV:=.agg (i 1::i 0::i 2::i 2::i 1::i 0::i 2::i 1::q86::i 0::i 4::i 2::i 0::.nils::i 1::i 0::.nils::i 0::z0 (q7::i 0::.nils::.nils::.nils::.nils::.sl 18 [(i 1::i 0::i 2::q148),q60] .no::q23))
def q150:AV:=.agg (i 1::i 0::i 3::i 2::i 1::i 0::i 3::i 1::q86::i 0::i 4::i 2::i 0::.nils::i 1::i 0::.nils::i 0::z0 (q7::i 0::.nils::.nils::.nils::.nils::.sl 18 [(i 1::i 0::i 3::q148),q68] .no::q23))
def q151:AV:=.agg q136
def q152:List AV:=[i 1,i 1,q20]
def q153:AV:=.sl 3 [q144,q152] .no
def q154:AV:=.agg (i 1::i 0::i 0::i 2::i 1::i 0::i 0::i 1::q86::i 0::i 4::i 2::i 0::.nils::i 1::i 0::.nils::i 0::z0 (q7::i 0::.nils::.nils::.nils::.nils::.sl 18 [(i 1::i 0::i 0::i 1::.bool true::i 1::q20::.nils::q153::i 1::i 0::q153::q24),q75] .no::q23))
def q155:AV:=.agg (i 1::i 0::i 1::i 2::i 1::i 0::i 1::i 1::q86::i 0::i 4::i 2::i 0::.nils::i 1::i 0::.nils::i 0::z0 (q7::i 0::.nils::.nils::.nils::.nils::.sl 18 [(i 1::i 0::i 1::i 1::.bool true::i 1::q20::.nils::q153::i 1::i 0::q153::q125),q130] .no::q23))
def q156:List AV:=(i 1::.bool true::i 1::q20::.nils::q153::i 1::i 0::q153::q1)
def q157:AV:=.agg (i 1::i 0::i 2::i 2::i 1::i 0::i 2::i 1::q86::i 0::i 4::i 2::i 0::.nils::i 1::i 0::.nils::i 0::z0 (q7::i 0::.nils::.nils::.nils::.nils::.sl 18 [(i 1::i 0::i 2::q156),q60] .no::q23))
def q158:AV:=.agg (i 1::i 0::i 3::i 2::i 1::i 0::i 3::i 1::q86::i 0::i 4::i 2::i 0::.nils::i 1::i 0::.nils::i 0::z0 (q7::i 0::.nils::.nils::.nils::.nils::.sl 18 [(i 1::i 0::i 3::q156),q68] .no::q23))
def q159:AV:=.agg q138
def q160:List AV:=[i 2,i 1,q20]
def q161:AV:=.sl 3 [q144,q152,q160] .no
def q162:List AV:=(i 0::i 0::.str []::.nils::i 0::i 0::.str []::q161::q16)
def q163:List AV:=(i 3::i 0::q162)
def q164:AV:=.agg (i 1::i 0::i 0::i 2::i 1::i 0::i 0::i 1::q86::i 0::i 4::i 2::i 0::.nils::i 1::i 0::.nils::i 0::z0 (q7::i 0::.nils::.nils::.nils::.nils::.sl 18 [(i 1::i 0::i 0::i 1::.bool true::i 1::q20::q161::q161::i 1::i 0::q161::q24),q75] .no::q23))
def q165:List AV:=(i 3::i 1::q162)
def q166:AV:=.agg (i 1::i 0::i 1::i 2::i 1::i 0::i 1::i 1::q86::i 0::i 4::i 2::i 0::.nils::i 1::i 0::.nils::i 0::z0 (q7::i 0::.nils::.nils::.nils::.nils::.sl 18 [(i 1::i 0::i 1::i 1::.bool true::i 1::q20::q161::q161::i 1::i 0::q161::q125),q130] .no::q23))
def q167:List AV:=(i 3::i 2::q162)
def q168:List AV:=(i 1::.bool true::i 1::q20::q161::q161::i 1::i 0::q161::q1)
def q169:AV:=.agg (i 1::i 0::i 2::i 2::i 1::i 0::i 2::i 1::q86::i 0::i 4::i 2::i 0::.nils::i 1::i 0::.nils::i 0::z0 (q7::i 0::.nils::.nils::.nils::.nils::.sl 18 [(i 1::i 0::i 2::q168),q60] .no::q23))
def q170:List AV:=(i 3::i 3::q162)
def q171:AV:=.agg (i 1::i 0::i 3::i 2::i 1::i 0::i 3::i 1::q86::i 0::i 4::i 2::i 0::.nils::i 1::i 0::.nils::i 0::z0 (q7::i 0::.nils::.nils::.nils::.nils::.sl 18 [(i 1::i 0::i 3::q168),q68] .no::q23))
def q172:AV:=.agg q141
def q173:List AV:=(i 4::i 0::i 2::q72)
def q174:List AV:=(i 0::i 1::q11)
def q175:List AV:=(i 0::i 0::.str []::.nils::i 0::i 0::.str []::.nils::i 0::i 0::.bool false::i 0::.str []::.nils::z0 (i 0::i 0::i 0::.str []::.str []::i 0::i 0::i 0::q174))
def q176:List AV:=(i 9::i 0::q175)
def q177:List AV:=(i 5::i 0::q21)
def q178:List AV:=[.sl 8 [] .no]
def q179:AV:=.sl 3 [q144,q152,q160,[i 3,i 1,q20]] .no
def q180:List AV:=[i 1,i 0,q179,.nils,.nils,.bool true,q20,.nils,i 0]
def q181:AV:=.sl 1 [[q20]] .no
def q182:AV:=.sl 6 [q174] .no
def q183:AV:=.sl 4 [q6,(.str [47,97]::q5)] .no
def q184:List AV:=(i 0::i 4::i 2::i 1::.sl 2 [] .no::i 1::i 0::.nils::i 0::z0 (q183::i 0::.nils::.nils::q182::q181::.sl 18 [(i 1::i 0::i 0::i 1::.bool true::i 1::q20::q161::q179::q180),q75,q75] .no::q178))
def q185:AV:=.agg (i 1::i 0::i 0::i 2::i 1::i 0::i 0::i 1::q86::q184)
def q186:List AV:=(i 4::i 0::i 2::q78)
def q187:List AV:=(i 9::i 1::q175)
def q188:List AV:=(i 5::i 1::q21)
def q189:List AV:=[i 1,i 0,i 1,i 1,.bool true,i 1,q20,q161,q179,i 1,i 0,q179,.nils,.nils,.bool true,q20,q124,i 1]
def q190:AV:=.agg (i 1::i 0::i 1::i 2::i 1::i 0::i 1::i 1::q86::i 0::i 4::i 2::i 1::.sl 2 [] .no::i 1::i 0::.nils::i 0::z0 (q183::i 0::.nils::.nils::q182::q181::.sl 18 [q189,q130,q81] .no::q178))
def q191:List AV:=(i 4::i 0::i 2::q56)
def q192:List AV:=(i 9::i 2::q175)
def q193:List AV:=(i 5::i 2::q21)
def q194:List AV:=(i 1::i 0::q179::.nils::.nils::.bool true::q20::q0)
def q195:List AV:=(i 1::.bool true::i 1::q20::q161::q179::q194)
def q196:List AV:=(i 0::i 4::i 2::i 1::.sl 2 [] .no::i 1::i 0::.nils::i 0::z0 (q183::i 0::.nils::.nils::q182::q181::.sl 18 [(i 1::i 0::i 2::q195),q60,q60] .no::q178))
def q197:AV:=.agg (i 1::i 0::i 2::i 2::i 1::i 0::i 2::i 1::q86::q196)
def q198:List AV:=(i 4::i 0::i 2::q64)
def q199:List AV:=(i 9::i 3::q175)
def q200:List AV:=(i 5::i 3::q21)
def q201:List AV:=(i 0::i 4::i 2::i 1::.sl 2 [] .no::i 1::i 0::.nils::i 0::z0 (q183::i 0::.nils::.nils::q182::q181::.sl 18 [(i 1::i 0::i 3::q195),q68,q68] .no::q178))
def q202:AV:=.agg (i 1::i 0::i 3::i 2::i 1::i 0::i 3::i 1::q86::q201)
def q203:AV:=.agg q163
def q204:AV:=.tup [q185,.nils]
def q205:AV:=.tup [q190,.nils]
def q206:AV:=.tup [q197,.nils]
def q207:AV:=.tup [q202,.nils]
def q208:AV:=.agg q165
def q209:AV:=.agg q167
def q210:AV:=.agg q170
def q211:AV:=.agg q177
def q212:AV:=.agg q176
def q213:AV:=.agg q173
def q214:AV:=.agg (i 1::i 0::i 1::i 2::i 1::i 0::i 1::i 1::q86::i 0::i 4::i 2::i 1::.sl 2 [] .no::i 1::i 0::.nils::i 0::z0 (q183::i 0::.nils::.nils::q182::q181::.sl 18 [q189,q130,[i 1,i 0,i 1,i 1,.bool false,i 0,.str [],.nils,.nils,i 1,i 0,.nils,.nils,.nils,.bool false,.str [],.sl 6 [q113] .no,i (-1)]] .no::q178))
def q215:AV:=.tup [q214,.nils]
def q216:AV:=.agg q188
def q217:AV:=.agg q187
def q218:AV:=.agg q186
def q219:AV:=.agg (i 1::i 0::i 1::i 2::i 1::i 0::i 1::i 1::q86::i 0::i 4::i 2::i 1::.sl 2 [] .no::i 1::i 0::.nils::i 0::z0 (q183::i 0::.nils::.nils::q182::q181::.sl 18 [q189,q130,[i 1,i 0,i 1,i 1,.bool false,i 0,.str [],.nils,.nils,i 1,i 0,.nils,.nils,.nils,.bool false,.str [],.sl 6 [q113,q123] .no,i (-1)]] .no::q178))
def q220:AV:=.tup [q219,.nils]
def q221:AV:=.agg q193
def q222:AV:=.agg q192
def q223:AV:=.agg q191
def q224:AV:=.agg (i 1::i 0::i 1::i 2::i 1::i 0::i 1::i 1::q86::i 0::i 4::i 2::i 1::.sl 2 [] .no::i 1::i 0::.nils::i 0::z0 (q183::i 0::.nils::.nils::q182::q181::.sl 18 [q189,q130,[i 1,i 0,i 1,i 1,.bool false,i 0,.str [],.nils,.nils,i 1,i 0,.nils,.nils,.nils,.bool false,.str [],.sl 6 [q113,q123,q99] .no,i (-1)]] .no::q178))
def q225:AV:=.tup [q224,.nils]
def q226:AV:=.agg q200
def q227:AV:=.agg q199
def q228:AV:=.agg q198
def q229:List AV:=(i 0::i 4::i 2::i 1::.sl 2 [] .no::i 1::i 0::.nils::i 0::z0 (q183::i 0::.nils::.nils::q182::q181::.sl 18 [q189,q130,q130] .no::q178))
def q230:AV:=.agg (i 1::i 0::i 1::i 2::i 1::i 0::i 1::i 1::q86::q229)
def q231:AV:=.tup [q230,.nils]
def q232:List AV:=(i 0::i 2::q44)
def q233:List AV:=(i 6::i 0::q232)
def q234:AV:=.agg q233
def q235:AV:=.sl 1 ([i 2]::q85) .no
def q236:AV:=.agg (i 1::i 0::i 1::i 2::i 1::i 0::i 1::i 1::q235::q229)
def q237:AV:=.tup [q236,.nils]
def q238:AV:=.agg (i 1::i 0::i 2::i 2::i 1::i 0::i 2::i 1::q235::q196)
def q239:AV:=.agg (i 1::i 0::i 3::i 2::i 1::i 0::i 3::i 1::q235::q201)
def q240:List AV:=(i 6::i 1::q232)
def q241:AV:=.agg q240
def q242:AV:=.agg (i 1::i 0::i 0::i 2::i 1::i 0::i 0::i 1::.sl 1 ([i 1]::[i 2]::q84) .no::q184)
def q243:List AV:=(i 0::.str []::.nils::i 0::i 0::.str []::.nils::i 2::i 2::q15)
def q244:List AV:=(i 4::i 0::i 2::q243)
def q245:List AV:=(i 4::i 0::i 1::q243)
def q246:List AV:=(i 2::.bool true::i 1::q20::q161::q14)
def q247:List AV:=(i 4::i 0::i 0::i 0::.str []::.nils::i 0::i 0::.str []::.nils::i 2::q246)
def q248:List AV:=(i 6::i 2::q232)
def q249:List AV:=(i 1::i 0::i 2::i 2::q3)
def q250:List AV:=(.nils::q194)
def q251:List AV:=(q20::q161::q250)
def q252:List AV:=(i 2::.bool true::i 1::q251)
def q253:List AV:=(i 0::i 4::i 2::i 1::.sl 2 [] .no::i 1::i 0::.nils::i 0::z0 (q183::i 0::.nils::.nils::q182::q181::.sl 18 [(i 1::i 0::i 2::q252),q249,q249] .no::q178))
def q254:AV:=.sl 1 [[i 2],[i 2],[i 2],[i 1]] .no
def q255:AV:=.agg (i 1::i 0::i 2::i 2::i 1::i 0::i 2::i 2::q254::q253)
def q256:List AV:=(i 0::.str []::.nils::i 0::i 0::.str []::.nils::i 3::i 2::q15)
def q257:List AV:=(i 4::i 0::i 2::q256)
def q258:List AV:=(i 4::i 0::i 1::q256)
def q259:List AV:=(i 4::i 0::i 0::i 0::.str []::.nils::i 0::i 0::.str []::.nils::i 3::q246)
def q260:List AV:=(i 6::i 3::q232)
def q261:List AV:=(i 1::i 0::i 3::i 2::q3)
def q262:List AV:=(i 0::i 4::i 2::i 1::.sl 2 [] .no::i 1::i 0::.nils::i 0::z0 (q183::i 0::.nils::.nils::q182::q181::.sl 18 [(i 1::i 0::i 3::q252),q261,q261] .no::q178))
def q263:AV:=.agg (i 1::i 0::i 3::i 2::i 1::i 0::i 3::i 2::.sl 1 [[i 2],[i 2],[i 1],[i 2]] .no::q262)
def q264:AV:=.agg q248
def q265:List AV:=(i 0::.str []::.nils::i 0::i 0::.str []::.nils::i 0::i 2::q15)
def q266:List AV:=(i 4::i 0::i 2::q265)
def q267:List AV:=(i 4::i 0::i 1::q265)
def q268:List AV:=(i 4::i 0::i 0::i 0::.str []::.nils::i 0::i 0::.str []::.nils::i 0::q246)
def q269:List AV:=(i 1::i 0::i 0::i 2::q3)
def q270:List AV:=(.nils::q180)
def q271:List AV:=(q20::q161::q270)
def q272:List AV:=(i 0::i 4::i 2::i 1::.sl 2 [] .no::i 1::i 0::.nils::i 0::z0 (q183::i 0::.nils::.nils::q182::q181::.sl 18 [(i 1::i 0::i 0::i 2::.bool true::i 1::q271),q269,q269] .no::q178))
def q273:AV:=.agg (i 1::i 0::i 0::i 2::i 1::i 0::i 0::i 2::q254::q272)
def q274:List AV:=(i 0::.str []::.nils::i 0::i 0::.str []::.nils::i 1::i 2::q15)
def q275:List AV:=(i 4::i 0::i 2::q274)
def q276:List AV:=(i 4::i 0::i 1::q274)
def q277:List AV:=(i 4::i 0::i 0::i 0::.str []::.nils::i 0::i 0::.str []::.nils::i 1::q246)
def q278:List AV:=(i 1::i 0::i 1::i 2::q3)
def q279:List AV:=[i 1,i 0,q179,.nils,.nils,.bool true,q20,.nils,i 1]
def q280:List AV:=(.nils::q279)
def q281:List AV:=(q20::q161::q280)
def q282:List AV:=(i 0::i 4::i 2::i 1::.sl 2 [] .no::i 1::i 0::.nils::i 0::z0 (q183::i 0::.nils::.nils::q182::q181::.sl 18 [(i 1::i 0::i 1::i 2::.bool true::i 1::q281),q278,q278] .no::q178))
def q283:AV:=.agg (i 1::i 0::i 1::i 2::i 1::i 0::i 1::i 2::q254::q282)
def q284:List (List AV):=[[i 2],[i 2]]
def q285:List (List AV):=([i 2]::q284)
def q286:AV:=.sl 1 ([i 2]::q285) .no
def q287:AV:=.agg (i 1::i 0::i 3::i 2::i 1::i 0::i 3::i 2::q286::q262)
def q288:AV:=.tup [q287,.nils]
def q289:AV:=.agg q260
def q290:AV:=.agg (i 1::i 0::i 0::i 2::i 1::i 0::i 0::i 2::q286::q272)
def q291:AV:=.tup [q290,.nils]
def q292:AV:=.agg (i 1::i 0::i 1::i 2::i 1::i 0::i 1::i 2::q286::q282)
def q293:AV:=.tup [q292,.nils]
def q294:AV:=.agg (i 1::i 0::i 2::i 2::i 1::i 0::i 2::i 2::q286::q253)
def q295:AV:=.tup [q294,.nils]
def q296:AV:=.agg q247
def q297:List AV:=[i 2,.bool true,i 1,q20,q161]
def q298:List AV:=[i 1,i 0,i 2,i 2,.bool true,i 1,q20,q161,.nils,i 1,i 0,q179,.nils,.nils,.bool true,q20,.sl 6 [(i 2::q297)] .no,i (-1)]
def q299:AV:=.agg (i 1::i 0::i 2::i 2::i 1::i 0::i 2::i 2::q286::i 0::i 4::i 2::i 1::.sl 2 [] .no::i 1::i 0::.nils::i 0::z0 (q183::i 0::.nils::.nils::q182::q181::.sl 18 [q298,q249,q249] .no::q178))
def q300:AV:=.agg q245
def q301:List AV:=(i 2::i 2::q98)
def q302:List AV:=[i 1,i 0,i 2,i 2,.bool false,i 0,.str [],.nils,.nils,i 1,i 0,.nils,.nils,.nils,.bool false,.str [],.sl 6 [q301] .no,i (-1)]
def q303:AV:=.agg (i 1::i 0::i 2::i 2::i 1::i 0::i 2::i 2::q286::i 0::i 4::i 2::i 1::.sl 2 [] .no::i 1::i 0::.nils::i 0::z0 (q183::i 0::.nils::.nils::q182::q181::.sl 18 [q298,q302,q249] .no::q178))
def q304:AV:=.agg q244
def q305:AV:=.agg (i 1::i 0::i 2::i 2::i 1::i 0::i 2::i 2::q286::i 0::i 4::i 2::i 1::.sl 2 [] .no::i 1::i 0::.nils::i 0::z0 (q183::i 0::.nils::.nils::q182::q181::.sl 18 [q298,q302,q302] .no::q178))
def q306:AV:=.tup [q305,.nils]
def q307:AV:=.agg q259
def q308:List (List AV):=[(i 2::q297),(i 3::q297)]
def q309:List AV:=[i 1,i 0,i 2,i 2,.bool true,i 1,q20,q161,.nils,i 1,i 0,q179,.nils,.nils,.bool true,q20,.sl 6 q308 .no,i (-1)]
def q310:AV:=.agg (i 1::i 0::i 2::i 2::i 1::i 0::i 2::i 2::q286::i 0::i 4::i 2::i 1::.sl 2 [] .no::i 1::i 0::.nils::i 0::z0 (q183::i 0::.nils::.nils::q182::q181::.sl 18 [q309,q302,q302] .no::q178))
def q311:AV:=.agg q258
def q312:List (List AV):=[q301,(i 3::i 2::q98)]
def q313:List AV:=[i 1,i 0,i 2,i 2,.bool false,i 0,.str [],.nils,.nils,i 1,i 0,.nils,.nils,.nils,.bool false,.str [],.sl 6 q312 .no,i (-1)]
def q314:AV:=.agg (i 1::i 0::i 2::i 2::i 1::i 0::i 2::i 2::q286::i 0::i 4::i 2::i 1::.sl 2 [] .no::i 1::i 0::.nils::i 0::z0 (q183::i 0::.nils::.nils::q182::q181::.sl 18 [q309,q313,q302] .no::q178))
def q315:AV:=.agg q257
def q316:AV:=.agg (i 1::i 0::i 2::i 2::i 1::i 0::i 2::i 2::q286::i 0::i 4::i 2::i 1::.sl 2 [] .no::i 1::i 0::.nils::i 0::z0 (q183::i 0::.nils::.nils::q182::q181::.sl 18 [q309,q313,q313] .no::q178))
def q317:AV:=.tup [q316,.nils]
def q318:AV:=.agg q268
def q319:AV:=.sl 6 ((i 0::q297)::q308) .no
def q320:List AV:=(i 1::i 2::i 0::i 2::q20::q319::q18)
def q321:List AV:=[i 1,i 0,i 2,i 2,.bool true,i 1,q20,q161,.nils,i 1,i 0,q179,.nils,.nils,.bool true,q20,q319,i 2]
def q322:AV:=.agg (i 1::i 0::i 2::i 2::i 1::i 0::i 2::i 2::q286::i 0::i 4::i 2::i 1::.sl 2 [] .no::i 1::i 0::.nils::i 0::z0 (q183::i 0::.nils::.nils::q182::q181::.sl 18 [q321,q313,q313] .no::q178))
def q323:AV:=.agg q267
def q324:List AV:=(i 0::i 2::q98)
def q325:List AV:=[i 1,i 0,i 2,i 2,.bool false,i 0,.str [],.nils,.nils,i 1,i 0,.nils,.nils,.nils,.bool false,.str [],.sl 6 (q324::q312) .no,i (-1)]
def q326:AV:=.agg (i 1::i 0::i 2::i 2::i 1::i 0::i 2::i 2::q286::i 0::i 4::i 2::i 1::.sl 2 [] .no::i 1::i 0::.nils::i 0::z0 (q183::i 0::.nils::.nils::q182::q181::.sl 18 [q321,q325,q313] .no::q178))
def q327:AV:=.agg q266
def q328:AV:=.agg (i 1::i 0::i 2::i 2::i 1::i 0::i 2::i 2::q286::i 0::i 4::i 2::i 1::.sl 2 [] .no::i 1::i 0::.nils::i 0::z0 (q183::i 0::.nils::.nils::q182::q181::.sl 18 [q321,q325,q325] .no::q178))
def q329:AV:=.tup [q328,.nils]
def q330:AV:=.agg q277
def q331:List AV:=[i 1,i 0,q179,.nils,.nils,.bool true,q20,.sl 6 ((i 0::q297)::(i 1::q297)::q308) .no,i 2]
def q332:List AV:=(q20::q161::.nils::q331)
def q333:List AV:=(i 1::i 0::i 2::i 2::.bool true::i 1::q332)
def q334:AV:=.agg (i 1::i 0::i 2::i 2::i 1::i 0::i 2::i 2::q286::i 0::i 4::i 2::i 1::.sl 2 [] .no::i 1::i 0::.nils::i 0::z0 (q183::i 0::.nils::.nils::q182::q181::.sl 18 [q333,q325,q325] .no::q178))
def q335:AV:=.agg q276
def q336:List AV:=[i 1,i 0,i 2,i 2,.bool false,i 0,.str [],.nils,.nils,i 1,i 0,.nils,.nils,.nils,.bool false,.str [],.sl 6 (q324::(i 1::i 2::q98)::q312) .no,i (-1)]
def q337:AV:=.agg (i 1::i 0::i 2::i 2::i 1::i 0::i 2::i 2::q286::i 0::i 4::i 2::i 1::.sl 2 [] .no::i 1::i 0::.nils::i 0::z0 (q183::i 0::.nils::.nils::q182::q181::.sl 18 [q333,q336,q325] .no::q178))
def q338:AV:=.agg q275
def q339:AV:=.agg (i 1::i 0::i 2::i 2::i 1::i 0::i 2::i 2::q286::i 0::i 4::i 2::i 1::.sl 2 [] .no::i 1::i 0::.nils::i 0::z0 (q183::i 0::.nils::.nils::q182::q181::.sl 18 [q333,q336,q336] .no::q178))
def q340:AV:=.agg q320
def q341:List AV:=(i 2::q20::q17)
def q342:List AV:=(i 2::i 0::i 0::i 0::.str []::.nils::i 0::q341)
def q343:AV:=.agg (i 1::i 0::i 0::i 2::i 1::i 0::i 0::i 2::q286::i 0::i 4::i 2::i 1::.sl 2 [] .no::i 1::i 0::.nils::i 0::z0 (q183::i 0::.nils::.nils::q182::q181::.sl 18 [(i 1::i 0::i 0::i 2::.bool true::i 2::q271),q269,q269] .no::q178))
def q344:List AV:=(i 2::i 0::i 0::i 0::.str []::.nils::i 1::q341)
def q345:AV:=.agg (i 1::i 0::i 1::i 2::i 1::i 0::i 1::i 2::q286::i 0::i 4::i 2::i 1::.sl 2 [] .no::i 1::i 0::.nils::i 0::z0 (q183::i 0::.nils::.nils::q182::q181::.sl 18 [(i 1::i 0::i 1::i 2::.bool true::i 2::q281),q278,q278] .no::q178))
def q346:List AV:=(i 2::i 0::i 0::i 0::.str []::.nils::i 2::q341)
def q347:AV:=.agg (i 1::i 0::i 2::i 2::i 1::i 0::i 2::i 2::q286::i 0::i 4::i 2::i 1::.sl 2 [] .no::i 1::i 0::.nils::i 0::z0 (q183::i 0::.nils::.nils::q182::q181::.sl 18 [(i 1::i 0::i 2::i 2::.bool true::i 2::q332),q336,q336] .no::q178))
def q348:List AV:=(i 2::i 0::i 0::i 0::.str []::.nils::i 3::q341)
def q349:AV:=.agg (i 1::i 0::i 3::i 2::i 1::i 0::i 3::i 2::q286::i 0::i 4::i 2::i 1::.sl 2 [] .no::i 1::i 0::.nils::i 0::z0 (q183::i 0::.nils::.nils::q182::q181::.sl 18 [(i 1::i 0::i 3::i 2::.bool true::i 2::q251),q261,q261] .no::q178))
def q350:AV:=.agg q342
def q351:List AV:=[i 0,i 2,q20]
def q352:AV:=.sl 3 [q351] .no
def q353:AV:=.agg (i 1::i 0::i 0::i 2::i 1::i 0::i 0::i 2::q286::i 0::i 4::i 2::i 1::.sl 2 [] .no::i 1::i 0::.nils::i 0::z0 (q183::i 0::.nils::.nils::q182::q181::.sl 18 [(i 1::i 0::i 0::i 2::.bool true::i 2::q20::q161::q352::q180),q269,q269] .no::q178))
def q354:AV:=.agg (i 1::i 0::i 1::i 2::i 1::i 0::i 1::i 2::q286::i 0::i 4::i 2::i 1::.sl 2 [] .no::i 1::i 0::.nils::i 0::z0 (q183::i 0::.nils::.nils::q182::q181::.sl 18 [(i 1::i 0::i 1::i 2::.bool true::i 2::q20::q161::q352::q279),q278,q278] .no::q178))
def q355:AV:=.agg (i 1::i 0::i 2::i 2::i 1::i 0::i 2::i 2::q286::i 0::i 4::i 2::i 1::.sl 2 [] .no::i 1::i 0::.nils::i 0::z0 (q183::i 0::.nils::.nils::q182::q181::.sl 18 [(i 1::i 0::i 2::i 2::.bool true::i 2::q20::q161::q352::q331),q336,q336] .no::q178))
def q356:AV:=.agg (i 1::i 0::i 3::i 2::i 1::i 0::i 3::i 2::q286::i 0::i 4::i 2::i 1::.sl 2 [] .no::i 1::i 0::.nils::i 0::z0 (q183::i 0::.nils::.nils::q182::q181::.sl 18 [(i 1::i 0::i 3::i 2::.bool true::i 2::q20::q161::q352::q194),q261,q261] .no::q178))
def q357:AV:=.agg q344
def q358:List AV:=[i 1,i 2,q20]
def q359:AV:=.sl 3 [q351,q358] .no
def q360:AV:=.agg (i 1::i 0::i 0::i 2::i 1::i 0::i 0::i 2::q286::i 0::i 4::i 2::i 1::.sl 2 [] .no::i 1::i 0::.nils::i 0::z0 (q183::i 0::.nils::.nils::q182::q181::.sl 18 [(i 1::i 0::i 0::i 2::.bool true::i 2::q20::q161::q359::q180),q269,q269] .no::q178))
def q361:AV:=.agg (i 1::i 0::i 1::i 2::i 1::i 0::i 1::i 2::q286::i 0::i 4::i 2::i 1::.sl 2 [] .no::i 1::i 0::.nils::i 0::z0 (q183::i 0::.nils::.nils::q182::q181::.sl 18 [(i 1::i 0::i 1::i 2::.bool true::i 2::q20::q161::q359::q279),q278,q278] .no::q178))
def q362:AV:=.agg (i 1::i 0::i 2::i 2::i 1::i 0::i 2::i 2::q286::i 0::i 4::i 2::i 1::.sl 2 [] .no::i 1::i 0::.nils::i 0::z0 (q183::i 0::.nils::.nils::q182::q181::.sl 18 [(i 1::i 0::i 2::i 2::.bool true::i 2::q20::q161::q359::q331),q336,q336] .no::q178))
def q363:AV:=.agg (i 1::i 0::i 3::i 2::i 1::i 0::i 3::i 2::q286::i 0::i 4::i 2::i 1::.sl 2 [] .no::i 1::i 0::.nils::i 0::z0 (q183::i 0::.nils::.nils::q182::q181::.sl 18 [(i 1::i 0::i 3::i 2::.bool true::i 2::q20::q161::q359::q194),q261,q261] .no::q178))
def q364:AV:=.agg q346
def q365:List AV:=[i 2,i 2,q20]
def q366:AV:=.sl 3 [q351,q358,q365] .no
def q367:List AV:=(i 0::i 0::.str []::.nils::i 0::i 0::.str []::q366::q16)
def q368:List AV:=(i 3::i 0::q367)
def q369:AV:=.agg (i 1::i 0::i 0::i 2::i 1::i 0::i 0::i 2::q286::i 0::i 4::i 2::i 1::.sl 2 [] .no::i 1::i 0::.nils::i 0::z0 (q183::i 0::.nils::.nils::q182::q181::.sl 18 [(i 1::i 0::i 0::i 2::.bool true::i 2::q20::q366::q366::q180),q269,q269] .no::q178))
def q370:List AV:=(i 3::i 1::q367)
def q371:AV:=.agg (i 1::i 0::i 1::i 2::i 1::i 0::i 1::i 2::q286::i 0::i 4::i 2::i 1::.sl 2 [] .no::i 1::i 0::.nils::i 0::z0 (q183::i 0::.nils::.nils::q182::q181::.sl 18 [(i 1::i 0::i 1::i 2::.bool true::i 2::q20::q366::q366::q279),q278,q278] .no::q178))
def q372:List AV:=(i 3::i 2::q367)
def q373:AV:=.agg (i 1::i 0::i 2::i 2::i 1::i 0::i 2::i 2::q286::i 0::i 4::i 2::i 1::.sl 2 [] .no::i 1::i 0::.nils::i 0::z0 (q183::i 0::.nils::.nils::q182::q181::.sl 18 [(i 1::i 0::i 2::i 2::.bool true::i 2::q20::q366::q366::q331),q336,q336] .no::q178))
def q374:List AV:=(i 3::i 3::q367)
def q375:AV:=.agg (i 1::i 0::i 3::i 2::i 1::i 0::i 3::i 2::q286::i 0::i 4::i 2::i 1::.sl 2 [] .no::i 1::i 0::.nils::i 0::z0 (q183::i 0::.nils::.nils::q182::q181::.sl 18 [(i 1::i 0::i 3::i 2::.bool true::i 2::q20::q366::q366::q194),q261,q261] .no::q178))
def q376:AV:=.agg q348
def q377:AV:=.sl 3 [q351,q358,q365,[i 3,i 2,q20]] .no
def q378:List AV:=(i 0::i 4::i 2::i 1::.sl 2 [] .no::i 1::i 0::.nils::i 0::z0 (q183::i 0::.nils::.nils::q182::q181::.sl 18 [(i 1::i 0::i 0::i 2::.bool true::i 2::q20::q366::q377::q180),q269,q269] .no::q178))
def q379:AV:=.agg (i 1::i 0::i 0::i 2::i 1::i 0::i 0::i 2::q286::q378)
def q380:AV:=.tup [q379,.nils]
def q381:List AV:=(i 0::i 4::i 2::i 1::.sl 2 [] .no::i 1::i 0::.nils::i 0::z0 (q183::i 0::.nils::.nils::q182::q181::.sl 18 [(i 1::i 0::i 1::i 2::.bool true::i 2::q20::q366::q377::q279),q278,q278] .no::q178))
def q382:AV:=.agg (i 1::i 0::i 1::i 2::i 1::i 0::i 1::i 2::q286::q381)
def q383:AV:=.tup [q382,.nils]
def q384:List AV:=(i 0::i 4::i 2::i 1::.sl 2 [] .no::i 1::i 0::.nils::i 0::z0 (q183::i 0::.nils::.nils::q182::q181::.sl 18 [(i 1::i 0::i 2::i 2::.bool true::i 2::q20::q366::q377::q331),q336,q336] .no::q178))
def q385:AV:=.agg (i 1::i 0::i 2::i 2::i 1::i 0::i 2::i 2::q286::q384)
def q386:AV:=.tup [q385,.nils]
def q387:List AV:=(i 0::i 4::i 2::i 1::.sl 2 [] .no::i 1::i 0::.nils::i 0::z0 (q183::i 0::.nils::.nils::q182::q181::.sl 18 [(i 1::i 0::i 3::i 2::.bool true::i 2::q20::q366::q377::q194),q261,q261] .no::q178))
def q388:AV:=.agg (i 1::i 0::i 3::i 2::i 1::i 0::i 3::i 2::q286::q387)
def q389:AV:=.tup [q388,.nils]
def q390:AV:=.agg q368
def q391:AV:=.agg q370
def q392:AV:=.agg q372
def q393:AV:=.agg q374
def q394:List AV:=(i 0::i 3::q44)
def q395:List AV:=(i 6::i 0::q394)
def q396:AV:=.agg q395
def q397:AV:=.sl 1 ([i 3]::q285) .no
def q398:AV:=.agg (i 1::i 0::i 1::i 2::i 1::i 0::i 1::i 2::q397::q381)
def q399:AV:=.tup [q398,.nils]
def q400:AV:=.agg (i 1::i 0::i 2::i 2::i 1::i 0::i 2::i 2::q397::q384)
def q401:AV:=.agg (i 1::i 0::i 3::i 2::i 1::i 0::i 3::i 2::q397::q387)
def q402:List AV:=(i 6::i 1::q394)
def q403:AV:=.agg q402
def q404:AV:=.agg (i 1::i 0::i 0::i 2::i 1::i 0::i 0::i 2::.sl 1 ([i 2]::[i 3]::q284) .no::q378)
def q405:List AV:=(i 0::.str []::.nils::i 0::i 0::.str []::.nils::i 2::i 3::q15)
def q406:List AV:=(i 4::i 0::i 2::q405)
def q407:List AV:=(i 4::i 0::i 1::q405)
def q408:List AV:=(i 3::.bool true::i 2::q20::q366::q14)
def q409:List AV:=(i 4::i 0::i 0::i 0::.str []::.nils::i 0::i 0::.str []::.nils::i 2::q408)
def q410:List AV:=(i 6::i 2::q394)
def q411:List AV:=(i 1::i 0::i 2::i 3::q3)
def q412:List AV:=[i 1,i 0,q179,.nils,.nils,.bool true,q20,.nils,i 2]
def q413:List AV:=(q20::q366::.nils::q412)
def q414:List AV:=(i 0::i 4::i 2::i 1::.sl 2 [] .no::i 1::i 0::.nils::i 0::z0 (q183::i 0::.nils::.nils::q182::q181::.sl 18 [(i 1::i 0::i 2::i 3::.bool true::i 2::q413),q411,q411] .no::q178))
def q415:AV:=.sl 1 [[i 3],[i 3],[i 3],[i 2]] .no
def q416:AV:=.agg (i 1::i 0::i 2::i 2::i 1::i 0::i 2::i 3::q415::q414)
def q417:List AV:=(i 0::.str []::.nils::i 0::i 0::.str []::.nils::i 3::i 3::q15)
def q418:List AV:=(i 4::i 0::i 2::q417)
def q419:List AV:=(i 4::i 0::i 1::q417)
def q420:List AV:=(i 4::i 0::i 0::i 0::.str []::.nils::i 0::i 0::.str []::.nils::i 3::q408)
def q421:List AV:=(i 6::i 3::q394)
def q422:List AV:=(i 1::i 0::i 3::i 3::q3)
def q423:List AV:=(i 0::i 4::i 2::i 1::.sl 2 [] .no::i 1::i 0::.nils::i 0::z0 (q183::i 0::.nils::.nils::q182::q181::.sl 18 [(i 1::i 0::i 3::i 3::.bool true::i 2::q20::q366::q250),q422,q422] .no::q178))
def q424:AV:=.agg (i 1::i 0::i 3::i 2::i 1::i 0::i 3::i 3::.sl 1 [[i 3],[i 3],[i 2],[i 3]] .no::q423)
def q425:AV:=.agg q410
def q426:List AV:=(i 0::.str []::.nils::i 0::i 0::.str []::.nils::i 0::i 3::q15)
def q427:List AV:=(i 4::i 0::i 2::q426)
def q428:List AV:=(i 4::i 0::i 1::q426)
def q429:List AV:=(i 4::i 0::i 0::i 0::.str []::.nils::i 0::i 0::.str []::.nils::i 0::q408)
def q430:List AV:=(i 1::i 0::i 0::i 3::q3)
def q431:List AV:=(q20::q366::q270)
def q432:List AV:=(i 0::i 4::i 2::i 1::.sl 2 [] .no::i 1::i 0::.nils::i 0::z0 (q183::i 0::.nils::.nils::q182::q181::.sl 18 [(i 1::i 0::i 0::i 3::.bool true::i 2::q431),q430,q430] .no::q178))
def q433:AV:=.agg (i 1::i 0::i 0::i 2::i 1::i 0::i 0::i 3::q415::q432)
def q434:List AV:=(i 0::.str []::.nils::i 0::i 0::.str []::.nils::i 1::i 3::q15)
def q435:List AV:=(i 4::i 0::i 2::q434)
def q436:List AV:=(i 4::i 0::i 1::q434)
def q437:List AV:=(i 4::i 0::i 0::i 0::.str []::.nils::i 0::i 0::.str []::.nils::i 1::q408)
def q438:List AV:=(i 1::i 0::i 1::i 3::q3)
def q439:List AV:=(q20::q366::q280)
def q440:List AV:=(i 0::i 4::i 2::i 1::.sl 2 [] .no::i 1::i 0::.nils::i 0::z0 (q183::i 0::.nils::.nils::q182::q181::.sl 18 [(i 1::i 0::i 1::i 3::.bool true::i 2::q439),q438,q438] .no::q178))
def q441:AV:=.agg (i 1::i 0::i 1::i 2::i 1::i 0::i 1::i 3::q415::q440)
def q442:AV:=.sl 1 [[i 3],[i 3],[i 3],[i 3]] .no
def q443:AV:=.agg (i 1::i 0::i 3::i 2::i 1::i 0::i 3::i 3::q442::q423)
def q444:AV:=.tup [q443,.nils]
def q445:AV:=.agg q421
def q446:AV:=.agg (i 1::i 0::i 0::i 2::i 1::i 0::i 0::i 3::q442::q432)
def q447:AV:=.tup [q446,.nils]
def q448:AV:=.agg (i 1::i 0::i 1::i 2::i 1::i 0::i 1::i 3::q442::q440)
def q449:AV:=.tup [q448,.nils]
def q450:AV:=.agg (i 1::i 0::i 2::i 2::i 1::i 0::i 2::i 3::q442::q414)
def q451:AV:=.tup [q450,.nils]
def q452:AV:=.agg q409
def q453:List AV:=[i 3,.bool true,i 2,q20,q366]
def q454:List AV:=[i 1,i 0,i 3,i 3,.bool true,i 2,q20,q366,.nils,i 1,i 0,q179,.nils,.nils,.bool true,q20,.sl 6 [(i 2::q453)] .no,i (-1)]
def q455:AV:=.agg (i 1::i 0::i 3::i 2::i 1::i 0::i 3::i 3::q442::i 0::i 4::i 2::i 1::.sl 2 [] .no::i 1::i 0::.nils::i 0::z0 (q183::i 0::.nils::.nils::q182::q181::.sl 18 [q454,q422,q422] .no::q178))
def q456:AV:=.agg q407
def q457:List AV:=(i 2::i 3::q98)
def q458:List AV:=[i 1,i 0,i 3,i 3,.bool false,i 0,.str [],.nils,.nils,i 1,i 0,.nils,.nils,.nils,.bool false,.str [],.sl 6 [q457] .no,i (-1)]
def q459:AV:=.agg (i 1::i 0::i 3::i 2::i 1::i 0::i 3::i 3::q442::i 0::i 4::i 2::i 1::.sl 2 [] .no::i 1::i 0::.nils::i 0::z0 (q183::i 0::.nils::.nils::q182::q181::.sl 18 [q454,q458,q422] .no::q178))
def q460:AV:=.agg q406
def q461:AV:=.agg (i 1::i 0::i 3::i 2::i 1::i 0::i 3::i 3::q442::i 0::i 4::i 2::i 1::.sl 2 [] .no::i 1::i 0::.nils::i 0::z0 (q183::i 0::.nils::.nils::q182::q181::.sl 18 [q454,q458,q458] .no::q178))
def q462:AV:=.tup [q461,.nils]
def q463:AV:=.agg q420
def q464:List (List AV):=[(i 2::q453),(i 3::q453)]
def q465:List AV:=[i 1,i 0,i 3,i 3,.bool true,i 2,q20,q366,.nils,i 1,i 0,q179,.nils,.nils,.bool true,q20,.sl 6 q464 .no,i (-1)]
def q466:AV:=.agg (i 1::i 0::i 3::i 2::i 1::i 0::i 3::i 3::q442::i 0::i 4::i 2::i 1::.sl 2 [] .no::i 1::i 0::.nils::i 0::z0 (q183::i 0::.nils::.nils::q182::q181::.sl 18 [q465,q458,q458] .no::q178))
def q467:AV:=.agg q419
def q468:List (List AV):=[q457,(i 3::i 3::q98)]
def q469:List AV:=[i 1,i 0,i 3,i 3,.bool false,i 0,.str [],.nils,.nils,i 1,i 0,.nils,.nils,.nils,.bool false,.str [],.sl 6 q468 .no,i (-1)]
def q470:AV:=.agg (i 1::i 0::i 3::i 2::i 1::i 0::i 3::i 3::q442::i 0::i 4::i 2::i 1::.sl 2 [] .no::i 1::i 0::.nils::i 0::z0 (q183::i 0::.nils::.nils::q182::q181::.sl 18 [q465,q469,q458] .no::q178))
def q471:AV:=.agg q418
def q472:AV:=.agg (i 1::i 0::i 3::i 2::i 1::i 0::i 3::i 3::q442::i 0::i 4::i 2::i 1::.sl 2 [] .no::i 1::i 0::.nils::i 0::z0 (q183::i 0::.nils::.nils::q182::q181::.sl 18 [q465,q469,q469] .no::q178))
def q473:AV:=.tup [q472,.nils]
def q474:AV:=.agg q429
def q475:AV:=.sl 6 ((i 0::q453)::q464) .no
def q476:List AV:=(i 1::i 3::i 0::i 3::q20::q475::q18)
def q477:List AV:=[i 1,i 0,i 3,i 3,.bool true,i 2,q20,q366,.nils,i 1,i 0,q179,.nils,.nils,.bool true,q20,q475,i 3]
def q478:AV:=.agg (i 1::i 0::i 3::i 2::i 1::i 0::i 3::i 3::q442::i 0::i 4::i 2::i 1::.sl 2 [] .no::i 1::i 0::.nils::i 0::z0 (q183::i 0::.nils::.nils::q182::q181::.sl 18 [q477,q469,q469] .no::q178))
def q479:AV:=.agg q428
def q480:List AV:=(i 0::i 3::q98)
def q481:List AV:=[i 1,i 0,i 3,i 3,.bool false,i 0,.str [],.nils,.nils,i 1,i 0,.nils,.nils,.nils,.bool false,.str [],.sl 6 (q480::q468) .no,i (-1)]
def q482:AV:=.agg (i 1::i 0::i 3::i 2::i 1::i 0::i 3::i 3::q442::i 0::i 4::i 2::i 1::.sl 2 [] .no::i 1::i 0::.nils::i 0::z0 (q183::i 0::.nils::.nils::q182::q181::.sl 18 [q477,q481,q469] .no::q178))
def q483:AV:=.agg q427
def q484:AV:=.agg (i 1::i 0::i 3::i 2::i 1::i 0::i 3::i 3::q442::i 0::i 4::i 2::i 1::.sl 2 [] .no::i 1::i 0::.nils::i 0::z0 (q183::i 0::.nils::.nils::q182::q181::.sl 18 [q477,q481,q481] .no::q178))
def q485:AV:=.tup [q484,.nils]
def q486:AV:=.agg q437
def q487:List AV:=[i 1,i 0,q179,.nils,.nils,.bool true,q20,.sl 6 ((i 0::q453)::(i 1::q453)::q464) .no,i 3]
def q488:List AV:=(q20::q366::.nils::q487)
def q489:List AV:=(i 1::i 0::i 3::i 3::.bool true::i 2::q488)
def q490:AV:=.agg (i 1::i 0::i 3::i 2::i 1::i 0::i 3::i 3::q442::i 0::i 4::i 2::i 1::.sl 2 [] .no::i 1::i 0::.nils::i 0::z0 (q183::i 0::.nils::.nils::q182::q181::.sl 18 [q489,q481,q481] .no::q178))
def q491:AV:=.agg q436
def q492:List AV:=[i 1,i 0,i 3,i 3,.bool false,i 0,.str [],.nils,.nils,i 1,i 0,.nils,.nils,.nils,.bool false,.str [],.sl 6 (q480::(i 1::i 3::q98)::q468) .no,i (-1)]
def q493:AV:=.agg (i 1::i 0::i 3::i 2::i 1::i 0::i 3::i 3::q442::i 0::i 4::i 2::i 1::.sl 2 [] .no::i 1::i 0::.nils::i 0::z0 (q183::i 0::.nils::.nils::q182::q181::.sl 18 [q489,q492,q481] .no::q178))
def q494:AV:=.agg q435
def q495:AV:=.agg (i 1::i 0::i 3::i 2::i 1::i 0::i 3::i 3::q442::i 0::i 4::i 2::i 1::.sl 2 [] .no::i 1::i 0::.nils::i 0::z0 (q183::i 0::.nils::.nils::q182::q181::.sl 18 [q489,q492,q492] .no::q178))
def q496:AV:=.agg q476
def q497:List AV:=(i 3::q20::q17)
def q498:List AV:=(i 2::i 0::i 0::i 0::.str []::.nils::i 0::q497)
def q499:AV:=.agg (i 1::i 0::i 0::i 2::i 1::i 0::i 0::i 3::q442::i 0::i 4::i 2::i 1::.sl 2 [] .no::i 1::i 0::.nils::i 0::z0 (q183::i 0::.nils::.nils::q182::q181::.sl 18 [(i 1::i 0::i 0::i 3::.bool true::i 3::q431),q430,q430] .no::q178))
def q500:List AV:=(i 2::i 0::i 0::i 0::.str []::.nils::i 1::q497)
def q501:AV:=.agg (i 1::i 0::i 1::i 2::i 1::i 0::i 1::i 3::q442::i 0::i 4::i 2::i 1::.sl 2 [] .no::i 1::i 0::.nils::i 0::z0 (q183::i 0::.nils::.nils::q182::q181::.sl 18 [(i 1::i 0::i 1::i 3::.bool true::i 3::q439),q438,q438] .no::q178))
def q502:List AV:=(i 2::i 0::i 0::i 0::.str []::.nils::i 2::q497)
def q503:AV:=.agg (i 1::i 0::i 2::i 2::i 1::i 0::i 2::i 3::q442::i 0::i 4::i 2::i 1::.sl 2 [] .no::i 1::i 0::.nils::i 0::z0 (q183::i 0::.nils::.nils::q182::q181::.sl 18 [(i 1::i 0::i 2::i 3::.bool true::i 3::q413),q411,q411] .no::q178))
def q504:List AV:=(i 2::i 0::i 0::i 0::.str []::.nils::i 3::q497)
def q505:AV:=.agg (i 1::i 0::i 3::i 2::i 1::i 0::i 3::i 3::q442::i 0::i 4::i 2::i 1::.sl 2 [] .no::i 1::i 0::.nils::i 0::z0 (q183::i 0::.nils::.nils::q182::q181::.sl 18 [(i 1::i 0::i 3::i 3::.bool true::i 3::q488),q492,q492] .no::q178))
def q506:AV:=.agg q498
def q507:List AV:=[i 0,i 3,q20]
def q508:AV:=.sl 3 [q507] .no
def q509:AV:=.agg (i 1::i 0::i 0::i 2::i 1::i 0::i 0::i 3::q442::i 0::i 4::i 2::i 1::.sl 2 [] .no::i 1::i 0::.nils::i 0::z0 (q183::i 0::.nils::.nils::q182::q181::.sl 18 [(i 1::i 0::i 0::i 3::.bool true::i 3::q20::q366::q508::q180),q430,q430] .no::q178))
def q510:AV:=.agg (i 1::i 0::i 1::i 2::i 1::i 0::i 1::i 3::q442::i 0::i 4::i 2::i 1::.sl 2 [] .no::i 1::i 0::.nils::i 0::z0 (q183::i 0::.nils::.nils::q182::q181::.sl 18 [(i 1::i 0::i 1::i 3::.bool true::i 3::q20::q366::q508::q279),q438,q438] .no::q178))
def q511:AV:=.agg (i 1::i 0::i 2::i 2::i 1::i 0::i 2::i 3::q442::i 0::i 4::i 2::i 1::.sl 2 [] .no::i 1::i 0::.nils::i 0::z0 (q183::i 0::.nils::.nils::q182::q181::.sl 18 [(i 1::i 0::i 2::i 3::.bool true::i 3::q20::q366::q508::q412),q411,q411] .no::q178))
def q512:AV:=.agg (i 1::i 0::i 3::i 2::i 1::i 0::i 3::i 3::q442::i 0::i 4::i 2::i 1::.sl 2 [] .no::i 1::i 0::.nils::i 0::z0 (q183::i 0::.nils::.nils::q182::q181::.sl 18 [(i 1::i 0::i 3::i 3::.bool true::i 3::q20::q366::q508::q487),q492,q492] .no::q178))
def q513:AV:=.agg q500
def q514:List AV:=[i 1,i 3,q20]
def q515:AV:=.sl 3 [q507,q514] .no
def q516:AV:=.agg (i 1::i 0::i 0::i 2::i 1::i 0::i 0::i 3::q442::i 0::i 4::i 2::i 1::.sl 2 [] .no::i 1::i 0::.nils::i 0::z0 (q183::i 0::.nils::.nils::q182::q181::.sl 18 [(i 1::i 0::i 0::i 3::.bool true::i 3::q20::q366::q515::q180),q430,q430] .no::q178))
def q517:AV:=.agg (i 1::i 0::i 1::i 2::i 1::i 0::i 1::i 3::q442::i 0::i 4::i 2::i 1::.sl 2 [] .no::i 1::i 0::.nils::i 0::z0 (q183::i 0::.nils::.nils::q182::q181::.sl 18 [(i 1::i 0::i 1::i 3::.bool true::i 3::q20::q366::q515::q279),q438,q438] .no::q178))
def q518:AV:=.agg (i 1::i 0::i 2::i 2::i 1::i 0::i 2::i 3::q442::i 0::i 4::i 2::i 1::.sl 2 [] .no::i 1::i 0::.nils::i 0::z0 (q183::i 0::.nils::.nils::q182::q181::.sl 18 [(i 1::i 0::i 2::i 3::.bool true::i 3::q20::q366::q515::q412),q411,q411] .no::q178))
def q519:AV:=.agg (i 1::i 0::i 3::i 2::i 1::i 0::i 3::i 3::q442::i 0::i 4::i 2::i 1::.sl 2 [] .no::i 1::i 0::.nils::i 0::z0 (q183::i 0::.nils::.nils::q182::q181::.sl 18 [(i 1::i 0::i 3::i 3::.bool true::i 3::q20::q366::q515::q487),q492,q492] .no::q178))
def q520:AV:=.agg q502
def q521:List AV:=[i 2,i 3,q20]
def q522:AV:=.sl 3 [q507,q514,q521] .no
def q523:List AV:=(i 0::i 0::.str []::.nils::i 0::i 0::.str []::q522::q16)
def q524:List AV:=(i 3::i 0::q523)
def q525:AV:=.agg (i 1::i 0::i 0::i 2::i 1::i 0::i 0::i 3::q442::i 0::i 4::i 2::i 1::.sl 2 [] .no::i 1::i 0::.nils::i 0::z0 (q183::i 0::.nils::.nils::q182::q181::.sl 18 [(i 1::i 0::i 0::i 3::.bool true::i 3::q20::q522::q522::q180),q430,q430] .no::q178))
def q526:List AV:=(i 3::i 1::q523)
def q527:AV:=.agg (i 1::i 0::i 1::i 2::i 1::i 0::i 1::i 3::q442::i 0::i 4::i 2::i 1::.sl 2 [] .no::i 1::i 0::.nils::i 0::z0 (q183::i 0::.nils::.nils::q182::q181::.sl 18 [(i 1::i 0::i 1::i 3::.bool true::i 3::q20::q522::q522::q279),q438,q438] .no::q178))
def q528:List AV:=(i 3::i 2::q523)
def q529:AV:=.agg (i 1::i 0::i 2::i 2::i 1::i 0::i 2::i 3::q442::i 0::i 4::i 2::i 1::.sl 2 [] .no::i 1::i 0::.nils::i 0::z0 (q183::i 0::.nils::.nils::q182::q181::.sl 18 [(i 1::i 0::i 2::i 3::.bool true::i 3::q20::q522::q522::q412),q411,q411] .no::q178))
def q530:List AV:=(i 3::i 3::q523)
def q531:AV:=.agg (i 1::i 0::i 3::i 2::i 1::i 0::i 3::i 3::q442::i 0::i 4::i 2::i 1::.sl 2 [] .no::i 1::i 0::.nils::i 0::z0 (q183::i 0::.nils::.nils::q182::q181::.sl 18 [(i 1::i 0::i 3::i 3::.bool true::i 3::q20::q522::q522::q487),q492,q492] .no::q178))
def q532:AV:=.agg q504
def q533:AV:=.sl 3 [q507,q514,q521,[i 3,i 3,q20]] .no
def q534:AV:=.agg (i 1::i 0::i 0::i 2::i 1::i 0::i 0::i 3::q442::i 0::i 4::i 2::i 1::.sl 2 [] .no::i 1::i 0::.nils::i 0::z0 (q183::i 0::.nils::.nils::q182::q181::.sl 18 [(i 1::i 0::i 0::i 3::.bool true::i 3::q20::q522::q533::q180),q430,q430] .no::q178))
def q535:AV:=.tup [q534,.nils]
def q536:AV:=.agg (i 1::i 0::i 1::i 2::i 1::i 0::i 1::i 3::q442::i 0::i 4::i 2::i 1::.sl 2 [] .no::i 1::i 0::.nils::i 0::z0 (q183::i 0::.nils::.nils::q182::q181::.sl 18 [(i 1::i 0::i 1::i 3::.bool true::i 3::q20::q522::q533::q279),q438,q438] .no::q178))
def q537:AV:=.tup [q536,.nils]
def q538:AV:=.agg (i 1::i 0::i 2::i 2::i 1::i 0::i 2::i 3::q442::i 0::i 4::i 2::i 1::.sl 2 [] .no::i 1::i 0::.nils::i 0::z0 (q183::i 0::.nils::.nils::q182::q181::.sl 18 [(i 1::i 0::i 2::i 3::.bool true::i 3::q20::q522::q533::q412),q411,q411] .no::q178))
def q539:AV:=.tup [q538,.nils]
def q540:AV:=.agg (i 1::i 0::i 3::i 2::i 1::i 0::i 3::i 3::q442::i 0::i 4::i 2::i 1::.sl 2 [] .no::i 1::i 0::.nils::i 0::z0 (q183::i 0::.nils::.nils::q182::q181::.sl 18 [(i 1::i 0::i 3::i 3::.bool true::i 3::q20::q522::q533::q487),q492,q492] .no::q178))
def q541:AV:=.tup [q540,.nils]
def q542:AV:=.agg q524
def q543:AV:=.agg q526
def q544:AV:=.agg q528
def q545:AV:=.agg q530
end Go.Proofs.YtojhjaohaafeaaaGreatDoor
namespace Go.Proofs.YtojhjaohaafeaaaGreatDoor
def ups(m:Int):Nat->Int->List Bool->List Nat
 |_,_,[]=>[]
 |i,left,b::l=>if b||(decide (0<(i:Int))&&decide (0<left)&&decide (m<=(i:Int))) then ups m (i+1) (left-1) l else i::ups m (i+1) left l
theorem ups_len(m:Int):∀ (l:List Bool) (i:Nat) (left:Int),(ups m i left l).length<=l.length
 |[],_,_=>Nat.le_refl _
 |b::l,i,left=>by
  rw[ups]
  split
  ·have:=ups_len m l (i+1) (left-1);simp;omega
  ·have:=ups_len m l (i+1) left;simp;omega
theorem ups_one(m:Int):∀ (l:List Bool) (i:Nat),l≠[]->0<i->m<i+l.length->(ups m i 1 l).length+1<=l.length
 |[],_,h,_,_=>absurd rfl h
 |b::l,i,_,hi,hm=>by
  rw[ups]
  split
  ·have:=ups_len m l (i+1) 0;simp;omega
  ·rename_i hc;simp only[Bool.or_eq_true,Vi,decide_eq_true_eq,not_or,not_and] at hc
   by_cases hl:l=[]
   ·subst hl;simp at hm;exact absurd (by omega) (hc.2 ⟨by omega,by omega⟩)
   ·have:=ups_one m l (i+1) hl (by omega) (by simp at hm;push_cast;omega);simp;omega
theorem ups_mem(m:Int):∀ (l:List Bool) (i:Nat) (left:Int) (u:Nat),u∈ups m i left l->i<=u/\u<i+l.length/\l[u-i]? = some false
 |[],_,_,u,h=>by cases h
 |b::l,i,left,u,h=>by
  rw[ups] at h
  have key:∀ left',u∈ups m (i+1) left' l->i<=u/\u<i+(b::l).length/\(b::l)[u-i]? = some false:=fun left' h=>by
   obtain⟨h1,h2,h3⟩:=ups_mem m l (i+1) left' u h;refine⟨by omega,by simp;omega,?_⟩;rw[show u-i=(u-(i+1))+1 by omega,List.getElem?_cons_succ];exact h3
  split at h
  ·exact key _ h
  ·rename_i hc
   rcases List.mem_cons.1 h with rfl|h
   ·refine⟨Nat.le_refl _,by simp,?_⟩;rw[Nat.sub_self,List.getElem?_cons_zero]
    cases b with
    |false=>rfl
    |true=>exact absurd rfl hc
   ·exact key _ h
theorem ups_sorted(m:Int):∀ (l:List Bool) (i:Nat) (left:Int),(ups m i left l).Pairwise (·<·)
 |[],_,_=>List.Pairwise.nil
 |b::l,i,left=>by
  rw[ups]
  split
  ·exact ups_sorted m l _ _
  ·refine List.pairwise_cons.2 ⟨fun u hu=>?_,ups_sorted m l _ _⟩;have:=(ups_mem m l _ _ u hu).1;omega
theorem ups_fast{m T:Int}{bad:List Bool}(hT:T=0\/T=1)(hl:(bad.length:Int)=3+2*T+1)(hb:bad[0]? = some false)(h0:m<bad.length)(hu:3+T+1<=((ups m 0 T bad).length:Int)) :
  ((ups m 0 T bad).length:Int)=3+T+1/\(ups m 0 T bad)[0]? = some 0:=by
 cases bad with
 |nil=>simp at hb
 |cons b l=>
  simp at hb;subst hb
  have e:ups m 0 T (false::l)=0::ups m 1 T l:=by
   rw[ups,if_neg (by simp)]
  rw[e] at hu ⊢;simp only[Ya] at hl hu h0 ⊢;refine⟨?_,rfl⟩
  rcases hT with rfl|rfl
  ·have:=ups_len m l 1 0
   push_cast at *
   omega
  ·have:=ups_one m l 1 (by intro e;subst e;simp at hl) (by omega) (by push_cast at *;omega)
   push_cast at *
   omega
open Go.RowKit
structure Ord where
 a:Int
 b:Int
 kind:Int
 s:Bytes
 t:Bytes
 x:Int
 y:Int
 z:Int
deriving DecidableEq
def encO(o:Ord):AV:=.agg [.int .i64 o.a,.int .i64 o.b,.int .i64 o.kind,.str o.s,.str o.t,.int .i64 o.x,.int .i64 o.y,.int .i64 o.z]
def usedO(o:Ord):Ord:=
 if o.kind=1 then⟨o.a,o.b,o.kind,o.s,o.t,0,o.y,0⟩
 else if o.kind=2\/o.kind=5\/o.kind=10\/o.kind=11 then⟨o.a,o.b,o.kind,o.s,[],0,0,0⟩
 else if o.kind=3 then⟨o.a,o.b,o.kind,o.s,o.t,o.x,0,0⟩
 else if o.kind=4 then⟨o.a,o.b,o.kind,o.s,[],o.x,0,0⟩
 else if o.kind=6 then⟨o.a,o.b,o.kind,[],[],0,o.y,o.z⟩
 else if o.kind=7\/o.kind=8 then⟨o.a,o.b,o.kind,[],[],0,o.y,0⟩
 else if o.kind=9 then⟨o.a,o.b,o.kind,[],[],0,0,o.z⟩
 else⟨o.a,o.b,o.kind,[],[],0,0,0⟩
theorem used_1(o:Ord)(h:o.kind=1):ASpec prog 191 [encO o] (encO (usedO o)):=by
 refine Sh func191 (by kernel_rfl) rfl fun c0 hc0=>?_;simp only[go_sem,encO,h];refine⟨rfl,rfl,?_⟩;simp only[usedO,h,Int.reduceEq,reduceIte,or_self];exact Vr
theorem used_2(o:Ord)(h:o.kind=2):ASpec prog 191 [encO o] (encO (usedO o)):=by
 refine Sh func191 (by kernel_rfl) rfl fun c0 hc0=>?_;simp only[go_sem,encO,h];simp only[usedO,h,Int.reduceEq,reduceIte,or_false,or_self];exact Vr
theorem used_3(o:Ord)(h:o.kind=3):ASpec prog 191 [encO o] (encO (usedO o)):=by
 refine Sh func191 (by kernel_rfl) rfl fun c0 hc0=>?_;simp only[go_sem,encO,h];refine⟨rfl,rfl,?_⟩;simp only[usedO,h,Int.reduceEq,reduceIte,or_self];exact Vr
theorem used_4(o:Ord)(h:o.kind=4):ASpec prog 191 [encO o] (encO (usedO o)):=by
 refine Sh func191 (by kernel_rfl) rfl fun c0 hc0=>?_;simp only[go_sem,encO,h];refine⟨rfl,rfl,?_⟩;simp only[usedO,h,Int.reduceEq,reduceIte,or_self];exact Vr
theorem used_5(o:Ord)(h:o.kind=5):ASpec prog 191 [encO o] (encO (usedO o)):=by
 refine Sh func191 (by kernel_rfl) rfl fun c0 hc0=>?_;simp only[go_sem,encO,h];simp only[usedO,h,Int.reduceEq,reduceIte,or_true,or_false,or_self];exact Vr
theorem used_6(o:Ord)(h:o.kind=6):ASpec prog 191 [encO o] (encO (usedO o)):=by
 refine Sh func191 (by kernel_rfl) rfl fun c0 hc0=>?_;simp only[go_sem,encO,h];refine Rg func191 ?_;simp only[go_sem];simp only[usedO,h,Int.reduceEq,reduceIte,or_self];exact Vr
theorem used_7(o:Ord)(h:o.kind=7):ASpec prog 191 [encO o] (encO (usedO o)):=by
 refine Sh func191 (by kernel_rfl) rfl fun c0 hc0=>?_;simp only[go_sem,encO,h];refine Rg func191 ?_;simp only[go_sem];simp only[usedO,h,Int.reduceEq,reduceIte,or_false,or_self];exact Vr
theorem used_8(o:Ord)(h:o.kind=8):ASpec prog 191 [encO o] (encO (usedO o)):=by
 refine Sh func191 (by kernel_rfl) rfl fun c0 hc0=>?_;simp only[go_sem,encO,h];refine Rg func191 ?_;simp only[go_sem];simp only[usedO,h,Int.reduceEq,reduceIte,or_true,or_self];exact Vr
theorem used_9(o:Ord)(h:o.kind=9):ASpec prog 191 [encO o] (encO (usedO o)):=by
 refine Sh func191 (by kernel_rfl) rfl fun c0 hc0=>?_;simp only[go_sem,encO,h];refine Rg func191 ?_;simp only[go_sem];simp only[usedO,h,Int.reduceEq,reduceIte,or_self];exact Vr
theorem used_10(o:Ord)(h:o.kind=10):ASpec prog 191 [encO o] (encO (usedO o)):=by
 refine Sh func191 (by kernel_rfl) rfl fun c0 hc0=>?_;simp only[go_sem,encO,h];simp only[usedO,h,Int.reduceEq,reduceIte,or_true,or_false,or_self];exact Vr
theorem used_11(o:Ord)(h:o.kind=11):ASpec prog 191 [encO o] (encO (usedO o)):=by
 refine Sh func191 (by kernel_rfl) rfl fun c0 hc0=>?_;simp only[go_sem,encO,h];simp only[usedO,h,Int.reduceEq,reduceIte,or_true,or_self];exact Vr
theorem used_0(o:Ord)(h1:¬o.kind=1)(h2:¬o.kind=2)(h3:¬o.kind=3)(h4:¬o.kind=4)(h5:¬o.kind=5)(h6:¬o.kind=6)(h7:¬o.kind=7)(h8:¬o.kind=8)(h9:¬o.kind=9)(h10:¬o.kind=10)(h11:¬o.kind=11):ASpec prog 191 [encO o] (encO (usedO o)):=by
 refine Sh func191 (by kernel_rfl) rfl fun c0 hc0=>?_;simp only[go_sem,encO,h1,h2,h3,h4,h5,h6,h10,h11];refine Rg func191 ?_;simp only[go_sem,h7,h8,h9];simp only[usedO,h1,h2,h3,h4,h5,h6,h7,h8,h9,h10,h11,Yr,or_self];exact Vr
theorem used_spec(o:Ord):ASpec prog 191 [encO o] (encO (usedO o)):=
 if h1:o.kind=1 then used_1 o h1 else
 if h2:o.kind=2 then used_2 o h2 else
 if h3:o.kind=3 then used_3 o h3 else
 if h4:o.kind=4 then used_4 o h4 else
 if h5:o.kind=5 then used_5 o h5 else
 if h6:o.kind=6 then used_6 o h6 else
 if h7:o.kind=7 then used_7 o h7 else
 if h8:o.kind=8 then used_8 o h8 else
 if h9:o.kind=9 then used_9 o h9 else
 if h10:o.kind=10 then used_10 o h10 else
 if h11:o.kind=11 then used_11 o h11 else
 used_0 o h1 h2 h3 h4 h5 h6 h7 h8 h9 h10 h11
def mayO(o:Ord):Bool:=decide (0<=o.a)&&decide (o.a<=1000)&&decide (1<=o.b)&&decide (o.b<=1000000000)&&decide (0<=o.kind)&&decide (o.kind<=11)&&decide ((o.s.length:Int)<=100)&&decide ((o.t.length:Int)<=1000)&&decide (o=usedO o)
theorem may_0(o:Ord) (q1:¬0<=o.a):ASpec prog 141 [encO o] (.bool (mayO o)):=by
 have e:mayO o=false:=by simp[mayO,q1]
 rw[e];refine Sh func141 (by kernel_rfl) rfl fun c0 hc0=>?_;simp only[go_sem,encO,q1];exact⟨rfl,rfl,.one (.refl _)⟩
theorem may_1(o:Ord)(q1:0<=o.a)(q2:¬o.a<=1000):ASpec prog 141 [encO o] (.bool (mayO o)):=by
 have e:mayO o=false:=by simp[mayO,q1,q2]
 rw[e];refine Sh func141 (by kernel_rfl) rfl fun c0 hc0=>?_;simp only[go_sem,encO,q1,q2];exact⟨rfl,rfl,.one (.refl _)⟩
theorem may_2(o:Ord)(q1:0<=o.a)(q2:o.a<=1000)(q3:¬1<=o.b):ASpec prog 141 [encO o] (.bool (mayO o)):=by
 have e:mayO o=false:=by simp[mayO,q1,q2,q3]
 rw[e];refine Sh func141 (by kernel_rfl) rfl fun c0 hc0=>?_;simp only[go_sem,encO,q1,q2,q3];exact⟨rfl,rfl,.one (.refl _)⟩
theorem may_3(o:Ord)(q1:0<=o.a)(q2:o.a<=1000)(q3:1<=o.b)(q4:¬o.b<=1000000000):ASpec prog 141 [encO o] (.bool (mayO o)):=by
 have e:mayO o=false:=by simp[mayO,q1,q2,q3,q4]
 rw[e];refine Sh func141 (by kernel_rfl) rfl fun c0 hc0=>?_;simp only[go_sem,encO,q1,q2,q3,q4];exact⟨rfl,rfl,.one (.refl _)⟩
theorem may_4(o:Ord)(q1:0<=o.a)(q2:o.a<=1000)(q3:1<=o.b)(q4:o.b<=1000000000)(q5:¬0<=o.kind):ASpec prog 141 [encO o] (.bool (mayO o)):=by
 have e:mayO o=false:=by simp[mayO,q1,q2,q3,q4,q5]
 rw[e];refine Sh func141 (by kernel_rfl) rfl fun c0 hc0=>?_;simp only[go_sem,encO,q1,q2,q3,q4,q5];exact⟨rfl,rfl,.one (.refl _)⟩
theorem may_5(o:Ord)(q1:0<=o.a)(q2:o.a<=1000)(q3:1<=o.b)(q4:o.b<=1000000000)(q5:0<=o.kind)(q6:¬o.kind<=11):ASpec prog 141 [encO o] (.bool (mayO o)):=by
 have e:mayO o=false:=by simp[mayO,q1,q2,q3,q4,q5,q6]
 rw[e];refine Sh func141 (by kernel_rfl) rfl fun c0 hc0=>?_;simp only[go_sem,encO,q1,q2,q3,q4,q5,q6];exact⟨rfl,rfl,.one (.refl _)⟩
theorem may_6(o:Ord)(q1:0<=o.a)(q2:o.a<=1000)(q3:1<=o.b)(q4:o.b<=1000000000)(q5:0<=o.kind)(q6:o.kind<=11)(q7:¬(o.s.length:Int)<=100):ASpec prog 141 [encO o] (.bool (mayO o)):=by
 have e:mayO o=false:=by simp[mayO,q1,q2,q3,q4,q5,q6,q7]
 rw[e];refine Sh func141 (by kernel_rfl) rfl fun c0 hc0=>?_;simp only[go_sem,encO,q1,q2,q3,q4,q5,q6,q7];exact⟨rfl,rfl,.one (.refl _)⟩
theorem may_7(o:Ord)(q1:0<=o.a)(q2:o.a<=1000)(q3:1<=o.b)(q4:o.b<=1000000000)(q5:0<=o.kind)(q6:o.kind<=11)(q7:(o.s.length:Int)<=100)(q8:¬(o.t.length:Int)<=1000):ASpec prog 141 [encO o] (.bool (mayO o)):=by
 have e:mayO o=false:=by simp[mayO,q1,q2,q3,q4,q5,q6,q7,q8]
 rw[e];refine Sh func141 (by kernel_rfl) rfl fun c0 hc0=>?_;simp only[go_sem,encO,q1,q2,q3,q4,q5,q6,q7,q8];exact⟨rfl,rfl,.one (.refl _)⟩
theorem ord_eq(o p:Ord):(decide (o.a=p.a)&&(decide (o.b=p.b)&&(decide (o.kind=p.kind)&&(decide (o.s=p.s)&&(decide (o.t=p.t)&&(decide (o.x=p.x)&&(decide (o.y=p.y)&&(decide (o.z=p.z)&&true))))))))=decide (o=p):=by
 obtain⟨a,b,k,s,t,x,y,z⟩:=o;obtain⟨a',b',k',s',t',x',y',z'⟩:=p;rw[Bool.eq_iff_iff];simp
theorem may_8(o:Ord)(q1:0<=o.a)(q2:o.a<=1000)(q3:1<=o.b)(q4:o.b<=1000000000)(q5:0<=o.kind)(q6:o.kind<=11)(q7:(o.s.length:Int)<=100)(q8:(o.t.length:Int)<=1000):ASpec prog 141 [encO o] (.bool (mayO o)):=by
 have e:mayO o=decide (o=usedO o):=by simp[mayO,q1,q2,q3,q4,q5,q6,q7,q8]
 rw[e,<- ord_eq];refine Sh func141 (by kernel_rfl) rfl fun c0 hc0=>?_;simp only[go_sem,encO,q1,q2,q3,q4,q5,q6,q7,q8];refine⟨rfl,?_⟩;refine DOps.pure rfl (Wanted.test 23 true true rfl) rfl rfl (used_spec o) Vl rfl rfl ?_;refine Dg func141 rfl ?_;simp only[go_sem,encO];exact⟨rfl,.one (.refl _)⟩
theorem may_spec(o:Ord):ASpec prog 141 [encO o] (.bool (mayO o)):=
 if q1:0<=o.a then
 if q2:o.a<=1000 then
 if q3:1<=o.b then
 if q4:o.b<=1000000000 then
 if q5:0<=o.kind then
 if q6:o.kind<=11 then
 if q7:(o.s.length:Int)<=100 then
 if q8:(o.t.length:Int)<=1000 then
 may_8 o q1 q2 q3 q4 q5 q6 q7 q8
 else may_7 o q1 q2 q3 q4 q5 q6 q7 q8
 else may_6 o q1 q2 q3 q4 q5 q6 q7
 else may_5 o q1 q2 q3 q4 q5 q6
 else may_4 o q1 q2 q3 q4 q5
 else may_3 o q1 q2 q3 q4
 else may_2 o q1 q2 q3
 else may_1 o q1 q2
 else may_0 o q1
def takeA:Except Int (Nat×Bytes)->AV
 |.error z=>.tup [.int .u64 0,bA [],.int .i64 z]
 |.ok (n,r)=>.tup [.int .u64 n,bA r,.int .i64 0]
theorem shl8(a:Int):ashift .shl .u64 a 8=some ⟨(0:Int)<=8,.int .u64 (IntKind.u64.wrap (a*256)),none⟩:=rfl
theorem wrap_u8(k:UInt8):IntKind.i64.wrap (k.toNat:Int)=k.toNat:=by
 have:=k.toNat_lt
 have e:(2:Int)^IntKind.i64.bits=18446744073709551616:=by decide
 have e':(2:Int)^(IntKind.i64.bits-1)=9223372036854775808:=by decide
 simp only[IntKind.wrap,e,e',show IntKind.i64.signed=true from rfl,Bool.true_and,decide_eq_true_eq]
 split<;>omega
theorem wrap_nat(n:Nat)(h:n<18446744073709551616):IntKind.u64.wrap (n:Int)=n:=by
 have e:(2:Int)^IntKind.u64.bits=18446744073709551616:=by decide
 simp only[IntKind.wrap,e,show IntKind.u64.signed=false from rfl,Bool.false_and,Y8,Yr];omega
theorem or_acc(n:Nat)(c:UInt8)(hn:n<72057594037927936):bits .or .u64 (IntKind.u64.wrap ((n:Int)*256)) (IntKind.u64.wrap (c.toNat:Int))=(n*256+c.toNat:Nat):=by
 have hc:=c.toNat_lt
 have e1:IntKind.u64.wrap ((n:Int)*256)=((n*256:Nat):Int):=by rw[<- wrap_nat (n*256) (by omega)];simp
 have e2:IntKind.u64.wrap (c.toNat:Int)=(c.toNat:Int):=wrap_nat _ (by omega);rw[e1,e2,u64_or_nat (n*256) c.toNat (by omega) (by omega)];have:=Nat.shiftLeft_add_eq_or_of_lt (i:=8) (show c.toNat<2^8 by omega) n;rw[Nat.shiftLeft_eq] at this;rw[<- this]
theorem take_nil_s:ASpec prog 160 [bA []] (takeA (.error 2)):=by
 refine Sh func160 (by kernel_rfl) rfl fun c0 hc0=>?_;simp only[go_sem,bA,takeA];(repeat' first|exact .refl _|apply LeR.tup|apply Le.agg|constructor)
theorem succ_ne(n:Nat):(((n+1:Nat):Int)=0)=False:=by simp;omega
theorem succ_pos'(n:Nat):((0:Int)<((n+1:Nat):Int))=True:=by simp
theorem take_form_s(k:UInt8)(r:Bytes)(h:(8:Int)<k.toNat):ASpec prog 160 [bA (k::r)] (takeA (.error 3)):=by
 refine Sh func160 (by kernel_rfl) rfl fun c0 hc0=>?_;simp only[go_sem,bA,takeA,bC,wrap_u8,h,succ_ne];exact⟨rfl,by omega,by omega,rfl,by(repeat' first|exact .refl _|apply LeR.tup|apply Le.agg|constructor)⟩
theorem take_short0_s(k:UInt8)(h:¬(8:Int)<k.toNat)(h0:(0:Int)<k.toNat):ASpec prog 160 [bA [k]] (takeA (.error 2)):=by
 refine Sh func160 (by kernel_rfl) rfl fun c0 hc0=>?_;simp only[go_sem,bA,takeA,bC,wrap_u8,h,h0,succ_ne];exact⟨rfl,by omega,by omega,rfl,by(repeat' first|exact .refl _|apply LeR.tup|apply Le.agg|constructor)⟩
theorem take_zero_s(k c:UInt8)(r:Bytes)(h:¬(8:Int)<k.toNat)(h0:(0:Int)<k.toNat)(hc:(c.toNat:Int)=0):ASpec prog 160 [bA (k::c::r)] (takeA (.error 3)):=by
 refine Sh func160 (by kernel_rfl) rfl fun c0 hc0=>?_;simp only[go_sem,bA,takeA,bC,wrap_u8,h,h0,hc,succ_ne,succ_pos'];exact⟨rfl,by omega,rfl,by(repeat' first|exact .refl _|apply LeR.tup|apply Le.agg|constructor)⟩
theorem take_short_s(k c:UInt8)(r:Bytes)(h:¬(8:Int)<k.toNat)(h0:(0:Int)<k.toNat)(hc:¬(c.toNat:Int)=0)(hl:((r.length+1:Nat):Int)<k.toNat):ASpec prog 160 [bA (k::c::r)] (takeA (.error 2)):=by
 refine Sh func160 (by kernel_rfl) rfl fun c0 hc0=>?_;simp only[go_sem,bA,takeA,bC,wrap_u8,h,h0,hc,hl,succ_ne,succ_pos'];exact⟨rfl,by omega,rfl,by(repeat' first|exact .refl _|apply LeR.tup|apply Le.agg|constructor)⟩
theorem take_none_s(k:UInt8)(r:Bytes)(h0:(k.toNat:Int)=0):ASpec prog 160 [bA (k::r)] (takeA (.ok (0,r))):=by
 have hl:¬(r.length:Int)<0:=by omega
 refine Sh func160 (by kernel_rfl) rfl fun c0 hc0=>?_;simp only[go_sem,bA,takeA,bC,h0,hl,show IntKind.i64.wrap 0=0 from rfl,succ_ne,succ_pos'];refine⟨rfl,by omega,rfl,by omega,Run.unloop ?_⟩;refine Rg func160 ?_;simp only[go_sem];exact⟨rfl,by omega,rfl,by(repeat' first|exact .refl _|apply LeR.tup|apply Le.agg|constructor)⟩
theorem take_some_s(k c:UInt8)(r:Bytes)(h:¬(8:Int)<k.toNat)(h0:(0:Int)<k.toNat)(hc:¬(c.toNat:Int)=0)(hl:¬((r.length+1:Nat):Int)<k.toNat):ASpec prog 160 [bA (k::c::r)] (takeA (.ok (fromBE ((c::r).take k.toNat),(c::r).drop k.toNat))):=by
 refine Sh func160 (by kernel_rfl) rfl fun c0 hc0=>?_;simp only[go_sem,bA,takeA,bC,wrap_u8,h,h0,hc,hl,succ_ne,succ_pos'];refine⟨rfl,by omega,rfl,by omega,?_⟩
 have hlen:(List.take k.toNat ([AV.int .u8 c.toNat]::List.map bC r)).length=k.toNat:=by simp;omega
 refine Run.loopV (α:=Nat) (fun j=>j<=k.toNat) (fun j=>[(7,.int .u64 (fromBE ((c::r).take j):Nat)),(46,.int .i64 j)]) 0 (fun _=>[]) (fun j=>k.toNat-j) 0 (Nat.zero_le _) ?_ ?_
 ·simp only[go_sem,writes,junks,puts,hputs,List.filterMap_cons,List.filterMap_nil,Int.natCast_add,Int.natCast_one];(refine Weak.of (by simp[hc0]) ?_ ?_<;>repeat' first|exact .refl _|exact .junk _|rfl|apply Le.agg|constructor)
 ·intro j hj ih;simp only[writes,junks,puts,hputs,List.filterMap_cons,List.filterMap_nil,Int.natCast_add,Int.natCast_one,Y6,Y7,Yk,Y5,Y3,Yd,hlen] at ih ⊢
  by_cases hjk:j<k.toNat
  ·have hjr:j<(c::r).length:=by simp;omega
   have hg:(c::r)[j]? = some ((c::r)[j]):=Vb hjr
   have hsn:fromBE ((c::r).take (j+1))=fromBE ((c::r).take j)*256+((c::r)[j]).toNat:=by
    rw[List.take_add_one,hg,<- fromBE_snoc];rfl
   have hF:=fromBE_lt ((c::r).take j)
   have hFl:((c::r).take j).length=j:=by rw[List.length_take];omega
   rw[hFl] at hF;have hpow:256^j<=256^7:=Nat.pow_le_pow_right (by omega) (by omega)
   have hx:(List.take k.toNat ([AV.int .u8 c.toNat]::List.map bC r))[j]? = some [.int .u8 ((c::r)[j]).toNat]:=by
    have e:([AV.int .u8 c.toNat]::List.map bC r)=(c::r).map bC:=rfl;rw[e,<- List.map_take,Vg,List.getElem?_take_of_lt hjk,hg];rfl
   have hor:=or_acc (fromBE ((c::r).take j)) ((c::r)[j]) (by omega);rw[<- hsn] at hor
   obtain⟨G,hG⟩:∃ G,G=fromBE ((c::r).take (j+1)):=⟨_,rfl⟩
   rw[<- hG] at hor;generalize (c::r)[j]=x at *
   have hjj:(j:Int)<k.toNat:=by omega
   refine Rg func160 ?_;simp only[go_sem,hx,hjj,hlen,↓shl8,hor];refine⟨by omega,by unfold I64;omega,ih (j+1) _ (by omega) (by omega) ?_⟩;rw[<- hG];simp only[Int.natCast_add,Int.natCast_one];(refine Weak.of (by simp[hc0]) ?_ ?_<;>repeat' first|exact .refl _|exact .junk _|rfl|apply Le.agg|constructor)
  ·obtain rfl:j=k.toNat:=by omega
   have hjj:¬(k.toNat:Int)<k.toNat:=by omega
   refine Rg func160 ?_;simp only[go_sem,hjj]
   have e:List.drop k.toNat ([AV.int .u8 c.toNat]::List.map bC r)=List.map bC (List.drop k.toNat (c::r)):=by rw[List.map_drop];rfl
   rw[e];exact⟨rfl,by omega,rfl,by(repeat' first|exact .refl _|apply LeR.tup|apply Le.agg|constructor)⟩
theorem take_spec(b:Bytes):ASpec prog 160 [bA b] (takeA (takeN b)):=by
 match b with
 |[]=>exact take_nil_s
 |k::r=>
  by_cases h8:(8:Int)<k.toNat
  ·have e:takeN (k::r)=.error 3:=by
    have q:8<k.toNat:=by omega
    simp[takeN,q]
   rw[e];exact take_form_s k r h8
  ·have q:¬8<k.toNat:=by omega
   by_cases h0:(0:Int)<k.toNat
   ·have q2:0<k.toNat:=by omega
    match r with
    |[]=>
     have e:takeN [k]=.error 2:=by simp[takeN,q,q2]
     rw[e];exact take_short0_s k h8 h0
    |c::r=>
     by_cases hc:(c.toNat:Int)=0
     ·have hz:c=0:=by apply UInt8.toNat_inj.1;simpa using hc
      have e:takeN (k::c::r)=.error 3:=by subst hz;simp[takeN,q2]
      rw[e];exact take_zero_s k c r h8 h0 hc
     ·have hz:¬c=0:=by intro h;subst h;exact hc rfl
      by_cases hl:((r.length+1:Nat):Int)<k.toNat
      ·have q3:r.length+1<k.toNat:=by omega
       have e:takeN (k::c::r)=.error 2:=by simp[takeN,hz,q,q3]
       rw[e];exact take_short_s k c r h8 h0 hc hl
      ·have q3:¬r.length+1<k.toNat:=by omega
       have e:takeN (k::c::r)=.ok (fromBE ((c::r).take k.toNat),(c::r).drop k.toNat):=by simp[takeN,hz,q,q3]
       rw[e];exact take_some_s k c r h8 h0 hc hl
   ·have hk:(k.toNat:Int)=0:=by omega
    have hk':k.toNat=0:=by omega
    have e:takeN (k::r)=.ok (0,r):=by simp[takeN,hk',fromBE]
    rw[e];exact take_none_s k r hk
def takeZ(b:Bytes):Except Int (Int×Bytes):=match takeN b with
 |.error z=>.error z
 |.ok (n,r)=>.ok (unzig n,r)
theorem taken_small{b:Bytes}{n:Nat}{r:Bytes}(h:takeN b=.ok (n,r)):n<18446744073709551616/\r.length<=b.length:=by
 cases b with
 |nil=>simp[takeN] at h
 |cons k t=>
  simp only[takeN] at h
  split at h
  ·cases h
  ·split at h
   ·cases h
   ·rename_i h1 h2;simp only[Except.ok.injEq,Prod.mk.injEq] at h;obtain⟨rfl,rfl⟩:=h;have hF:=fromBE_lt (t.take k.toNat);rw[List.length_take] at hF;have:256^(min k.toNat t.length)<=256^8:=Nat.pow_le_pow_right (by omega) (by omega);exact⟨by omega,by simp;omega⟩
theorem ofInt_small(a:Nat)(ha:a<9223372036854775808):(BitVec.ofInt 64 (a:Int)).toNat=a:=by
 rw[BitVec.ofInt_natCast,BitVec.toNat_ofNat];exact Nat.mod_eq_of_lt (by omega)
theorem and_one(n:Nat)(hn:n<18446744073709551616):bits .and .u64 (n:Int) 1=((n % 2:Nat):Int):=by
 have:=u64_and_nat n 1 hn (by omega);rw[Nat.and_one_is_mod] at this;exact this
theorem xor_unzig(n:Nat)(hn:n<18446744073709551616):bits .xor .i64 ((n / 2:Nat):Int) (-((n % 2:Nat):Int))=unzig n:=by
 have hd:n / 2<9223372036854775808:=by omega
 generalize hx:n / 2=x at *;show IntKind.i64.wrap ((BitVec.ofInt 64 (x:Int) ^^^ BitVec.ofInt 64 _).toNat:Int)=_
 rcases(by omega:n % 2=0\/n % 2=1) with h|h
 ·rw[h]
  have e0:(-((0:Nat):Int))=0:=by omega
  rw[e0,BitVec.toNat_xor,ofInt_small x hd,show(BitVec.ofInt 64 0).toNat=0 from rfl,Nat.xor_zero,IntKind.wrap_i64,unzig,if_neg (by omega),hx];omega
 ·rw[h]
  have e0:(-((1:Nat):Int))=-1:=by omega
  rw[e0,show BitVec.ofInt 64 (-1)=BitVec.allOnes 64 by decide,BitVec.xor_allOnes,BitVec.toNat_not,ofInt_small x hd,IntKind.wrap_i64,unzig,if_pos h,hx];omega
theorem wrap_n64(n:Nat)(h:n<9223372036854775808):IntKind.i64.wrap (n:Int)=n:=by
 have e:(2:Int)^IntKind.i64.bits=18446744073709551616:=by decide
 have e':(2:Int)^(IntKind.i64.bits-1)=9223372036854775808:=by decide
 simp only[IntKind.wrap,e,e',show IntKind.i64.signed=true from rfl,Bool.true_and,decide_eq_true_eq]
 split<;>omega
def takeZA:Except Int (Int×Bytes)->AV
 |.error z=>.tup [.int .i64 0,bA [],.int .i64 z]
 |.ok (n,r)=>.tup [.int .i64 n,bA r,.int .i64 0]
theorem shr1(a:Int):ashift .shr .u64 a 1=some ⟨(0:Int)<=1,.int .u64 (a.fdiv 2),none⟩:=rfl
theorem takeint_spec(b:Bytes):ASpec prog 172 [bA b] (takeZA (takeZ b)):=by
 have hsp:=take_spec b
 cases ht:takeN b with
 |error z=>
  rw[ht] at hsp;refine Sh func172 (by kernel_rfl) rfl fun c0 hc0=>?_;simp only[go_sem,bA];refine Ops.pure .free rfl rfl (hsp) Vl rfl rfl ?_;refine Og func172 ?_;simp only[go_sem,takeA,bA,↓shr1];have e1:IntKind.i64.wrap (Int.fdiv 0 2)=((0 / 2:Nat):Int):=rfl
  have e2:IntKind.i64.wrap (bits .and .u64 0 1)=((0 % 2:Nat):Int):=by decide
  have e3:=xor_unzig 0 (by omega);rw[e1,e2,e3,takeZ,ht];exact⟨by unfold I64;omega,by simp only[takeZA];(repeat' first|exact .refl _|apply LeR.tup|apply Le.agg|constructor)⟩
 |ok p=>
  obtain⟨n,r⟩:=p;obtain⟨hn,_⟩:=taken_small ht;rw[ht] at hsp;refine Sh func172 (by kernel_rfl) rfl fun c0 hc0=>?_;simp only[go_sem,bA];refine Ops.pure .free rfl rfl (hsp) Vl rfl rfl ?_;refine Og func172 ?_;simp only[go_sem,takeA,bA,↓shr1,and_one n hn]
  have e1:IntKind.i64.wrap ((n:Int).fdiv 2)=((n / 2:Nat):Int):=by
   rw[Int.fdiv_eq_ediv_of_nonneg _ (by decide),show(n:Int) / 2=((n / 2:Nat):Int) by omega,wrap_n64 _ (by omega)]
  have e2:IntKind.i64.wrap ((n % 2:Nat):Int)=((n % 2:Nat):Int):=wrap_n64 _ (by omega);rw[e1,e2,xor_unzig n hn,takeZ,ht];exact⟨by unfold I64;omega,by simp only[takeZA];(repeat' first|exact .refl _|apply LeR.tup|apply Le.agg|constructor)⟩
def takeTA:Except Int (Bytes×Bytes)->AV
 |.error z=>.tup [.str [],bA [],.int .i64 z]
 |.ok (s,r)=>.tup [.str s,bA r,.int .i64 0]
theorem taketext_spec(b:Bytes)(most:Int)(hb:b.length<=1000000)(hm:0<=most/\most<=1000000):ASpec prog 173 [bA b,.int .i64 most] (takeTA (takeT b most)):=by
 have hsp:=take_spec b
 cases ht:takeN b with
 |error z=>
  rw[ht] at hsp
  have hz:¬z=0:=by rcases takeN_err ht with h|h<;>omega
  refine Sh func173 (by kernel_rfl) rfl fun c0 hc0=>?_;simp only[go_sem,bA];refine Ops.pure .free rfl rfl (hsp) Vl rfl rfl ?_;refine Og func173 ?_;simp only[go_sem,takeA,bA,hz];rw[takeT,ht];simp only[takeTA];(repeat' first|exact .refl _|apply LeR.tup|apply Le.agg|constructor)
 |ok p=>
  obtain⟨n,r⟩:=p;obtain⟨hn,hl⟩:=taken_small ht;rw[ht] at hsp
  have hw:IntKind.u64.wrap most=most:=by
   obtain⟨m,rfl⟩:=Int.eq_ofNat_of_zero_le hm.1;exact wrap_nat m (by omega)
  have hw2:IntKind.u64.wrap (r.length:Int)=r.length:=wrap_nat _ (by omega)
  have hmx:max most 0=most:=by omega
  by_cases h1:most<(n:Int)
  ·refine Sh func173 (by kernel_rfl) rfl fun c0 hc0=>?_;simp only[go_sem,bA];refine Ops.pure .free rfl rfl (hsp) Vl rfl rfl ?_;refine Og func173 ?_;simp only[go_sem,takeA,bA,hw,hmx,h1];rw[takeT,ht];simp only[if_pos (show(max most 0).toNat<n by omega),takeTA];(repeat' first|exact .refl _|apply LeR.tup|apply Le.agg|constructor)
  ·by_cases h2:(r.length:Int)<(n:Int)
   ·refine Sh func173 (by kernel_rfl) rfl fun c0 hc0=>?_;simp only[go_sem,bA];refine Ops.pure .free rfl rfl (hsp) Vl rfl rfl ?_;refine Og func173 ?_;simp only[go_sem,takeA,bA,hw,hw2,hmx,h1,h2];rw[takeT,ht];simp only[if_neg (show ¬(max most 0).toNat<n by omega),if_pos (show r.length<n by omega),takeTA];(repeat' first|exact .refl _|apply LeR.tup|apply Le.agg|constructor)
   ·refine Sh func173 (by kernel_rfl) rfl fun c0 hc0=>?_;simp only[go_sem,bA];refine Ops.pure .free rfl rfl (hsp) Vl rfl rfl ?_;refine Og func173 ?_;simp only[go_sem,takeA,bA,hw,hw2,hmx,h1,h2];rw[takeT,ht];simp only[if_neg (show ¬(max most 0).toNat<n by omega),if_neg (show ¬r.length<n by omega),takeTA];rw[<- List.map_take,<- List.map_drop,bytesOf_map];exact⟨rfl,by omega,rfl,by omega,rfl,by(repeat' first|exact .refl _|apply LeR.tup|apply Le.agg|constructor)⟩
end Go.Proofs.YtojhjaohaafeaaaGreatDoor
namespace Go.Proofs.YtojhjaohaafeaaaGreatDoor
open Go.ChangeShapes Go.WideShapes Go.ChangeAt Go.RowKit Go.Deep
theorem strCells_bytes(s:ByteArray):Lib.strCells s=s.data.toList.map byteV:=rfl
section
variable {P:Program} {w:World}
theorem wpl_append_str{ops:Array Oper}{rest:List Oper}{o:Oper}{a:Act}{Q:Exit->Act->World->Prop}{base e:Nat}(hgd:o.guard=none)(s x:Operand)(t u:TypeId)
  (ho:o.op=.call { callee:=.builtin .append,args:=#[s,x],argTypes:=#[t,u] }) (T:Tab P t e 1 1) (hz:(P.info? e).bind (·.zero)=some (.int .u8 0)) (hu:P.underlying u=some .string) (v:Value) (l:List UInt8) (hs:a.eval s=v) (hown:Own byteR 1 e base 0 w v l)
  (q:ByteArray) (hx:a.eval x=.string q) (hlen:l.length+q.size<=140737488355328) (hbase:base<=w.heap.size)
  (h:∀ v' w',Own byteR 1 e base 0 w' v' (l++q.data.toList)->Below base w w'->w.grownBy w' v.ownBlock->wpList P ops Q rest (a.put o.dst v') w'):wpList P ops Q (o::rest) a w:=by
 obtain⟨i,z,hi,hzz,hsz,hb,_⟩:=T.hi
 have hz':i.zero=some (.int .u8 0):=by rw[hi] at hz;simpa using hz
 obtain⟨xs,ho',hxs⟩:=hown;obtain⟨v',w',hrun,h2,h3,_⟩:=Lib.run_append_own_string (P:=P) w base t u o.type e i T.ht hu hi hz' hsz hb v l.length xs ho' q (by unfold maxLen;omega) hlen hbase;have hbl:Below base w w':=(Below.refl _ _).grown h3 hbase (fun k hk=>(ho'.lt k hk).1)
 have hql:q.data.toList.length=q.size:=by simp
 refine wpList_plain hgd fun _ hK=>?_;unfold Oper.wp execOp;simp only[ho,resolve,invoke,builtin,Sem.run_bind,Sem.run_pure,Result.andThen_ok,List.map_toArray,Yf,Ye,hs,hx,hrun];refine hK _ _ (h v' w' ⟨xs++Lib.strCells q,by rw[List.length_append,hql];exact h2,?_⟩ hbl h3);rw[cs_bytes,cs_bytes.1 hxs,strCells_bytes,List.map_append]
end
end Go.Proofs.YtojhjaohaafeaaaGreatDoor
namespace Go.Proofs.YtojhjaohaafeaaaGreatDoor
open Go.RowKit Go.Deep
theorem tabB:Tab prog 89 5 1 1:=by
 obtain⟨i,h1,h2,h3,h4⟩:=info_parts (P:=prog) (e:=5) (z:=.int .u8 0) (size:=1) (bytes:=1) (by kernel_rfl);exact⟨underlying89,⟨i,_,h1,h2,h3,h4,rfl⟩,by omega⟩
def RetB(w:World)(l:Bytes)(e:Ending)(w':World):Prop:=∃ v,e=.returned v/\Own byteR 1 5 w.heap.size 0 w' v l/\Below w.heap.size w w'
end Go.Proofs.YtojhjaohaafeaaaGreatDoor
namespace Go.Proofs.YtojhjaohaafeaaaGreatDoor
open Go.Shelf
def lays129_ren:Go.Shelf.Ren:=⟨fun|129=>213|n=>n,fun|53=>239|3=>3|4=>4|46=>245|5=>5|9=>9|n=>n,fun|n=>n⟩
theorem lays129:Go.Proofs.Lays.n129 prog lays129_ren:={
 mixed:=by kernel_rfl
 f129:=func213.trans (congrArg some (by kernel_rfl))
 t3:=underlying3
 a3:=Tryz.isAgg3
 z3:=Tryz.sizeOf3
 v3:=Tryz.zeroValue3
 t4:=underlying4
 a4:=Tryz.isAgg4
 z4:=Tryz.sizeOf4
 v4:=Tryz.zeroValue4
 t5:=underlying5
 a5:=Tryz.isAgg5
 z5:=Tryz.sizeOf5
 v5:=Tryz.zeroValue5
 t9:=underlying9
 a9:=Tryz.isAgg9
 z9:=Tryz.sizeOf9
 v9:=Tryz.zeroValue9
 t46:=underlying245
 a46:=Tryz.isAgg245
 z46:=Tryz.sizeOf245
 v46:=Tryz.zeroValue245
 t53:=underlying239
 a53:=Tryz.isAgg239
 z53:=Tryz.sizeOf239
 v53:=Tryz.zeroValue239 }
theorem len64_any(x:Int)(w:World)(h0:0<=x)(h1:x<=18446744073709551615) :
  Calls prog 213 #[.int .u64 x] w fun e w'=>e=.returned (.int .i64 (Lib.bitLen x.toNat))/\w'=w:=Any.bits_Len64 lays129 x w h0 h1
open Go.RowKit
theorem size_any(n:Nat)(hn:n<18446744073709551616)(w:World) :
  Calls prog 175 #[.int .u64 n] w fun e w'=>e=.returned (.int .i64 (1+nb n:Nat))/\w=w':=by
 have h8:=nb_le n hn;have hb:=bitLen_nb n hn
 have hb2:Lib.bitLen n<=64:=by omega
 have HB:=hid hb;clear hb
 go_enter func175,ntmps175
 go_wp2_with (go_at_call 213;refine(len64_any _ _ (by omega) (by omega)).mono ?_;rintro e w' ⟨rfl,rfl⟩;rw[Int.toNat_natCast])
 go_ret
 exact⟨ret_int (by have:=HB.out;omega),rfl⟩
theorem clip_any(A:Option Addr)(n c:Nat)(hn:n<=c)(hc:c<=maxLen)(w:World) :
  Calls prog 176 #[.slice A n c] w fun e w'=>e=.returned (.slice A n n)/\w=w':=by
 have hc:=hc;unfold maxLen at hc
 go_enter func176,ntmps176
 go_wp2
 go_ret
 exact⟨rfl,rfl⟩
theorem put_any(A:Option Addr)(b:Bytes)(m c n:Nat)(hm:b.length=m)(hmc:m<=c)(hc:c<=maxLen)(hn:n<18446744073709551616)(hb:m<=1000000)(w:World)(hs:Sl byteR 1 w.heap.size w A b) :
  Calls prog 112 #[.slice A m c,.int .u64 n] w (RetB w (b++encN n)):=by
 have h8:=nb_le n hn;obtain⟨xs,hr0',hcx⟩:=hs.cells;rw[hm] at hr0';have hc0':∀ W:World,Cs byteR 1 0 W xs b:=fun W=>cs_bytes.2 (cs_bytes.1 hcx)
 have hk8:1+(nb n:Int)-1=(nb n % 256:Nat):=by omega
 have hl1:(b.length+[UInt8.ofNat (nb n)].length)*1<=140737488355328:=by simp;omega
 have hl2:b.length+[UInt8.ofNat (nb n)].length<=maxLen:=by simp[maxLen];omega
 have HK:=hid hk8;have HL1:=hid hl1;have HL2:=hid hl2;have HR:=hid hr0';have HC:=hid hc0';clear hk8 hl1 hl2 hcx hr0' hc0' hs
 go_enter func112,ntmps112
 go_wp2_with (first
  |(go_at_call 175;refine(size_any n hn _).mono ?_;rintro e w' ⟨rfl,rfl⟩)
  |(go_at_call 176;refine(clip_any A m c hmc hc _).mono ?_;rintro e w' ⟨rfl,rfl⟩)
  |(at_builtin;refine wpl_append_full (R:=byteR) (B:=0) rfl (.tmp 12) (.tmp 15) _ rfl tabB A m m xs b [UInt8.ofNat (nb n)] rfl hm rfl (HR.out.alloc _) (HC.out _) (Nat.zero_le _) ⟨w.heap.size,0,none⟩ 1 1 [.int .u8 (1+(nb n:Int)-1)] rfl rfl Nat.one_pos (rdc_new _ _ _ rfl) (byte_one HK.out _) (bytes1 _) HL1.out HL2.out ?_;intro v1 w1 hown hbl))
 have hown2:=hown.low (base':=w.heap.size) (by simp);have hbl2:Below w.heap.size w w1:=below_then (bN _ _) hbl;have HO:=hid hown2;clear hown hbl hown2
 go_loopw [6,7] (fun v i wr=>∃ q:Nat,q<=nb n/\i=.int .i64 ((q:Int)-1)/\Own byteR 1 5 w.heap.size 0 wr v ((b++[UInt8.ofNat (nb n)])++(be (nb n) n).take (nb n-q))/\Below w.heap.size w wr)
  (fun _ i _=>(intOf i+1).toNat)
 case atStart=>exact⟨nb n,Nat.le_refl _,by go_num,by simpa using HO.out,hbl2⟩
 case round=>
  obtain⟨q,hq,rfl,hown,hbr⟩:=hrel
  cases q with
  |zero=>
   have HO2:=hid hown;clear hown
   go_wp2
   go_ret
   refine⟨_,rfl,?_,hbr⟩;have:=HO2.out;rw[Nat.sub_zero,List.take_of_length_le (by rw[be_length];omega)] at this
   simpa [encN] using this
  |succ p=>
   rw[show((p+1:Nat):Int)-1=(p:Int) by omega];have HO2:=hid hown;clear hown
   have hl:((b++[UInt8.ofNat (nb n)])++(be (nb n) n).take (nb n-(p+1))).length<=1000010:=by
    simp only[List.length_append,Ya,Y9]
    have:(List.take (nb n-(p+1)) (be (nb n) n)).length<=nb n:=by rw[List.length_take,be_length];omega
    omega
   have hk:=shr_byte n p;have ht:=be_take (nb n) n (nb n-(p+1)) (by omega);rw[show nb n-1-(nb n-(p+1))=p by omega,show nb n-(p+1)+1=nb n-p by omega] at ht;generalize hL:(b++[UInt8.ofNat (nb n)])++(be (nb n) n).take (nb n-(p+1))=L at *;have HK1:=hid hk;have HT:=hid ht;have HL:=hid hL;have HN:=hid hl;clear hk ht hL hl
   go_wp2_with (first
    |(at_builtin;refine wpl_append (R:=byteR) (B:=0) rfl (.tmp 23) (.tmp 29) _ rfl tabB _ L [UInt8.ofNat (n / 256^p)] rfl (HO2.out.alloc (Nat.zero_le _) _) (Nat.zero_le _) (some ⟨wr.heap.size,0,none⟩) 1 1 [.int .u8 ((n:Int) / 2^(8*p) % 256)] rfl rfl (rdc_new _ _ _ rfl) (byte_one HK1.out _) (bytes1 _) (by have:=HN.out;simp;omega) (by have:=HN.out;simp[maxLen];omega) (le_alloc hbr.size _) ?_;intro v2 w2 hown2 hbl3 _ _))
   have HO3:=hid hown2;clear hown2
   go_roundw
   case rel=>
    refine⟨p,by omega,by go_num,?_,?_⟩
    ·have:=HO3.out;rw[<- HL.out,List.append_assoc,<- HT.out] at this;exact this
    ·exact(hbr.trans ((Below.refl _ _).alloc hbr.size _)).trans hbl3
   case measure=>simp[intOf]
theorem xor_ones(x:Nat)(h:x<18446744073709551616):x ^^^ 18446744073709551615=18446744073709551615-x:=by
 have h1:(BitVec.ofNat 64 x ^^^ BitVec.allOnes 64).toNat=x ^^^ 18446744073709551615:=by
  rw[BitVec.toNat_xor,BitVec.toNat_ofNat,BitVec.toNat_allOnes,Nat.mod_eq_of_lt (by omega)]
 rw[<- h1,BitVec.xor_allOnes,BitVec.toNat_not,BitVec.toNat_ofNat,Nat.mod_eq_of_lt (by omega)]
theorem zig_neg(n:Int)(h:n<0)(hn:-9223372036854775808<=n):bits .xor .u64 (IntKind.u64.wrap (IntKind.u64.wrap n*2)) (IntKind.u64.wrap (n / 9223372036854775808))=(zig n:Nat):=by
 rw[IntKind.wrap_u64,IntKind.wrap_u64,IntKind.wrap_u64];obtain⟨x,hx⟩:=Int.eq_ofNat_of_zero_le (show 0<=n % 18446744073709551616*2 % 18446744073709551616 by omega);rw[hx,show n / 9223372036854775808 % 18446744073709551616=((18446744073709551615:Nat):Int) by omega,u64_xor_nat _ _ (by omega) (by omega),xor_ones _ (by omega)];unfold zig;rw[if_pos h];omega
theorem zig_pos(n:Int)(h:¬n<0)(hn:n<=9223372036854775807):bits .xor .u64 (n*2) (n / 9223372036854775808)=(zig n:Nat):=by
 obtain⟨x,rfl⟩:=Int.eq_ofNat_of_zero_le (show 0<=n by omega);rw[show((x:Int)*2)=((x*2:Nat):Int) by omega,show((x:Int) / 9223372036854775808)=((0:Nat):Int) by omega,u64_xor_nat _ _ (by omega) (by omega),Nat.xor_zero];unfold zig;rw[if_neg h];omega
theorem int_any(A:Option Addr)(b:Bytes)(m c:Nat)(n:Int)(hm:b.length=m)(hmc:m<=c)(hc:c<=maxLen)(hn:-9223372036854775808<=n)(hn':n<=9223372036854775807)(hb:m<=1000000)(w:World)(hs:Sl byteR 1 w.heap.size w A b) :
  Calls prog 62 #[.slice A m c,.int .i64 n] w (RetB w (b++encN (zig n))):=by
 have hz:=zig_lt n hn hn'
 by_cases h:n<0
 ·have hk:=zig_neg n h hn;have HK:=hid hk;clear hk
  go_enter func62,ntmps62
  go_wp2_with fail
  rw[HK.out];refine(put_any A b m c (zig n) hm hmc hc hz hb _ hs).mono ?_;rintro e w' ⟨v,rfl,hown,hbl⟩
  go_wp2_with fail
  go_ret
  exact⟨v,rfl,hown,hbl⟩
 ·have hk:=zig_pos n h hn';have HK:=hid hk;clear hk
  go_enter func62,ntmps62
  go_wp2_with fail
  rw[HK.out];refine(put_any A b m c (zig n) hm hmc hc hz hb _ hs).mono ?_;rintro e w' ⟨v,rfl,hown,hbl⟩
  go_wp2_with fail
  go_ret
  exact⟨v,rfl,hown,hbl⟩
abbrev sb(s:ByteArray):Bytes:=s.data.toList
theorem sb_length(s:ByteArray):(sb s).length=s.size:=by simp
theorem infoB:(prog.info? 5).bind (·.zero)=some (.int .u8 0):=by kernel_rfl
theorem text_any(A:Option Addr)(b:Bytes)(m c:Nat)(s:ByteArray)(hm:b.length=m)(hmc:m<=c)(hc:c<=maxLen)(hs0:s.size<=1000000)(hb:m<=1000000)(w:World)(hs:Sl byteR 1 w.heap.size w A b) :
  Calls prog 64 #[.slice A m c,.string s] w (RetB w (b++encT (sb s))):=by
 have hl:=encN_le s.size (by omega)
 go_enter func64,ntmps64
 go_wp2_with fail
 refine(put_any A b m c s.size hm hmc hc (by omega) hb _ hs).mono ?_;rintro e w1 ⟨v,rfl,hown,hbl⟩;have hsz:=hbl.size;have HO:=hid hown;clear hown
 have hlen:(b++encN s.size).length+s.size<=140737488355328:=by rw[List.length_append];omega
 have HL:=hid hlen;clear hlen
 go_wp2_with (first
  |(at_builtin;refine wpl_append_str rfl (.tmp 9) (.tmp 10) _ _ rfl tabB infoB underlying9 _ (b++encN s.size) rfl HO.out s rfl HL.out hsz ?_;intro v2 w2 hown2 hbl2 _))
 go_ret
 refine⟨v2,rfl,?_,hbl.trans hbl2⟩;rw[List.append_assoc] at hown2;rw[encT,sb_length];exact hown2
theorem TRel.duo{c:Cx}{vs:Array Value}{x y:AV}(h:TRel c vs [x,y]):∃ u v,vs=#[u,v]/\RV c u x/\RV c v y:=by
 obtain⟨h1,h2⟩:=h;obtain⟨vs⟩:=vs
 match vs,h1 with
 |[u,v],_=>exact⟨u,v,rfl,h2 0 u x rfl rfl,h2 1 v y rfl rfl⟩
theorem RV.strb{c:Cx}{v:Value}{s:Bytes}(h:RV c v (.str s)):∃ q:ByteArray,v=.string q/\sb q=s:=by
 cases h with
 |str q l h=>exact⟨q,rfl,h⟩
theorem sb_size(q:ByteArray):(sb q).length=q.size:=by unfold sb;rfl
theorem encN_pos(n:Nat):0<(encN n).length:=Nat.succ_pos _
theorem int_spec(b:Bytes)(n:Int)(hb:b.length<=1000000)(h1:I64 n):OSpec prog 62 [bA b,.int .i64 n] 1 ((b++encN (zig n)).map bC):=by
 refine own_spec (by rw[List.length_append];have:=encN_pos (zig n);omega) ⟨_,func62,by kernel_rfl,rfl⟩ fun c vs hh hc hr=>?_;obtain⟨u,v,rfl,hu,hv⟩:=hr.duo;obtain⟨A,cap,rfl,g1,g2,hs⟩:=hu.bytes;cases hv;unfold I64 at h1;refine(int_any A b b.length cap n rfl g1 g2 (by omega) (by omega) hb c.w hs).mono ?_;rintro e w' ⟨v,rfl,h,hb⟩;exact⟨v,_,rfl,h,hb⟩
theorem text_spec(b s:Bytes)(hb:b.length<=1000000)(h1:s.length<=1000000):OSpec prog 64 [bA b,.str s] 1 ((b++encT s).map bC):=by
 refine own_spec (by unfold encT;rw[List.length_append,List.length_append];have:=encN_pos s.length;omega) ⟨_,func64,by kernel_rfl,rfl⟩ fun c vs hh hc hr=>?_;obtain⟨u,v,rfl,hu,hv⟩:=hr.duo;obtain⟨A,cap,rfl,g1,g2,hs⟩:=hu.bytes;obtain⟨q,rfl,rfl⟩:=hv.strb;rw[sb_size] at h1;refine(text_any A b b.length cap q rfl g1 g2 h1 hb c.w hs).mono ?_;rintro e w' ⟨v,rfl,h,hb⟩;exact⟨v,_,rfl,h,hb⟩
theorem bestV_some{l:List Acc}{need:Int}{c:Cv}(h:bestV l need=some c):1<=need/\need<=(l.countP (isV c.1 c.2):Int):=by
 have key:∀ (m:List Acc) b,(∀ c,b=some c->1<=need/\need<=(l.countP (isV c.1 c.2):Int))->∀ c,m.foldl (betterV l need) b=some c->1<=need/\need<=(l.countP (isV c.1 c.2):Int):=by
  intro m
  induction m with
  |nil=>intro b hb c h;exact hb c h
  |cons a m ih=>
   intro b hb c h;rw[List.foldl_cons] at h;refine ih _ (fun c' h'=>?_) c h;unfold betterV at h'
   split at h'
   ·rename_i hc;simp only[Vi,decide_eq_true_eq] at hc;cases h';exact hc.1
   ·exact hb c' h'
 exact key l none (fun c h=>by cases h) c h
def makeF(s:Sz)(l:List Acc):Option (List Acc):=(bestV l s.proof).map fun c=>(l.filter (isV c.1 c.2)).take s.proof.toNat
def makeA:Option (List Acc)->AV
 |none=>.tup [vA [],.bool false]
 |some p=>.tup [vA p,.bool true]
end Go.Proofs.YtojhjaohaafeaaaGreatDoor
namespace Go.Proofs.YtojhjaohaafeaaaGreatDoor
structure Acp where
 s:Sz
 me:Int
 view:Int
 has:Bool
 at_:Int
 value:Bts
 proof:List Acc
 votes:List Acc
deriving DecidableEq
def zAcp:Acp:=⟨⟨0,0⟩,0,0,false,0,[],[],[]⟩
def bare(a:Acp):Acp:={ a with votes:=[] }
def pvw:List Acc->Int
 |[]=>-1
 |a::_=>a.view
def lastsP(s:Sz)(v:Int):List Acc->Bool
 |[]=>true
 |p::l=>rightP s (p::l)&&decide (p.view<=v)
def lastsV(a:Acp):Bool:=if a.has then decide (0<=a.at_)&&decide (a.at_<=a.view)&&decide ((a.value.length:Int)<=6000) else decide (a.at_=0)&&decide (a.value=[])
def lastsB(a:Acp):Bool:=decide (0<=a.view)&&decide (a.view<=100000)&&lastsV a&&lastsP a.s a.view a.proof
structure AcOk(a:Acp):Prop where
 sz:a.s.right=true
 me0:0<=a.me
 me1:a.me<a.s.n
 lasts:lastsB a=true
 vt:rightT a.votes=true
 vb:∀ v∈a.votes,v.by_<a.s.n/\v.view=a.view
def newF(s:Sz)(me:Int):Option Acp:=if s.right=true/\0<=me/\me<s.n then some ⟨s,me,0,false,0,[],[],[]⟩ else none
theorem newF_ok{s:Sz}{me:Int}{a:Acp}(h:newF s me=some a):AcOk a/\a.s=s/\a.me=me/\Go.Proofs.YtojhjaohaafeaaaGreatDoor.bare a=a:=by
 unfold newF at h
 split at h
 ·rename_i hc;cases h;exact⟨⟨hc.1,hc.2.1,hc.2.2,rfl,rfl,fun v hv=>by cases hv⟩,rfl,rfl,rfl⟩
 ·cases h
def enterB(a:Acp)(v:Int):Bool:=decide (a.view<v)&&decide (v<=100000)
def enterF(a:Acp)(v:Int):Acp:={ a with view:=v,votes:=[] }
theorem lasts_parts{a:Acp}(h:lastsB a=true):0<=a.view/\a.view<=100000/\lastsV a=true/\lastsP a.s a.view a.proof=true:=by
 unfold lastsB at h;simp only[Vi,decide_eq_true_eq] at h;exact⟨h.1.1.1,h.1.1.2,h.1.2,h.2⟩
theorem lasts_of{a:Acp}(h1:0<=a.view)(h2:a.view<=100000)(h3:lastsV a=true)(h4:lastsP a.s a.view a.proof=true):lastsB a=true:=by
 unfold lastsB;simp only[Vi,decide_eq_true_eq];exact⟨⟨⟨h1,h2⟩,h3⟩,h4⟩
def propB(a:Acp)(v:Int)(x:Bts)(cert:List Rp):Bool:=decide (v=a.view)&&!(a.has&&decide (a.at_=v))&&decide ((x.length:Int)<=6000)&&(decide (v=0)&&cert.isEmpty||vouches a.s v cert x)
def propF(a:Acp)(v:Int)(x:Bts):Acp:={ a with has:=true,at_:=v,value:=x }
theorem propB_parts{a:Acp}{v:Int}{x:Bts}{cert:List Rp}(h:propB a v x cert=true):v=a.view/\¬(a.has=true/\a.at_=v)/\(x.length:Int)<=6000:=by
 unfold propB at h;simp only[Vi,decide_eq_true_eq,Bool.not_eq_true',Bool.and_eq_false_iff,decide_eq_false_iff_not] at h;obtain⟨⟨⟨h1,h2⟩,h3⟩,_⟩:=h;refine⟨h1,?_,h3⟩;rintro⟨g1,g2⟩
 rcases h2 with h2|h2
 ·rw[g1] at h2;cases h2
 ·exact h2 g2
theorem AcOk.prop{a:Acp}(h:AcOk a){v:Int}{x:Bts}{cert:List Rp}(hp:propB a v x cert=true):AcOk (propF a v x):=by
 obtain⟨rfl,_,h3⟩:=propB_parts hp;obtain⟨g1,g2,g3,g4⟩:=lasts_parts h.lasts;refine⟨h.sz,h.me0,h.me1,lasts_of (a:=propF a a.view x) g1 g2 ?_ g4,h.vt,h.vb⟩;unfold lastsV propF;simp only[Ys,Vi,decide_eq_true_eq];exact⟨⟨g1,Int.le_refl _⟩,h3⟩
/-! ### votes -/
def placeA(l:List Acc)(by_:Int):Nat:=(l.takeWhile fun x=>decide (x.by_<by_)).length
def hasBy(l:List Acc)(by_:Int):Bool:=l.any fun x=>decide (x.by_=by_)
def addF(l:List Acc)(a:Acc):List Acc:=if mayA a&&!hasBy l a.by_ then l.take (placeA l a.by_)++a::l.drop (placeA l a.by_) else l
def newest(a:Acp):Int:=pvw a.proof
def hearF(a:Acp)(w:Acc):Acp×Option (List Acc):=
 if a.s.n<=w.by_\/w.view≠a.view then(a,none)
 else match makeF a.s (addF a.votes w) with
  |none=>({ a with votes:=addF a.votes w },none)
  |some p=>if mayA w=true/\pvw a.proof<a.view then({ a with votes:=addF a.votes w,proof:=p },some p) else({ a with votes:=addF a.votes w },none)
theorem rises_iff:∀ (l:List Int) (b:Int),rises b l=true↔(∀ x∈l,b<x)/\l.Pairwise (·<·)
 |[],b=>by simp[rises]
 |x::l,b=>by
  rw[rises,Vi,decide_eq_true_eq,rises_iff l x,List.pairwise_cons]
  constructor
  ·rintro⟨h1,h2,h3⟩;refine⟨fun y hy=>?_,h2,h3⟩
   rcases List.mem_cons.1 hy with rfl|hy
   ·exact h1
   ·have:=h2 y hy;omega
  ·rintro⟨h1,h2,h3⟩;exact⟨h1 x List.mem_cons_self,h2,h3⟩
theorem rightT_iff(l:List Acc):rightT l=true↔(∀ a∈l,mayA a=true)/\l.Pairwise fun a b=>a.by_<b.by_:=by
 unfold rightT;rw[Vi,List.all_eq_true,rises_iff,List.pairwise_map]
 constructor
 ·rintro⟨h1,h2,h3⟩;exact⟨h1,h3⟩
 ·rintro⟨h1,h3⟩;refine⟨h1,fun x hx=>?_,h3⟩;obtain⟨a,ha,rfl⟩:=List.mem_map.1 hx;have:=h1 a ha;simp only[mayA,Vi,decide_eq_true_eq] at this;omega
theorem takeW_imp{α:Type}{p:α->Bool}{x:α}:∀ {l:List α},x∈l.takeWhile p->p x=true
 |[],h=>by cases h
 |a::l,h=>by
  rw[List.takeWhile_cons] at h
  cases hp:p a with
  |false=>rw[hp] at h;cases h
  |true=>
   rw[hp] at h
   rcases List.mem_cons.1 h with rfl|h
   ·exact hp
   ·exact takeW_imp h
theorem place_split(l:List Acc)(b:Int):l.take (placeA l b)=l.takeWhile (fun x=>decide (x.by_<b))/\l.drop (placeA l b)=l.dropWhile (fun x=>decide (x.by_<b)):=by
 have h:l=l.takeWhile (fun x=>decide (x.by_<b))++l.dropWhile (fun x=>decide (x.by_<b)):=List.takeWhile_append_dropWhile.symm;unfold placeA
 constructor
 ·conv=>lhs;rw[h]
  rw[<- h];exact(congrArg (List.take _) h).trans (List.take_left (l₂:=l.dropWhile fun x=>decide (x.by_<b)))
 ·exact(congrArg (List.drop _) h).trans (List.drop_left (l₂:=l.dropWhile fun x=>decide (x.by_<b)))
theorem add_mem{l:List Acc}{a x:Acc}(h:x∈addF l a):x∈l\/(x=a/\mayA a=true):=by
 unfold addF at h
 split at h
 ·rename_i hc;rw[Vi] at hc
  rcases List.mem_append.1 h with h|h
  ·exact .inl (List.mem_of_mem_take h)
  ·rcases List.mem_cons.1 h with h|h
   ·exact .inr ⟨h,hc.1⟩
   ·exact .inl (List.mem_of_mem_drop h)
 ·exact .inl h
theorem add_right{l:List Acc}(h:rightT l=true)(a:Acc):rightT (addF l a)=true:=by
 have hm:∀ x∈addF l a,mayA x=true:=fun x hx=>by
  rcases add_mem hx with h1|⟨rfl,h1⟩
  ·exact((rightT_iff l).1 h).1 x h1
  ·exact h1
 rw[rightT_iff];refine⟨hm,?_⟩;obtain⟨h1,h2⟩:=(rightT_iff l).1 h;unfold addF
 split
 ·rename_i hc;rw[Vi,Bool.not_eq_true'] at hc
  have hno:∀ x∈l,x.by_≠a.by_:=fun x hx e=>by
   have:hasBy l a.by_=true:=List.any_eq_true.2 ⟨x,hx,by simpa using e⟩;rw[hc.2] at this;cases this
  obtain⟨e1,e2⟩:=place_split l a.by_
  have hlo:∀ x∈l.take (placeA l a.by_),x.by_<a.by_:=fun x hx=>by
   rw[e1] at hx
   simpa using takeW_imp hx
  have hhi:∀ x∈l.drop (placeA l a.by_),a.by_<x.by_:=fun x hx=>by
   cases hd:l.drop (placeA l a.by_) with
   |nil=>rw[hd] at hx;cases hx
   |cons y m=>
    have hy:¬y.by_<a.by_:=by
     have hd':=hd;rw[e2] at hd'
     have hne:l.dropWhile (fun x=>decide (x.by_<a.by_))≠[]:=by rw[hd'];simp
     have:=List.head_dropWhile_not (fun x:Acc=>decide (x.by_<a.by_)) hne;simp only[hd',List.head_cons,decide_eq_false_iff_not] at this;exact this
    have hym:y∈l:=List.mem_of_mem_drop (hd▸List.mem_cons_self);have hya:=hno y hym;rw[hd] at hx
    rcases List.mem_cons.1 hx with rfl|hx
    ·omega
    ·have hp:(l.drop (placeA l a.by_)).Pairwise fun a b=>a.by_<b.by_:=h2.sublist (List.drop_sublist _ _);rw[hd] at hp;have:=(List.pairwise_cons.1 hp).1 x hx;omega
  rw[List.pairwise_append];refine⟨h2.sublist (List.take_sublist _ _),List.pairwise_cons.2 ⟨hhi,h2.sublist (List.drop_sublist _ _)⟩,?_⟩;intro x hx y hy;have g1:=hlo x hx
  rcases List.mem_cons.1 hy with rfl|hy
  ·exact g1
  ·have g2:=hhi y hy;omega
 ·exact h2
theorem make_ok{s:Sz}{l p:List Acc}(hs:s.right=true)(hl:rightT l=true)(hb:∀ v∈l,v.by_<s.n)(h:makeF s l=some p):rightP s p=true/\p≠[]/\∀ v∈p,v∈l:=by
 unfold makeF at h
 cases hbv:bestV l s.proof with
 |none=>rw[hbv] at h;cases h
 |some c=>
  rw[hbv] at h;cases h;obtain⟨h1,h2⟩:=bestV_some hbv;rw[List.countP_eq_length_filter] at h2
  have hlen:((l.filter (isV c.1 c.2)).take s.proof.toNat).length=s.proof.toNat:=by
   rw[List.length_take];omega
  have hsub:((l.filter (isV c.1 c.2)).take s.proof.toNat).Sublist l:=(List.take_sublist _ _).trans List.filter_sublist
  have hiv:∀ a∈(l.filter (isV c.1 c.2)).take s.proof.toNat,a.view=c.1/\a.value=c.2:=fun a ha=>by
   have:=(List.mem_filter.1 (List.mem_of_mem_take ha)).2
   simpa [isV] using this
  refine⟨?_,fun e=>?_,fun v hv=>hsub.subset hv⟩
  ·obtain⟨g1,g2⟩:=(rightT_iff l).1 hl;have hr:rightT ((l.filter (isV c.1 c.2)).take s.proof.toNat)=true:=(rightT_iff _).2 ⟨fun a ha=>g1 a (hsub.subset ha),g2.sublist hsub⟩
   have hn:((l.filter (isV c.1 c.2)).take s.proof.toNat)≠[]:=fun e=>by rw[e] at hlen;simp at hlen;omega
   obtain⟨x,m,hxm⟩:=List.exists_cons_of_ne_nil hn;unfold rightP;rw[hs,hr];simp only[Bool.true_and,Vi,decide_eq_true_eq,List.all_eq_true];refine⟨⟨⟨by omega,trivial⟩,fun a ha=>hb a (hsub.subset ha)⟩,fun a ha=>?_⟩;have k1:=hiv a ha;have k2:=hiv x (by rw[hxm];exact List.mem_cons_self);rw[hxm];simp only[Yf,List.headD_cons];exact⟨k1.1.trans k2.1.symm,k1.2.trans k2.2.symm⟩
  ·have e2:(l.filter (isV c.1 c.2)).take s.proof.toNat=[]:=e;rw[e2] at hlen;simp at hlen;omega
theorem AcOk.hear{a:Acp}(h:AcOk a)(w:Acc):AcOk (hearF a w).1/\∀ p,(hearF a w).2=some p->(hearF a w).1.proof=p/\pvw p=a.view/\pvw a.proof<a.view/\p≠[]:=by
 unfold hearF
 split
 ·exact⟨h,fun p hp=>by cases hp⟩
 ·rename_i hc
  have hw:w.by_<a.s.n/\w.view=a.view:=⟨Int.not_le.1 fun q=>hc (.inl q),Vf fun q=>hc (.inr q)⟩
  have hvb:∀ v∈addF a.votes w,v.by_<a.s.n/\v.view=a.view:=fun v hv=>by
   rcases add_mem hv with hv|⟨rfl,_⟩
   ·exact h.vb v hv
   ·exact hw
  have hvt:=add_right h.vt w
  have hbase:AcOk { a with votes:=addF a.votes w }:=⟨h.sz,h.me0,h.me1,h.lasts,hvt,hvb⟩
  split
  ·exact⟨hbase,fun p hp=>by cases hp⟩
  ·rename_i p hp
   split
   ·rename_i hq;obtain⟨k1,k2,k3⟩:=make_ok h.sz hvt (fun v hv=>(hvb v hv).1) hp;obtain⟨x,m,rfl⟩:=List.exists_cons_of_ne_nil k2;have hx:x.view=a.view:=(hvb x (k3 x List.mem_cons_self)).2;obtain⟨g1,g2,g3,g4⟩:=lasts_parts h.lasts;refine⟨⟨h.sz,h.me0,h.me1,lasts_of g1 g2 g3 ?_,hvt,hvb⟩,?_⟩
    ·show(rightP a.s (x::m)&&decide (x.view<=a.view))=true
     rw[k1,hx];simp
    ·intro p hp;cases hp;exact⟨rfl,hx,hq.2,k2⟩
   ·exact⟨hbase,fun p hp=>by cases hp⟩
/-! ### what lasts,az bytes -/
def encBys(l:List Acc):Bytes:=(l.map fun a=>encN (zig a.by_)).flatten
def flagI(b:Bool):Int:=if b then 1 else 0
def tailF:List Acc->Bytes
 |[]=>[]
 |p::_=>encN (zig p.view)++encT p.value
def tF(a:Acp):Bytes:=encN (zig a.view)++(encN (zig (flagI a.has))++(encN (zig a.at_)++(encT a.value++(encN (zig a.proof.length)++(encBys a.proof++tailF a.proof)))))
/-! ### what was said -/
structure Sd where
 vote:Acc
 view:Int
 proved:Int
def hasS(a:Acp)(d:Sd):Bool:=decide (d.view<=a.view)&&(decide (d.vote.view<0)||a.has&&decide (d.vote.view<=a.at_)&&(decide (d.vote.view<a.at_)||decide (a.value=d.vote.value)))&&(decide (d.proved<0)||!a.proof.isEmpty&&decide (d.proved<=pvw a.proof))
open Go.RowKit
def addM(m:List (Bts×Nat))(x:Bts):List (Bts×Nat):=match m.findIdx? (fun p=>p.1==x) with
 |some j=>m.modify j fun p=>(p.1,p.2+1)
 |none=>m++[(x,1)]
def told(c:Int):List Rp->List (Bts×Nat)->List (Bts×Nat)
 |[],m=>m
 |r::l,m=>told c l (if tells c r then addM m r.value else m)
def val(m:List (Bts×Nat))(x:Bts):Nat:=match m.find? (fun p=>p.1==x) with|some p=>p.2|none=>0
def both(c:Int)(x r:Rp):Bool:=tells c r&&tells c x&&decide (r.value=x.value)
inductive LN:AV->AV->Prop where
 |refl (a:AV):LN a a
 |nil (k:Nat):LN .nils (.sl k [] .no)
inductive LNL:List AV->List AV->Prop where
 |nil:LNL [] []
 |cons {a b:AV} {xs ys:List AV} (h:LN a b) (hs:LNL xs ys):LNL (a::xs) (b::ys)
inductive LNN:List (List AV)->List (List AV)->Prop where
 |nil:LNN [] []
 |cons {a b:List AV} {xs ys:List (List AV)} (h:LNL a b) (hs:LNN xs ys):LNN (a::xs) (b::ys)
theorem LN.ok{a b:AV}(h:LN a b)(hp:a.plain=true):b.plain=true/\∀ c v,RV c v a->RV c v b:=by
 cases h with
 |refl=>exact⟨hp,fun _ _ h=>h⟩
 |nil k=>exact⟨rfl,fun c v h=>by cases h;exact .nil_sl k⟩
theorem LNL.get{xs ys:List AV}(h:LNL xs ys):xs.length=ys.length/\∀ (i:Nat) b,ys[i]? = some b->∃ a,xs[i]? = some a/\LN a b:=by
 induction h with
 |nil=>exact⟨rfl,fun i b h=>by simp at h⟩
 |cons h _ ih=>
  refine⟨by simp[ih.1],fun i b hb=>?_⟩
  cases i with
  |zero=>simp at hb;subst hb;exact⟨_,rfl,h⟩
  |succ i=>exact ih.2 i b (by simpa using hb)
theorem LNN.get{xs ys:List (List AV)}(h:LNN xs ys):xs.length=ys.length/\∀ (i:Nat) b,ys[i]? = some b->∃ a,xs[i]? = some a/\LNL a b:=by
 induction h with
 |nil=>exact⟨rfl,fun i b h=>by simp at h⟩
 |cons h _ ih=>
  refine⟨by simp[ih.1],fun i b hb=>?_⟩
  cases i with
  |zero=>simp at hb;subst hb;exact⟨_,rfl,h⟩
  |succ i=>exact ih.2 i b (by simpa using hb)
theorem LNN.rv{l m:List (List AV)}(h:LNN l m){c:Cx}{v:Value}{k:Nat}{t:Tk}(hv:RV c v (.sl k l t)):RV c v (.sl k m .no):=by
 cases hv with
 |sl _ _ _ A n cap b o vs hn hcap hm hA hk hc hr ht=>
  obtain⟨hl,hg⟩:=h.get;refine .sl k m .no A n cap b o vs (hl▸hn) hcap hm (fun hne=>hA fun e=>hne (by subst e;exact List.length_eq_zero_iff.1 hl.symm)) (fun j e he=>?_) (fun j e i a he ha=>?_) (fun j e i a he ha=>?_) trivial
  ·obtain⟨e',h1,h2⟩:=hg j e he;rw[<- h2.get.1];exact hk j e' h1
  ·obtain⟨e',h1,h2⟩:=hg j e he;obtain⟨a',h3,h4⟩:=h2.get.2 i a ha;obtain⟨g1,g2⟩:=hc j e' i a' h1 h3;exact⟨(h4.ok g1).1,g2⟩
  ·obtain⟨e',h1,h2⟩:=hg j e he;obtain⟨a',h3,h4⟩:=h2.get.2 i a ha;obtain⟨g1,g2⟩:=hc j e' i a' h1 h3;exact(h4.ok g1).2 _ _ (hr j e' i a' h1 h3)
def pC(a:Acp):List AV:=[.int .i64 a.s.f,.int .i64 a.s.t,.int .i64 a.me,.int .i64 a.view,.bool a.has,.int .i64 a.at_,.str a.value,vA a.proof,vA a.votes]
def eC(a:Acp):AV:=.agg (pC a)
def newA(s:Sz)(me:Int):AV:=match newF s me with
 |some a=>.tup [eC a,.int .i64 0]
 |none=>.tup [eC zAcp,.int .i64 1]
theorem anew_spec(s:Sz)(me:Int):ASpec prog 11 [eS s,.int .i64 me] (newA s me):=by
 have hr:=right_spec s
 cases hs:s.right with
 |false=>
  rw[hs] at hr
  have e:newA s me=.tup [eC zAcp,.int .i64 1]:=by simp[newA,newF,hs]
  rw[e];unfold eC pC zAcp vA;refine Sh func11 (by kernel_rfl) rfl fun c0 hc0=>?_;simp only[go_sem,eS];refine Ops.pure .free rfl rfl (hr) Vl rfl rfl ?_;refine Og func11 ?_;simp only[go_sem];(and_intros<;>try omega);(repeat' first|exact .refl _|apply LeR.tup|apply Le.agg|constructor)
 |true=>
  rw[hs] at hr;have hN:=zN_spec hs
  by_cases q1:me<0
  case pos=>
   have q1n:¬(0<=me):=by omega
   have e:newA s me=.tup [eC zAcp,.int .i64 1]:=by simp[newA,newF,q1n]
   rw[e];unfold eC pC zAcp vA;refine Sh func11 (by kernel_rfl) rfl fun c0 hc0=>?_;simp only[go_sem,eS];refine Ops.pure .free rfl rfl (hr) Vl rfl rfl ?_;refine Og func11 ?_;simp only[go_sem,q1];(and_intros<;>try omega);(repeat' first|exact .refl _|apply LeR.tup|apply Le.agg|constructor)
  case neg=>
   have q1n:0<=me:=by omega
   by_cases q2:s.n<=me
   case pos=>
    have q2n:¬(me<s.n):=by omega
    have e:newA s me=.tup [eC zAcp,.int .i64 1]:=by simp[newA,newF,q2n]
    rw[e];unfold eC pC zAcp vA;refine Sh func11 (by kernel_rfl) rfl fun c0 hc0=>?_;simp only[go_sem,eS];refine Ops.pure .free rfl rfl (hr) Vl rfl rfl ?_;refine Og func11 ?_;simp only[go_sem,q1];refine Ops.pure (Wanted.test 7 false false rfl) rfl rfl (hN) Vl rfl rfl ?_;refine Og func11 ?_;simp only[go_sem,q2];(and_intros<;>try omega);(repeat' first|exact .refl _|apply LeR.tup|apply Le.agg|constructor)
   case neg=>
    have q2n:me<s.n:=by omega
    have e:newA s me=.tup [eC ⟨s,me,0,false,0,[],[],[]⟩,.int .i64 0]:=by simp[newA,newF,hs,q1n,q2n]
    rw[e];unfold eC pC vA;refine Sh func11 (by kernel_rfl) rfl fun c0 hc0=>?_;simp only[go_sem,eS];refine Ops.pure .free rfl rfl (hr) Vl rfl rfl ?_;refine Og func11 ?_;simp only[go_sem,q1];refine Ops.pure (Wanted.test 7 false false rfl) rfl rfl (hN) Vl rfl rfl ?_;refine Og func11 ?_;simp only[go_sem,q2];(and_intros<;>try omega);(repeat' first|exact .refl _|apply LeR.tup|apply Le.agg|constructor)
def tellF(a:Acp):Rp:=⟨a.me,a.view,a.has,a.at_,a.value,a.proof⟩
theorem tell_spec(a:Acp):ASpec prog 47 [eC a] (encRp (tellF a)):=by
 unfold tellF;refine Sh func47 (by kernel_rfl) rfl fun c0 hc0=>?_;simp only[go_sem,eC,pC,encRp,rpC,vA];(and_intros<;>try omega);exact Vr
def zRp:Rp:=⟨0,0,false,0,[],[]⟩
def enterA(a:Acp)(v:Int):AV:=if enterB a v then .tup [eC (enterF a v),encRp (tellF (enterF a v)),.bool true] else .tup [eC a,encRp zRp,.bool false]
theorem enter_spec(a:Acp)(v:Int):ASpec prog 15 [eC a,.int .i64 v] (enterA a v):=by
 by_cases q1:v<=a.view
 case pos=>
  have e:enterA a v=.tup [eC a,encRp zRp,.bool false]:=by
   have:enterB a v=false:=by simp only[enterB,Bool.and_eq_false_iff,decide_eq_false_iff_not];omega
   simp[enterA,this]
  rw[e];unfold zRp;refine Sh func15 (by kernel_rfl) rfl fun c0 hc0=>?_;simp only[go_sem,eC,pC,encRp,rpC,vA,q1];(and_intros<;>try omega);(repeat' first|exact .refl _|apply LeR.tup|apply Le.agg|constructor)
 case neg=>
  by_cases q2:100000<v
  case pos=>
   have e:enterA a v=.tup [eC a,encRp zRp,.bool false]:=by
    have:enterB a v=false:=by simp only[enterB,Bool.and_eq_false_iff,decide_eq_false_iff_not];omega
    simp[enterA,this]
   rw[e];unfold zRp;refine Sh func15 (by kernel_rfl) rfl fun c0 hc0=>?_;simp only[go_sem,eC,pC,encRp,rpC,vA,q1,q2];(and_intros<;>try omega);(repeat' first|exact .refl _|apply LeR.tup|apply Le.agg|constructor)
  case neg=>
   have e:enterA a v=.tup [eC (enterF a v),encRp (tellF (enterF a v)),.bool true]:=by
    have:enterB a v=true:=by simp only[enterB,Vi,decide_eq_true_eq];omega
    simp[enterA,this]
   rw[e];have hT:=tell_spec (enterF a v);unfold enterF tellF at hT ⊢;refine Sh func15 (by kernel_rfl) rfl fun c0 hc0=>?_;simp only[go_sem,eC,pC,encRp,rpC,vA,q1,q2];(and_intros<;>try first|rfl|omega);refine DOps.pure rfl .free rfl rfl (hT) (by simp only[go_sem,eC,pC,vA];(repeat' first|exact .refl _|apply LeR.tup|apply Le.agg|constructor)) rfl rfl ?_;refine Dg func15 rfl ?_;simp only[go_sem,encRp,rpC,vA];(and_intros<;>try omega);(repeat' first|exact .refl _|apply LeR.tup|apply Le.agg|constructor)
theorem OSpec.asp{P:Program}{f:FuncId}{args:List AV}{k:Nat}{l:List (List AV)}(h:OSpec P f args k l):ASpec P f args (.sl k l .no):=⟨h.fn,h.run.mono fun r h' ⟨i,e,_⟩=>by rw[e];exact .one (.one (.tok _ _ _))⟩
def intCo(n:Int):List AV:=[.int .i64 n]
def encZs(l:List Int):Bytes:=(l.map fun n=>encN (zig n)).flatten
theorem encZs_le:∀ (l:List Int),(∀ n∈l,I64 n)->(encZs l).length<=9*l.length
 |[],_=>by simp[encZs]
 |n::l,h=>by
  have ih:=encZs_le l fun m hm=>h m (List.mem_cons_of_mem _ hm);have h0:=h n List.mem_cons_self;unfold I64 at h0;have h1:=encN_le (zig n) (zig_lt n (by omega) (by omega));unfold encZs at ih ⊢;simp only[Yf,List.flatten_cons,List.length_append,Ya];omega
theorem ints_spec(b:Bytes)(l:List Int)(hb:b.length<=900000)(hl:l.length<=1000)(hz:∀ n∈l,I64 n):ASpec prog 304 [bA b,.sl 1 (l.map intCo) .no] (bA (b++encZs l)):=by
 refine Sh func304 (by kernel_rfl) rfl fun c0 hc0=>?_;simp only[go_sem,bA];refine Run.loopV (α:=Nat) (fun k=>k<=l.length) (fun k=>[(0,bA (b++encZs (l.take k))),(9,.int .i64 k)]) 0 (fun _=>[]) (fun k=>l.length-k) 0 (Nat.zero_le _) ?_ ?_
 ·simp only[go_sem,writes,junks,puts,hputs,List.filterMap_cons,List.filterMap_nil,bA,encZs,List.flatten_nil];(refine Weak.of (by simp[hc0]) ?_ ?_<;>repeat' first|exact .refl _|exact .junk _|rfl|apply Le.agg|constructor)
 ·intro k hI ih;simp only[writes,junks,puts,hputs,List.filterMap_cons,List.filterMap_nil,Y6,Y7,Yk,Y5,Y3,Yd] at ih ⊢
  by_cases hk:k<l.length
  ·obtain⟨x,hx⟩:∃ x,l[k]? = some x:=⟨_,Vb hk⟩
   have hkk:(k:Int)<l.length:=by omega
   have hxm:=Vd hx;have hle:=encZs_le (l.take k) fun n hn=>hz n (List.mem_of_mem_take hn);rw[List.length_take] at hle
   have hsn:encZs (l.take (k+1))=encZs (l.take k)++encN (zig x):=by
    rw[List.take_add_one,hx];simp[encZs]
   refine Rg func304 ?_;simp only[go_sem,hx,hkk,intCo,Vg];refine⟨by omega,?_⟩;refine Ops.own .free rfl rfl (int_spec (b++encZs (l.take k)) x (by rw[List.length_append];omega) (hz x hxm)) Vl rfl ?_;refine Og func304 ?_;simp only[go_sem,bA];refine⟨by unfold I64;omega,ih (k+1) _ (by omega) (by omega) ?_⟩;rw[hsn,<- List.append_assoc];simp only[Int.natCast_add,Int.natCast_one,bA];(refine Weak.of (by simp[hc0]) ?_ ?_<;>repeat' first|exact .refl _|exact .junk _|rfl|apply Le.agg|constructor)
  ·obtain rfl:k=l.length:=by omega
   have hkk:¬(l.length:Int)<l.length:=by omega
   refine Rg func304 ?_;simp only[go_sem,hkk,bA];rw[List.take_length];exact Vr
theorem xtab_26:xtabM 26=some ⟨.st,5,56,0,[(0,23),(2,3),(3,24),(4,3)],[.int .i64 0,.int .i64 0,.int .i64 0,.nils,.int .i64 0],[],false⟩:=by rfl
theorem xtab_32:xtabM 32=some ⟨.sl,1,24,52,[],[.nils],[],false⟩:=by rfl
theorem xtab_34:xtabM 34=some ⟨.st,7,120,0,[(0,23),(2,3),(3,24),(4,30),(5,31),(6,32)],[.int .i64 0,.int .i64 0,.int .i64 0,.nils,.nils,.nils,.nils],[],false⟩:=by rfl
theorem xtab_52:xtabM 52=some ⟨.st,62,384,0,[(0,3),(1,3),(2,3),(3,3),(4,9),(5,41),(6,43),(9,44),(10,46),(16,47),(48,28),(56,50)],[.int .i64 0,.int .i64 0,.int .i64 0,.int .i64 0,.str [],.nils,.int .i64 0,.int .i64 0,.str [],.nils,.int .i64 0,.int .i64 0,.bool false,.int .i64 0,.str [],.nils,.int .u8 0,.int .u8 0,.int .u8 0,.int .u8 0,.int .u8 0,.int .u8 0,.int .u8 0,.int .u8 0,.int .u8 0,.int .u8 0,.int .u8 0,.int .u8 0,.int .u8 0,.int .u8 0,.int .u8 0,.int .u8 0,.int .u8 0,.int .u8 0,.int .u8 0,.int .u8 0,.int .u8 0,.int .u8 0,.int .u8 0,.int .u8 0,.int .u8 0,.int .u8 0,.int .u8 0,.int .u8 0,.int .u8 0,.int .u8 0,.int .u8 0,.int .u8 0,.int .i64 0,.int .i64 0,.int .i64 0,.str [],.str [],.int .i64 0,.int .i64 0,.int .i64 0,.int .i64 0,.int .i64 0,.int .i64 0,.str [],.int .i64 0,.nils],[],false⟩:=by rfl
theorem xtab_54:xtabM 54=some ⟨.st,73,488,0,[(0,3),(1,3),(2,3),(3,52),(65,28)],[.int .i64 0,.int .i64 0,.int .i64 0,.int .i64 0,.int .i64 0,.int .i64 0,.int .i64 0,.str [],.nils,.int .i64 0,.int .i64 0,.str [],.nils,.int .i64 0,.int .i64 0,.bool false,.int .i64 0,.str [],.nils,.int .u8 0,.int .u8 0,.int .u8 0,.int .u8 0,.int .u8 0,.int .u8 0,.int .u8 0,.int .u8 0,.int .u8 0,.int .u8 0,.int .u8 0,.int .u8 0,.int .u8 0,.int .u8 0,.int .u8 0,.int .u8 0,.int .u8 0,.int .u8 0,.int .u8 0,.int .u8 0,.int .u8 0,.int .u8 0,.int .u8 0,.int .u8 0,.int .u8 0,.int .u8 0,.int .u8 0,.int .u8 0,.int .u8 0,.int .u8 0,.int .u8 0,.int .u8 0,.int .i64 0,.int .i64 0,.int .i64 0,.str [],.str [],.int .i64 0,.int .i64 0,.int .i64 0,.int .i64 0,.int .i64 0,.int .i64 0,.str [],.int .i64 0,.nils,.int .i64 0,.int .i64 0,.int .i64 0,.str [],.str [],.int .i64 0,.int .i64 0,.int .i64 0],[],false⟩:=by rfl
theorem xtab_172:xtabM 172=some ⟨.ptr,1,8,174,[],[.nilp],[],false⟩:=by rfl
theorem xtab_174:xtabM 174=some ⟨.st,59,424,0,[(0,78),(58,32)],[.int .i64 0,.int .i64 0,.int .i64 0,.int .i64 0,.int .i64 0,.int .i64 0,.int .i64 0,.int .i64 0,.nils,.int .i64 0,.int .i64 0,.int .i64 0,.int .i64 0,.nils,.int .i64 0,.int .i64 0,.nils,.int .i64 0,.int .u8 0,.int .u8 0,.int .u8 0,.int .u8 0,.int .u8 0,.int .u8 0,.int .u8 0,.int .u8 0,.int .u8 0,.int .u8 0,.int .u8 0,.int .u8 0,.int .u8 0,.int .u8 0,.int .u8 0,.int .u8 0,.int .u8 0,.int .u8 0,.int .u8 0,.int .u8 0,.int .u8 0,.int .u8 0,.int .u8 0,.int .u8 0,.int .u8 0,.int .u8 0,.int .u8 0,.int .u8 0,.int .u8 0,.int .u8 0,.int .u8 0,.int .u8 0,.nils,.int .i64 0,.nils,.nils,.nils,.nils,.nils,.nils,.nils],[],false⟩:=by rfl
theorem xtab_210:xtabM 210=some ⟨.sl,1,24,391,[],[.nils],[],false⟩:=by rfl
theorem xtab_252:xtabM 252=some ⟨.sl,1,24,309,[],[.nils],[],false⟩:=by rfl
theorem xtab_257:xtabM 257=some ⟨.map,1,8,256,[(0,3)],[.nilm],[],false⟩:=by rfl
theorem xtab_309:xtabM 309=some ⟨.st,15,192,0,[(0,3),(1,3),(2,3),(3,9),(4,41),(5,43),(8,44),(9,46)],[.int .i64 0,.int .i64 0,.int .i64 0,.str [],.nils,.int .i64 0,.int .i64 0,.str [],.nils,.int .i64 0,.int .i64 0,.bool false,.int .i64 0,.str [],.nils],[],false⟩:=by rfl
theorem xtab_336:xtabM 336=some ⟨.st,2,32,0,[(0,89),(1,35)],[.nils,.int .i64 0],[],false⟩:=by rfl
theorem xtab_343:xtabM 343=some ⟨.sl,1,24,387,[],[.nils],[],false⟩:=by rfl
theorem xtab_345:xtabM 345=some ⟨.st,20,280,0,[(0,74),(5,28),(13,50),(19,343)],[.nils,.int .i64 0,.nils,.nils,.nils,.int .i64 0,.int .i64 0,.int .i64 0,.str [],.str [],.int .i64 0,.int .i64 0,.int .i64 0,.int .i64 0,.int .i64 0,.int .i64 0,.str [],.int .i64 0,.nils,.nils],[],false⟩:=by rfl
theorem xtab_346:xtabM 346=some ⟨.fn,1,8,0,[],[.nilf],[],false⟩:=by rfl
theorem xtab_347:xtabM 347=some ⟨.sl,1,24,346,[],[.nils],[],false⟩:=by rfl
theorem xtab_382:xtabM 382=some ⟨.sl,1,24,338,[],[.nils],[],false⟩:=by rfl
theorem xtab_387:xtabM 387=some ⟨.st,2,24,0,[(0,3),(1,9)],[.int .i64 0,.str []],[.int .i64,.str],false⟩:=by rfl
theorem xtab_391:xtabM 391=some ⟨.st,5,56,0,[(0,385),(3,387)],[.str [],.int .i64 0,.bool false,.int .i64 0,.str []],[],false⟩:=by rfl
theorem takeN_err'{b:Bytes}{z:Int}(h:takeN b=.error z):¬z=0:=by rcases takeN_err h with h|h<;>omega
theorem takeZ_err{b:Bytes}{z:Int}(h:takeZ b=.error z):¬z=0:=by
 unfold takeZ at h
 split at h
 ·rename_i z' h';cases h;exact takeN_err' h'
 ·cases h
def rdI:List Nat->List AV->Bytes->Int->List AV×Bytes×Int
 |[],cs,b,e=>(cs,b,e)
 |o::os,cs,b,e=>if e=0 then match takeZ b with
   |.ok (n,r)=>rdI os (lay cs o [.int .i64 n]) r 0
   |.error z=>rdI os (lay cs o [.int .i64 0]) [] z
  else rdI os cs b e
theorem bel_ps(n i:Nat)(h:i<n):∀ offs:List Nat,belLL n (offs.map fun o=>[.ptr i o])=true
 |[]=>rfl
 |o::offs=>by simp[belLL,belL,AV.bel,h,bel_ps n i h offs]
theorem bel_app{n:Nat}:∀ {a b:List AV},belL n a=true->belL n b=true->belL n (a++b)=true
 |[],b,_,h=>h
 |x::a,b,h,h'=>by
  simp only[belL,Vi,Y5] at h ⊢;exact⟨h.1,bel_app h.2 h'⟩
theorem bel_sub{n:Nat}{l:List AV}(h:belL n l=true)(o:Nat):belL n (l.take o)=true/\belL n (l.drop o)=true:=by
 induction l generalizing o with
 |nil=>simp[belL]
 |cons x l ih=>
  simp only[belL,Vi] at h
  cases o with
  |zero=>exact⟨rfl,by simp[belL,h.1,h.2]⟩
  |succ o=>
   obtain⟨h1,h2⟩:=ih h.2 o;exact⟨by simp[belL,h.1,h1],by simpa using h2⟩
theorem bel_lay{n:Nat}{cs xs:List AV}(o:Nat)(h:belL n cs=true)(h':belL n xs=true):belL n (lay cs o xs)=true:=bel_app (bel_app (bel_sub h _).1 h') (bel_sub h _).2
theorem lay_length{cs xs:List AV}{o:Nat}(h:o+xs.length<=cs.length):(lay cs o xs).length=cs.length:=by simp[lay];omega
theorem rdI_ok{o:Nat}{os:List Nat}{cs:List AV}{b:Bytes}{n:Int}{r:Bytes}(h:takeZ b=.ok (n,r)):rdI (o::os) cs b 0=rdI os (lay cs o [.int .i64 n]) r 0:=by simp[rdI,h]
theorem rdI_error{o:Nat}{os:List Nat}{cs:List AV}{b:Bytes}{z:Int}(h:takeZ b=.error z):rdI (o::os) cs b 0=rdI os (lay cs o [.int .i64 0]) [] z:=by simp[rdI,h]
theorem rdI_no{o:Nat}{os:List Nat}{cs:List AV}{b:Bytes}{e:Int}(h:¬e=0):rdI (o::os) cs b e=rdI os cs b e:=by simp[rdI,h]
theorem rints_call(offs:List Nat)(ho:offs.length<=1000)(hoo:∀ o∈offs,o<8)(z:ABlk)(hz:z.bel 4=true)(q:ABlk)(hq:q.bel 4=true)(b:Bytes)(cs:List AV)(hcs:cs.length=8)(hbe:belL 4 cs=true)(R:AV->List ABlk->Prop)
  (hR:R (.tup []) [z,.box [bA (rdI offs cs b 0).2.1,.int .i64 (rdI offs cs b 0).2.2],.box (rdI offs cs b 0).1,q]) :
  ACall prog 202 [.ptr 1 0,.psl 1 (offs.map fun o=>[.ptr 2 o])] [z,.box [bA b,.int .i64 0],.box cs,q] R:=by
 refine Sg func202 rfl fun c1 hc1=>?_;simp only[go_sem,xtab_382];refine Run.loopV (α:=Nat×List AV×Bytes×Int) (fun x=>x.1<=offs.length/\x.2.1.length=8/\belL 4 x.2.1=true/\rdI (offs.drop x.1) x.2.1 x.2.2.1 x.2.2.2=rdI offs cs b 0) (fun x=>[(8,.int .i64 x.1)]) 4 (fun x=>[(1,.box [bA x.2.2.1,.int .i64 x.2.2.2]),(2,.box x.2.1)]) (fun x=>offs.length-x.1) (0,cs,b,0) ⟨Nat.zero_le _,hcs,hbe,rfl⟩ ?_ ?_
 ·simp only[go_sem,writes,junks,puts,hputs,List.filterMap_cons,List.filterMap_nil];(refine Weak.of (by simp[hc1]) ?_ ?_<;>repeat' first|exact .refl _|exact .junk _|rfl|assumption|exact bel_ps 4 2 (by omega) offs|exact hbl|apply Le.agg|constructor)
 ·rintro⟨k,xs,y,e⟩ ⟨hI,hxs,hxb,hrd⟩ ih;simp only[writes,junks,puts,hputs,List.filterMap_cons,List.filterMap_nil,Y6,Y7,Yg,Yk,Y5,Y3,Yd] at hI hxs hxb hrd ih ⊢
  by_cases hk:k<offs.length
  ·obtain⟨o,hx⟩:∃ x,offs[k]? = some x:=⟨_,Vb hk⟩
   have hkk:(k:Int)<offs.length:=by omega
   have ho8:=hoo o (Vd hx)
   have hd:offs.drop k=o::offs.drop (k+1):=by
    obtain⟨hk',rfl⟩:=Va hx;exact List.drop_eq_getElem_cons hk'
   rw[hd] at hrd
   by_cases he:e=0
   ·subst he
    cases ht:takeZ y with
    |error z=>
     rw[rdI_error ht] at hrd;have hsp:=takeint_spec y;rw[ht] at hsp;refine Rg func202 ?_;simp only[go_sem,hx,hkk,bA,Vg,xtab_336,xtab_382];refine⟨by omega,?_⟩;refine Ops.pure .free rfl rfl (hsp) Vl rfl rfl ?_;refine Og func202 ?_;simp only[go_sem,takeZA,bA,xtab_336];have hbl:belL 4 (lay xs o [.int .i64 0])=true:=bel_lay o hxb rfl;refine⟨by omega,by unfold I64;omega,ih (k+1,lay xs o [.int .i64 0],[],z) _ ⟨by omega,by rw[lay_length (by simp;omega)];exact hxs,hbl,hrd⟩ (by simp;omega) ?_⟩;simp only[go_sem,Int.natCast_add,Int.natCast_one,bA] at hbl ⊢;(refine Weak.of (by simp[hc1]) ?_ ?_<;>repeat' first|exact .refl _|exact .junk _|rfl|assumption|exact bel_ps 4 2 (by omega) offs|exact hbl|apply Le.agg|constructor)
    |ok p=>
     obtain⟨n,r⟩:=p;rw[rdI_ok ht] at hrd;have hsp:=takeint_spec y;rw[ht] at hsp;refine Rg func202 ?_;simp only[go_sem,hx,hkk,bA,Vg,xtab_336,xtab_382];refine⟨by omega,?_⟩;refine Ops.pure .free rfl rfl (hsp) Vl rfl rfl ?_;refine Og func202 ?_;simp only[go_sem,takeZA,bA,xtab_336];have hbl:belL 4 (lay xs o [.int .i64 n])=true:=bel_lay o hxb rfl;refine⟨by omega,by unfold I64;omega,ih (k+1,lay xs o [.int .i64 n],r,0) _ ⟨by omega,by rw[lay_length (by simp;omega)];exact hxs,hbl,hrd⟩ (by simp;omega) ?_⟩;simp only[go_sem,Int.natCast_add,Int.natCast_one,bA] at hbl ⊢;(refine Weak.of (by simp[hc1]) ?_ ?_<;>repeat' first|exact .refl _|exact .junk _|rfl|assumption|exact bel_ps 4 2 (by omega) offs|exact hbl|apply Le.agg|constructor)
   ·rw[rdI_no he] at hrd;refine Rg func202 ?_;simp only[go_sem,hx,hkk,he,bA,Vg,xtab_336,xtab_382];refine⟨by omega,by unfold I64;omega,ih (k+1,xs,y,e) _ ⟨by omega,hxs,hxb,hrd⟩ (by simp;omega) ?_⟩;simp only[Int.natCast_add,Int.natCast_one,bA];(refine Weak.of (by simp[hc1]) ?_ ?_<;>repeat' first|exact .refl _|exact .junk _|rfl|assumption|exact bel_ps 4 2 (by omega) offs|exact hbl|apply Le.agg|constructor)
  ·obtain rfl:k=offs.length:=by omega
   rw[List.drop_length] at hrd
   have hkk:¬(offs.length:Int)<offs.length:=by omega
   refine Rg func202 ?_;simp only[go_sem,hkk,bA];rw[<- hrd] at hR;exact hR
def seqZ:Nat->Bytes->Except Int (List Int×Bytes)
 |0,b=>.ok ([],b)
 |k+1,b=>match takeZ b with
  |.error z=>.error z
  |.ok (n,r)=>match seqZ k r with
   |.error z=>.error z
   |.ok (l,r')=>.ok (n::l,r')
def layAll:List Nat->List AV->List Int->List AV
 |o::os,cs,n::l=>layAll os (lay cs o [.int .i64 n]) l
 |_,cs,_=>cs
theorem seqZ_len:∀ (k:Nat) (b:Bytes) (l:List Int) (r:Bytes),seqZ k b=.ok (l,r)->l.length=k
 |0,b,l,r,h=>by simp only[seqZ,Except.ok.injEq,Prod.mk.injEq] at h;rw[<- h.1];rfl
 |k+1,b,l,r,h=>by
  simp only[seqZ] at h
  split at h
  ·cases h
  ·split at h
   ·cases h
   ·rename_i h2;simp only[Except.ok.injEq,Prod.mk.injEq] at h;rw[<- h.1,List.length_cons,seqZ_len k _ _ _ h2]
theorem takeZ_len{b r:Bytes}{n:Int}(h:takeZ b=.ok (n,r)):r.length<=b.length:=by
 unfold takeZ at h
 split at h
 ·cases h
 ·rename_i h';cases h;exact(taken_small h').2
theorem seqZ_rest:∀ (k:Nat) (b:Bytes) (l:List Int) (r:Bytes),seqZ k b=.ok (l,r)->r.length<=b.length
 |0,b,l,r,h=>by simp only[seqZ,Except.ok.injEq,Prod.mk.injEq] at h;rw[<- h.2];exact Nat.le_refl _
 |k+1,b,l,r,h=>by
  simp only[seqZ] at h
  split at h
  ·cases h
  ·rename_i h1
   split at h
   ·cases h
   ·rename_i h2;simp only[Except.ok.injEq,Prod.mk.injEq] at h;rw[<- h.2];exact Nat.le_trans (seqZ_rest k _ _ _ h2) (takeZ_len h1)
theorem seqZ_err:∀ (k:Nat) (b:Bytes) (z:Int),seqZ k b=.error z->¬z=0
 |0,b,z,h=>by simp[seqZ] at h
 |k+1,b,z,h=>by
  simp only[seqZ] at h
  split at h
  ·rename_i h1;cases h;exact takeZ_err h1
  ·split at h
   ·rename_i h2;cases h;exact seqZ_err k _ _ h2
   ·cases h
theorem rdI_stop:∀ (offs:List Nat) (cs:List AV) (b:Bytes) (z:Int),¬z=0->rdI offs cs b z=(cs,b,z)
 |[],_,_,_,_=>rfl
 |_::offs,cs,b,z,h=>by rw[rdI_no h];exact rdI_stop offs cs b z h
theorem rdI_seq:∀ (offs:List Nat) (cs:List AV) (b:Bytes) (l:List Int) (r:Bytes),seqZ offs.length b=.ok (l,r)->rdI offs cs b 0=(layAll offs cs l,r,0)
 |[],cs,b,l,r,h=>by
  simp only[Y9,seqZ,Except.ok.injEq,Prod.mk.injEq] at h;rw[<- h.1,<- h.2];rfl
 |o::offs,cs,b,l,r,h=>by
  simp only[Ya,seqZ] at h
  split at h
  ·cases h
  ·rename_i h1
   split at h
   ·cases h
   ·rename_i h2;simp only[Except.ok.injEq,Prod.mk.injEq] at h;rw[rdI_ok h1,rdI_seq offs _ _ _ _ h2,<- h.1,<- h.2];rfl
theorem rdI_seqE:∀ (offs:List Nat) (cs:List AV) (b:Bytes) (z:Int),seqZ offs.length b=.error z->∃ cs',rdI offs cs b 0=(cs',[],z)
 |[],cs,b,z,h=>by simp[seqZ] at h
 |o::offs,cs,b,z,h=>by
  simp only[Ya,seqZ] at h
  split at h
  ·rename_i h1;cases h;exact⟨_,by rw[rdI_error h1,rdI_stop _ _ _ _ (takeZ_err h1)]⟩
  ·rename_i h1
   split at h
   ·rename_i h2;cases h;rw[rdI_ok h1];exact rdI_seqE offs _ _ _ h2
   ·cases h
def takeO(b:Bytes):Except Int (Ord×Bytes):=match seqZ 6 b with
 |.error z=>.error z
 |.ok (l,r)=>match takeT r 100 with
  |.error z=>.error z
  |.ok (s,r2)=>match takeT r2 1000 with
   |.error z=>.error z
   |.ok (t,r3)=>
    if mayO ⟨l.getD 0 0,l.getD 1 0,l.getD 2 0,s,t,l.getD 3 0,l.getD 4 0,l.getD 5 0⟩ then .ok (⟨l.getD 0 0,l.getD 1 0,l.getD 2 0,s,t,l.getD 3 0,l.getD 4 0,l.getD 5 0⟩,r3) else .error 3
def takeOA:Except Int (Ord×Bytes)->AV
 |.error z=>.tup [encO ⟨0,0,0,[],[],0,0,0⟩,bA [],.int .i64 z]
 |.ok (o,r)=>.tup [encO o,bA r,.int .i64 0]
theorem takeT_err'{b:Bytes}{m z:Int}(h:takeT b m=.error z):¬z=0:=by rcases takeT_err h with h|h|h<;>omega
theorem take12_spec(b:Bytes)(hb:b.length<=1000000):ASpec prog 161 [bA b] (takeOA (takeO b)):=by
 cases hq:seqZ 6 b with
 |error z=>
  obtain⟨cs',hrd⟩:=rdI_seqE [0,1,2,5,6,7] [.int .i64 0,.int .i64 0,.int .i64 0,.str [],.str [],.int .i64 0,.int .i64 0,.int .i64 0] b z hq;have hz:=seqZ_err _ _ _ hq
  have e:takeO b=.error z:=by rw[takeO,hq]
  rw[e];refine Sh func161 (by kernel_rfl) rfl fun c0 hc0=>?_;simp only[go_sem,bA,xtab_336,xtab_382];refine Ops.call .free rfl rfl ⟨_,func202,by kernel_rfl,rfl⟩ (rints_call [0,1,2,5,6,7] (by decide) (by decide) _ rfl _ rfl b _ rfl rfl _ ?_);rw[hrd];refine Og func161 ?_;simp only[go_sem,bA];refine Ops.call .free rfl rfl ⟨_,func203,by kernel_rfl,rfl⟩ ?_;refine ACall.of func203 rfl fun c1 hc1=>?_;simp only[ntmps203,Nat.reduceAdd,Y3];refine Rg func203 ?_;simp only[go_sem,hz,xtab_336];refine Og func161 ?_;simp only[go_sem];refine Ops.call .free rfl rfl ⟨_,func203,by kernel_rfl,rfl⟩ ?_;refine ACall.of func203 rfl fun c1 hc1=>?_;simp only[ntmps203,Nat.reduceAdd,Y3];refine Rg func203 ?_;simp only[go_sem,hz,xtab_336];refine Og func161 ?_;simp only[go_sem,hz,xtab_336];refine⟨rfl,rfl,?_⟩;simp only[takeOA,encO,bA,Ye];(repeat' first|exact .refl _|apply LeR.tup|apply Le.agg|constructor)
 |ok p=>
  obtain⟨l,r⟩:=p;have hrd:=rdI_seq [0,1,2,5,6,7] [.int .i64 0,.int .i64 0,.int .i64 0,.str [],.str [],.int .i64 0,.int .i64 0,.int .i64 0] b l r hq;have hl:=seqZ_len _ _ _ _ hq;have hr:=seqZ_rest _ _ _ _ hq
  obtain⟨n0,n1,n2,n3,n4,n5,rfl⟩:∃ n0 n1 n2 n3 n4 n5,l=[n0,n1,n2,n3,n4,n5]:=by
   match l,hl with
   |[n0,n1,n2,n3,n4,n5],_=>exact⟨n0,n1,n2,n3,n4,n5,rfl⟩
  simp only[go_sem,layAll] at hrd;have hs1:=taketext_spec r 100 (by omega) (by omega);refine Sh func161 (by kernel_rfl) rfl fun c0 hc0=>?_;simp only[go_sem,bA,xtab_336,xtab_382];refine Ops.call .free rfl rfl ⟨_,func202,by kernel_rfl,rfl⟩ (rints_call [0,1,2,5,6,7] (by decide) (by decide) _ rfl _ rfl b _ rfl rfl _ ?_);rw[hrd];refine Og func161 ?_;simp only[go_sem,bA];refine Ops.call .free rfl rfl ⟨_,func203,by kernel_rfl,rfl⟩ ?_;refine ACall.of func203 rfl fun c1 hc1=>?_;simp only[ntmps203,Nat.reduceAdd,Y3];refine Rg func203 ?_;simp only[go_sem,xtab_336]
  cases ht:takeT r 100 with
  |error z=>
   have e:takeO b=.error z:=by rw[takeO,hq];simp only[ht]
   have hz:=takeT_err' ht;rw[e];rw[ht] at hs1;refine Ops.pure .free rfl rfl (hs1) Vl rfl rfl ?_;refine Og func203 ?_;simp only[go_sem,takeTA,bA,xtab_336];refine Og func161 ?_;simp only[go_sem];refine Ops.call .free rfl rfl ⟨_,func203,by kernel_rfl,rfl⟩ ?_;refine ACall.of func203 rfl fun c1 hc1=>?_;simp only[ntmps203,Nat.reduceAdd,Y3];refine Rg func203 ?_;simp only[go_sem,hz,xtab_336];refine Og func161 ?_;simp only[go_sem,hz,xtab_336];refine⟨rfl,rfl,?_⟩;simp only[takeOA,encO,bA,Ye];(repeat' first|exact .refl _|apply LeR.tup|apply Le.agg|constructor)
  |ok p=>
   obtain⟨t,r2⟩:=p;rw[ht] at hs1;have h2:=takeT_shorter ht;have hs2:=taketext_spec r2 1000 (by omega) (by omega);refine Ops.pure .free rfl rfl (hs1) Vl rfl rfl ?_;refine Og func203 ?_;simp only[go_sem,takeTA,bA,xtab_336];refine Og func161 ?_;simp only[go_sem];refine Ops.call .free rfl rfl ⟨_,func203,by kernel_rfl,rfl⟩ ?_;refine ACall.of func203 rfl fun c1 hc1=>?_;simp only[ntmps203,Nat.reduceAdd,Y3];refine Rg func203 ?_;simp only[go_sem,xtab_336]
   cases hu:takeT r2 1000 with
   |error z=>
    have e:takeO b=.error z:=by rw[takeO,hq];simp only[ht,hu]
    have hz:=takeT_err' hu;rw[e];rw[hu] at hs2;refine Ops.pure .free rfl rfl (hs2) Vl rfl rfl ?_;refine Og func203 ?_;simp only[go_sem,takeTA,bA,xtab_336];refine Og func161 ?_;simp only[go_sem,hz,xtab_336];refine⟨rfl,rfl,?_⟩;simp only[takeOA,encO,bA,Ye];(repeat' first|exact .refl _|apply LeR.tup|apply Le.agg|constructor)
   |ok p=>
    obtain⟨u,r3⟩:=p;rw[hu] at hs2;refine Ops.pure .free rfl rfl (hs2) Vl rfl rfl ?_;refine Og func203 ?_;simp only[go_sem,takeTA,bA,xtab_336];refine Og func161 ?_;simp only[go_sem,xtab_336];have hm:=may_spec ⟨n0,n1,n2,t,u,n3,n4,n5⟩
    cases hmm:mayO ⟨n0,n1,n2,t,u,n3,n4,n5⟩ with
    |true=>
     have e:takeO b=.ok (⟨n0,n1,n2,t,u,n3,n4,n5⟩,r3):=by rw[takeO,hq];simp[ht,hu,hmm]
     rw[e];rw[hmm] at hm;refine Ops.pure .free rfl rfl (hm) Vl rfl rfl ?_;refine Og func161 ?_;simp only[go_sem,xtab_336];refine⟨rfl,rfl,?_⟩;simp only[takeOA,encO,bA];exact Vr
    |false=>
     have e:takeO b=.error 3:=by rw[takeO,hq];simp[ht,hu,hmm]
     rw[e];rw[hmm] at hm;refine Ops.pure .free rfl rfl (hm) Vl rfl rfl ?_;refine Og func161 ?_;simp only[go_sem];simp only[takeOA,encO,bA,Ye];(repeat' first|exact .refl _|apply LeR.tup|apply Le.agg|constructor)
def putO(o:Ord):Bytes:=encZs [o.a,o.b,o.kind,o.x,o.y,o.z]++encT o.s++encT o.t
def smO(o:Ord):Prop:=I64 o.a/\I64 o.b/\I64 o.kind/\I64 o.x/\I64 o.y/\I64 o.z/\o.s.length<=100000/\o.t.length<=100000
theorem put12_spec(b:Bytes)(o:Ord)(hb:b.length<=100000)(ho:smO o):ASpec prog 274 [bA b,encO o] (bA (b++putO o)):=by
 obtain⟨h1,h2,h3,h4,h5,h6,h7,h8⟩:=ho;have hi:=ints_spec b [o.a,o.b,o.kind,o.x,o.y,o.z] (by omega) (by simp) (by simp;exact⟨h1,h2,h3,h4,h5,h6⟩);have hl:=encZs_le [o.a,o.b,o.kind,o.x,o.y,o.z] (by simp;exact⟨h1,h2,h3,h4,h5,h6⟩);simp only[Ya,Y9,Nat.reduceAdd,Nat.reduceMul] at hl;have ht:=encT_le o.s (by omega);refine Sh func274 (by kernel_rfl) rfl fun c0 hc0=>?_;simp only[go_sem,encO,bA];refine⟨rfl,?_⟩;refine DOps.pure rfl .free rfl rfl (hi) (by simp only[go_sem,bA,intCo];(repeat' first|exact .refl _|apply LeR.tup|apply Le.agg|constructor)) rfl rfl ?_;refine Dg func274 rfl ?_;simp only[go_sem,bA];have hs1:=(text_spec (b++encZs [o.a,o.b,o.kind,o.x,o.y,o.z]) o.s (by rw[List.length_append];omega) (by omega)).spec;refine DOps.pure rfl .free rfl rfl (hs1) Vl rfl rfl ?_;refine Dg func274 rfl ?_;simp only[go_sem];have hs2:=(text_spec (b++encZs [o.a,o.b,o.kind,o.x,o.y,o.z]++encT o.s) o.t (by simp only[List.length_append];omega) (by omega)).spec;refine DOps.pure rfl .free rfl rfl (hs2) Vl rfl rfl ?_;refine Dg func274 rfl ?_;simp only[go_sem];refine⟨rfl,?_⟩;simp only[putO,List.append_assoc];exact Vr
end Go.Proofs.YtojhjaohaafeaaaGreatDoor
namespace Go.Proofs.YtojhjaohaafeaaaGreatDoor
theorem fromBE_be(k n:Nat):fromBE (be k n)=n % 256^k:=by
 have key:∀ (k a n:Nat),(be k n).foldl (fun n c=>n*256+c.toNat) a=a*256^k+n % 256^k:=by
  intro k
  induction k with
  |zero=>intro a n;simp[be,Nat.mod_one]
  |succ k ih=>
   intro a n;rw[be,List.foldl_cons,ih,Nat.mod_pow_succ]
   have:(UInt8.ofNat (n / 256^k)).toNat=n / 256^k % 256:=by simp
   rw[this,Nat.add_mul,Nat.pow_succ,Nat.mul_assoc,Nat.mul_comm 256 (256^k),Nat.mul_comm (n / 256^k % 256)];omega
 have:=key k 0 n
 simpa [fromBE] using this
theorem head_be(n:Nat)(h0:n≠0)(h:n<18446744073709551616)(r:Bytes):(be (nb n) n++r).head?≠some 0:=by
 have h1:=nb_pos n h0;have h2:=nb_ge n h0 h;have h3:=nb_lt n h
 obtain⟨k,hk⟩:∃ k,nb n=k+1:=⟨nb n-1,by omega⟩
 rw[hk] at h2 h3 ⊢;rw[Nat.add_sub_cancel] at h2;rw[Nat.pow_succ] at h3;simp only[be,Y5,List.head?_cons,ne_eq,Option.some.injEq];intro hc
 have hc':(UInt8.ofNat (n / 256^k)).toNat=0:=by rw[hc];rfl
 have hp:0<256^k:=Nat.pos_of_ne_zero (by simp);have h4:n / 256^k<256:=Nat.div_lt_of_lt_mul h3;have h5:1<=n / 256^k:=(Nat.one_le_div_iff hp).2 h2;simp at hc';omega
theorem takeN_enc(n:Nat)(h:n<18446744073709551616)(r:Bytes):takeN (encN n++r)=.ok (n,r):=by
 have h8:=nb_le n h
 have hk:(UInt8.ofNat (nb n)).toNat=nb n:=by simp;omega
 rw[encN,List.cons_append,takeN,hk,if_neg,if_neg]
 ·rw[List.take_left' (be_length _ _),List.drop_left' (be_length _ _),fromBE_be,Nat.mod_eq_of_lt (nb_lt n h)]
 ·rw[List.length_append,be_length];omega
 ·rintro(h1|⟨h1,h2⟩)
  ·omega
  ·exact head_be n (by rintro rfl;rw[nb_zero] at h1;omega) h r h2
end Go.Proofs.YtojhjaohaafeaaaGreatDoor
namespace Go.Proofs.YtojhjaohaafeaaaGreatDoor
theorem unzig_zig(n:Int)(h:-9223372036854775808<=n)(h':n<=9223372036854775807):unzig (zig n)=n:=by
 unfold zig unzig
 split<;>split<;>omega
theorem takeZ_enc(n:Int)(h:-9223372036854775808<=n)(h':n<=9223372036854775807)(r:Bytes):takeZ (encN (zig n)++r)=.ok (n,r):=by
 rw[takeZ,takeN_enc _ (zig_lt n h h')];simp only[unzig_zig n h h']
theorem takeT_enc(s:Bytes)(most:Int)(h:s.length<18446744073709551616)(hm:s.length<=max most 0)(r:Bytes):takeT (encT s++r) most=.ok (s,r):=by
 rw[takeT,encT,List.append_assoc,takeN_enc _ h];simp only;rw[if_neg (by omega),if_neg (by simp),List.take_left,List.drop_left]
end Go.Proofs.YtojhjaohaafeaaaGreatDoor
