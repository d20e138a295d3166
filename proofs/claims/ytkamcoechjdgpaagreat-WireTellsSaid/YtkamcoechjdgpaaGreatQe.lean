/-
  Several texts in one: Pi, Rs, Ia, Ib, Ic, Id, Ie, If, Ig, Ih, Ii, Ij, Ik, Il.
-/
import Derived.Test.YtkamcoechjdgpaaGreatQd
import Derived.Test.YtkamcoechjdgpaaGreatQa
import Derived.Test.YtkamcoechjdgpaaGreatQb
import Derived.Test.YtkamcoechjdgpaaGreatQc
set_option maxRecDepth 20000
set_option maxHeartbeats 8000000
namespace Go.Proofs.YtkamcoechjdgpaaGreat
open Go.RowKit
theorem drop_eq {α : Type} {l m : List α} {k : Nat} {x y : α} (hx : l[k]? = some x) (hy : m[k]? = some y) : l.drop k = m.drop k ↔ x = y ∧ l.drop (k + 1) = m.drop (k + 1) := by
 obtain ⟨h1,rfl⟩ := List.getElem?_eq_some_iff.1 hx
 obtain ⟨h2,rfl⟩ := List.getElem?_eq_some_iff.1 hy
 rw [List.drop_eq_getElem_cons h1,List.drop_eq_getElem_cons h2,List.cons.injEq]
theorem equal_spec (l m : List Bytes) (hl : l.length ≤ 281474976710656) : ASpec Tryz.prog 69 [textsA l,textsA m] (.bool (decide (l = m))) := by
 by_cases hlm : l.length = m.length
 ·have hlm' : (l.length : Int) = m.length := by omega
  refine ⟨⟨_,Tryz.func69,by kernel_rfl,rfl⟩,Sg Tryz.func69 rfl fun c0 hc0 => ?_⟩;simp only [go_sem,textsA,hlm',↓alt_f,Nat.reduceAdd,Nat.reduceSub]
  refine Run.loopV (α := Nat) (fun k => k ≤ l.length ∧ (l = m ↔ l.drop k = m.drop k)) (fun k => [(13,.int .i64 k)]) 0 (fun _ => []) (fun k => l.length - k) 0 ⟨Nat.zero_le _,Iff.rfl⟩ ?_ ?_
  ·simp only [go_sem,writes,junks,puts,hputs,List.filterMap_cons,List.filterMap_nil]
   (refine Weak.of (by simp [hc0]) ?_ ?_ <;> (repeat' first|exact .refl _|exact .junk _|exact .nil|exact .nil _|exact .tok _ _ _|rfl|apply WkT.cons|apply WkH.cons|apply LeB.same|apply LeB.box|apply Le1L.cons|apply Le.agg|apply Le.one))
  ·rintro k ⟨hI,hk2⟩ ih
   simp only [go_sem,writes,junks,puts,hputs,List.filterMap_cons,List.filterMap_nil] at ih ⊢
   by_cases hk : k < l.length
   ·obtain ⟨x,hx⟩ : ∃ x,l[k]? = some x := ⟨_,List.getElem?_eq_getElem hk⟩
    obtain ⟨y,hy⟩ : ∃ x,m[k]? = some x := ⟨_,List.getElem?_eq_getElem (by omega)⟩
    have hkk : (k : Int) < m.length := by omega
    rw [drop_eq hx hy] at hk2
    by_cases hxy : x = y
    ·subst hxy
     refine Rg Tryz.func69 ?_;simp only [go_sem,hx,hy,hkk,hlm',textC,List.getElem?_map,↓alt_t,↓alt_f,Nat.reduceLT]
     (and_intros <;> try first|rfl|omega|(unfold I64;omega))
     refine ih (k + 1) _ ⟨by omega,by rw [hk2];simp⟩ (by omega) ?_
     simp only [go_sem,Int.natCast_add,Int.natCast_one]
     (refine Weak.of (by simp [hc0]) ?_ ?_ <;> (repeat' first|exact .refl _|exact .junk _|exact .nil|exact .nil _|exact .tok _ _ _|rfl|apply WkT.cons|apply WkH.cons|apply LeB.same|apply LeB.box|apply Le1L.cons|apply Le.agg|apply Le.one))
    ·refine Rg Tryz.func69 ?_;simp only [go_sem,hx,hy,hkk,hxy,hlm',textC,List.getElem?_map,↓alt_t,Nat.reduceLT]
     (and_intros <;> try first|rfl|omega|(unfold I64;omega))
     rw [show decide (l = m) = false by rw [decide_eq_false_iff_not,hk2];exact fun h => hxy h.1]
     (repeat' first|exact .refl _|apply LeR.tup|apply Le.agg|constructor)
   ·obtain rfl : k = l.length := by omega
    have hkk : ¬ (m.length : Int) < m.length := by omega
    refine Rg Tryz.func69 ?_;simp only [go_sem,hkk,hlm',↓alt_f]
    rw [show decide (l = m) = true by rw [decide_eq_true_eq,hk2,hlm,List.drop_length,← hlm,List.drop_length]]
    (repeat' first|exact .refl _|apply LeR.tup|apply Le.agg|constructor)
 ·have hlm' : ¬ (l.length : Int) = m.length := by omega
  refine ⟨⟨_,Tryz.func69,by kernel_rfl,rfl⟩,Sg Tryz.func69 rfl fun c0 hc0 => ?_⟩;simp only [go_sem,textsA,hlm',↓alt_t,Nat.reduceAdd,Nat.reduceSub]
  rw [show decide (l = m) = false by rw [decide_eq_false_iff_not];intro h;exact hlm (by rw [h])]
  (repeat' first|exact .refl _|apply LeR.tup|apply Le.agg|constructor)
theorem strings_spec (l m : List Bytes) (hl : l.length ≤ 281474976710656) : ASpec Tryz.prog 65 [textsA l,textsA m] (.bool (decide (l = m))) := by
 by_cases hlm : l.length = m.length
 ·have hlm' : (l.length : Int) = m.length := by omega
  refine ⟨⟨_,Tryz.func65,by kernel_rfl,rfl⟩,Sg Tryz.func65 rfl fun c0 hc0 => ?_⟩;simp only [go_sem,textsA,hlm',↓alt_f,Nat.reduceAdd,Nat.reduceSub]
  refine Run.loopV (α := Nat) (fun k => k ≤ l.length ∧ (l = m ↔ l.drop k = m.drop k)) (fun k => [(5,.int .i64 k)]) 0 (fun _ => []) (fun k => l.length - k) 0 ⟨Nat.zero_le _,Iff.rfl⟩ ?_ ?_
  ·simp only [go_sem,writes,junks,puts,hputs,List.filterMap_cons,List.filterMap_nil]
   (refine Weak.of (by simp [hc0]) ?_ ?_ <;> (repeat' first|exact .refl _|exact .junk _|exact .nil|exact .nil _|exact .tok _ _ _|rfl|apply WkT.cons|apply WkH.cons|apply LeB.same|apply LeB.box|apply Le1L.cons|apply Le.agg|apply Le.one))
  ·rintro k ⟨hI,hk2⟩ ih
   simp only [go_sem,writes,junks,puts,hputs,List.filterMap_cons,List.filterMap_nil] at ih ⊢
   by_cases hk : k < l.length
   ·obtain ⟨x,hx⟩ : ∃ x,l[k]? = some x := ⟨_,List.getElem?_eq_getElem hk⟩
    obtain ⟨y,hy⟩ : ∃ x,m[k]? = some x := ⟨_,List.getElem?_eq_getElem (by omega)⟩
    have hkk : (k : Int) < m.length := by omega
    rw [drop_eq hx hy] at hk2
    by_cases hxy : x = y
    ·subst hxy
     refine Rg Tryz.func65 ?_;simp only [go_sem,hx,hy,hkk,hlm',textC,List.getElem?_map,↓alt_t,↓alt_f,Nat.reduceLT]
     (and_intros <;> try first|rfl|omega|(unfold I64;omega))
     refine ih (k + 1) _ ⟨by omega,by rw [hk2];simp⟩ (by omega) ?_
     simp only [go_sem,Int.natCast_add,Int.natCast_one]
     (refine Weak.of (by simp [hc0]) ?_ ?_ <;> (repeat' first|exact .refl _|exact .junk _|exact .nil|exact .nil _|exact .tok _ _ _|rfl|apply WkT.cons|apply WkH.cons|apply LeB.same|apply LeB.box|apply Le1L.cons|apply Le.agg|apply Le.one))
    ·refine Rg Tryz.func65 ?_;simp only [go_sem,hx,hy,hkk,hxy,hlm',textC,List.getElem?_map,↓alt_t,Nat.reduceLT]
     (and_intros <;> try first|rfl|omega|(unfold I64;omega))
     rw [show decide (l = m) = false by rw [decide_eq_false_iff_not,hk2];exact fun h => hxy h.1]
     (repeat' first|exact .refl _|apply LeR.tup|apply Le.agg|constructor)
   ·obtain rfl : k = l.length := by omega
    have hkk : ¬ (m.length : Int) < m.length := by omega
    refine Rg Tryz.func65 ?_;simp only [go_sem,hkk,hlm',↓alt_f]
    rw [show decide (l = m) = true by rw [decide_eq_true_eq,hk2,hlm,List.drop_length,← hlm,List.drop_length]]
    (repeat' first|exact .refl _|apply LeR.tup|apply Le.agg|constructor)
 ·have hlm' : ¬ (l.length : Int) = m.length := by omega
  refine ⟨⟨_,Tryz.func65,by kernel_rfl,rfl⟩,Sg Tryz.func65 rfl fun c0 hc0 => ?_⟩;simp only [go_sem,textsA,hlm',↓alt_t,Nat.reduceAdd,Nat.reduceSub]
  rw [show decide (l = m) = false by rw [decide_eq_false_iff_not];intro h;exact hlm (by rw [h])]
  (repeat' first|exact .refl _|apply LeR.tup|apply Le.agg|constructor)
def wideR (r : Rpl) : Prop := I64 r.a ∧ I64 r.b ∧ I64 r.e ∧ I64 r.x ∧ r.s.length ≤ 281474976710656 ∧ (∀ t ∈ r.l,t.length ≤ 281474976710656) ∧ r.l.length ≤ 281474976710656
theorem same_spec (r q : Rpl) (hl : r.l.length ≤ 281474976710656) : ASpec Tryz.prog 40 [encR r,encR q] (.bool (decide (r = q))) := by
 obtain ⟨a,b,e,s,x,l⟩ := r
 obtain ⟨a',b',e',s',x',l'⟩ := q
 have hs := equal_spec l l' hl
 refine ⟨⟨_,Tryz.func40,by kernel_rfl,rfl⟩,ACall.of Tryz.func40 rfl fun c0 hc0 => ?_⟩;simp only [Nat.reduceAdd,Nat.reduceSub,go_sem];refine Rg Tryz.func40 ?_;simp (config := { maxSteps := 2000000 }) +contextual only [go_sem,encR,textsA,Rpl.mk.injEq,↓alts_t,↓alts_f,↓gone_tt,↓gone_tf,Nat.reduceAdd,Nat.reduceLeDiff]
 (repeat' (first|(intro _)|(apply And.intro)))
 all_goals try (first|rfl|(repeat' first|exact .refl _|exact .nil|exact .nil _|exact .tok _ _ _|apply LeR.tup|apply LeL.cons|apply Le1L.cons|apply Le.agg|apply Le.one|apply LeR.one))
 refine Ops.pure (Wanted.test 33 true true rfl) rfl rfl (hs) (by simp only [go_sem,textsA];(repeat' first|exact .refl _|apply LeR.tup|apply Le.agg|constructor)) rfl rfl ?_
 refine Og Tryz.func40 ?_;simp only [go_sem]
 (repeat' first|exact .refl _|apply LeR.tup|apply Le.agg|constructor)
theorem rsame12_spec (r q : Rpl) (hl : r.l.length ≤ 281474976710656) : ASpec Tryz.prog 36 [encR r,encR q] (.bool (decide (r = q))) := by
 obtain ⟨a,b,e,s,x,l⟩ := r
 obtain ⟨a',b',e',s',x',l'⟩ := q
 have hs := strings_spec l l' hl
 refine ⟨⟨_,Tryz.func36,by kernel_rfl,rfl⟩,ACall.of Tryz.func36 rfl fun c0 hc0 => ?_⟩;simp only [Nat.reduceAdd,Nat.reduceSub,go_sem];refine Rg Tryz.func36 ?_;simp (config := { maxSteps := 2000000 }) +contextual only [go_sem,encR,textsA,Rpl.mk.injEq,↓alts_t,↓alts_f,↓gone_tt,↓gone_tf,Nat.reduceAdd,Nat.reduceLeDiff]
 (repeat' (first|(intro _)|(apply And.intro)))
 all_goals try (first|rfl|(repeat' first|exact .refl _|exact .nil|exact .nil _|exact .tok _ _ _|apply LeR.tup|apply LeL.cons|apply Le1L.cons|apply Le.agg|apply Le.one|apply LeR.one))
 refine Ops.pure (Wanted.test 33 true true rfl) rfl rfl (hs) (by simp only [go_sem,textsA];(repeat' first|exact .refl _|apply LeR.tup|apply Le.agg|constructor)) rfl rfl ?_
 refine Og Tryz.func36 ?_;simp only [go_sem]
 (repeat' first|exact .refl _|apply LeR.tup|apply Le.agg|constructor)
end Go.Proofs.YtkamcoechjdgpaaGreat
namespace Go.Proofs.YtkamcoechjdgpaaGreat
abbrev Bts := List UInt8
structure Sz where
 f : Int
 t : Int
deriving DecidableEq
structure Acc where
 by_ : Int
 view : Int
 value : Bts
deriving DecidableEq
structure Rp where
 by_ : Int
 for_ : Int
 has : Bool
 view : Int
 value : Bts
 proof : List Acc
deriving DecidableEq
def bst : List Rp → Int → Bts → Int × Bts
 | [],b,v => (b,v)
 | r :: l,b,v => match r.proof with
  | [] => bst l b v
  | a :: _ => if b < a.view then bst l a.view a.value else bst l b v
def tells (c : Int) (r : Rp) : Bool := r.has && decide (c < r.view)
def cnt (c : Int) (x : Bts) (l : List Rp) : Nat := l.countP fun r => tells c r && decide (r.value = x)
def bnd (q c : Int) (l m : List Rp) : Option Bts := (m.find? fun r => tells c r && decide (q ≤ (cnt c r.value l : Int))).map (·.value)
/-! ### what was chosen -/
def accC (a : Acc) : List AV := [.int .i64 a.by_,.int .i64 a.view,.str a.value]
def encA (a : Acc) : AV := .agg (accC a)
def votesA (l : List Acc) : AV := .sl 3 (l.map accC) .no
def rpC (r : Rp) : List AV := [.int .i64 r.by_,.int .i64 r.for_,.bool r.has,.int .i64 r.view,.str r.value,votesA r.proof]
def rpsA (l : List Rp) : AV := .sl 6 (l.map rpC) .no
def pp (b : Bytes) (back : Bool) (e : Int) : ABlk := .box [bytesA b,.bool back,.int .i64 e]
theorem LentB.box_ (cs : List AV) (h : belL 0 cs = true) : LentB (.box cs) := .inl ⟨_,rfl,h⟩
theorem pp_lent (b : Bytes) (back : Bool) (e : Int) : LentB (pp b back e) := .inl ⟨_,rfl,rfl⟩
theorem lent1 {x : ABlk} (h : LentB x) : ∀ y ∈ [x],LentB y := fun y hy => by simp at hy;subst hy;exact h
theorem lent2 {x z : ABlk} (h : LentB x) (h2 : LentB z) : ∀ y ∈ [x,z],LentB y := fun y hy => by
 simp at hy
 rcases hy with rfl|rfl
 ·exact h
 ·exact h2
theorem MethodAt.by_ {P : Program} {t : TypeId} {name : String} {g : FuncId} {d : TypeDesc} (hfn : Callable P g) (h : (P.info? t).bind (fun ti => (ti.methods.find? (fun m => m.name == name)).map fun m => (m.path,m.func)) = some (#[],some (g,false)))
  (hu : P.underlying t = some d) (hd : ∀ e,d ≠ .pointer e) : MethodAt P t name g := by
 simp only [Option.bind_eq_some_iff,Option.map_eq_some_iff] at h
 obtain ⟨ti,h1,m,h2,h3⟩ := h
 simp only [Prod.mk.injEq] at h3
 exact MethodAt.of hfn h1 h2 h3.1 h3.2 hu hd
theorem meth_number : MethodAt Tryz.prog 87 "consistory/wire.tell" 41 :=
 .by_ ⟨_,Tryz.func41,by kernel_rfl,rfl⟩ (by kernel_rfl) Tryz.underlying87 (fun _ h => by cases h)
theorem meth_text : MethodAt Tryz.prog 119 "consistory/wire.tell" 109 :=
 .by_ ⟨_,Tryz.func109,by kernel_rfl,rfl⟩ (by kernel_rfl) Tryz.underlying119 (fun _ h => by cases h)
theorem meth_flag : MethodAt Tryz.prog 166 "consistory/wire.tell" 126 :=
 .by_ ⟨_,Tryz.func126,by kernel_rfl,rfl⟩ (by kernel_rfl) Tryz.underlying166 (fun _ h => by cases h)
theorem meth_sum : MethodAt Tryz.prog 133 "consistory/wire.tell" 114 :=
 .by_ ⟨_,Tryz.func114,by kernel_rfl,rfl⟩ (by kernel_rfl) Tryz.underlying133 (fun _ h => by cases h)
theorem meth_asks : MethodAt Tryz.prog 136 "consistory/wire.tell" 115 :=
 .by_ ⟨_,Tryz.func115,by kernel_rfl,rfl⟩ (by kernel_rfl) Tryz.underlying136 (fun _ h => by cases h)
theorem meth_replies : MethodAt Tryz.prog 139 "consistory/wire.tell" 121 :=
 .by_ ⟨_,Tryz.func121,by kernel_rfl,rfl⟩ (by kernel_rfl) Tryz.underlying139 (fun _ h => by cases h)
theorem meth_parts : MethodAt Tryz.prog 125 "consistory/wire.tell" 113 :=
 .by_ ⟨_,Tryz.func113,by kernel_rfl,rfl⟩ (by kernel_rfl) Tryz.underlying125 (fun _ h => by cases h)
theorem meth_rowA : MethodAt Tryz.prog 168 "consistory/wire.tell" 127 :=
 .by_ ⟨_,Tryz.func127,by kernel_rfl,rfl⟩ (by kernel_rfl) Tryz.underlying168 (fun _ h => by cases h)
theorem meth_rowR : MethodAt Tryz.prog 123 "consistory/wire.tell" 112 :=
 .by_ ⟨_,Tryz.func112,by kernel_rfl,rfl⟩ (by kernel_rfl) Tryz.underlying123 (fun _ h => by cases h)
theorem number_w (b : Bytes) (n : Int) (cs : List AV) (hb : b.length ≤ 900000) (hn : I64 n) : BSpec Tryz.prog 41 [.agg [.rptr (.int .i64 n :: cs)],.ptr 0 0] [pp b false 0] [pp (b ++ encN (zig n)) false 0] (.tup []) := by
 have hi := (int_spec b n (by omega) hn).spec
 refine ⟨⟨_,Tryz.func41,by kernel_rfl,rfl⟩,Sg Tryz.func41 rfl fun c0 hc0 => ?_⟩;simp only [go_sem,pp,↓alt_f,Nat.reduceAdd,Nat.reduceLeDiff,Nat.reduceSub]
 refine ⟨rfl,?_⟩
 refine DOps.pure rfl .free rfl rfl (hi) (by simp only [go_sem];(repeat' first|exact .refl _|apply LeR.tup|apply Le.agg|constructor)) rfl rfl ?_
 refine Dg Tryz.func41 rfl ?_;simp only [go_sem,bytesA,Nat.reduceAdd,Nat.reduceLeDiff]
 refine ⟨rfl,?_⟩
 (refine ⟨by (repeat' first|exact .refl _|apply LeR.tup|apply Le.agg|constructor),?_⟩;(repeat' (first|exact WkH.nil _|exact Le.refl _|exact Le1.refl _|exact Le1L.nil|rfl|apply WkH.cons|apply LeB.box|apply Le1L.cons|apply Le.one)))
theorem text_w (b : Bytes) (s : Bytes) (cs : List AV) (hb : b.length ≤ 900000) (hs : s.length ≤ 900000) : BSpec Tryz.prog 109 [.agg [.rptr (.str s :: cs)],.ptr 0 0] [pp b false 0] [pp (b ++ encT s) false 0] (.tup []) := by
 have hi := (text_spec b s (by omega) (by omega)).spec
 refine ⟨⟨_,Tryz.func109,by kernel_rfl,rfl⟩,Sg Tryz.func109 rfl fun c0 hc0 => ?_⟩;simp only [go_sem,pp,↓alt_f,Nat.reduceAdd,Nat.reduceLeDiff,Nat.reduceSub]
 refine ⟨rfl,?_⟩
 refine DOps.pure rfl .free rfl rfl (hi) (by simp only [go_sem];(repeat' first|exact .refl _|apply LeR.tup|apply Le.agg|constructor)) rfl rfl ?_
 refine Dg Tryz.func109 rfl ?_;simp only [go_sem,bytesA,Nat.reduceAdd,Nat.reduceLeDiff]
 refine ⟨rfl,?_⟩
 (refine ⟨by (repeat' first|exact .refl _|apply LeR.tup|apply Le.agg|constructor),?_⟩;(repeat' (first|exact WkH.nil _|exact Le.refl _|exact Le1.refl _|exact Le1L.nil|rfl|apply WkH.cons|apply LeB.box|apply Le1L.cons|apply Le.one)))
theorem asks_w (b : Bytes) (q : Ord) (cs : List AV) (hb : b.length ≤ 100000) (hq : smO q) : BSpec Tryz.prog 115 [.agg [.rptr (.int .i64 q.a :: .int .i64 q.b :: .int .i64 q.kind :: .str q.s :: .str q.t :: .int .i64 q.x :: .int .i64 q.y :: .int .i64 q.z :: cs)],.ptr 0 0] [pp b false 0] [pp (b ++ putO q) false 0] (.tup []) := by
 have hi := put12_spec b q hb hq
 refine ⟨⟨_,Tryz.func115,by kernel_rfl,rfl⟩,Sg Tryz.func115 rfl fun c0 hc0 => ?_⟩;simp only [go_sem,pp,↓alt_f,Nat.reduceAdd,Nat.reduceLeDiff,Nat.reduceSub]
 refine ⟨rfl,?_⟩
 refine DOps.pure rfl .free rfl rfl (hi) (by simp only [go_sem,encO];(repeat' first|exact .refl _|apply LeR.tup|apply Le.agg|constructor)) rfl rfl ?_
 refine Dg Tryz.func115 rfl ?_;simp only [go_sem,bytesA,Nat.reduceAdd,Nat.reduceLeDiff]
 refine ⟨rfl,?_⟩
 (refine ⟨by (repeat' first|exact .refl _|apply LeR.tup|apply Le.agg|constructor),?_⟩;(repeat' (first|exact WkH.nil _|exact Le.refl _|exact Le1.refl _|exact Le1L.nil|rfl|apply WkH.cons|apply LeB.box|apply Le1L.cons|apply Le.one)))
theorem replies_w (b : Bytes) (q : Rpl) (cs : List AV) (hb : b.length ≤ 100000) (hq : smR q) : BSpec Tryz.prog 121 [.agg [.rptr (.int .i64 q.a :: .int .i64 q.b :: .int .i64 q.e :: .str q.s :: .int .i64 q.x :: textsA q.l :: cs)],.ptr 0 0] [pp b false 0] [pp (b ++ putR q) false 0] (.tup []) := by
 have hi := putreply_spec b q hb hq
 refine ⟨⟨_,Tryz.func121,by kernel_rfl,rfl⟩,Sg Tryz.func121 rfl fun c0 hc0 => ?_⟩;simp only [go_sem,pp,↓alt_f,Nat.reduceAdd,Nat.reduceLeDiff,Nat.reduceSub]
 refine ⟨rfl,?_⟩
 refine DOps.pure rfl .free rfl rfl (hi) (by simp only [go_sem,encR];(repeat' first|exact .refl _|apply LeR.tup|apply Le.agg|constructor)) rfl rfl ?_
 refine Dg Tryz.func121 rfl ?_;simp only [go_sem,bytesA,Nat.reduceAdd,Nat.reduceLeDiff]
 refine ⟨rfl,?_⟩
 (refine ⟨by (repeat' first|exact .refl _|apply LeR.tup|apply Le.agg|constructor),?_⟩;(repeat' (first|exact WkH.nil _|exact Le.refl _|exact Le1.refl _|exact Le1L.nil|rfl|apply WkH.cons|apply LeB.box|apply Le1L.cons|apply Le.one)))
theorem number_wb (b : Bytes) (n : Int) (hb : b.length ≤ 900000) (hn : I64 n) : BSpec Tryz.prog 41 [.agg [.ptr 1 0],.ptr 0 0] [pp b false 0,.box [.int .i64 n]] [pp (b ++ encN (zig n)) false 0,.box [.int .i64 n]] (.tup []) := by
 have hi := (int_spec b n (by omega) hn).spec
 refine ⟨⟨_,Tryz.func41,by kernel_rfl,rfl⟩,Sg Tryz.func41 rfl fun c0 hc0 => ?_⟩;simp only [go_sem,pp,↓alt_f,Nat.reduceAdd,Nat.reduceLeDiff,Nat.reduceSub]
 refine ⟨rfl,?_⟩
 refine DOps.pure rfl .free rfl rfl (hi) (by simp only [go_sem];(repeat' first|exact .refl _|apply LeR.tup|apply Le.agg|constructor)) rfl rfl ?_
 refine Dg Tryz.func41 rfl ?_;simp only [go_sem,Nat.reduceAdd,Nat.reduceLeDiff]
 refine ⟨rfl,?_⟩
 (refine ⟨by (repeat' first|exact .refl _|apply LeR.tup|apply Le.agg|constructor),?_⟩;(repeat' (first|exact WkH.nil _|exact Le.refl _|exact Le1.refl _|exact Le1L.nil|rfl|apply WkH.cons|apply LeB.box|apply Le1L.cons|apply Le.one)))
theorem flag_w_true (b : Bytes) (cs : List AV) (hb : b.length ≤ 900000) : BSpec Tryz.prog 126 [.agg [.rptr (.bool true :: cs)],.ptr 0 0] [pp b false 0] [pp (b ++ encN (zig 1)) false 0] (.tup []) := by
 have hi := number_wb b 1 hb (by unfold I64;omega)
 refine ⟨⟨_,Tryz.func126,by kernel_rfl,rfl⟩,Sg Tryz.func126 rfl fun c0 hc0 => ?_⟩;simp only [go_sem,pp,↓alt_t,Nat.reduceAdd,Nat.reduceLeDiff,Nat.reduceSub]
 refine Ops.callB .free rfl rfl (js := [0,2]) (by decide) (LentAll.cons rfl (pp_lent b false 0) (LentAll.cons rfl (LentB.box_ [.int .i64 1] rfl) LentAll.nil)) (lent2 (pp_lent _ _ _) (LentB.box_ _ rfl)) rfl rfl (by simp only [go_sem,cond_true,cond_false,renL,AV.ren,List.idxOf,List.findIdx,List.findIdx.go,Nat.reduceAdd,Nat.reduceBEq];(repeat' first|exact .refl _|apply LeR.tup|apply Le.agg|constructor)) (hi) rfl ?_
 refine Og Tryz.func126 ?_;simp only [go_sem,putBack,pp,↓alt_f,↓alts_t,↓gone_tt,Int.reduceEq]
 (and_intros <;> try first|rfl|omega|(unfold I64;omega))
 all_goals (repeat' (first|exact WkH.nil _|exact LeR.one (Le.refl _)|exact LeL.nil|apply LeR.tup|exact Le.refl _|exact Le1.refl _|exact Le1L.nil|rfl|apply WkH.cons|apply LeB.box|apply Le1L.cons|apply Le.one))
theorem flag_w_false (b : Bytes) (cs : List AV) (hb : b.length ≤ 900000) : BSpec Tryz.prog 126 [.agg [.rptr (.bool false :: cs)],.ptr 0 0] [pp b false 0] [pp (b ++ encN (zig 0)) false 0] (.tup []) := by
 have hi := number_wb b 0 hb (by unfold I64;omega)
 refine ⟨⟨_,Tryz.func126,by kernel_rfl,rfl⟩,Sg Tryz.func126 rfl fun c0 hc0 => ?_⟩;simp only [go_sem,pp,↓alt_f,Nat.reduceAdd,Nat.reduceLeDiff,Nat.reduceSub]
 refine Ops.callB .free rfl rfl (js := [0,2]) (by decide) (LentAll.cons rfl (pp_lent b false 0) (LentAll.cons rfl (LentB.box_ [.int .i64 0] rfl) LentAll.nil)) (lent2 (pp_lent _ _ _) (LentB.box_ _ rfl)) rfl rfl (by simp only [go_sem,cond_true,cond_false,renL,AV.ren,List.idxOf,List.findIdx,List.findIdx.go,Nat.reduceAdd,Nat.reduceBEq];(repeat' first|exact .refl _|apply LeR.tup|apply Le.agg|constructor)) (hi) rfl ?_
 refine Og Tryz.func126 ?_;simp only [go_sem,putBack,pp,↓alt_f,↓alts_f,↓gone_tf,Int.reduceEq]
 (and_intros <;> try first|rfl|omega|(unfold I64;omega))
 all_goals (repeat' (first|exact WkH.nil _|exact LeR.one (Le.refl _)|exact LeL.nil|apply LeR.tup|exact Le.refl _|exact Le1.refl _|exact Le1L.nil|rfl|apply WkH.cons|apply LeB.box|apply Le1L.cons|apply Le.one))
def partC (p : Nat × AV) : List AV := [.iface p.1 p.2]
def ToldW (L : List (Nat × AV)) (W : Nat → Bytes) : Prop := ∀ (k : Nat) t v,L[k]? = some (t,v) → v.bel 1 = true ∧ v.among [0] = true ∧ v.ren [0] = v ∧ ∃ g,MethodAt Tryz.prog t "consistory/wire.tell" g ∧ BSpec Tryz.prog g [v,.ptr 0 0] [pp (W k) false 0] [pp (W (k + 1)) false 0] (.tup [])
theorem partsBel {n : Nat} : ∀ {L : List (Nat × AV)},(∀ (k : Nat) t v,L[k]? = some (t,v) → v.bel n = true) → (AV.psl 1 (L.map partC)).bel n = true
 | [],_ => rfl
 | (t,v) :: L,h => by
  have h0 := h 0 t v rfl
  have ih := partsBel (n := n) (L := L) fun k t v hk => h (k + 1) t v (by simpa using hk)
  simp only [AV.bel,Yf,belLL,partC,belL,h0,Bool.and_true,Bool.true_and] at ih ⊢
  exact ih
theorem parts_w (L : List (Nat × AV)) (W : Nat → Bytes) (hl : L.length ≤ 1000) (hL : ToldW L W) : BSpec Tryz.prog 113 [.psl 1 (L.map partC),.ptr 0 0] [pp (W 0) false 0] [pp (W L.length) false 0] (.tup []) := by
 refine ⟨⟨_,Tryz.func113,by kernel_rfl,rfl⟩,Sg Tryz.func113 rfl fun c0 hc0 => ?_⟩;simp only [go_sem,Nat.reduceAdd,Nat.reduceSub]
 refine Run.loopV (α := Nat) (fun k => k ≤ L.length) (fun k => [(8,.int .i64 k)]) 1 (fun k => [(0,pp (W k) false 0)]) (fun k => L.length - k) 0 (Nat.zero_le _) ?_ ?_
 ·simp only [go_sem,writes,junks,puts,hputs,List.filterMap_cons,List.filterMap_nil]
  (refine Weak.of (by simp [hc0]) ?_ ?_ <;> (repeat' first|exact .refl _|exact .junk _|exact .nil|exact .nil _|exact .tok _ _ _|rfl|apply WkT.cons|apply WkH.cons|apply LeB.same|apply LeB.box|apply Le1L.cons|apply Le.agg|apply Le.one))
  all_goals exact partsBel fun k t v h => (hL k t v h).1
 intro k hk ih
 simp only [writes,junks,puts,hputs,List.filterMap_cons,List.filterMap_nil,Y6,Y7,Yg,Yk,Y5,Y3,Yd] at hk ih ⊢
 by_cases hlt : k < L.length
 ·obtain ⟨⟨t,v⟩,hp⟩ : ∃ p,L[k]? = some p := ⟨_,List.getElem?_eq_getElem hlt⟩
  have hkk : (k : Int) < L.length := by omega
  obtain ⟨h0,h1,h2,g,hm,hb⟩ := hL k t v hp
  refine Rg Tryz.func113 ?_;simp only [go_sem,hkk,List.getElem?_map,hp,partC,↓alt_t,Nat.reduceAdd,Nat.reduceLT]
  refine ⟨by omega,?_⟩
  refine Ops.invokeB .free rfl rfl hm (js := [0]) (by decide) (LentAll.cons rfl (pp_lent _ _ _) LentAll.nil) (lent1 (pp_lent _ _ _)) rfl (by simp only [go_sem,amongL,h1];rfl) (by simp only [go_sem,renL,h2];exact LeL.cons (Le.refl _) (LeL.cons (Le.refl _) LeL.nil)) hb rfl ?_
  refine Og Tryz.func113 ?_;simp only [go_sem,putBack]
  (and_intros <;> try first|rfl|omega|(unfold I64;omega))
  refine ih (k + 1) _ (by omega) (by omega) ?_
  simp only [Int.natCast_add,Int.natCast_one]
  (refine Weak.of (by simp [hc0]) ?_ ?_ <;> (repeat' first|exact .refl _|exact .junk _|exact .nil|exact .nil _|exact .tok _ _ _|rfl|apply WkT.cons|apply WkH.cons|apply LeB.same|apply LeB.box|apply Le1L.cons|apply Le.agg|apply Le.one))
  all_goals exact partsBel fun k t v h => (hL k t v h).1
 ·obtain rfl : k = L.length := by omega
  have hkk : ¬ (L.length : Int) < L.length := by omega
  refine Rg Tryz.func113 ?_;simp only [go_sem,hkk,↓alt_f]
  (refine ⟨by (repeat' first|exact .refl _|apply LeR.tup|apply Le.agg|constructor),?_⟩;(repeat' (first|exact WkH.nil _|exact Le.refl _|exact Le1.refl _|exact Le1L.nil|rfl|apply WkH.cons|apply LeB.box|apply Le1L.cons|apply Le.one)))
def Pln (cs : List AV) : Prop := (∀ n,belL n cs = true) ∧ (∀ js,amongL js cs = true) ∧ ∀ js,renL js cs = cs
theorem Pln.cons {a : AV} {cs : List AV} (h1 : ∀ n,a.bel n = true) (h2 : ∀ js,a.among js = true) (h3 : ∀ js,a.ren js = a) (h : Pln cs) : Pln (a :: cs) :=
 ⟨fun n => by simp [belL,h1 n,h.1 n],fun js => by simp [amongL,h2,h.2.1],fun js => by simp [renL,h3,h.2.2]⟩
theorem Pln.part {cs : List AV} (h : Pln cs) : (AV.agg [.rptr cs]).bel 1 = true ∧ (AV.agg [.rptr cs]).among [0] = true ∧ (AV.agg [.rptr cs]).ren [0] = .agg [.rptr cs] :=
 ⟨by simp [AV.bel,belL,h.1],by simp [AV.among,amongL,h.2.1],by simp [AV.ren,renL,h.2.2]⟩
def voteB (a : Acc) : Bytes := encN (zig a.by_) ++ encN (zig a.view) ++ encT a.value
def voteL (a : Acc) (cs : List AV) : List (Nat × AV) := [(87,.agg [.rptr (.int .i64 a.by_ :: .int .i64 a.view :: .str a.value :: cs)]),(87,.agg [.rptr (.int .i64 a.view :: .str a.value :: cs)]),(119,.agg [.rptr (.str a.value :: cs)])]
theorem vote_spec (a : Acc) (cs : List AV) : ASpec Tryz.prog 73 [.rptr (.int .i64 a.by_ :: .int .i64 a.view :: .str a.value :: cs)] (.iface 125 (.psl 1 ((voteL a cs).map partC))) := by
 refine ⟨⟨_,Tryz.func73,by kernel_rfl,rfl⟩,Sg Tryz.func73 rfl fun c0 hc0 => ?_⟩;simp only [go_sem,voteL,partC,Nat.reduceAdd,Nat.reduceLeDiff,Nat.reduceMul,Nat.reduceBEq,Nat.reduceLT,reduceCtorEq,Nat.reduceSub]
 (and_intros <;> try first|rfl|omega|(unfold I64;omega))
 all_goals (repeat' first|exact .refl _|apply LeR.tup|apply Le.agg|constructor)
theorem enc9 (n : Int) (h : I64 n) : (encN (zig n)).length ≤ 9 := encN_le _ (by unfold I64 at h;exact zig_lt n h.1 h.2)
theorem vote_told (a : Acc) (cs : List AV) (b : Bytes) (hcs : Pln cs) (h1 : I64 a.by_) (h2 : I64 a.view) (hb : b.length + a.value.length ≤ 800000) : ToldW (voteL a cs) (fun|0 => b|1 => b ++ encN (zig a.by_)|2 => b ++ encN (zig a.by_) ++ encN (zig a.view)|_ => b ++ voteB a) := by
 have e1 := enc9 _ h1
 have e2 := enc9 _ h2
 have p1 : Pln (.str a.value :: cs) := .cons (fun _ => rfl) (fun _ => rfl) (fun _ => rfl) hcs
 have p2 : Pln (.int .i64 a.view :: .str a.value :: cs) := .cons (fun _ => rfl) (fun _ => rfl) (fun _ => rfl) p1
 have p3 : Pln (.int .i64 a.by_ :: .int .i64 a.view :: .str a.value :: cs) := .cons (fun _ => rfl) (fun _ => rfl) (fun _ => rfl) p2
 intro k t v h
 match k,h with
 | 0,h => cases h;exact ⟨p3.part.1,p3.part.2.1,p3.part.2.2,_,meth_number,number_w _ _ _ (by show b.length ≤ 900000;omega) h1⟩
 | 1,h => cases h;exact ⟨p2.part.1,p2.part.2.1,p2.part.2.2,_,meth_number,number_w _ _ _ (by show (b ++ encN (zig a.by_)).length ≤ 900000;simp;omega) h2⟩
 | 2,h =>
  cases h
  refine ⟨p1.part.1,p1.part.2.1,p1.part.2.2,_,meth_text,?_⟩
  have := text_w (b ++ encN (zig a.by_) ++ encN (zig a.view)) a.value cs (by simp;omega) (by omega)
  rw [show b ++ encN (zig a.by_) ++ encN (zig a.view) ++ encT a.value = b ++ voteB a by unfold voteB;simp] at this
  exact this
 | k + 3,h => simp [voteL] at h
theorem vote_w (a : Acc) (cs : List AV) (b : Bytes) (hcs : Pln cs) (h1 : I64 a.by_) (h2 : I64 a.view) (hb : b.length + a.value.length ≤ 800000) : BSpec Tryz.prog 113 [.psl 1 ((voteL a cs).map partC),.ptr 0 0] [pp b false 0] [pp (b ++ voteB a) false 0] (.tup []) :=
 parts_w (voteL a cs) _ (by simp [voteL]) (vote_told a cs b hcs h1 h2 hb)
def votesB (l : List Acc) : Bytes := encN (zig l.length) ++ (l.map voteB).flatten
def smA (a : Acc) : Prop := I64 a.by_ ∧ I64 a.view ∧ a.value.length ≤ 100000
def totA (l : List Acc) : Nat := (l.map fun a => a.value.length + 27).sum
theorem voteB_le (a : Acc) (h : smA a) : (voteB a).length ≤ a.value.length + 27 := by
 have e1 := enc9 _ h.1
 have e2 := enc9 _ h.2.1
 have e3 := encT_le a.value (by have := h.2.2;omega)
 unfold voteB;simp;omega
theorem totA_take (l : List Acc) (k : Nat) (a : Acc) (h : l[k]? = some a) : totA (l.take k) + (a.value.length + 27) ≤ totA l := by
 have e : totA (l.take (k + 1)) ≤ totA l := by
  have h2 := List.take_append_drop (k + 1) l
  have h3 : totA l = totA (l.take (k + 1)) + totA (l.drop (k + 1)) := by
   unfold totA
   rw [← List.sum_append,← List.map_append,h2]
  omega
 rw [List.take_add_one,h] at e
 simp only [totA,List.map_append,List.sum_append] at e ⊢
 simpa using e
theorem votesB_take (l : List Acc) (hl : ∀ a ∈ l,smA a) : ((l.map voteB).flatten).length ≤ totA l := by
 induction l with
 | nil => simp
 | cons a l ih =>
  have h1 := voteB_le a (hl a List.mem_cons_self)
  have h2 := ih fun x hx => hl x (List.mem_cons_of_mem _ hx)
  simp only [Yf,List.flatten_cons,List.length_append,totA,List.sum_cons] at h2 ⊢
  omega
theorem rowA_w (l : List Acc) (cs : List AV) (b : Bytes) (hcs : Pln cs) (hl : ∀ a ∈ l,smA a) (hn : l.length ≤ 30) (hb : b.length + totA l ≤ 700000) : BSpec Tryz.prog 127 [.agg [.rptr (votesA l :: cs),.fn (.func 73) [] []],.ptr 0 0] [pp b false 0] [pp (b ++ votesB l) false 0] (.tup []) := by
 have hi := number_wb b l.length (by omega) (by unfold I64;omega)
 have n1 : ¬ (l.length : Int) < 0 := by omega
 have n2 : ¬ (30 : Int) < l.length := by omega
 have e0 := enc9 l.length (by unfold I64;omega)
 refine ⟨⟨_,Tryz.func127,by kernel_rfl,rfl⟩,Sg Tryz.func127 rfl fun c0 hc0 => ?_⟩;simp only [go_sem,pp,votesA,Nat.reduceAdd,Nat.reduceLeDiff,Nat.reduceSub]
 refine Ops.callB .free rfl rfl (js := [0,2]) (by decide) (LentAll.cons rfl (pp_lent b false 0) (LentAll.cons rfl (LentB.box_ [.int .i64 l.length] rfl) LentAll.nil)) (lent2 (pp_lent _ _ _) (LentB.box_ _ rfl)) rfl rfl (by simp only [go_sem,cond_true,cond_false,renL,AV.ren,List.idxOf,List.findIdx,List.findIdx.go,Nat.reduceAdd,Nat.reduceBEq];(repeat' first|exact .refl _|apply LeR.tup|apply Le.agg|constructor)) (hi) rfl ?_
 refine Og Tryz.func127 ?_;simp only [go_sem,putBack,pp,n1,n2,↓alt_f,↓alts_f,↓gone_tf,↓gone_ff,Nat.reduceAdd,Nat.reduceLeDiff]
 (and_intros <;> try first|rfl|omega|(unfold I64;omega))
 refine Run.loopV (α := Nat) (fun k => k ≤ l.length) (fun k => [(44,.int .i64 k)]) 3 (fun k => [(0,pp (b ++ encN (zig l.length) ++ ((l.take k).map voteB).flatten) false 0)]) (fun k => l.length - k) 0 (Nat.zero_le _) ?_ ?_
 ·simp only [go_sem,writes,junks,puts,hputs,List.filterMap_cons,List.filterMap_nil,pp,List.flatten_nil,bytesA]
  (refine Weak.of (by simp [hc0]) ?_ ?_ <;> (repeat' first|exact .refl _|exact .junk _|exact .nil|exact .nil _|exact .tok _ _ _|rfl|apply WkT.cons|apply WkH.cons|apply LeB.same|apply LeB.box|apply Le1L.cons|apply Le.agg|apply Le.one))
  all_goals simp [AV.bel,ABlk.bel,belL,hcs.1]
 intro k hk ih
 simp only [writes,junks,puts,hputs,List.filterMap_cons,List.filterMap_nil,Y6,Y7,Yg,Yk,Y5,Y3,Yd] at hk ih ⊢
 by_cases hlt : k < l.length
 ·obtain ⟨a,ha⟩ : ∃ a,l[k]? = some a := ⟨_,List.getElem?_eq_getElem hlt⟩
  have hkk : (k : Int) < l.length := by omega
  have ht := totA_take l k a ha
  have hsa := hl a (List.mem_of_getElem? ha)
  have hle := votesB_take (l.take k) fun x hx => hl x (List.mem_of_mem_take hx)
  refine Rg Tryz.func127 ?_;simp only [go_sem,hkk,ha,List.getElem?_map,accC,pp,↓alt_t,Nat.reduceAdd,Nat.reduceLeDiff,Nat.reduceLT]
  (and_intros <;> try first|rfl|omega|(unfold I64;omega))
  refine DOps.pure rfl .free rfl rfl (vote_spec a []) (by simp only [go_sem];(repeat' first|exact .refl _|apply LeR.tup|apply Le.agg|constructor)) rfl rfl ?_
  refine Dg Tryz.func127 rfl ?_;simp only [go_sem,Nat.reduceAdd]
  refine DOps.invokeB rfl .free rfl rfl meth_parts (js := [0]) (by decide) (LentAll.cons rfl (pp_lent _ _ _) LentAll.nil) (lent1 (pp_lent _ _ _)) rfl (by simp only [go_sem];rfl) (by simp only [go_sem,cond_true,renL,AV.ren,List.idxOf,List.findIdx,List.findIdx.go];exact LeL.cons (Le.refl _) (LeL.cons (Le.refl _) LeL.nil)) (vote_w a [] (b ++ encN (zig l.length) ++ ((l.take k).map voteB).flatten) ⟨fun _ => rfl,fun _ => rfl,fun _ => rfl⟩ hsa.1 hsa.2.1 (by simp only [List.length_append];omega)) rfl ?_
  refine Dg Tryz.func127 rfl ?_;simp only [go_sem,putBack,pp]
  (and_intros <;> try first|rfl|omega|(unfold I64;omega))
  refine ih (k + 1) _ (by omega) (by omega) ?_
  simp only [Int.natCast_add,Int.natCast_one,Yf,Ye,Yd,pp,bytesA,List.take_add_one,ha,Option.toList_some,List.map_append,List.flatten_append,List.flatten_cons,List.flatten_nil,List.append_assoc]
  (refine Weak.of (by simp [hc0]) ?_ ?_ <;> (repeat' first|exact .refl _|exact .junk _|exact .nil|exact .nil _|exact .tok _ _ _|rfl|apply WkT.cons|apply WkH.cons|apply LeB.same|apply LeB.box|apply Le1L.cons|apply Le.agg|apply Le.one))
  all_goals simp [AV.bel,ABlk.bel,belL,hcs.1]
 ·obtain rfl : k = l.length := by omega
  have hkk : ¬ (l.length : Int) < l.length := by omega
  rw [List.take_length]
  refine Rg Tryz.func127 ?_;simp only [go_sem,hkk,pp,↓alt_f]
  rw [show b ++ votesB l = b ++ encN (zig l.length) ++ (l.map voteB).flatten by unfold votesB;simp]
  (refine ⟨by (repeat' first|exact .refl _|apply LeR.tup|apply Le.agg|constructor),?_⟩;(repeat' (first|exact WkH.nil _|exact Le.refl _|exact Le1.refl _|exact Le1L.nil|rfl|apply WkH.cons|apply LeB.box|apply Le1L.cons|apply Le.one)))
theorem votes_spec (l : List Acc) (cs : List AV) : ASpec Tryz.prog 74 [.rptr (votesA l :: cs)] (.iface 168 (.agg [.rptr (votesA l :: cs),.fn (.func 73) [] []])) := by
 refine ⟨⟨_,Tryz.func74,by kernel_rfl,rfl⟩,Sg Tryz.func74 rfl fun c0 hc0 => ?_⟩;simp only [go_sem,votesA,Nat.reduceAdd,Nat.reduceLeDiff,Nat.reduceSub]
 (repeat' first|exact .refl _|apply LeR.tup|apply Le.agg|constructor)
def reportB (r : Rp) : Bytes := encN (zig r.by_) ++ encN (zig r.for_) ++ encN (zig (if r.has then 1 else 0)) ++ encN (zig r.view) ++ encT r.value ++ votesB r.proof
def reportL (r : Rp) (cs : List AV) : List (Nat × AV) := [(87,.agg [.rptr (.int .i64 r.by_ :: .int .i64 r.for_ :: .bool r.has :: .int .i64 r.view :: .str r.value :: votesA r.proof :: cs)]),(87,.agg [.rptr (.int .i64 r.for_ :: .bool r.has :: .int .i64 r.view :: .str r.value :: votesA r.proof :: cs)]),(166,.agg [.rptr (.bool r.has :: .int .i64 r.view :: .str r.value :: votesA r.proof :: cs)]),
 (87,.agg [.rptr (.int .i64 r.view :: .str r.value :: votesA r.proof :: cs)]),(119,.agg [.rptr (.str r.value :: votesA r.proof :: cs)]),(168,.agg [.rptr (votesA r.proof :: cs),.fn (.func 73) [] []])]
theorem report_spec (r : Rp) (cs : List AV) (hcs : Pln cs) : ASpec Tryz.prog 72 [.rptr (.int .i64 r.by_ :: .int .i64 r.for_ :: .bool r.has :: .int .i64 r.view :: .str r.value :: votesA r.proof :: cs)] (.iface 125 (.psl 1 ((reportL r cs).map partC))) := by
 refine ⟨⟨_,Tryz.func72,by kernel_rfl,rfl⟩,Sg Tryz.func72 rfl fun c0 hc0 => ?_⟩;simp only [go_sem,reportL,partC,Nat.reduceAdd,reduceCtorEq,Nat.reduceSub]
 refine ⟨rfl,?_⟩
 refine DOps.pure rfl .free rfl rfl (votes_spec r.proof cs) (by simp only [go_sem];(repeat' first|exact .refl _|apply LeR.tup|apply Le.agg|constructor)) (by simp [belL,AV.bel,votesA,hcs.1]) (by simp [AV.bel,belL,votesA,hcs.1]) ?_
 refine Dg Tryz.func72 rfl ?_;simp only [go_sem,Nat.reduceAdd,Nat.reduceLeDiff,Nat.reduceMul,Nat.reduceBEq,Nat.reduceLT]
 (and_intros <;> try first|rfl|omega|(unfold I64;omega))
 all_goals (repeat' first|exact .refl _|apply LeR.tup|apply Le.agg|constructor)
def smRp (r : Rp) : Prop := I64 r.by_ ∧ I64 r.for_ ∧ I64 r.view ∧ r.value.length ≤ 100000 ∧ (∀ a ∈ r.proof,smA a) ∧ r.proof.length ≤ 30
def totR (r : Rp) : Nat := r.value.length + totA r.proof + 60
theorem votesB_le (l : List Acc) (hl : ∀ a ∈ l,smA a) (hn : l.length ≤ 30) : (votesB l).length ≤ totA l + 9 := by
 have e1 := enc9 l.length (by unfold I64;omega)
 have e2 := votesB_take l hl
 unfold votesB;simp only [List.length_append];omega
theorem flag_w (h : Bool) (b : Bytes) (cs : List AV) (hb : b.length ≤ 900000) : BSpec Tryz.prog 126 [.agg [.rptr (.bool h :: cs)],.ptr 0 0] [pp b false 0] [pp (b ++ encN (zig (if h then 1 else 0))) false 0] (.tup []) := by
 cases h with
 | true => exact flag_w_true b cs hb
 | false => exact flag_w_false b cs hb
theorem reportB_le (r : Rp) (h : smRp r) : (reportB r).length ≤ totR r := by
 have e1 := enc9 _ h.1
 have e2 := enc9 _ h.2.1
 have e3 := enc9 (if r.has then 1 else 0) (by unfold I64;split <;> omega)
 have e4 := enc9 _ h.2.2.1
 have e5 := encT_le r.value (by have := h.2.2.2.1;omega)
 have e6 := votesB_le r.proof h.2.2.2.2.1 h.2.2.2.2.2
 unfold reportB totR;simp only [List.length_append];omega
theorem report_told (r : Rp) (cs : List AV) (b : Bytes) (hcs : Pln cs) (h : smRp r) (hb : b.length + totR r ≤ 600000) : ToldW (reportL r cs) (fun|0 => b|1 => b ++ encN (zig r.by_)|2 => b ++ encN (zig r.by_) ++ encN (zig r.for_)|3 => b ++ encN (zig r.by_) ++ encN (zig r.for_) ++ encN (zig (if r.has then 1 else 0))|4 => b ++ encN (zig r.by_) ++ encN (zig r.for_) ++ encN (zig (if r.has then 1 else 0)) ++ encN (zig r.view)|5 => b ++ encN (zig r.by_) ++ encN (zig r.for_) ++ encN (zig (if r.has then 1 else 0)) ++ encN (zig r.view) ++ encT r.value|_ => b ++ reportB r) := by
 have e1 := enc9 _ h.1
 have e2 := enc9 _ h.2.1
 have e3 := enc9 (if r.has then 1 else 0) (by unfold I64;split <;> omega)
 have e4 := enc9 _ h.2.2.1
 have e5 := encT_le r.value (by have := h.2.2.2.1;omega)
 unfold totR at hb
 have p6 : Pln (votesA r.proof :: cs) := .cons (fun _ => rfl) (fun _ => rfl) (fun _ => rfl) hcs
 have p5 : Pln (.str r.value :: votesA r.proof :: cs) := .cons (fun _ => rfl) (fun _ => rfl) (fun _ => rfl) p6
 have p4 : Pln (.int .i64 r.view :: .str r.value :: votesA r.proof :: cs) := .cons (fun _ => rfl) (fun _ => rfl) (fun _ => rfl) p5
 have p3 : Pln (.bool r.has :: .int .i64 r.view :: .str r.value :: votesA r.proof :: cs) := .cons (fun _ => rfl) (fun _ => rfl) (fun _ => rfl) p4
 have p2 : Pln (.int .i64 r.for_ :: .bool r.has :: .int .i64 r.view :: .str r.value :: votesA r.proof :: cs) := .cons (fun _ => rfl) (fun _ => rfl) (fun _ => rfl) p3
 have p1 : Pln (.int .i64 r.by_ :: .int .i64 r.for_ :: .bool r.has :: .int .i64 r.view :: .str r.value :: votesA r.proof :: cs) := .cons (fun _ => rfl) (fun _ => rfl) (fun _ => rfl) p2
 intro k t v hh
 match k,hh with
 | 0,hh => cases hh;exact ⟨p1.part.1,p1.part.2.1,p1.part.2.2,_,meth_number,number_w _ _ _ (by show b.length ≤ 900000;omega) h.1⟩
 | 1,hh => cases hh;exact ⟨p2.part.1,p2.part.2.1,p2.part.2.2,_,meth_number,number_w _ _ _ (by simp only [List.length_append];omega) h.2.1⟩
 | 2,hh => cases hh;exact ⟨p3.part.1,p3.part.2.1,p3.part.2.2,_,meth_flag,flag_w _ _ _ (by simp only [List.length_append];omega)⟩
 | 3,hh => cases hh;exact ⟨p4.part.1,p4.part.2.1,p4.part.2.2,_,meth_number,number_w _ _ _ (by simp only [List.length_append];omega) h.2.2.1⟩
 | 4,hh => cases hh;exact ⟨p5.part.1,p5.part.2.1,p5.part.2.2,_,meth_text,text_w _ _ _ (by simp only [List.length_append];omega) (by omega)⟩
 | 5,hh =>
  cases hh
  refine ⟨by simp [AV.bel,belL,votesA,hcs.1],by simp [AV.among,amongL,votesA,hcs.2.1],by simp [AV.ren,renL,votesA,hcs.2.2],_,meth_rowA,?_⟩
  have := rowA_w r.proof cs (b ++ encN (zig r.by_) ++ encN (zig r.for_) ++ encN (zig (if r.has then 1 else 0)) ++ encN (zig r.view) ++ encT r.value) hcs h.2.2.2.2.1 h.2.2.2.2.2 (by simp only [List.length_append];omega)
  rw [show b ++ encN (zig r.by_) ++ encN (zig r.for_) ++ encN (zig (if r.has then 1 else 0)) ++ encN (zig r.view) ++ encT r.value ++ votesB r.proof = b ++ reportB r by unfold reportB;simp] at this
  exact this
 | k + 6,hh => simp [reportL] at hh
theorem report_w (r : Rp) (cs : List AV) (b : Bytes) (hcs : Pln cs) (h : smRp r) (hb : b.length + totR r ≤ 600000) : BSpec Tryz.prog 113 [.psl 1 ((reportL r cs).map partC),.ptr 0 0] [pp b false 0] [pp (b ++ reportB r) false 0] (.tup []) :=
 parts_w (reportL r cs) _ (by simp [reportL]) (report_told r cs b hcs h hb)
def rpsB (l : List Rp) : Bytes := encN (zig l.length) ++ (l.map reportB).flatten
def totRs (l : List Rp) : Nat := (l.map totR).sum
theorem totRs_take (l : List Rp) (k : Nat) (a : Rp) (h : l[k]? = some a) : totRs (l.take k) + totR a ≤ totRs l := by
 have e : totRs (l.take (k + 1)) ≤ totRs l := by
  have h2 := List.take_append_drop (k + 1) l
  have h3 : totRs l = totRs (l.take (k + 1)) + totRs (l.drop (k + 1)) := by
   conv => lhs;rw [← h2]
   unfold totRs
   rw [← List.sum_append,← List.map_append,h2]
  omega
 rw [List.take_add_one,h] at e
 simp only [totRs,List.map_append,List.sum_append] at e ⊢
 simpa using e
theorem rpsB_take (l : List Rp) (hl : ∀ a ∈ l,smRp a) : ((l.map reportB).flatten).length ≤ totRs l := by
 induction l with
 | nil => simp
 | cons a l ih =>
  have h1 := reportB_le a (hl a List.mem_cons_self)
  have h2 := ih fun x hx => hl x (List.mem_cons_of_mem _ hx)
  simp only [Yf,List.flatten_cons,List.length_append,totRs,List.sum_cons] at h2 ⊢
  omega
theorem rowR_w (l : List Rp) (cs : List AV) (b : Bytes) (hcs : Pln cs) (hl : ∀ a ∈ l,smRp a) (hn : l.length ≤ 30) (hb : b.length + totRs l ≤ 500000) : BSpec Tryz.prog 112 [.agg [.rptr (rpsA l :: cs),.fn (.func 72) [] []],.ptr 0 0] [pp b false 0] [pp (b ++ rpsB l) false 0] (.tup []) := by
 have hi := number_wb b l.length (by omega) (by unfold I64;omega)
 have n1 : ¬ (l.length : Int) < 0 := by omega
 have n2 : ¬ (30 : Int) < l.length := by omega
 have e0 := enc9 l.length (by unfold I64;omega)
 refine ⟨⟨_,Tryz.func112,by kernel_rfl,rfl⟩,Sg Tryz.func112 rfl fun c0 hc0 => ?_⟩;simp only [go_sem,pp,rpsA,Nat.reduceAdd,Nat.reduceLeDiff,Nat.reduceSub]
 refine Ops.callB .free rfl rfl (js := [0,2]) (by decide) (LentAll.cons rfl (pp_lent b false 0) (LentAll.cons rfl (LentB.box_ [.int .i64 l.length] rfl) LentAll.nil)) (lent2 (pp_lent _ _ _) (LentB.box_ _ rfl)) rfl rfl (by simp only [go_sem,cond_true,cond_false,renL,AV.ren,List.idxOf,List.findIdx,List.findIdx.go,Nat.reduceAdd,Nat.reduceBEq];(repeat' first|exact .refl _|apply LeR.tup|apply Le.agg|constructor)) (hi) rfl ?_
 refine Og Tryz.func112 ?_;simp only [go_sem,putBack,pp,n1,n2,↓alt_f,↓alts_f,↓gone_tf,↓gone_ff,Nat.reduceAdd,Nat.reduceLeDiff]
 (and_intros <;> try first|rfl|omega|(unfold I64;omega))
 refine Run.loopV (α := Nat) (fun k => k ≤ l.length) (fun k => [(44,.int .i64 k)]) 3 (fun k => [(0,pp (b ++ encN (zig l.length) ++ ((l.take k).map reportB).flatten) false 0)]) (fun k => l.length - k) 0 (Nat.zero_le _) ?_ ?_
 ·simp only [go_sem,writes,junks,puts,hputs,List.filterMap_cons,List.filterMap_nil,pp,List.flatten_nil,bytesA]
  (refine Weak.of (by simp [hc0]) ?_ ?_ <;> (repeat' first|exact .refl _|exact .junk _|exact .nil|exact .nil _|exact .tok _ _ _|rfl|apply WkT.cons|apply WkH.cons|apply LeB.same|apply LeB.box|apply Le1L.cons|apply Le.agg|apply Le.one))
  all_goals simp [AV.bel,ABlk.bel,belL,hcs.1]
 intro k hk ih
 simp only [writes,junks,puts,hputs,List.filterMap_cons,List.filterMap_nil,Y6,Y7,Yg,Yk,Y5,Y3,Yd] at hk ih ⊢
 by_cases hlt : k < l.length
 ·obtain ⟨a,ha⟩ : ∃ a,l[k]? = some a := ⟨_,List.getElem?_eq_getElem hlt⟩
  have hkk : (k : Int) < l.length := by omega
  have ht := totRs_take l k a ha
  have hsa := hl a (List.mem_of_getElem? ha)
  have hle := rpsB_take (l.take k) fun x hx => hl x (List.mem_of_mem_take hx)
  refine Rg Tryz.func112 ?_;simp only [go_sem,hkk,ha,List.getElem?_map,rpC,pp,↓alt_t,Nat.reduceAdd,Nat.reduceLeDiff,Nat.reduceLT]
  (and_intros <;> try first|rfl|omega|(unfold I64;omega))
  refine DOps.pure rfl .free rfl rfl (report_spec a [] ⟨fun _ => rfl,fun _ => rfl,fun _ => rfl⟩) (by simp only [go_sem];(repeat' first|exact .refl _|apply LeR.tup|apply Le.agg|constructor)) rfl rfl ?_
  refine Dg Tryz.func112 rfl ?_;simp only [go_sem,Nat.reduceAdd]
  refine DOps.invokeB rfl .free rfl rfl meth_parts (js := [0]) (by decide) (LentAll.cons rfl (pp_lent _ _ _) LentAll.nil) (lent1 (pp_lent _ _ _)) rfl (by simp only [go_sem];rfl) (by simp only [go_sem,cond_true,renL,AV.ren,List.idxOf,List.findIdx,List.findIdx.go];exact LeL.cons (Le.refl _) (LeL.cons (Le.refl _) LeL.nil)) (report_w a [] (b ++ encN (zig l.length) ++ ((l.take k).map reportB).flatten) ⟨fun _ => rfl,fun _ => rfl,fun _ => rfl⟩ hsa (by simp only [List.length_append];omega)) rfl ?_
  refine Dg Tryz.func112 rfl ?_;simp only [go_sem,putBack,pp]
  (and_intros <;> try first|rfl|omega|(unfold I64;omega))
  refine ih (k + 1) _ (by omega) (by omega) ?_
  simp only [Int.natCast_add,Int.natCast_one,Yf,Ye,Yd,pp,bytesA,List.take_add_one,ha,Option.toList_some,List.map_append,List.flatten_append,List.flatten_cons,List.flatten_nil,List.append_assoc]
  (refine Weak.of (by simp [hc0]) ?_ ?_ <;> (repeat' first|exact .refl _|exact .junk _|exact .nil|exact .nil _|exact .tok _ _ _|rfl|apply WkT.cons|apply WkH.cons|apply LeB.same|apply LeB.box|apply Le1L.cons|apply Le.agg|apply Le.one))
  all_goals simp [AV.bel,ABlk.bel,belL,hcs.1]
 ·obtain rfl : k = l.length := by omega
  have hkk : ¬ (l.length : Int) < l.length := by omega
  rw [List.take_length]
  refine Rg Tryz.func112 ?_;simp only [go_sem,hkk,pp,↓alt_f]
  rw [show b ++ rpsB l = b ++ encN (zig l.length) ++ (l.map reportB).flatten by unfold rpsB;simp]
  (refine ⟨by (repeat' first|exact .refl _|apply LeR.tup|apply Le.agg|constructor),?_⟩;(repeat' (first|exact WkH.nil _|exact Le.refl _|exact Le1.refl _|exact Le1L.nil|rfl|apply WkH.cons|apply LeB.box|apply Le1L.cons|apply Le.one)))
structure Ltr where
 kind : Int
 frm : Int
 slot : Int
 view : Int
 value : Bytes
 cert : List Rp
 vote : Acc
 proof : List Acc
 r : Rp
 sum : Bytes
 o : Ord
 x : Rpl
def sumC (s : Bytes) : List AV := s.map fun c => .int .u8 c.toNat
def ordC (q : Ord) : List AV := [.int .i64 q.a,.int .i64 q.b,.int .i64 q.kind,.str q.s,.str q.t,.int .i64 q.x,.int .i64 q.y,.int .i64 q.z]
def rplC (q : Rpl) : List AV := [.int .i64 q.a,.int .i64 q.b,.int .i64 q.e,.str q.s,.int .i64 q.x,textsA q.l]
def letT (l : Ltr) : List AV := [.int .i64 l.frm,.int .i64 l.slot,.int .i64 l.view,.str l.value,rpsA l.cert] ++ (accC l.vote ++ (votesA l.proof :: (rpC l.r ++ (sumC l.sum ++ (ordC l.o ++ rplC l.x)))))
def letC (l : Ltr) : List AV := .int .i64 l.kind :: letT l
def OkP (N : Nat) (p : Nat × AV × Bytes) : Prop := p.2.1.bel 1 = true ∧ p.2.1.among [0] = true ∧ p.2.1.ren [0] = p.2.1 ∧ ∃ g,MethodAt Tryz.prog p.1 "consistory/wire.tell" g ∧ ∀ b : Bytes,b.length ≤ N → BSpec Tryz.prog g [p.2.1,.ptr 0 0] [pp b false 0] [pp (b ++ p.2.2) false 0] (.tup [])
def pieces (L : List (Nat × AV × Bytes)) : List (Nat × AV) := L.map fun p => (p.1,p.2.1)
def bytesP (L : List (Nat × AV × Bytes)) : Bytes := (L.map fun p => p.2.2).flatten
theorem parts_p (N : Nat) (L : List (Nat × AV × Bytes)) (b : Bytes) (hl : L.length ≤ 1000) (hb : b.length + (bytesP L).length ≤ N) (h : ∀ p ∈ L,OkP N p) : BSpec Tryz.prog 113 [.psl 1 ((pieces L).map partC),.ptr 0 0] [pp b false 0] [pp (b ++ bytesP L) false 0] (.tup []) := by
 have key := parts_w (pieces L) (fun k => b ++ bytesP (L.take k)) (by simpa [pieces] using hl) fun k t v hk => by
  unfold pieces at hk
  rw [List.getElem?_map,Option.map_eq_some_iff] at hk
  obtain ⟨p,hp,e⟩ := hk
  simp only [Prod.mk.injEq] at e
  obtain ⟨rfl,rfl⟩ := e
  obtain ⟨h1,h2,h3,g,h4,h5⟩ := h p (List.mem_of_getElem? hp)
  refine ⟨h1,h2,h3,g,h4,?_⟩
  have ht : bytesP (L.take (k + 1)) = bytesP (L.take k) ++ p.2.2 := by unfold bytesP;rw [List.take_add_one,hp];simp
  have hd : bytesP L = bytesP (L.take k) ++ bytesP (L.drop k) := by
   have := List.take_append_drop k L
   unfold bytesP
   rw [← List.flatten_append,← List.map_append,this]
  show BSpec _ _ _ [pp (b ++ bytesP (L.take k)) false 0] [pp (b ++ bytesP (L.take (k + 1))) false 0] _
  rw [ht,← List.append_assoc]
  refine h5 _ ?_
  rw [hd,List.length_append] at hb
  rw [List.length_append];omega
 have e : (pieces L).length = L.length := by simp [pieces]
 rw [e,List.take_length] at key
 simpa [bytesP] using key
theorem numP {n : Int} {cs : List AV} (h : I64 n) (hcs : Pln cs) : OkP 500000 (87,.agg [.rptr (.int .i64 n :: cs)],encN (zig n)) :=
 have p : Pln (.int .i64 n :: cs) := .cons (fun _ => rfl) (fun _ => rfl) (fun _ => rfl) hcs
 ⟨p.part.1,p.part.2.1,p.part.2.2,_,meth_number,fun b hb => number_w b n cs (by omega) h⟩
theorem textP {s : Bytes} {cs : List AV} (h : s.length ≤ 100000) (hcs : Pln cs) : OkP 500000 (119,.agg [.rptr (.str s :: cs)],encT s) :=
 have p : Pln (.str s :: cs) := .cons (fun _ => rfl) (fun _ => rfl) (fun _ => rfl) hcs
 ⟨p.part.1,p.part.2.1,p.part.2.2,_,meth_text,fun b hb => text_w b s cs (by omega) (by omega)⟩
theorem Pln.nil : Pln [] := ⟨fun _ => rfl,fun _ => rfl,fun _ => rfl⟩
theorem Pln.app : ∀ {xs bs : List AV},Pln xs → Pln bs → Pln (xs ++ bs)
 | [],bs,_,h => h
 | a :: xs,bs,h1,h2 => by
  have h3 : Pln xs := ⟨fun n => by have := h1.1 n;simp only [belL,Bool.and_eq_true] at this;exact this.2,fun js => by have := h1.2.1 js;simp only [amongL,Bool.and_eq_true] at this;exact this.2,fun js => by have := h1.2.2 js;simp only [renL,List.cons.injEq] at this;exact this.2⟩
  have := Pln.app h3 h2
  exact .cons (fun n => by have := h1.1 n;simp only [belL,Bool.and_eq_true] at this;exact this.1) (fun js => by have := h1.2.1 js;simp only [amongL,Bool.and_eq_true] at this;exact this.1) (fun js => by have := h1.2.2 js;simp only [renL,List.cons.injEq] at this;exact this.1) this
theorem Pln.tail {a : AV} {cs : List AV} (h1 : Pln (a :: cs)) : Pln cs := ⟨fun n => by have := h1.1 n;simp only [belL,Bool.and_eq_true] at this;exact this.2,fun js => by have := h1.2.1 js;simp only [amongL,Bool.and_eq_true] at this;exact this.2,fun js => by have := h1.2.2 js;simp only [renL,List.cons.injEq] at this;exact this.2⟩
theorem Pln.drop : ∀ (n : Nat) {cs : List AV},Pln cs → Pln (cs.drop n)
 | 0,_,h => h
 | n + 1,[],h => h
 | n + 1,a :: cs,h => Pln.drop n h.tail
theorem Pln.sum : ∀ s : Bytes,Pln (sumC s)
 | [] => .nil
 | c :: s => .cons (fun _ => rfl) (fun _ => rfl) (fun _ => rfl) (Pln.sum s)
theorem Pln.ox (o : Ord) (x : Rpl) : Pln (ordC o ++ rplC x) := ⟨fun _ => rfl,fun _ => rfl,fun _ => rfl⟩
theorem Pln.rp (r : Rp) : Pln (rpC r) := ⟨fun _ => rfl,fun _ => rfl,fun _ => rfl⟩
theorem Pln.acc (a : Acc) : Pln (accC a) := ⟨fun _ => rfl,fun _ => rfl,fun _ => rfl⟩
theorem Pln.d10 (l : Ltr) : Pln (sumC l.sum ++ (ordC l.o ++ rplC l.x)) := (Pln.sum _).app (Pln.ox _ _)
theorem Pln.d9 (l : Ltr) : Pln (rpC l.r ++ (sumC l.sum ++ (ordC l.o ++ rplC l.x))) := (Pln.rp _).app (Pln.d10 l)
theorem Pln.d8 (l : Ltr) : Pln (votesA l.proof :: (rpC l.r ++ (sumC l.sum ++ (ordC l.o ++ rplC l.x)))) := .cons (fun _ => rfl) (fun _ => rfl) (fun _ => rfl) (Pln.d9 l)
theorem Pln.d5 (l : Ltr) : Pln (accC l.vote ++ (votesA l.proof :: (rpC l.r ++ (sumC l.sum ++ (ordC l.o ++ rplC l.x))))) := (Pln.acc _).app (Pln.d8 l)
theorem Pln.let_ (l : Ltr) : Pln (letT l) := Pln.app (xs := [.int .i64 l.frm,.int .i64 l.slot,.int .i64 l.view,.str l.value,rpsA l.cert]) ⟨fun _ => rfl,fun _ => rfl,fun _ => rfl⟩ (Pln.d5 l)
theorem letparts_1 (cs : List AV) : ASpec Tryz.prog 42 [.rptr (.int .i64 1 :: cs)] (.iface 125 (.psl 1 [[.iface 87 (.agg [.rptr cs])],[.iface 87 (.agg [.rptr (cs.drop 1)])],[.iface 87 (.agg [.rptr (cs.drop 2)])],[.iface 119 (.agg [.rptr (cs.drop 3)])],[.iface 123 (.agg [.rptr (cs.drop 4),.fn (.func 72) [] []])]])) := by
 refine ⟨⟨_,Tryz.func42,by kernel_rfl,rfl⟩,Sg Tryz.func42 rfl fun c0 hc0 => ?_⟩;simp only [go_sem,↓alt_t,Nat.reduceAdd,Nat.reduceLeDiff,Nat.reduceMul,Nat.reduceBEq,Nat.reduceLT,reduceCtorEq,Nat.reduceSub]
 (and_intros <;> try first|rfl|omega|(unfold I64;omega))
 all_goals (first|rfl|(repeat' first|exact .refl _|apply LeR.tup|apply Le.agg|constructor))
theorem letparts_2 (cs : List AV) (a : Acc) (ds : List AV) (hd : cs.drop 5 = .int .i64 a.by_ :: .int .i64 a.view :: .str a.value :: ds) (hds : Pln ds) : ASpec Tryz.prog 42 [.rptr (.int .i64 2 :: cs)] (.iface 125 (.psl 1 [[.iface 87 (.agg [.rptr (cs.drop 1)])],[.iface 125 (.psl 1 ((voteL a ds).map partC))]])) := by
 refine ⟨⟨_,Tryz.func42,by kernel_rfl,rfl⟩,Sg Tryz.func42 rfl fun c0 hc0 => ?_⟩;simp only [go_sem,hd,↓alt_t,↓alt_f,Int.reduceEq,Nat.reduceAdd,Nat.reduceLeDiff,reduceCtorEq,Nat.reduceSub]
 (and_intros <;> try first|rfl|omega|(unfold I64;omega))
 refine DOps.pure rfl .free rfl rfl (vote_spec a ds) (by simp only [go_sem];(repeat' first|exact .refl _|apply LeR.tup|apply Le.agg|constructor)) (by simp [belL,AV.bel,hds.1]) (by simp [AV.bel,belL,belLL,partC,voteL,hds.1]) ?_
 refine Dg Tryz.func42 rfl ?_;simp only [go_sem,Nat.reduceAdd,Nat.reduceLeDiff,Nat.reduceMul,Nat.reduceBEq,Nat.reduceLT]
 (and_intros <;> try first|rfl|omega|(unfold I64;omega))
 all_goals (first|rfl|(repeat' first|exact .refl _|apply LeR.tup|apply Le.agg|constructor))
theorem letparts_3 (cs : List AV) (p : List Acc) (ds : List AV) (hd : cs.drop 8 = votesA p :: ds) (hds : Pln ds) : ASpec Tryz.prog 42 [.rptr (.int .i64 3 :: cs)] (.iface 125 (.psl 1 [[.iface 87 (.agg [.rptr cs])],[.iface 87 (.agg [.rptr (cs.drop 1)])],[.iface 168 (.agg [.rptr (votesA p :: ds),.fn (.func 73) [] []])]])) := by
 refine ⟨⟨_,Tryz.func42,by kernel_rfl,rfl⟩,Sg Tryz.func42 rfl fun c0 hc0 => ?_⟩;simp only [go_sem,hd,↓alt_t,↓alt_f,Int.reduceEq,Nat.reduceAdd,Nat.reduceLeDiff,reduceCtorEq,Nat.reduceSub]
 (and_intros <;> try first|rfl|omega|(unfold I64;omega))
 refine DOps.pure rfl .free rfl rfl (votes_spec p ds) (by simp only [go_sem];(repeat' first|exact .refl _|apply LeR.tup|apply Le.agg|constructor)) (by simp [belL,AV.bel,votesA,hds.1]) (by simp [AV.bel,belL,votesA,hds.1]) ?_
 refine Dg Tryz.func42 rfl ?_;simp only [go_sem,Nat.reduceAdd,Nat.reduceLeDiff,Nat.reduceMul,Nat.reduceBEq,Nat.reduceLT]
 (and_intros <;> try first|rfl|omega|(unfold I64;omega))
 all_goals (first|rfl|(repeat' first|exact .refl _|apply LeR.tup|apply Le.agg|constructor))
theorem letparts_4 (cs : List AV) (r : Rp) (ds : List AV) (hd : cs.drop 9 = .int .i64 r.by_ :: .int .i64 r.for_ :: .bool r.has :: .int .i64 r.view :: .str r.value :: votesA r.proof :: ds) (hds : Pln ds) : ASpec Tryz.prog 42 [.rptr (.int .i64 4 :: cs)] (.iface 125 (.psl 1 [[.iface 87 (.agg [.rptr (cs.drop 1)])],[.iface 125 (.psl 1 ((reportL r ds).map partC))]])) := by
 refine ⟨⟨_,Tryz.func42,by kernel_rfl,rfl⟩,Sg Tryz.func42 rfl fun c0 hc0 => ?_⟩;simp only [go_sem,hd,↓alt_t,↓alt_f,Int.reduceEq,Nat.reduceAdd,Nat.reduceLeDiff,reduceCtorEq,Nat.reduceSub]
 (and_intros <;> try first|rfl|omega|(unfold I64;omega))
 refine DOps.pure rfl .free rfl rfl (report_spec r ds hds) (by simp only [go_sem];(repeat' first|exact .refl _|apply LeR.tup|apply Le.agg|constructor)) (by simp [belL,AV.bel,votesA,hds.1]) (by simp [AV.bel,belL,belLL,partC,reportL,votesA,hds.1]) ?_
 refine Dg Tryz.func42 rfl ?_;simp only [go_sem,Nat.reduceAdd,Nat.reduceLeDiff,Nat.reduceMul,Nat.reduceBEq,Nat.reduceLT]
 (and_intros <;> try first|rfl|omega|(unfold I64;omega))
 all_goals (first|rfl|(repeat' first|exact .refl _|apply LeR.tup|apply Le.agg|constructor))
theorem letparts_5 (cs : List AV) : ASpec Tryz.prog 42 [.rptr (.int .i64 5 :: cs)] (.iface 125 (.psl 1 [[.iface 87 (.agg [.rptr cs])],[.iface 87 (.agg [.rptr (cs.drop 1)])],[.iface 119 (.agg [.rptr (cs.drop 3)])]])) := by
 refine ⟨⟨_,Tryz.func42,by kernel_rfl,rfl⟩,Sg Tryz.func42 rfl fun c0 hc0 => ?_⟩;simp only [go_sem,↓alt_t,↓alt_f,Int.reduceEq,Nat.reduceAdd,Nat.reduceLeDiff,Nat.reduceMul,Nat.reduceBEq,Nat.reduceLT,reduceCtorEq,Nat.reduceSub]
 (and_intros <;> try first|rfl|omega|(unfold I64;omega))
 all_goals (first|rfl|(repeat' first|exact .refl _|apply LeR.tup|apply Le.agg|constructor))
theorem letparts_6 (cs : List AV) : ASpec Tryz.prog 42 [.rptr (.int .i64 6 :: cs)] (.iface 125 (.psl 1 [[.iface 87 (.agg [.rptr cs])],[.iface 87 (.agg [.rptr (cs.drop 2)])]])) := by
 refine ⟨⟨_,Tryz.func42,by kernel_rfl,rfl⟩,Sg Tryz.func42 rfl fun c0 hc0 => ?_⟩;simp only [go_sem,↓alt_t,↓alt_f,Int.reduceEq,Nat.reduceAdd,Nat.reduceLeDiff,Nat.reduceMul,Nat.reduceBEq,Nat.reduceLT,reduceCtorEq,Nat.reduceSub]
 (and_intros <;> try first|rfl|omega|(unfold I64;omega))
 all_goals (first|rfl|(repeat' first|exact .refl _|apply LeR.tup|apply Le.agg|constructor))
theorem letparts_7 (cs : List AV) : ASpec Tryz.prog 42 [.rptr (.int .i64 7 :: cs)] (.iface 125 (.psl 1 [[.iface 87 (.agg [.rptr cs])],[.iface 87 (.agg [.rptr (cs.drop 1)])],[.iface 133 (.agg [.rptr (cs.drop 15)])]])) := by
 refine ⟨⟨_,Tryz.func42,by kernel_rfl,rfl⟩,Sg Tryz.func42 rfl fun c0 hc0 => ?_⟩;simp only [go_sem,↓alt_t,↓alt_f,Int.reduceEq,Nat.reduceAdd,Nat.reduceLeDiff,Nat.reduceMul,Nat.reduceBEq,Nat.reduceLT,reduceCtorEq,Nat.reduceSub]
 (and_intros <;> try first|rfl|omega|(unfold I64;omega))
 all_goals (first|rfl|(repeat' first|exact .refl _|apply LeR.tup|apply Le.agg|constructor))
theorem letparts_8 (cs : List AV) : ASpec Tryz.prog 42 [.rptr (.int .i64 8 :: cs)] (.iface 136 (.agg [.rptr (cs.drop 47)])) := by
 refine ⟨⟨_,Tryz.func42,by kernel_rfl,rfl⟩,Sg Tryz.func42 rfl fun c0 hc0 => ?_⟩;simp only [go_sem,↓alt_t,↓alt_f,Int.reduceEq,Nat.reduceAdd,Nat.reduceLeDiff,reduceCtorEq,Nat.reduceSub]
 (and_intros <;> try first|rfl|omega|(unfold I64;omega))
 all_goals (first|rfl|(repeat' first|exact .refl _|apply LeR.tup|apply Le.agg|constructor))
theorem letparts_9 (cs : List AV) : ASpec Tryz.prog 42 [.rptr (.int .i64 9 :: cs)] (.iface 125 (.psl 1 [[.iface 87 (.agg [.rptr cs])],[.iface 139 (.agg [.rptr (cs.drop 55)])]])) := by
 refine ⟨⟨_,Tryz.func42,by kernel_rfl,rfl⟩,Sg Tryz.func42 rfl fun c0 hc0 => ?_⟩;simp only [go_sem,↓alt_t,↓alt_f,Int.reduceEq,Nat.reduceAdd,Nat.reduceLeDiff,Nat.reduceMul,Nat.reduceBEq,Nat.reduceLT,reduceCtorEq,Nat.reduceSub]
 (and_intros <;> try first|rfl|omega|(unfold I64;omega))
 all_goals (first|rfl|(repeat' first|exact .refl _|apply LeR.tup|apply Le.agg|constructor))
theorem letparts_10 (cs : List AV) : ASpec Tryz.prog 42 [.rptr (.int .i64 10 :: cs)] (.iface 125 (.psl 1 [[.iface 87 (.agg [.rptr cs])],[.iface 87 (.agg [.rptr (cs.drop 1)])]])) := by
 refine ⟨⟨_,Tryz.func42,by kernel_rfl,rfl⟩,Sg Tryz.func42 rfl fun c0 hc0 => ?_⟩;simp only [go_sem,↓alt_t,↓alt_f,Int.reduceEq,Nat.reduceAdd,Nat.reduceLeDiff,Nat.reduceMul,Nat.reduceBEq,Nat.reduceLT,reduceCtorEq,Nat.reduceSub]
 (and_intros <;> try first|rfl|omega|(unfold I64;omega))
 all_goals (first|rfl|(repeat' first|exact .refl _|apply LeR.tup|apply Le.agg|constructor))
/-- The first number,on a new paper. -/
theorem number_wn (n : Int) (cs : List AV) (hn : I64 n) : BSpec Tryz.prog 41 [.agg [.rptr (.int .i64 n :: cs)],.ptr 0 0] [.box [.nils,.bool false,.int .i64 0]] [pp (encN (zig n)) false 0] (.tup []) := by
 have hi := (int_spec [] n (by decide) hn).spec
 simp only [Y3] at hi
 refine ⟨⟨_,Tryz.func41,by kernel_rfl,rfl⟩,Sg Tryz.func41 rfl fun c0 hc0 => ?_⟩;simp only [go_sem,pp,↓alt_f,Nat.reduceAdd,Nat.reduceLeDiff,Nat.reduceSub]
 refine ⟨rfl,?_⟩
 refine DOps.pure rfl .free rfl rfl (hi) (by simp only [go_sem,bytesA];(repeat' first|exact .refl _|apply LeR.tup|apply Le.agg|constructor)) rfl rfl ?_
 refine Dg Tryz.func41 rfl ?_;simp only [go_sem,bytesA,Nat.reduceAdd,Nat.reduceLeDiff]
 refine ⟨rfl,?_⟩
 (refine ⟨by (repeat' first|exact .refl _|apply LeR.tup|apply Le.agg|constructor),?_⟩;(repeat' (first|exact WkH.nil _|exact Le.refl _|exact Le1.refl _|exact Le1L.nil|rfl|apply WkH.cons|apply LeB.box|apply Le1L.cons|apply Le.one)))
theorem let_drop55 (l : Ltr) (h : l.sum.length = 32) : (letT l).drop 55 = rplC l.x := by
 have e : letT l = ([.int .i64 l.frm,.int .i64 l.slot,.int .i64 l.view,.str l.value,rpsA l.cert] ++ accC l.vote ++ [votesA l.proof] ++ rpC l.r ++ sumC l.sum ++ ordC l.o) ++ rplC l.x := by simp [letT]
 rw [e]
 exact List.drop_left' (by simp [accC,rpC,sumC,ordC,h])
theorem let_drop47 (l : Ltr) (h : l.sum.length = 32) : (letT l).drop 47 = ordC l.o ++ rplC l.x := by
 have e : letT l = ([.int .i64 l.frm,.int .i64 l.slot,.int .i64 l.view,.str l.value,rpsA l.cert] ++ accC l.vote ++ [votesA l.proof] ++ rpC l.r ++ sumC l.sum) ++ (ordC l.o ++ rplC l.x) := by simp [letT]
 rw [e]
 exact List.drop_left' (by simp [accC,rpC,sumC,h])
def wrB (l : Ltr) : Bytes :=
 if l.kind = 1 then encN (zig l.frm) ++ encN (zig l.slot) ++ encN (zig l.view) ++ encT l.value ++ rpsB l.cert
 else if l.kind = 2 then encN (zig l.slot) ++ voteB l.vote
 else if l.kind = 3 then encN (zig l.frm) ++ encN (zig l.slot) ++ votesB l.proof
 else if l.kind = 4 then encN (zig l.slot) ++ reportB l.r
 else if l.kind = 5 then encN (zig l.frm) ++ encN (zig l.slot) ++ encT l.value
 else if l.kind = 6 then encN (zig l.frm) ++ encN (zig l.view)
 else if l.kind = 7 then encN (zig l.frm) ++ encN (zig l.slot) ++ l.sum
 else if l.kind = 8 then putO l.o
 else if l.kind = 9 then encN (zig l.frm) ++ putR l.x
 else encN (zig l.frm) ++ encN (zig l.slot)
def wrL (l : Ltr) : Bytes := encN (zig l.kind) ++ wrB l
def smL (l : Ltr) : Prop := I64 l.frm ∧ I64 l.slot ∧ I64 l.view ∧ l.value.length ≤ 6000 ∧ (∀ r ∈ l.cert,smRp r) ∧ l.cert.length ≤ 30 ∧ totRs l.cert ≤ 200000 ∧ smA l.vote ∧ (∀ a ∈ l.proof,smA a) ∧ l.proof.length ≤ 30 ∧ totA l.proof ≤ 190000 ∧ smRp l.r ∧ totR l.r ≤ 190000 ∧ l.sum.length = 32 ∧ smO l.o ∧ smR l.x ∧ l.x.s.length ≤ 20000 ∧ tot l.x.l ≤ 20000 ∧ l.vote.value.length ≤ 20000
theorem rowAV {a : AV} {cs : List AV} {f : FuncId} (h1 : ∀ n,a.bel n = true) (h2 : a.among [0] = true) (h3 : a.ren [0] = a) (h : Pln cs) : (AV.agg [.rptr (a :: cs),.fn (.func f) [] []]).bel 1 = true ∧ (AV.agg [.rptr (a :: cs),.fn (.func f) [] []]).among [0] = true ∧ (AV.agg [.rptr (a :: cs),.fn (.func f) [] []]).ren [0] = .agg [.rptr (a :: cs),.fn (.func f) [] []] :=
 ⟨by simp [AV.bel,belL,h1,h.1],by simp [AV.among,amongL,h2,h.2.1],by simp [AV.ren,renL,h3,h.2.2]⟩
theorem voteAV {a : Acc} {cs : List AV} (h : Pln cs) : (AV.psl 1 ((voteL a cs).map partC)).bel 1 = true ∧ (AV.psl 1 ((voteL a cs).map partC)).among [0] = true ∧ (AV.psl 1 ((voteL a cs).map partC)).ren [0] = .psl 1 ((voteL a cs).map partC) :=
 ⟨by simp [AV.bel,belL,belLL,partC,voteL,h.1],by simp [AV.among,amongL,amongLL,partC,voteL,h.2.1],by simp [AV.ren,renL,renLL,partC,voteL,h.2.2]⟩
theorem reportAV {r : Rp} {cs : List AV} (h : Pln cs) : (AV.psl 1 ((reportL r cs).map partC)).bel 1 = true ∧ (AV.psl 1 ((reportL r cs).map partC)).among [0] = true ∧ (AV.psl 1 ((reportL r cs).map partC)).ren [0] = .psl 1 ((reportL r cs).map partC) :=
 ⟨by simp [AV.bel,belL,belLL,partC,reportL,votesA,h.1],by simp [AV.among,amongL,amongLL,partC,reportL,votesA,h.2.1],by simp [AV.ren,renL,renLL,partC,reportL,votesA,h.2.2]⟩
theorem certP (l : Ltr) (h5 : ∀ r ∈ l.cert,smRp r) (h6 : l.cert.length ≤ 30) (h7 : totRs l.cert ≤ 200000) : OkP 300000 (123,.agg [.rptr (rpsA l.cert :: (accC l.vote ++ (votesA l.proof :: (rpC l.r ++ (sumC l.sum ++ (ordC l.o ++ rplC l.x)))))),.fn (.func 72) [] []],rpsB l.cert) := by
 have q := Pln.d5 l
 have av := rowAV (a := rpsA l.cert) (f := 72) (fun _ => rfl) rfl rfl q
 exact ⟨av.1,av.2.1,av.2.2,_,meth_rowR,fun b hb => rowR_w l.cert _ b q h5 h6 (by omega)⟩
theorem voteP (l : Ltr) (h8 : smA l.vote) : OkP 300000 (125,.psl 1 ((voteL l.vote (votesA l.proof :: (rpC l.r ++ (sumC l.sum ++ (ordC l.o ++ rplC l.x))))).map partC),voteB l.vote) := by
 have q := Pln.d8 l
 have av := voteAV (a := l.vote) q
 exact ⟨av.1,av.2.1,av.2.2,_,meth_parts,fun b hb => vote_w l.vote _ b q h8.1 h8.2.1 (by have := h8.2.2;omega)⟩
theorem proofP (l : Ltr) (h9 : ∀ a ∈ l.proof,smA a) (h10 : l.proof.length ≤ 30) (h11 : totA l.proof ≤ 190000) : OkP 300000 (168,.agg [.rptr (votesA l.proof :: (rpC l.r ++ (sumC l.sum ++ (ordC l.o ++ rplC l.x)))),.fn (.func 73) [] []],votesB l.proof) := by
 have q := Pln.d9 l
 have av := rowAV (a := votesA l.proof) (f := 73) (fun _ => rfl) rfl rfl q
 exact ⟨av.1,av.2.1,av.2.2,_,meth_rowA,fun b hb => rowA_w l.proof _ b q h9 h10 (by omega)⟩
theorem rP (l : Ltr) (h12 : smRp l.r) (h13 : totR l.r ≤ 190000) : OkP 300000 (125,.psl 1 ((reportL l.r (sumC l.sum ++ (ordC l.o ++ rplC l.x))).map partC),reportB l.r) := by
 have q := Pln.d10 l
 have av := reportAV (r := l.r) q
 exact ⟨av.1,av.2.1,av.2.2,_,meth_parts,fun b hb => report_w l.r _ b q h12 (by omega)⟩
theorem xP (l : Ltr) (h16 : smR l.x) : OkP 90000 (139,.agg [.rptr (rplC l.x)],putR l.x) :=
 ⟨rfl,rfl,rfl,_,meth_replies,fun b hb => replies_w b l.x [] (by omega) h16⟩
theorem OkP.mono {N M : Nat} {p : Nat × AV × Bytes} (h : OkP N p) (hM : M ≤ N) : OkP M p := ⟨h.1,h.2.1,h.2.2.1,by obtain ⟨g,h1,h2⟩ := h.2.2.2;exact ⟨g,h1,fun b hb => h2 b (by omega)⟩⟩
theorem written_1 (l : Ltr) (hk : l.kind = 1) (h : smL l) : ASpec Tryz.prog 16 [.agg (letC l)] (bytesA (wrL l)) := by
 obtain ⟨h1,h2,h3,h4,h5,h6,h7,h8,h9,h10,h11,h12,h13,h14,h15,h16,h17,h18,h19⟩ := h
 have q4 : Pln (rpsA l.cert :: (accC l.vote ++ (votesA l.proof :: (rpC l.r ++ (sumC l.sum ++ (ordC l.o ++ rplC l.x)))))) := .cons (fun _ => rfl) (fun _ => rfl) (fun _ => rfl) (Pln.d5 l)
 have q3 : Pln (.str l.value :: rpsA l.cert :: (accC l.vote ++ (votesA l.proof :: (rpC l.r ++ (sumC l.sum ++ (ordC l.o ++ rplC l.x)))))) := .cons (fun _ => rfl) (fun _ => rfl) (fun _ => rfl) q4
 have q2 : Pln (.int .i64 l.view :: .str l.value :: rpsA l.cert :: (accC l.vote ++ (votesA l.proof :: (rpC l.r ++ (sumC l.sum ++ (ordC l.o ++ rplC l.x)))))) := .cons (fun _ => rfl) (fun _ => rfl) (fun _ => rfl) q3
 have q1 : Pln (.int .i64 l.slot :: .int .i64 l.view :: .str l.value :: rpsA l.cert :: (accC l.vote ++ (votesA l.proof :: (rpC l.r ++ (sumC l.sum ++ (ordC l.o ++ rplC l.x)))))) := .cons (fun _ => rfl) (fun _ => rfl) (fun _ => rfl) q2
 have hn := number_wn 1 (letT l) (by unfold I64;omega)
 have hp := letparts_1 (letT l)
 skip
 have hlen : (bytesP [(87,.agg [.rptr (.int .i64 l.frm :: (.int .i64 l.slot :: .int .i64 l.view :: .str l.value :: rpsA l.cert :: (accC l.vote ++ (votesA l.proof :: (rpC l.r ++ (sumC l.sum ++ (ordC l.o ++ rplC l.x)))))))],encN (zig l.frm)),(87,.agg [.rptr (.int .i64 l.slot :: .int .i64 l.view :: .str l.value :: rpsA l.cert :: (accC l.vote ++ (votesA l.proof :: (rpC l.r ++ (sumC l.sum ++ (ordC l.o ++ rplC l.x))))))],encN (zig l.slot)),(87,.agg [.rptr (.int .i64 l.view :: .str l.value :: rpsA l.cert :: (accC l.vote ++ (votesA l.proof :: (rpC l.r ++ (sumC l.sum ++ (ordC l.o ++ rplC l.x))))))],encN (zig l.view)),(119,.agg [.rptr (.str l.value :: rpsA l.cert :: (accC l.vote ++ (votesA l.proof :: (rpC l.r ++ (sumC l.sum ++ (ordC l.o ++ rplC l.x))))))],encT l.value),(123,.agg [.rptr (rpsA l.cert :: (accC l.vote ++ (votesA l.proof :: (rpC l.r ++ (sumC l.sum ++ (ordC l.o ++ rplC l.x)))))),.fn (.func 72) [] []],rpsB l.cert)]).length ≤ 290000 := by
  have e1 := enc9 _ h1
  have e2 := enc9 _ h2
  have e3 := enc9 _ h3
  have e4 := encT_le l.value (by omega)
  have e5 := enc9 l.cert.length (by unfold I64;omega)
  have e6 := rpsB_take l.cert h5
  have e7 : (rpsB l.cert).length = (encN (zig l.cert.length)).length + ((l.cert.map reportB).flatten).length := by unfold rpsB;simp only [List.length_append]
  simp only [bytesP,Yf,Ye,List.flatten_cons,List.flatten_nil,List.length_append,Y9]
  omega
 have ht := parts_p 300000 [(87,.agg [.rptr (.int .i64 l.frm :: (.int .i64 l.slot :: .int .i64 l.view :: .str l.value :: rpsA l.cert :: (accC l.vote ++ (votesA l.proof :: (rpC l.r ++ (sumC l.sum ++ (ordC l.o ++ rplC l.x)))))))],encN (zig l.frm)),(87,.agg [.rptr (.int .i64 l.slot :: .int .i64 l.view :: .str l.value :: rpsA l.cert :: (accC l.vote ++ (votesA l.proof :: (rpC l.r ++ (sumC l.sum ++ (ordC l.o ++ rplC l.x))))))],encN (zig l.slot)),(87,.agg [.rptr (.int .i64 l.view :: .str l.value :: rpsA l.cert :: (accC l.vote ++ (votesA l.proof :: (rpC l.r ++ (sumC l.sum ++ (ordC l.o ++ rplC l.x))))))],encN (zig l.view)),(119,.agg [.rptr (.str l.value :: rpsA l.cert :: (accC l.vote ++ (votesA l.proof :: (rpC l.r ++ (sumC l.sum ++ (ordC l.o ++ rplC l.x))))))],encT l.value),(123,.agg [.rptr (rpsA l.cert :: (accC l.vote ++ (votesA l.proof :: (rpC l.r ++ (sumC l.sum ++ (ordC l.o ++ rplC l.x)))))),.fn (.func 72) [] []],rpsB l.cert)] (encN (zig 1)) (by simp) (by have := enc9 1 (by unfold I64;omega);omega) (by
  intro p hp
  simp only [List.mem_cons,List.not_mem_nil,or_false] at hp
  rcases hp with rfl|rfl|rfl|rfl|rfl
  ·exact OkP.mono (numP h1 q1) (by decide)
  ·exact OkP.mono (numP h2 q2) (by decide)
  ·exact OkP.mono (numP h3 q3) (by decide)
  ·exact OkP.mono (textP (by omega) q4) (by decide)
  ·exact OkP.mono (certP l h5 h6 h7) (by decide)
 )
 have hb : encN (zig 1) ++ bytesP [(87,.agg [.rptr (.int .i64 l.frm :: (.int .i64 l.slot :: .int .i64 l.view :: .str l.value :: rpsA l.cert :: (accC l.vote ++ (votesA l.proof :: (rpC l.r ++ (sumC l.sum ++ (ordC l.o ++ rplC l.x)))))))],encN (zig l.frm)),(87,.agg [.rptr (.int .i64 l.slot :: .int .i64 l.view :: .str l.value :: rpsA l.cert :: (accC l.vote ++ (votesA l.proof :: (rpC l.r ++ (sumC l.sum ++ (ordC l.o ++ rplC l.x))))))],encN (zig l.slot)),(87,.agg [.rptr (.int .i64 l.view :: .str l.value :: rpsA l.cert :: (accC l.vote ++ (votesA l.proof :: (rpC l.r ++ (sumC l.sum ++ (ordC l.o ++ rplC l.x))))))],encN (zig l.view)),(119,.agg [.rptr (.str l.value :: rpsA l.cert :: (accC l.vote ++ (votesA l.proof :: (rpC l.r ++ (sumC l.sum ++ (ordC l.o ++ rplC l.x))))))],encT l.value),(123,.agg [.rptr (rpsA l.cert :: (accC l.vote ++ (votesA l.proof :: (rpC l.r ++ (sumC l.sum ++ (ordC l.o ++ rplC l.x)))))),.fn (.func 72) [] []],rpsB l.cert)] = wrL l := by unfold wrL wrB bytesP;rw [hk];simp
 rw [hb] at ht
 have hc : (.agg (letC l) : AV) = .agg (.int .i64 1 :: letT l) := by unfold letC;rw [hk]
 rw [hc]
 have hT := Pln.let_ l
 have hD : ∀ d n,belL n ((letT l).drop d) = true := fun d n => (hT.drop d).1 n
 have hA : ∀ d js,amongL js ((letT l).drop d) = true := fun d n => (hT.drop d).2.1 n
 have hR : ∀ d js,renL js ((letT l).drop d) = (letT l).drop d := fun d n => (hT.drop d).2.2 n
 have hD1 : belL 0 (letT l).tail = true := by have := hD 1 0;simpa using this
 have hA1 : amongL [1] (letT l).tail = true := by have := hA 1 [1];simpa using this
 have q9 := Pln.d9 l
 have q10 := Pln.d10 l
 skip
 refine ⟨⟨_,Tryz.func16,by kernel_rfl,rfl⟩,ACall.of Tryz.func16 rfl fun c0 hc0 => ?_⟩;simp only [Nat.reduceSub,go_sem];refine Run.god tab_ok follows_ok Tryz.func16 2 ?_;simp only [go_sem]
 refine Run.weak (Weak.freeze 1 0 _ rfl rfl) ?_
 refine Rg Tryz.func16 ?_;simp only [go_sem,Nat.reduceAdd,reduceCtorEq]
 refine Ops.callB .free rfl rfl (js := [1]) (by decide) (LentAll.cons rfl (LentB.box_ [.nils,.bool false,.int .i64 0] rfl) LentAll.nil) (lent1 (pp_lent _ _ _)) rfl (by simp [aev,amongL,AV.among,hT.2.1]) (by simp only [go_sem,cond_true,renL,AV.ren,hT.2.2,List.idxOf,List.findIdx,List.findIdx.go];exact LeL.cons (Le.refl _) (LeL.cons (Le.refl _) LeL.nil)) hn rfl ?_
 refine Og Tryz.func16 ?_;simp only [go_sem,putBack]
 refine Ops.pure .free rfl rfl hp (by simp only [go_sem];(repeat' first|exact .refl _|apply LeR.tup|apply Le.agg|constructor)) (by simp [belL,AV.bel,hT.1]) (by simp [AV.bel,belL,belLL,hD,hD1,hT.1]) ?_
 refine Og Tryz.func16 ?_;simp only [go_sem,Nat.reduceAdd]
 refine Ops.invokeB .free rfl rfl meth_parts (js := [1]) (by decide) (LentAll.cons rfl (pp_lent _ _ _) LentAll.nil) (lent1 (pp_lent _ _ _)) rfl (by simp [aev,amongL,amongLL,AV.among,hA,hA1,hT.2.1]) (by simp only [go_sem,votesA,cond_true,renL,renLL,AV.ren,hR,hT.2.2,List.idxOf,List.findIdx,List.findIdx.go];exact LeL.cons (Le.refl _) (LeL.cons (Le.refl _) LeL.nil)) ht rfl ?_
 refine Og Tryz.func16 ?_;simp only [go_sem,putBack,pp,Nat.reduceAdd,Nat.reduceLeDiff]
 (and_intros <;> try first|rfl|omega|(unfold I64;omega))
 all_goals (repeat' first|exact .refl _|apply LeR.tup|apply Le.agg|constructor)
theorem written_2 (l : Ltr) (hk : l.kind = 2) (h : smL l) : ASpec Tryz.prog 16 [.agg (letC l)] (bytesA (wrL l)) := by
 obtain ⟨h1,h2,h3,h4,h5,h6,h7,h8,h9,h10,h11,h12,h13,h14,h15,h16,h17,h18,h19⟩ := h
 have q4 : Pln (rpsA l.cert :: (accC l.vote ++ (votesA l.proof :: (rpC l.r ++ (sumC l.sum ++ (ordC l.o ++ rplC l.x)))))) := .cons (fun _ => rfl) (fun _ => rfl) (fun _ => rfl) (Pln.d5 l)
 have q3 : Pln (.str l.value :: rpsA l.cert :: (accC l.vote ++ (votesA l.proof :: (rpC l.r ++ (sumC l.sum ++ (ordC l.o ++ rplC l.x)))))) := .cons (fun _ => rfl) (fun _ => rfl) (fun _ => rfl) q4
 have q2 : Pln (.int .i64 l.view :: .str l.value :: rpsA l.cert :: (accC l.vote ++ (votesA l.proof :: (rpC l.r ++ (sumC l.sum ++ (ordC l.o ++ rplC l.x)))))) := .cons (fun _ => rfl) (fun _ => rfl) (fun _ => rfl) q3
 have q1 : Pln (.int .i64 l.slot :: .int .i64 l.view :: .str l.value :: rpsA l.cert :: (accC l.vote ++ (votesA l.proof :: (rpC l.r ++ (sumC l.sum ++ (ordC l.o ++ rplC l.x)))))) := .cons (fun _ => rfl) (fun _ => rfl) (fun _ => rfl) q2
 have hn := number_wn 2 (letT l) (by unfold I64;omega)
 have hp := letparts_2 (letT l) l.vote (votesA l.proof :: (rpC l.r ++ (sumC l.sum ++ (ordC l.o ++ rplC l.x)))) rfl (Pln.d8 l)
 skip
 have hlen : (bytesP [(87,.agg [.rptr (.int .i64 l.slot :: .int .i64 l.view :: .str l.value :: rpsA l.cert :: (accC l.vote ++ (votesA l.proof :: (rpC l.r ++ (sumC l.sum ++ (ordC l.o ++ rplC l.x))))))],encN (zig l.slot)),(125,.psl 1 ((voteL l.vote (votesA l.proof :: (rpC l.r ++ (sumC l.sum ++ (ordC l.o ++ rplC l.x))))).map partC),voteB l.vote)]).length ≤ 290000 := by
  have e1 := enc9 _ h1
  have e2 := enc9 _ h2
  have e3 := enc9 _ h3
  have e4 := voteB_le l.vote h8
  simp only [bytesP,Yf,Ye,List.flatten_cons,List.flatten_nil,List.length_append,Y9]
  omega
 have ht := parts_p 300000 [(87,.agg [.rptr (.int .i64 l.slot :: .int .i64 l.view :: .str l.value :: rpsA l.cert :: (accC l.vote ++ (votesA l.proof :: (rpC l.r ++ (sumC l.sum ++ (ordC l.o ++ rplC l.x))))))],encN (zig l.slot)),(125,.psl 1 ((voteL l.vote (votesA l.proof :: (rpC l.r ++ (sumC l.sum ++ (ordC l.o ++ rplC l.x))))).map partC),voteB l.vote)] (encN (zig 2)) (by simp) (by have := enc9 2 (by unfold I64;omega);omega) (by
  intro p hp
  simp only [List.mem_cons,List.not_mem_nil,or_false] at hp
  rcases hp with rfl|rfl
  ·exact OkP.mono (numP h2 q2) (by decide)
  ·exact OkP.mono (voteP l h8) (by decide)
 )
 have hb : encN (zig 2) ++ bytesP [(87,.agg [.rptr (.int .i64 l.slot :: .int .i64 l.view :: .str l.value :: rpsA l.cert :: (accC l.vote ++ (votesA l.proof :: (rpC l.r ++ (sumC l.sum ++ (ordC l.o ++ rplC l.x))))))],encN (zig l.slot)),(125,.psl 1 ((voteL l.vote (votesA l.proof :: (rpC l.r ++ (sumC l.sum ++ (ordC l.o ++ rplC l.x))))).map partC),voteB l.vote)] = wrL l := by unfold wrL wrB bytesP;rw [hk];simp
 rw [hb] at ht
 have hc : (.agg (letC l) : AV) = .agg (.int .i64 2 :: letT l) := by unfold letC;rw [hk]
 rw [hc]
 have hT := Pln.let_ l
 have hD : ∀ d n,belL n ((letT l).drop d) = true := fun d n => (hT.drop d).1 n
 have hA : ∀ d js,amongL js ((letT l).drop d) = true := fun d n => (hT.drop d).2.1 n
 have hR : ∀ d js,renL js ((letT l).drop d) = (letT l).drop d := fun d n => (hT.drop d).2.2 n
 have hD1 : belL 0 (letT l).tail = true := by have := hD 1 0;simpa using this
 have hA1 : amongL [1] (letT l).tail = true := by have := hA 1 [1];simpa using this
 have q9 := Pln.d9 l
 have q10 := Pln.d10 l
 have qq := Pln.d8 l
 refine ⟨⟨_,Tryz.func16,by kernel_rfl,rfl⟩,ACall.of Tryz.func16 rfl fun c0 hc0 => ?_⟩;simp only [Nat.reduceSub,go_sem];refine Run.god tab_ok follows_ok Tryz.func16 2 ?_;simp only [go_sem]
 refine Run.weak (Weak.freeze 1 0 _ rfl rfl) ?_
 refine Rg Tryz.func16 ?_;simp only [go_sem,Nat.reduceAdd,reduceCtorEq]
 refine Ops.callB .free rfl rfl (js := [1]) (by decide) (LentAll.cons rfl (LentB.box_ [.nils,.bool false,.int .i64 0] rfl) LentAll.nil) (lent1 (pp_lent _ _ _)) rfl (by simp [aev,amongL,AV.among,hT.2.1]) (by simp only [go_sem,cond_true,renL,AV.ren,hT.2.2,List.idxOf,List.findIdx,List.findIdx.go];exact LeL.cons (Le.refl _) (LeL.cons (Le.refl _) LeL.nil)) hn rfl ?_
 refine Og Tryz.func16 ?_;simp only [go_sem,putBack]
 refine Ops.pure .free rfl rfl hp (by simp only [go_sem];(repeat' first|exact .refl _|apply LeR.tup|apply Le.agg|constructor)) (by simp [belL,AV.bel,hT.1]) (by simp [AV.bel,belL,belLL,partC,voteL,votesA,hD1,q9.1]) ?_
 refine Og Tryz.func16 ?_;simp only [go_sem,Nat.reduceAdd]
 refine Ops.invokeB .free rfl rfl meth_parts (js := [1]) (by decide) (LentAll.cons rfl (pp_lent _ _ _) LentAll.nil) (lent1 (pp_lent _ _ _)) rfl (by simp [aev,amongL,amongLL,AV.among,partC,voteL,votesA,hA1,q9.2.1]) (by simp only [go_sem,partC,voteL,votesA,cond_true,renL,renLL,AV.ren,hR,q9.2.2,List.idxOf,List.findIdx,List.findIdx.go];exact LeL.cons (Le.refl _) (LeL.cons (Le.refl _) LeL.nil)) ht rfl ?_
 refine Og Tryz.func16 ?_;simp only [go_sem,putBack,pp,Nat.reduceAdd,Nat.reduceLeDiff]
 (and_intros <;> try first|rfl|omega|(unfold I64;omega))
 all_goals (repeat' first|exact .refl _|apply LeR.tup|apply Le.agg|constructor)
theorem written_3 (l : Ltr) (hk : l.kind = 3) (h : smL l) : ASpec Tryz.prog 16 [.agg (letC l)] (bytesA (wrL l)) := by
 obtain ⟨h1,h2,h3,h4,h5,h6,h7,h8,h9,h10,h11,h12,h13,h14,h15,h16,h17,h18,h19⟩ := h
 have q4 : Pln (rpsA l.cert :: (accC l.vote ++ (votesA l.proof :: (rpC l.r ++ (sumC l.sum ++ (ordC l.o ++ rplC l.x)))))) := .cons (fun _ => rfl) (fun _ => rfl) (fun _ => rfl) (Pln.d5 l)
 have q3 : Pln (.str l.value :: rpsA l.cert :: (accC l.vote ++ (votesA l.proof :: (rpC l.r ++ (sumC l.sum ++ (ordC l.o ++ rplC l.x)))))) := .cons (fun _ => rfl) (fun _ => rfl) (fun _ => rfl) q4
 have q2 : Pln (.int .i64 l.view :: .str l.value :: rpsA l.cert :: (accC l.vote ++ (votesA l.proof :: (rpC l.r ++ (sumC l.sum ++ (ordC l.o ++ rplC l.x)))))) := .cons (fun _ => rfl) (fun _ => rfl) (fun _ => rfl) q3
 have q1 : Pln (.int .i64 l.slot :: .int .i64 l.view :: .str l.value :: rpsA l.cert :: (accC l.vote ++ (votesA l.proof :: (rpC l.r ++ (sumC l.sum ++ (ordC l.o ++ rplC l.x)))))) := .cons (fun _ => rfl) (fun _ => rfl) (fun _ => rfl) q2
 have hn := number_wn 3 (letT l) (by unfold I64;omega)
 have hp := letparts_3 (letT l) l.proof (rpC l.r ++ (sumC l.sum ++ (ordC l.o ++ rplC l.x))) rfl (Pln.d9 l)
 skip
 have hlen : (bytesP [(87,.agg [.rptr (.int .i64 l.frm :: (.int .i64 l.slot :: .int .i64 l.view :: .str l.value :: rpsA l.cert :: (accC l.vote ++ (votesA l.proof :: (rpC l.r ++ (sumC l.sum ++ (ordC l.o ++ rplC l.x)))))))],encN (zig l.frm)),(87,.agg [.rptr (.int .i64 l.slot :: .int .i64 l.view :: .str l.value :: rpsA l.cert :: (accC l.vote ++ (votesA l.proof :: (rpC l.r ++ (sumC l.sum ++ (ordC l.o ++ rplC l.x))))))],encN (zig l.slot)),(168,.agg [.rptr (votesA l.proof :: (rpC l.r ++ (sumC l.sum ++ (ordC l.o ++ rplC l.x)))),.fn (.func 73) [] []],votesB l.proof)]).length ≤ 290000 := by
  have e1 := enc9 _ h1
  have e2 := enc9 _ h2
  have e3 := enc9 _ h3
  have e4 := votesB_le l.proof h9 h10
  simp only [bytesP,Yf,Ye,List.flatten_cons,List.flatten_nil,List.length_append,Y9]
  omega
 have ht := parts_p 300000 [(87,.agg [.rptr (.int .i64 l.frm :: (.int .i64 l.slot :: .int .i64 l.view :: .str l.value :: rpsA l.cert :: (accC l.vote ++ (votesA l.proof :: (rpC l.r ++ (sumC l.sum ++ (ordC l.o ++ rplC l.x)))))))],encN (zig l.frm)),(87,.agg [.rptr (.int .i64 l.slot :: .int .i64 l.view :: .str l.value :: rpsA l.cert :: (accC l.vote ++ (votesA l.proof :: (rpC l.r ++ (sumC l.sum ++ (ordC l.o ++ rplC l.x))))))],encN (zig l.slot)),(168,.agg [.rptr (votesA l.proof :: (rpC l.r ++ (sumC l.sum ++ (ordC l.o ++ rplC l.x)))),.fn (.func 73) [] []],votesB l.proof)] (encN (zig 3)) (by simp) (by have := enc9 3 (by unfold I64;omega);omega) (by
  intro p hp
  simp only [List.mem_cons,List.not_mem_nil,or_false] at hp
  rcases hp with rfl|rfl|rfl
  ·exact OkP.mono (numP h1 q1) (by decide)
  ·exact OkP.mono (numP h2 q2) (by decide)
  ·exact OkP.mono (proofP l h9 h10 h11) (by decide)
 )
 have hb : encN (zig 3) ++ bytesP [(87,.agg [.rptr (.int .i64 l.frm :: (.int .i64 l.slot :: .int .i64 l.view :: .str l.value :: rpsA l.cert :: (accC l.vote ++ (votesA l.proof :: (rpC l.r ++ (sumC l.sum ++ (ordC l.o ++ rplC l.x)))))))],encN (zig l.frm)),(87,.agg [.rptr (.int .i64 l.slot :: .int .i64 l.view :: .str l.value :: rpsA l.cert :: (accC l.vote ++ (votesA l.proof :: (rpC l.r ++ (sumC l.sum ++ (ordC l.o ++ rplC l.x))))))],encN (zig l.slot)),(168,.agg [.rptr (votesA l.proof :: (rpC l.r ++ (sumC l.sum ++ (ordC l.o ++ rplC l.x)))),.fn (.func 73) [] []],votesB l.proof)] = wrL l := by unfold wrL wrB bytesP;rw [hk];simp
 rw [hb] at ht
 have hc : (.agg (letC l) : AV) = .agg (.int .i64 3 :: letT l) := by unfold letC;rw [hk]
 rw [hc]
 have hT := Pln.let_ l
 have hD : ∀ d n,belL n ((letT l).drop d) = true := fun d n => (hT.drop d).1 n
 have hA : ∀ d js,amongL js ((letT l).drop d) = true := fun d n => (hT.drop d).2.1 n
 have hR : ∀ d js,renL js ((letT l).drop d) = (letT l).drop d := fun d n => (hT.drop d).2.2 n
 have hD1 : belL 0 (letT l).tail = true := by have := hD 1 0;simpa using this
 have hA1 : amongL [1] (letT l).tail = true := by have := hA 1 [1];simpa using this
 have q9 := Pln.d9 l
 have q10 := Pln.d10 l
 have qq := Pln.d9 l
 refine ⟨⟨_,Tryz.func16,by kernel_rfl,rfl⟩,ACall.of Tryz.func16 rfl fun c0 hc0 => ?_⟩;simp only [Nat.reduceSub,go_sem];refine Run.god tab_ok follows_ok Tryz.func16 2 ?_;simp only [go_sem]
 refine Run.weak (Weak.freeze 1 0 _ rfl rfl) ?_
 refine Rg Tryz.func16 ?_;simp only [go_sem,Nat.reduceAdd,reduceCtorEq]
 refine Ops.callB .free rfl rfl (js := [1]) (by decide) (LentAll.cons rfl (LentB.box_ [.nils,.bool false,.int .i64 0] rfl) LentAll.nil) (lent1 (pp_lent _ _ _)) rfl (by simp [aev,amongL,AV.among,hT.2.1]) (by simp only [go_sem,cond_true,renL,AV.ren,hT.2.2,List.idxOf,List.findIdx,List.findIdx.go];exact LeL.cons (Le.refl _) (LeL.cons (Le.refl _) LeL.nil)) hn rfl ?_
 refine Og Tryz.func16 ?_;simp only [go_sem,putBack]
 refine Ops.pure .free rfl rfl hp (by simp only [go_sem];(repeat' first|exact .refl _|apply LeR.tup|apply Le.agg|constructor)) (by simp [belL,AV.bel,hT.1]) (by simp [AV.bel,belL,belLL,votesA,hD1,q9.1,hT.1]) ?_
 refine Og Tryz.func16 ?_;simp only [go_sem,Nat.reduceAdd]
 refine Ops.invokeB .free rfl rfl meth_parts (js := [1]) (by decide) (LentAll.cons rfl (pp_lent _ _ _) LentAll.nil) (lent1 (pp_lent _ _ _)) rfl (by simp [aev,amongL,amongLL,AV.among,votesA,hA1,q9.2.1,hT.2.1]) (by simp only [go_sem,votesA,cond_true,renL,renLL,AV.ren,hR,hT.2.2,q9.2.2,List.idxOf,List.findIdx,List.findIdx.go];exact LeL.cons (Le.refl _) (LeL.cons (Le.refl _) LeL.nil)) ht rfl ?_
 refine Og Tryz.func16 ?_;simp only [go_sem,putBack,pp,Nat.reduceAdd,Nat.reduceLeDiff]
 (and_intros <;> try first|rfl|omega|(unfold I64;omega))
 all_goals (repeat' first|exact .refl _|apply LeR.tup|apply Le.agg|constructor)
theorem written_4 (l : Ltr) (hk : l.kind = 4) (h : smL l) : ASpec Tryz.prog 16 [.agg (letC l)] (bytesA (wrL l)) := by
 obtain ⟨h1,h2,h3,h4,h5,h6,h7,h8,h9,h10,h11,h12,h13,h14,h15,h16,h17,h18,h19⟩ := h
 have q4 : Pln (rpsA l.cert :: (accC l.vote ++ (votesA l.proof :: (rpC l.r ++ (sumC l.sum ++ (ordC l.o ++ rplC l.x)))))) := .cons (fun _ => rfl) (fun _ => rfl) (fun _ => rfl) (Pln.d5 l)
 have q3 : Pln (.str l.value :: rpsA l.cert :: (accC l.vote ++ (votesA l.proof :: (rpC l.r ++ (sumC l.sum ++ (ordC l.o ++ rplC l.x)))))) := .cons (fun _ => rfl) (fun _ => rfl) (fun _ => rfl) q4
 have q2 : Pln (.int .i64 l.view :: .str l.value :: rpsA l.cert :: (accC l.vote ++ (votesA l.proof :: (rpC l.r ++ (sumC l.sum ++ (ordC l.o ++ rplC l.x)))))) := .cons (fun _ => rfl) (fun _ => rfl) (fun _ => rfl) q3
 have q1 : Pln (.int .i64 l.slot :: .int .i64 l.view :: .str l.value :: rpsA l.cert :: (accC l.vote ++ (votesA l.proof :: (rpC l.r ++ (sumC l.sum ++ (ordC l.o ++ rplC l.x)))))) := .cons (fun _ => rfl) (fun _ => rfl) (fun _ => rfl) q2
 have hn := number_wn 4 (letT l) (by unfold I64;omega)
 have hp := letparts_4 (letT l) l.r (sumC l.sum ++ (ordC l.o ++ rplC l.x)) rfl (Pln.d10 l)
 skip
 have hlen : (bytesP [(87,.agg [.rptr (.int .i64 l.slot :: .int .i64 l.view :: .str l.value :: rpsA l.cert :: (accC l.vote ++ (votesA l.proof :: (rpC l.r ++ (sumC l.sum ++ (ordC l.o ++ rplC l.x))))))],encN (zig l.slot)),(125,.psl 1 ((reportL l.r (sumC l.sum ++ (ordC l.o ++ rplC l.x))).map partC),reportB l.r)]).length ≤ 290000 := by
  have e1 := enc9 _ h1
  have e2 := enc9 _ h2
  have e3 := enc9 _ h3
  have e4 := reportB_le l.r h12
  simp only [bytesP,Yf,Ye,List.flatten_cons,List.flatten_nil,List.length_append,Y9]
  omega
 have ht := parts_p 300000 [(87,.agg [.rptr (.int .i64 l.slot :: .int .i64 l.view :: .str l.value :: rpsA l.cert :: (accC l.vote ++ (votesA l.proof :: (rpC l.r ++ (sumC l.sum ++ (ordC l.o ++ rplC l.x))))))],encN (zig l.slot)),(125,.psl 1 ((reportL l.r (sumC l.sum ++ (ordC l.o ++ rplC l.x))).map partC),reportB l.r)] (encN (zig 4)) (by simp) (by have := enc9 4 (by unfold I64;omega);omega) (by
  intro p hp
  simp only [List.mem_cons,List.not_mem_nil,or_false] at hp
  rcases hp with rfl|rfl
  ·exact OkP.mono (numP h2 q2) (by decide)
  ·exact OkP.mono (rP l h12 h13) (by decide)
 )
 have hb : encN (zig 4) ++ bytesP [(87,.agg [.rptr (.int .i64 l.slot :: .int .i64 l.view :: .str l.value :: rpsA l.cert :: (accC l.vote ++ (votesA l.proof :: (rpC l.r ++ (sumC l.sum ++ (ordC l.o ++ rplC l.x))))))],encN (zig l.slot)),(125,.psl 1 ((reportL l.r (sumC l.sum ++ (ordC l.o ++ rplC l.x))).map partC),reportB l.r)] = wrL l := by unfold wrL wrB bytesP;rw [hk];simp
 rw [hb] at ht
 have hc : (.agg (letC l) : AV) = .agg (.int .i64 4 :: letT l) := by unfold letC;rw [hk]
 rw [hc]
 have hT := Pln.let_ l
 have hD : ∀ d n,belL n ((letT l).drop d) = true := fun d n => (hT.drop d).1 n
 have hA : ∀ d js,amongL js ((letT l).drop d) = true := fun d n => (hT.drop d).2.1 n
 have hR : ∀ d js,renL js ((letT l).drop d) = (letT l).drop d := fun d n => (hT.drop d).2.2 n
 have hD1 : belL 0 (letT l).tail = true := by have := hD 1 0;simpa using this
 have hA1 : amongL [1] (letT l).tail = true := by have := hA 1 [1];simpa using this
 have q9 := Pln.d9 l
 have q10 := Pln.d10 l
 have qq := Pln.d10 l
 refine ⟨⟨_,Tryz.func16,by kernel_rfl,rfl⟩,ACall.of Tryz.func16 rfl fun c0 hc0 => ?_⟩;simp only [Nat.reduceSub,go_sem];refine Run.god tab_ok follows_ok Tryz.func16 2 ?_;simp only [go_sem]
 refine Run.weak (Weak.freeze 1 0 _ rfl rfl) ?_
 refine Rg Tryz.func16 ?_;simp only [go_sem,Nat.reduceAdd,reduceCtorEq]
 refine Ops.callB .free rfl rfl (js := [1]) (by decide) (LentAll.cons rfl (LentB.box_ [.nils,.bool false,.int .i64 0] rfl) LentAll.nil) (lent1 (pp_lent _ _ _)) rfl (by simp [aev,amongL,AV.among,hT.2.1]) (by simp only [go_sem,cond_true,renL,AV.ren,hT.2.2,List.idxOf,List.findIdx,List.findIdx.go];exact LeL.cons (Le.refl _) (LeL.cons (Le.refl _) LeL.nil)) hn rfl ?_
 refine Og Tryz.func16 ?_;simp only [go_sem,putBack]
 refine Ops.pure .free rfl rfl hp (by simp only [go_sem];(repeat' first|exact .refl _|apply LeR.tup|apply Le.agg|constructor)) (by simp [belL,AV.bel,hT.1]) (by simp [AV.bel,belL,belLL,partC,reportL,votesA,hD1,q10.1]) ?_
 refine Og Tryz.func16 ?_;simp only [go_sem,Nat.reduceAdd]
 refine Ops.invokeB .free rfl rfl meth_parts (js := [1]) (by decide) (LentAll.cons rfl (pp_lent _ _ _) LentAll.nil) (lent1 (pp_lent _ _ _)) rfl (by simp [aev,amongL,amongLL,AV.among,partC,reportL,votesA,hA1,q10.2.1]) (by simp only [go_sem,partC,reportL,votesA,cond_true,renL,renLL,AV.ren,hR,q10.2.2,List.idxOf,List.findIdx,List.findIdx.go];exact LeL.cons (Le.refl _) (LeL.cons (Le.refl _) LeL.nil)) ht rfl ?_
 refine Og Tryz.func16 ?_;simp only [go_sem,putBack,pp,Nat.reduceAdd,Nat.reduceLeDiff]
 (and_intros <;> try first|rfl|omega|(unfold I64;omega))
 all_goals (repeat' first|exact .refl _|apply LeR.tup|apply Le.agg|constructor)
theorem written_5 (l : Ltr) (hk : l.kind = 5) (h : smL l) : ASpec Tryz.prog 16 [.agg (letC l)] (bytesA (wrL l)) := by
 obtain ⟨h1,h2,h3,h4,h5,h6,h7,h8,h9,h10,h11,h12,h13,h14,h15,h16,h17,h18,h19⟩ := h
 have q4 : Pln (rpsA l.cert :: (accC l.vote ++ (votesA l.proof :: (rpC l.r ++ (sumC l.sum ++ (ordC l.o ++ rplC l.x)))))) := .cons (fun _ => rfl) (fun _ => rfl) (fun _ => rfl) (Pln.d5 l)
 have q3 : Pln (.str l.value :: rpsA l.cert :: (accC l.vote ++ (votesA l.proof :: (rpC l.r ++ (sumC l.sum ++ (ordC l.o ++ rplC l.x)))))) := .cons (fun _ => rfl) (fun _ => rfl) (fun _ => rfl) q4
 have q2 : Pln (.int .i64 l.view :: .str l.value :: rpsA l.cert :: (accC l.vote ++ (votesA l.proof :: (rpC l.r ++ (sumC l.sum ++ (ordC l.o ++ rplC l.x)))))) := .cons (fun _ => rfl) (fun _ => rfl) (fun _ => rfl) q3
 have q1 : Pln (.int .i64 l.slot :: .int .i64 l.view :: .str l.value :: rpsA l.cert :: (accC l.vote ++ (votesA l.proof :: (rpC l.r ++ (sumC l.sum ++ (ordC l.o ++ rplC l.x)))))) := .cons (fun _ => rfl) (fun _ => rfl) (fun _ => rfl) q2
 have hn := number_wn 5 (letT l) (by unfold I64;omega)
 have hp := letparts_5 (letT l)
 skip
 have hlen : (bytesP [(87,.agg [.rptr (.int .i64 l.frm :: (.int .i64 l.slot :: .int .i64 l.view :: .str l.value :: rpsA l.cert :: (accC l.vote ++ (votesA l.proof :: (rpC l.r ++ (sumC l.sum ++ (ordC l.o ++ rplC l.x)))))))],encN (zig l.frm)),(87,.agg [.rptr (.int .i64 l.slot :: .int .i64 l.view :: .str l.value :: rpsA l.cert :: (accC l.vote ++ (votesA l.proof :: (rpC l.r ++ (sumC l.sum ++ (ordC l.o ++ rplC l.x))))))],encN (zig l.slot)),(119,.agg [.rptr (.str l.value :: rpsA l.cert :: (accC l.vote ++ (votesA l.proof :: (rpC l.r ++ (sumC l.sum ++ (ordC l.o ++ rplC l.x))))))],encT l.value)]).length ≤ 290000 := by
  have e1 := enc9 _ h1
  have e2 := enc9 _ h2
  have e3 := enc9 _ h3
  have e4 := encT_le l.value (by omega)
  simp only [bytesP,Yf,Ye,List.flatten_cons,List.flatten_nil,List.length_append,Y9]
  omega
 have ht := parts_p 300000 [(87,.agg [.rptr (.int .i64 l.frm :: (.int .i64 l.slot :: .int .i64 l.view :: .str l.value :: rpsA l.cert :: (accC l.vote ++ (votesA l.proof :: (rpC l.r ++ (sumC l.sum ++ (ordC l.o ++ rplC l.x)))))))],encN (zig l.frm)),(87,.agg [.rptr (.int .i64 l.slot :: .int .i64 l.view :: .str l.value :: rpsA l.cert :: (accC l.vote ++ (votesA l.proof :: (rpC l.r ++ (sumC l.sum ++ (ordC l.o ++ rplC l.x))))))],encN (zig l.slot)),(119,.agg [.rptr (.str l.value :: rpsA l.cert :: (accC l.vote ++ (votesA l.proof :: (rpC l.r ++ (sumC l.sum ++ (ordC l.o ++ rplC l.x))))))],encT l.value)] (encN (zig 5)) (by simp) (by have := enc9 5 (by unfold I64;omega);omega) (by
  intro p hp
  simp only [List.mem_cons,List.not_mem_nil,or_false] at hp
  rcases hp with rfl|rfl|rfl
  ·exact OkP.mono (numP h1 q1) (by decide)
  ·exact OkP.mono (numP h2 q2) (by decide)
  ·exact OkP.mono (textP (by omega) q4) (by decide)
 )
 have hb : encN (zig 5) ++ bytesP [(87,.agg [.rptr (.int .i64 l.frm :: (.int .i64 l.slot :: .int .i64 l.view :: .str l.value :: rpsA l.cert :: (accC l.vote ++ (votesA l.proof :: (rpC l.r ++ (sumC l.sum ++ (ordC l.o ++ rplC l.x)))))))],encN (zig l.frm)),(87,.agg [.rptr (.int .i64 l.slot :: .int .i64 l.view :: .str l.value :: rpsA l.cert :: (accC l.vote ++ (votesA l.proof :: (rpC l.r ++ (sumC l.sum ++ (ordC l.o ++ rplC l.x))))))],encN (zig l.slot)),(119,.agg [.rptr (.str l.value :: rpsA l.cert :: (accC l.vote ++ (votesA l.proof :: (rpC l.r ++ (sumC l.sum ++ (ordC l.o ++ rplC l.x))))))],encT l.value)] = wrL l := by unfold wrL wrB bytesP;rw [hk];simp
 rw [hb] at ht
 have hc : (.agg (letC l) : AV) = .agg (.int .i64 5 :: letT l) := by unfold letC;rw [hk]
 rw [hc]
 have hT := Pln.let_ l
 have hD : ∀ d n,belL n ((letT l).drop d) = true := fun d n => (hT.drop d).1 n
 have hA : ∀ d js,amongL js ((letT l).drop d) = true := fun d n => (hT.drop d).2.1 n
 have hR : ∀ d js,renL js ((letT l).drop d) = (letT l).drop d := fun d n => (hT.drop d).2.2 n
 have hD1 : belL 0 (letT l).tail = true := by have := hD 1 0;simpa using this
 have hA1 : amongL [1] (letT l).tail = true := by have := hA 1 [1];simpa using this
 have q9 := Pln.d9 l
 have q10 := Pln.d10 l
 skip
 refine ⟨⟨_,Tryz.func16,by kernel_rfl,rfl⟩,ACall.of Tryz.func16 rfl fun c0 hc0 => ?_⟩;simp only [Nat.reduceSub,go_sem];refine Run.god tab_ok follows_ok Tryz.func16 2 ?_;simp only [go_sem]
 refine Run.weak (Weak.freeze 1 0 _ rfl rfl) ?_
 refine Rg Tryz.func16 ?_;simp only [go_sem,Nat.reduceAdd,reduceCtorEq]
 refine Ops.callB .free rfl rfl (js := [1]) (by decide) (LentAll.cons rfl (LentB.box_ [.nils,.bool false,.int .i64 0] rfl) LentAll.nil) (lent1 (pp_lent _ _ _)) rfl (by simp [aev,amongL,AV.among,hT.2.1]) (by simp only [go_sem,cond_true,renL,AV.ren,hT.2.2,List.idxOf,List.findIdx,List.findIdx.go];exact LeL.cons (Le.refl _) (LeL.cons (Le.refl _) LeL.nil)) hn rfl ?_
 refine Og Tryz.func16 ?_;simp only [go_sem,putBack]
 refine Ops.pure .free rfl rfl hp (by simp only [go_sem];(repeat' first|exact .refl _|apply LeR.tup|apply Le.agg|constructor)) (by simp [belL,AV.bel,hT.1]) (by simp [AV.bel,belL,belLL,hD,hD1,hT.1]) ?_
 refine Og Tryz.func16 ?_;simp only [go_sem,Nat.reduceAdd]
 refine Ops.invokeB .free rfl rfl meth_parts (js := [1]) (by decide) (LentAll.cons rfl (pp_lent _ _ _) LentAll.nil) (lent1 (pp_lent _ _ _)) rfl (by simp [aev,amongL,amongLL,AV.among,hA,hA1,hT.2.1]) (by simp only [go_sem,votesA,cond_true,renL,renLL,AV.ren,hR,hT.2.2,List.idxOf,List.findIdx,List.findIdx.go];exact LeL.cons (Le.refl _) (LeL.cons (Le.refl _) LeL.nil)) ht rfl ?_
 refine Og Tryz.func16 ?_;simp only [go_sem,putBack,pp,Nat.reduceAdd,Nat.reduceLeDiff]
 (and_intros <;> try first|rfl|omega|(unfold I64;omega))
 all_goals (repeat' first|exact .refl _|apply LeR.tup|apply Le.agg|constructor)
theorem written_6 (l : Ltr) (hk : l.kind = 6) (h : smL l) : ASpec Tryz.prog 16 [.agg (letC l)] (bytesA (wrL l)) := by
 obtain ⟨h1,h2,h3,h4,h5,h6,h7,h8,h9,h10,h11,h12,h13,h14,h15,h16,h17,h18,h19⟩ := h
 have q4 : Pln (rpsA l.cert :: (accC l.vote ++ (votesA l.proof :: (rpC l.r ++ (sumC l.sum ++ (ordC l.o ++ rplC l.x)))))) := .cons (fun _ => rfl) (fun _ => rfl) (fun _ => rfl) (Pln.d5 l)
 have q3 : Pln (.str l.value :: rpsA l.cert :: (accC l.vote ++ (votesA l.proof :: (rpC l.r ++ (sumC l.sum ++ (ordC l.o ++ rplC l.x)))))) := .cons (fun _ => rfl) (fun _ => rfl) (fun _ => rfl) q4
 have q2 : Pln (.int .i64 l.view :: .str l.value :: rpsA l.cert :: (accC l.vote ++ (votesA l.proof :: (rpC l.r ++ (sumC l.sum ++ (ordC l.o ++ rplC l.x)))))) := .cons (fun _ => rfl) (fun _ => rfl) (fun _ => rfl) q3
 have q1 : Pln (.int .i64 l.slot :: .int .i64 l.view :: .str l.value :: rpsA l.cert :: (accC l.vote ++ (votesA l.proof :: (rpC l.r ++ (sumC l.sum ++ (ordC l.o ++ rplC l.x)))))) := .cons (fun _ => rfl) (fun _ => rfl) (fun _ => rfl) q2
 have hn := number_wn 6 (letT l) (by unfold I64;omega)
 have hp := letparts_6 (letT l)
 skip
 have hlen : (bytesP [(87,.agg [.rptr (.int .i64 l.frm :: (.int .i64 l.slot :: .int .i64 l.view :: .str l.value :: rpsA l.cert :: (accC l.vote ++ (votesA l.proof :: (rpC l.r ++ (sumC l.sum ++ (ordC l.o ++ rplC l.x)))))))],encN (zig l.frm)),(87,.agg [.rptr (.int .i64 l.view :: .str l.value :: rpsA l.cert :: (accC l.vote ++ (votesA l.proof :: (rpC l.r ++ (sumC l.sum ++ (ordC l.o ++ rplC l.x))))))],encN (zig l.view))]).length ≤ 290000 := by
  have e1 := enc9 _ h1
  have e2 := enc9 _ h2
  have e3 := enc9 _ h3
  skip
  simp only [bytesP,Yf,Ye,List.flatten_cons,List.flatten_nil,List.length_append,Y9]
  omega
 have ht := parts_p 300000 [(87,.agg [.rptr (.int .i64 l.frm :: (.int .i64 l.slot :: .int .i64 l.view :: .str l.value :: rpsA l.cert :: (accC l.vote ++ (votesA l.proof :: (rpC l.r ++ (sumC l.sum ++ (ordC l.o ++ rplC l.x)))))))],encN (zig l.frm)),(87,.agg [.rptr (.int .i64 l.view :: .str l.value :: rpsA l.cert :: (accC l.vote ++ (votesA l.proof :: (rpC l.r ++ (sumC l.sum ++ (ordC l.o ++ rplC l.x))))))],encN (zig l.view))] (encN (zig 6)) (by simp) (by have := enc9 6 (by unfold I64;omega);omega) (by
  intro p hp
  simp only [List.mem_cons,List.not_mem_nil,or_false] at hp
  rcases hp with rfl|rfl
  ·exact OkP.mono (numP h1 q1) (by decide)
  ·exact OkP.mono (numP h3 q3) (by decide)
 )
 have hb : encN (zig 6) ++ bytesP [(87,.agg [.rptr (.int .i64 l.frm :: (.int .i64 l.slot :: .int .i64 l.view :: .str l.value :: rpsA l.cert :: (accC l.vote ++ (votesA l.proof :: (rpC l.r ++ (sumC l.sum ++ (ordC l.o ++ rplC l.x)))))))],encN (zig l.frm)),(87,.agg [.rptr (.int .i64 l.view :: .str l.value :: rpsA l.cert :: (accC l.vote ++ (votesA l.proof :: (rpC l.r ++ (sumC l.sum ++ (ordC l.o ++ rplC l.x))))))],encN (zig l.view))] = wrL l := by unfold wrL wrB bytesP;rw [hk];simp
 rw [hb] at ht
 have hc : (.agg (letC l) : AV) = .agg (.int .i64 6 :: letT l) := by unfold letC;rw [hk]
 rw [hc]
 have hT := Pln.let_ l
 have hD : ∀ d n,belL n ((letT l).drop d) = true := fun d n => (hT.drop d).1 n
 have hA : ∀ d js,amongL js ((letT l).drop d) = true := fun d n => (hT.drop d).2.1 n
 have hR : ∀ d js,renL js ((letT l).drop d) = (letT l).drop d := fun d n => (hT.drop d).2.2 n
 have hD1 : belL 0 (letT l).tail = true := by have := hD 1 0;simpa using this
 have hA1 : amongL [1] (letT l).tail = true := by have := hA 1 [1];simpa using this
 have q9 := Pln.d9 l
 have q10 := Pln.d10 l
 skip
 refine ⟨⟨_,Tryz.func16,by kernel_rfl,rfl⟩,ACall.of Tryz.func16 rfl fun c0 hc0 => ?_⟩;simp only [Nat.reduceSub,go_sem];refine Run.god tab_ok follows_ok Tryz.func16 2 ?_;simp only [go_sem]
 refine Run.weak (Weak.freeze 1 0 _ rfl rfl) ?_
 refine Rg Tryz.func16 ?_;simp only [go_sem,Nat.reduceAdd,reduceCtorEq]
 refine Ops.callB .free rfl rfl (js := [1]) (by decide) (LentAll.cons rfl (LentB.box_ [.nils,.bool false,.int .i64 0] rfl) LentAll.nil) (lent1 (pp_lent _ _ _)) rfl (by simp [aev,amongL,AV.among,hT.2.1]) (by simp only [go_sem,cond_true,renL,AV.ren,hT.2.2,List.idxOf,List.findIdx,List.findIdx.go];exact LeL.cons (Le.refl _) (LeL.cons (Le.refl _) LeL.nil)) hn rfl ?_
 refine Og Tryz.func16 ?_;simp only [go_sem,putBack]
 refine Ops.pure .free rfl rfl hp (by simp only [go_sem];(repeat' first|exact .refl _|apply LeR.tup|apply Le.agg|constructor)) (by simp [belL,AV.bel,hT.1]) (by simp [AV.bel,belL,belLL,hD,hT.1]) ?_
 refine Og Tryz.func16 ?_;simp only [go_sem,Nat.reduceAdd]
 refine Ops.invokeB .free rfl rfl meth_parts (js := [1]) (by decide) (LentAll.cons rfl (pp_lent _ _ _) LentAll.nil) (lent1 (pp_lent _ _ _)) rfl (by simp [aev,amongL,amongLL,AV.among,hA,hT.2.1]) (by simp only [go_sem,votesA,cond_true,renL,renLL,AV.ren,hR,hT.2.2,List.idxOf,List.findIdx,List.findIdx.go];exact LeL.cons (Le.refl _) (LeL.cons (Le.refl _) LeL.nil)) ht rfl ?_
 refine Og Tryz.func16 ?_;simp only [go_sem,putBack,pp,Nat.reduceAdd,Nat.reduceLeDiff]
 (and_intros <;> try first|rfl|omega|(unfold I64;omega))
 all_goals (repeat' first|exact .refl _|apply LeR.tup|apply Le.agg|constructor)
theorem written_9 (l : Ltr) (hk : l.kind = 9) (h : smL l) : ASpec Tryz.prog 16 [.agg (letC l)] (bytesA (wrL l)) := by
 obtain ⟨h1,h2,h3,h4,h5,h6,h7,h8,h9,h10,h11,h12,h13,h14,h15,h16,h17,h18,h19⟩ := h
 have q4 : Pln (rpsA l.cert :: (accC l.vote ++ (votesA l.proof :: (rpC l.r ++ (sumC l.sum ++ (ordC l.o ++ rplC l.x)))))) := .cons (fun _ => rfl) (fun _ => rfl) (fun _ => rfl) (Pln.d5 l)
 have q3 : Pln (.str l.value :: rpsA l.cert :: (accC l.vote ++ (votesA l.proof :: (rpC l.r ++ (sumC l.sum ++ (ordC l.o ++ rplC l.x)))))) := .cons (fun _ => rfl) (fun _ => rfl) (fun _ => rfl) q4
 have q2 : Pln (.int .i64 l.view :: .str l.value :: rpsA l.cert :: (accC l.vote ++ (votesA l.proof :: (rpC l.r ++ (sumC l.sum ++ (ordC l.o ++ rplC l.x)))))) := .cons (fun _ => rfl) (fun _ => rfl) (fun _ => rfl) q3
 have q1 : Pln (.int .i64 l.slot :: .int .i64 l.view :: .str l.value :: rpsA l.cert :: (accC l.vote ++ (votesA l.proof :: (rpC l.r ++ (sumC l.sum ++ (ordC l.o ++ rplC l.x)))))) := .cons (fun _ => rfl) (fun _ => rfl) (fun _ => rfl) q2
 have hn := number_wn 9 (letT l) (by unfold I64;omega)
 have hp := letparts_9 (letT l)
 rw [let_drop55 l h14] at hp
 have hlen : (bytesP [(87,.agg [.rptr (.int .i64 l.frm :: (.int .i64 l.slot :: .int .i64 l.view :: .str l.value :: rpsA l.cert :: (accC l.vote ++ (votesA l.proof :: (rpC l.r ++ (sumC l.sum ++ (ordC l.o ++ rplC l.x)))))))],encN (zig l.frm)),(139,.agg [.rptr (rplC l.x)],putR l.x)]).length ≤ 80000 := by
  have e1 := enc9 _ h1
  have e2 := enc9 _ h2
  have e3 := enc9 _ h3
  have e4 := encT_le l.x.s (by omega)
  have e5 := encZs_le [l.x.a,l.x.b,l.x.e,l.x.x] (fun n hn => by simp only [List.mem_cons,List.not_mem_nil,or_false] at hn;rcases hn with e|e|e|e <;> (subst e;first|exact h16.1|exact h16.2.1|exact h16.2.2.1|exact h16.2.2.2.1))
  have e6 := encRow_le l.x.l (by omega)
  have e7 := encN_le l.x.l.length (by have := tot_length l.x.l;omega)
  have e8 : (putR l.x).length = (encZs [l.x.a,l.x.b,l.x.e,l.x.x]).length + (encT l.x.s).length + ((encN l.x.l.length).length + (encRow l.x.l).length) := by unfold putR;rw [encL_row];simp only [List.length_append]
  simp only [Ya,Y9] at e5
  simp only [bytesP,Yf,Ye,List.flatten_cons,List.flatten_nil,List.length_append,Y9]
  omega
 have ht := parts_p 90000 [(87,.agg [.rptr (.int .i64 l.frm :: (.int .i64 l.slot :: .int .i64 l.view :: .str l.value :: rpsA l.cert :: (accC l.vote ++ (votesA l.proof :: (rpC l.r ++ (sumC l.sum ++ (ordC l.o ++ rplC l.x)))))))],encN (zig l.frm)),(139,.agg [.rptr (rplC l.x)],putR l.x)] (encN (zig 9)) (by simp) (by have := enc9 9 (by unfold I64;omega);omega) (by
  intro p hp
  simp only [List.mem_cons,List.not_mem_nil,or_false] at hp
  rcases hp with rfl|rfl
  ·exact OkP.mono (numP h1 q1) (by decide)
  ·exact OkP.mono (xP l h16) (by decide)
 )
 have hb : encN (zig 9) ++ bytesP [(87,.agg [.rptr (.int .i64 l.frm :: (.int .i64 l.slot :: .int .i64 l.view :: .str l.value :: rpsA l.cert :: (accC l.vote ++ (votesA l.proof :: (rpC l.r ++ (sumC l.sum ++ (ordC l.o ++ rplC l.x)))))))],encN (zig l.frm)),(139,.agg [.rptr (rplC l.x)],putR l.x)] = wrL l := by unfold wrL wrB bytesP;rw [hk];simp
 rw [hb] at ht
 have hc : (.agg (letC l) : AV) = .agg (.int .i64 9 :: letT l) := by unfold letC;rw [hk]
 rw [hc]
 have hT := Pln.let_ l
 have hD : ∀ d n,belL n ((letT l).drop d) = true := fun d n => (hT.drop d).1 n
 have hA : ∀ d js,amongL js ((letT l).drop d) = true := fun d n => (hT.drop d).2.1 n
 have hR : ∀ d js,renL js ((letT l).drop d) = (letT l).drop d := fun d n => (hT.drop d).2.2 n
 have hD1 : belL 0 (letT l).tail = true := by have := hD 1 0;simpa using this
 have hA1 : amongL [1] (letT l).tail = true := by have := hA 1 [1];simpa using this
 have q9 := Pln.d9 l
 have q10 := Pln.d10 l
 have qq : Pln (rplC l.x) := ⟨fun _ => rfl,fun _ => rfl,fun _ => rfl⟩
 refine ⟨⟨_,Tryz.func16,by kernel_rfl,rfl⟩,ACall.of Tryz.func16 rfl fun c0 hc0 => ?_⟩;simp only [Nat.reduceSub,go_sem];refine Run.god tab_ok follows_ok Tryz.func16 2 ?_;simp only [go_sem]
 refine Run.weak (Weak.freeze 1 0 _ rfl rfl) ?_
 refine Rg Tryz.func16 ?_;simp only [go_sem,Nat.reduceAdd,reduceCtorEq]
 refine Ops.callB .free rfl rfl (js := [1]) (by decide) (LentAll.cons rfl (LentB.box_ [.nils,.bool false,.int .i64 0] rfl) LentAll.nil) (lent1 (pp_lent _ _ _)) rfl (by simp [aev,amongL,AV.among,hT.2.1]) (by simp only [go_sem,cond_true,renL,AV.ren,hT.2.2,List.idxOf,List.findIdx,List.findIdx.go];exact LeL.cons (Le.refl _) (LeL.cons (Le.refl _) LeL.nil)) hn rfl ?_
 refine Og Tryz.func16 ?_;simp only [go_sem,putBack]
 refine Ops.pure .free rfl rfl hp (by simp only [go_sem];(repeat' first|exact .refl _|apply LeR.tup|apply Le.agg|constructor)) (by simp [belL,AV.bel,hT.1]) (by simp [AV.bel,belL,belLL,hT.1,qq.1]) ?_
 refine Og Tryz.func16 ?_;simp only [go_sem,Nat.reduceAdd]
 refine Ops.invokeB .free rfl rfl meth_parts (js := [1]) (by decide) (LentAll.cons rfl (pp_lent _ _ _) LentAll.nil) (lent1 (pp_lent _ _ _)) rfl (by simp [aev,amongL,amongLL,AV.among,hT.2.1,qq.2.1]) (by simp only [go_sem,votesA,cond_true,renL,renLL,AV.ren,hT.2.2,qq.2.2,List.idxOf,List.findIdx,List.findIdx.go];exact LeL.cons (Le.refl _) (LeL.cons (Le.refl _) LeL.nil)) ht rfl ?_
 refine Og Tryz.func16 ?_;simp only [go_sem,putBack,pp,Nat.reduceAdd,Nat.reduceLeDiff]
 (and_intros <;> try first|rfl|omega|(unfold I64;omega))
 all_goals (repeat' first|exact .refl _|apply LeR.tup|apply Le.agg|constructor)
theorem written_10 (l : Ltr) (hk : l.kind = 10) (h : smL l) : ASpec Tryz.prog 16 [.agg (letC l)] (bytesA (wrL l)) := by
 obtain ⟨h1,h2,h3,h4,h5,h6,h7,h8,h9,h10,h11,h12,h13,h14,h15,h16,h17,h18,h19⟩ := h
 have q4 : Pln (rpsA l.cert :: (accC l.vote ++ (votesA l.proof :: (rpC l.r ++ (sumC l.sum ++ (ordC l.o ++ rplC l.x)))))) := .cons (fun _ => rfl) (fun _ => rfl) (fun _ => rfl) (Pln.d5 l)
 have q3 : Pln (.str l.value :: rpsA l.cert :: (accC l.vote ++ (votesA l.proof :: (rpC l.r ++ (sumC l.sum ++ (ordC l.o ++ rplC l.x)))))) := .cons (fun _ => rfl) (fun _ => rfl) (fun _ => rfl) q4
 have q2 : Pln (.int .i64 l.view :: .str l.value :: rpsA l.cert :: (accC l.vote ++ (votesA l.proof :: (rpC l.r ++ (sumC l.sum ++ (ordC l.o ++ rplC l.x)))))) := .cons (fun _ => rfl) (fun _ => rfl) (fun _ => rfl) q3
 have q1 : Pln (.int .i64 l.slot :: .int .i64 l.view :: .str l.value :: rpsA l.cert :: (accC l.vote ++ (votesA l.proof :: (rpC l.r ++ (sumC l.sum ++ (ordC l.o ++ rplC l.x)))))) := .cons (fun _ => rfl) (fun _ => rfl) (fun _ => rfl) q2
 have hn := number_wn 10 (letT l) (by unfold I64;omega)
 have hp := letparts_10 (letT l)
 skip
 have hlen : (bytesP [(87,.agg [.rptr (.int .i64 l.frm :: (.int .i64 l.slot :: .int .i64 l.view :: .str l.value :: rpsA l.cert :: (accC l.vote ++ (votesA l.proof :: (rpC l.r ++ (sumC l.sum ++ (ordC l.o ++ rplC l.x)))))))],encN (zig l.frm)),(87,.agg [.rptr (.int .i64 l.slot :: .int .i64 l.view :: .str l.value :: rpsA l.cert :: (accC l.vote ++ (votesA l.proof :: (rpC l.r ++ (sumC l.sum ++ (ordC l.o ++ rplC l.x))))))],encN (zig l.slot))]).length ≤ 290000 := by
  have e1 := enc9 _ h1
  have e2 := enc9 _ h2
  have e3 := enc9 _ h3
  skip
  simp only [bytesP,Yf,Ye,List.flatten_cons,List.flatten_nil,List.length_append,Y9]
  omega
 have ht := parts_p 300000 [(87,.agg [.rptr (.int .i64 l.frm :: (.int .i64 l.slot :: .int .i64 l.view :: .str l.value :: rpsA l.cert :: (accC l.vote ++ (votesA l.proof :: (rpC l.r ++ (sumC l.sum ++ (ordC l.o ++ rplC l.x)))))))],encN (zig l.frm)),(87,.agg [.rptr (.int .i64 l.slot :: .int .i64 l.view :: .str l.value :: rpsA l.cert :: (accC l.vote ++ (votesA l.proof :: (rpC l.r ++ (sumC l.sum ++ (ordC l.o ++ rplC l.x))))))],encN (zig l.slot))] (encN (zig 10)) (by simp) (by have := enc9 10 (by unfold I64;omega);omega) (by
  intro p hp
  simp only [List.mem_cons,List.not_mem_nil,or_false] at hp
  rcases hp with rfl|rfl
  ·exact OkP.mono (numP h1 q1) (by decide)
  ·exact OkP.mono (numP h2 q2) (by decide)
 )
 have hb : encN (zig 10) ++ bytesP [(87,.agg [.rptr (.int .i64 l.frm :: (.int .i64 l.slot :: .int .i64 l.view :: .str l.value :: rpsA l.cert :: (accC l.vote ++ (votesA l.proof :: (rpC l.r ++ (sumC l.sum ++ (ordC l.o ++ rplC l.x)))))))],encN (zig l.frm)),(87,.agg [.rptr (.int .i64 l.slot :: .int .i64 l.view :: .str l.value :: rpsA l.cert :: (accC l.vote ++ (votesA l.proof :: (rpC l.r ++ (sumC l.sum ++ (ordC l.o ++ rplC l.x))))))],encN (zig l.slot))] = wrL l := by unfold wrL wrB bytesP;rw [hk];simp
 rw [hb] at ht
 have hc : (.agg (letC l) : AV) = .agg (.int .i64 10 :: letT l) := by unfold letC;rw [hk]
 rw [hc]
 have hT := Pln.let_ l
 have hD : ∀ d n,belL n ((letT l).drop d) = true := fun d n => (hT.drop d).1 n
 have hA : ∀ d js,amongL js ((letT l).drop d) = true := fun d n => (hT.drop d).2.1 n
 have hR : ∀ d js,renL js ((letT l).drop d) = (letT l).drop d := fun d n => (hT.drop d).2.2 n
 have hD1 : belL 0 (letT l).tail = true := by have := hD 1 0;simpa using this
 have hA1 : amongL [1] (letT l).tail = true := by have := hA 1 [1];simpa using this
 have q9 := Pln.d9 l
 have q10 := Pln.d10 l
 skip
 refine ⟨⟨_,Tryz.func16,by kernel_rfl,rfl⟩,ACall.of Tryz.func16 rfl fun c0 hc0 => ?_⟩;simp only [Nat.reduceSub,go_sem];refine Run.god tab_ok follows_ok Tryz.func16 2 ?_;simp only [go_sem]
 refine Run.weak (Weak.freeze 1 0 _ rfl rfl) ?_
 refine Rg Tryz.func16 ?_;simp only [go_sem,Nat.reduceAdd,reduceCtorEq]
 refine Ops.callB .free rfl rfl (js := [1]) (by decide) (LentAll.cons rfl (LentB.box_ [.nils,.bool false,.int .i64 0] rfl) LentAll.nil) (lent1 (pp_lent _ _ _)) rfl (by simp [aev,amongL,AV.among,hT.2.1]) (by simp only [go_sem,cond_true,renL,AV.ren,hT.2.2,List.idxOf,List.findIdx,List.findIdx.go];exact LeL.cons (Le.refl _) (LeL.cons (Le.refl _) LeL.nil)) hn rfl ?_
 refine Og Tryz.func16 ?_;simp only [go_sem,putBack]
 refine Ops.pure .free rfl rfl hp (by simp only [go_sem];(repeat' first|exact .refl _|apply LeR.tup|apply Le.agg|constructor)) (by simp [belL,AV.bel,hT.1]) (by simp [AV.bel,belL,belLL,hD1,hT.1]) ?_
 refine Og Tryz.func16 ?_;simp only [go_sem,Nat.reduceAdd]
 refine Ops.invokeB .free rfl rfl meth_parts (js := [1]) (by decide) (LentAll.cons rfl (pp_lent _ _ _) LentAll.nil) (lent1 (pp_lent _ _ _)) rfl (by simp [aev,amongL,amongLL,AV.among,hA1,hT.2.1]) (by simp only [go_sem,votesA,cond_true,renL,renLL,AV.ren,hR,hT.2.2,List.idxOf,List.findIdx,List.findIdx.go];exact LeL.cons (Le.refl _) (LeL.cons (Le.refl _) LeL.nil)) ht rfl ?_
 refine Og Tryz.func16 ?_;simp only [go_sem,putBack,pp,Nat.reduceAdd,Nat.reduceLeDiff]
 (and_intros <;> try first|rfl|omega|(unfold I64;omega))
 all_goals (repeat' first|exact .refl _|apply LeR.tup|apply Le.agg|constructor)
theorem written_8 (l : Ltr) (hk : l.kind = 8) (h : smL l) : ASpec Tryz.prog 16 [.agg (letC l)] (bytesA (wrL l)) := by
 obtain ⟨h1,h2,h3,h4,h5,h6,h7,h8,h9,h10,h11,h12,h13,h14,h15,h16,h17,h18,h19⟩ := h
 have hn := number_wn 8 (letT l) (by unfold I64;omega)
 have hp := letparts_8 (letT l)
 rw [let_drop47 l h14] at hp
 have e8 := enc9 8 (by unfold I64;omega)
 have ht := asks_w (encN (zig 8)) l.o (rplC l.x) (by omega) h15
 have hb : encN (zig 8) ++ putO l.o = wrL l := by unfold wrL wrB;rw [hk];simp
 rw [hb] at ht
 have hc : (.agg (letC l) : AV) = .agg (.int .i64 8 :: letT l) := by unfold letC;rw [hk]
 rw [hc]
 have hT := Pln.let_ l
 refine ⟨⟨_,Tryz.func16,by kernel_rfl,rfl⟩,ACall.of Tryz.func16 rfl fun c0 hc0 => ?_⟩;simp only [Nat.reduceSub,go_sem];refine Run.god tab_ok follows_ok Tryz.func16 2 ?_;simp only [go_sem]
 refine Run.weak (Weak.freeze 1 0 _ rfl rfl) ?_
 refine Rg Tryz.func16 ?_;simp only [go_sem,Nat.reduceAdd,reduceCtorEq]
 refine Ops.callB .free rfl rfl (js := [1]) (by decide) (LentAll.cons rfl (LentB.box_ [.nils,.bool false,.int .i64 0] rfl) LentAll.nil) (lent1 (pp_lent _ _ _)) rfl (by simp [aev,amongL,AV.among,hT.2.1]) (by simp only [go_sem,cond_true,renL,AV.ren,hT.2.2,List.idxOf,List.findIdx,List.findIdx.go];exact LeL.cons (Le.refl _) (LeL.cons (Le.refl _) LeL.nil)) hn rfl ?_
 refine Og Tryz.func16 ?_;simp only [go_sem,putBack]
 refine Ops.pure .free rfl rfl hp (by simp only [go_sem];(repeat' first|exact .refl _|apply LeR.tup|apply Le.agg|constructor)) (by simp [belL,AV.bel,hT.1]) (by rfl) ?_
 refine Og Tryz.func16 ?_;simp only [go_sem,Nat.reduceAdd]
 refine Ops.invokeB .free rfl rfl meth_asks (js := [1]) (by decide) (LentAll.cons rfl (pp_lent _ _ _) LentAll.nil) (lent1 (pp_lent _ _ _)) rfl rfl (by exact LeL.cons (Le.refl _) (LeL.cons (Le.refl _) LeL.nil)) ht rfl ?_
 refine Og Tryz.func16 ?_;simp only [go_sem,putBack,pp,Nat.reduceAdd,Nat.reduceLeDiff]
 (and_intros <;> try first|rfl|omega|(unfold I64;omega))
 all_goals (repeat' first|exact .refl _|apply LeR.tup|apply Le.agg|constructor)
theorem let_drop15 (l : Ltr) : (letT l).drop 15 = sumC l.sum ++ (ordC l.o ++ rplC l.x) := rfl
theorem written_7 (l : Ltr) (hk : l.kind = 7) (h : smL l) : ASpec Tryz.prog 16 [.agg (letC l)] (bytesA (wrL l)) := by
 obtain ⟨h1,h2,h3,h4,h5,h6,h7,h8,h9,h10,h11,h12,h13,h14,h15,h16,h17,h18,h19⟩ := h
 have hn := number_wn 7 (letT l) (by unfold I64;omega)
 have hp := letparts_7 (letT l)
 rw [let_drop15 l,show (letT l).drop 1 = .int .i64 l.slot :: (letT l).drop 2 from rfl] at hp
 have e7 := enc9 7 (by unfold I64;omega)
 have e1 := enc9 _ h1
 have e2 := enc9 _ h2
 have hf := number_w (encN (zig 7)) l.frm ((letT l).drop 1) (by omega) h1
 have hs := int_spec (encN (zig 7) ++ encN (zig l.frm)) l.slot (by simp only [List.length_append];omega) h2
 have hsl : (sumC l.sum).length = 32 := by simp [sumC,h14]
 have htk : (sumC l.sum ++ (ordC l.o ++ rplC l.x)).take 32 = sumC l.sum := List.take_left' hsl
 have hmp : (sumC l.sum).map (fun a => [a]) = l.sum.map byteC := by unfold sumC;rw [List.map_map];rfl
 have hall : (sumC l.sum).all AV.plain = true := by unfold sumC;simp [AV.plain]
 have hc : (.agg (letC l) : AV) = .agg (.int .i64 7 :: letT l) := by unfold letC;rw [hk]
 rw [hc]
 have hT := Pln.let_ l
 have hD : ∀ d n,belL n ((letT l).drop d) = true := fun d n => (hT.drop d).1 n
 have hD1 : belL 0 (letT l).tail = true := by have := hD 1 0;simpa using this
 have hA1 : amongL [1] (letT l).tail = true := by have := (hT.drop 1).2.1 [1];simpa using this
 have q10 := Pln.d10 l
 refine ⟨⟨_,Tryz.func16,by kernel_rfl,rfl⟩,ACall.of Tryz.func16 rfl fun c0 hc0 => ?_⟩;simp only [Nat.reduceSub,go_sem];refine Run.god tab_ok follows_ok Tryz.func16 2 ?_;simp only [go_sem]
 refine Run.weak (Weak.freeze 1 0 _ rfl rfl) ?_
 refine Rg Tryz.func16 ?_;simp only [go_sem,Nat.reduceAdd,reduceCtorEq]
 refine Ops.callB .free rfl rfl (js := [1]) (by decide) (LentAll.cons rfl (LentB.box_ [.nils,.bool false,.int .i64 0] rfl) LentAll.nil) (lent1 (pp_lent _ _ _)) rfl (by simp [aev,amongL,AV.among,hT.2.1]) (by simp only [go_sem,cond_true,renL,AV.ren,hT.2.2,List.idxOf,List.findIdx,List.findIdx.go];exact LeL.cons (Le.refl _) (LeL.cons (Le.refl _) LeL.nil)) hn rfl ?_
 refine Og Tryz.func16 ?_;simp only [go_sem,putBack]
 refine Ops.pure .free rfl rfl hp (by simp only [go_sem];(repeat' first|exact .refl _|apply LeR.tup|apply Le.agg|constructor)) (by simp [belL,AV.bel,hT.1]) (by simp [AV.bel,belL,belLL,hD,q10.1,hT.1]) ?_
 refine Og Tryz.func16 ?_;simp only [go_sem,Nat.reduceAdd]
 refine Ops.invoke .free rfl rfl meth_parts ?_
 refine ACall.of Tryz.func113 rfl fun c1 hc1 => ?_;simp only [Tryz.ntmps113,Ya,Nat.reduceAdd,Y5];refine Rg Tryz.func113 ?_;simp only [go_sem,Nat.reduceAdd,Nat.reduceSub]
 refine Run.unloop ?_
 refine Rg Tryz.func113 ?_;simp only [go_sem,Int.cast_ofNat_Int,↓alt_t,Int.reduceLT,Int.reduceLE,Nat.reduceAdd,Nat.reduceLT]
 (and_intros <;> try first|rfl|omega|(unfold I64;omega))
 refine Ops.invokeB .free rfl rfl meth_number (js := [1]) (by decide) (LentAll.cons rfl (pp_lent _ _ _) LentAll.nil) (lent1 (pp_lent _ _ _)) rfl (by simp [aev,amongL,AV.among,hT.2.1]) (by simp only [go_sem,cond_true,renL,AV.ren,hT.2.2,List.idxOf,List.findIdx,List.findIdx.go];exact LeL.cons (Le.refl _) (LeL.cons (Le.refl _) LeL.nil)) hf rfl ?_
 refine Og Tryz.func113 ?_;simp only [go_sem,putBack,Int.reduceAdd]
 (and_intros <;> try first|rfl|omega|(unfold I64;omega))
 refine Run.again ?_
 refine Rg Tryz.func113 ?_;simp only [go_sem,Int.cast_ofNat_Int,Int.reduceToNat,↓alt_t,Int.reduceLT,Int.reduceLE,Nat.reduceAdd,Nat.reduceLT]
 (and_intros <;> try first|rfl|omega|(unfold I64;omega))
 refine Ops.invoke .free rfl rfl meth_number ?_
 refine ACall.of Tryz.func41 rfl fun c1 hc1 => ?_;simp only [Tryz.ntmps41,Ya,Nat.reduceAdd,Y5];refine Rg Tryz.func41 ?_;simp only [go_sem,pp,↓alt_f,Nat.reduceAdd,Nat.reduceLeDiff,Nat.reduceSub]
 refine ⟨rfl,?_⟩
 refine DOps.own rfl .free rfl rfl (hs) (by simp only [go_sem];(repeat' first|exact .refl _|apply LeR.tup|apply Le.agg|constructor)) rfl rfl ?_
 refine Dg Tryz.func41 rfl ?_;simp only [go_sem,Nat.reduceAdd,Nat.reduceLeDiff]
 refine ⟨rfl,?_⟩
 refine Og Tryz.func113 ?_;simp only [go_sem,Int.reduceAdd]
 (and_intros <;> try first|rfl|omega|(unfold I64;omega))
 refine Run.again ?_
 refine Rg Tryz.func113 ?_;simp only [go_sem,Int.cast_ofNat_Int,Int.reduceToNat,↓alt_t,Int.reduceLT,Int.reduceLE,Nat.reduceAdd,Nat.reduceLT]
 (and_intros <;> try first|rfl|omega|(unfold I64;omega))
 refine Ops.invoke .free rfl rfl meth_sum ?_
 refine ACall.of Tryz.func114 rfl fun c1 hc1 => ?_;simp only [Tryz.ntmps114,Ya,Nat.reduceAdd,Y5];refine Rg Tryz.func114 ?_;simp only [go_sem,htk,hmp,hall,↓alt_t,↓alt_f,Nat.reduceAdd,Nat.reduceLeDiff,Nat.reduceSub]
 refine ⟨rfl,?_⟩
 have hb : encN (zig 7) ++ encN (zig l.frm) ++ encN (zig l.slot) ++ l.sum = wrL l := by unfold wrL wrB;rw [hk];simp
 have hbl : (encN (zig 7) ++ encN (zig l.frm) ++ encN (zig l.slot)).length ≤ 27 := by simp only [List.length_append];omega
 (and_intros <;> try first|rfl|omega|(unfold I64;omega))
 all_goals (first|(simp only [List.length_append,hsl];omega)|(simp only [Yo];omega)|skip)
 refine Og Tryz.func113 ?_;simp only [go_sem,Int.reduceAdd]
 (and_intros <;> try first|rfl|omega|(unfold I64;omega))
 refine Run.again ?_
 refine Rg Tryz.func113 ?_;simp only [go_sem,↓alt_f,Int.reduceLT]
 (and_intros <;> try first|rfl|omega|(unfold I64;omega))
 refine Og Tryz.func16 ?_;simp only [go_sem,Nat.reduceAdd,Nat.reduceLeDiff]
 (and_intros <;> try first|rfl|omega|(unfold I64;omega))
 rw [← hb,← List.map_append]
 all_goals (repeat' first|exact .refl _|apply LeR.tup|apply Le.agg|constructor)
def rdN (b : Bytes) (e : Int) (cur : Int) : Bytes × Int × Int := if e = 0 then (match takeZ b with|.ok (n,r) => (r,0,n)|.error z => ([],z,0)) else (b,e,cur)
def rdT (b : Bytes) (e : Int) (cur : Bytes) : Bytes × Int × Bytes := if e = 0 then (match takeT b 6000 with|.ok (n,r) => (r,0,n)|.error z => ([],z,[])) else (b,e,cur)
def rdO (b : Bytes) (e : Int) (cur : Ord) : Bytes × Int × Ord := if e = 0 then (match takeO b with|.ok (n,r) => (r,0,n)|.error z => ([],z,⟨0,0,0,[],[],0,0,0⟩)) else (b,e,cur)
def rdX (b : Bytes) (e : Int) (cur : Rpl) : Bytes × Int × Rpl := if e = 0 then (match takeRp b with|.ok (n,r) => (r,0,n)|.error z => ([],z,⟨0,0,0,[],0,[]⟩)) else (b,e,cur)
theorem le1l_refl : ∀ l : List AV,Le1L l l
 | [] => .nil
 | a :: l => .cons (.refl _) (le1l_refl l)
theorem lay_self {cs xs : List AV} {o : Nat} (h : (cs.drop o).take xs.length = xs) (hl : o + xs.length ≤ cs.length) : lay cs o xs = cs := by
 unfold lay
 have h1 : cs.drop (o + xs.length) = (cs.drop o).drop xs.length := by rw [List.drop_drop]
 rw [h1,List.append_assoc]
 have h2 := List.take_append_drop xs.length (cs.drop o)
 rw [h] at h2
 rw [h2,List.take_append_drop]
theorem belL_app {n : Nat} : ∀ {xs ys : List AV},belL n xs = true → belL n ys = true → belL n (xs ++ ys) = true
 | [],_,_,h => h
 | x :: xs,ys,h1,h2 => by
  simp only [belL,Y5,Bool.and_eq_true] at h1 ⊢
  exact ⟨h1.1,belL_app h1.2 h2⟩
theorem belL_take {n : Nat} : ∀ (k : Nat) {xs : List AV},belL n xs = true → belL n (xs.take k) = true
 | 0,_,_ => rfl
 | k + 1,[],_ => rfl
 | k + 1,x :: xs,h => by
  simp only [belL,Yg,Bool.and_eq_true] at h ⊢
  exact ⟨h.1,belL_take k h.2⟩
theorem belL_drop {n : Nat} : ∀ (k : Nat) {xs : List AV},belL n xs = true → belL n (xs.drop k) = true
 | 0,_,h => h
 | k + 1,[],h => h
 | k + 1,x :: xs,h => by
  simp only [belL,Bool.and_eq_true] at h
  exact belL_drop k h.2
theorem belL_lay {n : Nat} {cs xs : List AV} {o : Nat} (h1 : belL n cs = true) (h2 : belL n xs = true) : belL n (lay cs o xs) = true := by
 unfold lay
 exact belL_app (belL_app (belL_take _ h1) h2) (belL_drop _ h1)
theorem number_r (b : Bytes) (e : Int) (cur : Int) (cs : List AV) (o : Nat) (hb : b.length ≤ 1000000) (ho : (cs.drop o).take 1 = [.int .i64 cur]) (hl : o + 1 ≤ cs.length) (hcs : belL 0 cs = true) : BSpec Tryz.prog 41 [.agg [.ptr 1 o],.ptr 0 0] [pp b true e,.box cs] [pp (rdN b e cur).1 true (rdN b e cur).2.1,.box (lay cs o [.int .i64 (rdN b e cur).2.2])] (.tup []) := by
 by_cases he : e = 0
 ·subst he
  have hi := takeint_spec b
  cases ht : takeZ b with
  | error z =>
   rw [ht] at hi
   simp only [takeZA] at hi
   have e1 : rdN b 0 cur = ([],z,0) := by unfold rdN;simp [ht]
   rw [e1]
   refine ⟨⟨_,Tryz.func41,by kernel_rfl,rfl⟩,Sg Tryz.func41 rfl fun c0 hc0 => ?_⟩;simp only [go_sem,pp,↓alt_t,↓alt_f,Nat.reduceAdd,Nat.reduceLeDiff,Nat.reduceSub]
   refine ⟨rfl,?_⟩
   refine DOps.pure rfl .free rfl rfl (hi) (by simp only [go_sem];(repeat' first|exact .refl _|apply LeR.tup|apply Le.agg|constructor)) rfl rfl ?_
   refine Dg Tryz.func41 rfl ?_;simp only [go_sem,hl,bytesA,Nat.reduceAdd,Nat.reduceLeDiff]
   (and_intros <;> try first|rfl|omega|(unfold I64;omega))
   all_goals (first|omega|(repeat' (first|exact WkH.nil _|exact LeR.one (Le.refl _)|exact LeL.nil|apply LeR.tup|exact Le.refl _|exact Le1.refl _|exact Le1L.nil|exact le1l_refl _|rfl|exact hcs|exact belL_app (belL_app (belL_take _ hcs) rfl) (belL_drop _ hcs)|apply WkH.cons|apply LeB.box|apply Le1L.cons|apply Le.one)))
  | ok p =>
   obtain ⟨n,q⟩ := p
   rw [ht] at hi
   simp only [takeZA] at hi
   have e1 : rdN b 0 cur = (q,0,n) := by unfold rdN;simp [ht]
   rw [e1]
   refine ⟨⟨_,Tryz.func41,by kernel_rfl,rfl⟩,Sg Tryz.func41 rfl fun c0 hc0 => ?_⟩;simp only [go_sem,pp,↓alt_t,↓alt_f,Nat.reduceAdd,Nat.reduceLeDiff,Nat.reduceSub]
   refine ⟨rfl,?_⟩
   refine DOps.pure rfl .free rfl rfl (hi) (by simp only [go_sem];(repeat' first|exact .refl _|apply LeR.tup|apply Le.agg|constructor)) rfl rfl ?_
   refine Dg Tryz.func41 rfl ?_;simp only [go_sem,hl,bytesA,Nat.reduceAdd,Nat.reduceLeDiff]
   (and_intros <;> try first|rfl|omega|(unfold I64;omega))
   all_goals (first|omega|(repeat' (first|exact WkH.nil _|exact LeR.one (Le.refl _)|exact LeL.nil|apply LeR.tup|exact Le.refl _|exact Le1.refl _|exact Le1L.nil|exact le1l_refl _|rfl|exact hcs|exact belL_app (belL_app (belL_take _ hcs) rfl) (belL_drop _ hcs)|apply WkH.cons|apply LeB.box|apply Le1L.cons|apply Le.one)))
 ·have e1 : rdN b e cur = (b,e,cur) := by unfold rdN;simp [he]
  rw [e1,lay_self (xs := [.int .i64 cur]) ho hl]
  refine ⟨⟨_,Tryz.func41,by kernel_rfl,rfl⟩,Sg Tryz.func41 rfl fun c0 hc0 => ?_⟩;simp only [go_sem,pp,he,↓alt_t,Nat.reduceAdd,Nat.reduceSub]
  (and_intros <;> try first|rfl|omega|(unfold I64;omega))
  all_goals (first|omega|(repeat' (first|exact WkH.nil _|exact LeR.one (Le.refl _)|exact LeL.nil|apply LeR.tup|exact Le.refl _|exact Le1.refl _|exact Le1L.nil|exact le1l_refl _|rfl|exact hcs|exact belL_app (belL_app (belL_take _ hcs) rfl) (belL_drop _ hcs)|apply WkH.cons|apply LeB.box|apply Le1L.cons|apply Le.one)))
theorem text_r (b : Bytes) (e : Int) (cur : Bytes) (cs : List AV) (o : Nat) (hb : b.length ≤ 1000000) (ho : (cs.drop o).take 1 = [.str cur]) (hl : o + 1 ≤ cs.length) (hcs : belL 0 cs = true) : BSpec Tryz.prog 109 [.agg [.ptr 1 o],.ptr 0 0] [pp b true e,.box cs] [pp (rdT b e cur).1 true (rdT b e cur).2.1,.box (lay cs o [.str (rdT b e cur).2.2])] (.tup []) := by
 by_cases he : e = 0
 ·subst he
  have hi := taketext_spec b 6000 hb (by omega)
  cases ht : takeT b 6000 with
  | error z =>
   rw [ht] at hi
   simp only [takeTA] at hi
   have e1 : rdT b 0 cur = ([],z,[]) := by unfold rdT;simp [ht]
   rw [e1]
   refine ⟨⟨_,Tryz.func109,by kernel_rfl,rfl⟩,Sg Tryz.func109 rfl fun c0 hc0 => ?_⟩;simp only [go_sem,pp,↓alt_t,↓alt_f,Nat.reduceAdd,Nat.reduceLeDiff,Nat.reduceSub]
   refine ⟨rfl,?_⟩
   refine DOps.pure rfl .free rfl rfl (hi) (by simp only [go_sem];(repeat' first|exact .refl _|apply LeR.tup|apply Le.agg|constructor)) rfl rfl ?_
   refine Dg Tryz.func109 rfl ?_;simp only [go_sem,hl,bytesA,Nat.reduceAdd,Nat.reduceLeDiff]
   (and_intros <;> try first|rfl|omega|(unfold I64;omega))
   all_goals (first|omega|(repeat' (first|exact WkH.nil _|exact LeR.one (Le.refl _)|exact LeL.nil|apply LeR.tup|exact Le.refl _|exact Le1.refl _|exact Le1L.nil|exact le1l_refl _|rfl|exact hcs|exact belL_app (belL_app (belL_take _ hcs) rfl) (belL_drop _ hcs)|apply WkH.cons|apply LeB.box|apply Le1L.cons|apply Le.one)))
  | ok p =>
   obtain ⟨n,q⟩ := p
   rw [ht] at hi
   simp only [takeTA] at hi
   have e1 : rdT b 0 cur = (q,0,n) := by unfold rdT;simp [ht]
   rw [e1]
   refine ⟨⟨_,Tryz.func109,by kernel_rfl,rfl⟩,Sg Tryz.func109 rfl fun c0 hc0 => ?_⟩;simp only [go_sem,pp,↓alt_t,↓alt_f,Nat.reduceAdd,Nat.reduceLeDiff,Nat.reduceSub]
   refine ⟨rfl,?_⟩
   refine DOps.pure rfl .free rfl rfl (hi) (by simp only [go_sem];(repeat' first|exact .refl _|apply LeR.tup|apply Le.agg|constructor)) rfl rfl ?_
   refine Dg Tryz.func109 rfl ?_;simp only [go_sem,hl,bytesA,Nat.reduceAdd,Nat.reduceLeDiff]
   (and_intros <;> try first|rfl|omega|(unfold I64;omega))
   all_goals (first|omega|(repeat' (first|exact WkH.nil _|exact LeR.one (Le.refl _)|exact LeL.nil|apply LeR.tup|exact Le.refl _|exact Le1.refl _|exact Le1L.nil|exact le1l_refl _|rfl|exact hcs|exact belL_app (belL_app (belL_take _ hcs) rfl) (belL_drop _ hcs)|apply WkH.cons|apply LeB.box|apply Le1L.cons|apply Le.one)))
 ·have e1 : rdT b e cur = (b,e,cur) := by unfold rdT;simp [he]
  rw [e1,lay_self (xs := [.str cur]) ho hl]
  refine ⟨⟨_,Tryz.func109,by kernel_rfl,rfl⟩,Sg Tryz.func109 rfl fun c0 hc0 => ?_⟩;simp only [go_sem,pp,he,↓alt_t,Nat.reduceAdd,Nat.reduceSub]
  (and_intros <;> try first|rfl|omega|(unfold I64;omega))
  all_goals (first|omega|(repeat' (first|exact WkH.nil _|exact LeR.one (Le.refl _)|exact LeL.nil|apply LeR.tup|exact Le.refl _|exact Le1.refl _|exact Le1L.nil|exact le1l_refl _|rfl|exact hcs|exact belL_app (belL_app (belL_take _ hcs) rfl) (belL_drop _ hcs)|apply WkH.cons|apply LeB.box|apply Le1L.cons|apply Le.one)))
theorem asks_r (b : Bytes) (e : Int) (cur : Ord) (cs : List AV) (o : Nat) (hb : b.length ≤ 1000000) (ho : (cs.drop o).take 8 = [.int .i64 cur.a,.int .i64 cur.b,.int .i64 cur.kind,.str cur.s,.str cur.t,.int .i64 cur.x,.int .i64 cur.y,.int .i64 cur.z]) (hl : o + 8 ≤ cs.length) (hcs : belL 0 cs = true) : BSpec Tryz.prog 115 [.agg [.ptr 1 o],.ptr 0 0] [pp b true e,.box cs] [pp (rdO b e cur).1 true (rdO b e cur).2.1,.box (lay cs o [.int .i64 (rdO b e cur).2.2.a,.int .i64 (rdO b e cur).2.2.b,.int .i64 (rdO b e cur).2.2.kind,.str (rdO b e cur).2.2.s,.str (rdO b e cur).2.2.t,.int .i64 (rdO b e cur).2.2.x,.int .i64 (rdO b e cur).2.2.y,.int .i64 (rdO b e cur).2.2.z])] (.tup []) := by
 by_cases he : e = 0
 ·subst he
  have hi := take12_spec b hb
  cases ht : takeO b with
  | error z =>
   rw [ht] at hi
   simp only [takeOA] at hi
   have e1 : rdO b 0 cur = ([],z,⟨0,0,0,[],[],0,0,0⟩) := by unfold rdO;simp [ht]
   rw [e1]
   refine ⟨⟨_,Tryz.func115,by kernel_rfl,rfl⟩,Sg Tryz.func115 rfl fun c0 hc0 => ?_⟩;simp only [go_sem,pp,↓alt_t,↓alt_f,Nat.reduceAdd,Nat.reduceLeDiff,Nat.reduceSub]
   refine ⟨rfl,?_⟩
   refine DOps.pure rfl .free rfl rfl (hi) (by simp only [go_sem];(repeat' first|exact .refl _|apply LeR.tup|apply Le.agg|constructor)) rfl rfl ?_
   refine Dg Tryz.func115 rfl ?_;simp only [go_sem,hl,bytesA,encO,Nat.reduceAdd,Nat.reduceLeDiff]
   (and_intros <;> try first|rfl|omega|(unfold I64;omega))
   all_goals (first|omega|(repeat' (first|exact WkH.nil _|exact LeR.one (Le.refl _)|exact LeL.nil|apply LeR.tup|exact Le.refl _|exact Le1.refl _|exact Le1L.nil|exact le1l_refl _|rfl|exact hcs|exact belL_app (belL_app (belL_take _ hcs) rfl) (belL_drop _ hcs)|apply WkH.cons|apply LeB.box|apply Le1L.cons|apply Le.one)))
  | ok p =>
   obtain ⟨n,q⟩ := p
   rw [ht] at hi
   simp only [takeOA] at hi
   have e1 : rdO b 0 cur = (q,0,n) := by unfold rdO;simp [ht]
   rw [e1]
   refine ⟨⟨_,Tryz.func115,by kernel_rfl,rfl⟩,Sg Tryz.func115 rfl fun c0 hc0 => ?_⟩;simp only [go_sem,pp,↓alt_t,↓alt_f,Nat.reduceAdd,Nat.reduceLeDiff,Nat.reduceSub]
   refine ⟨rfl,?_⟩
   refine DOps.pure rfl .free rfl rfl (hi) (by simp only [go_sem];(repeat' first|exact .refl _|apply LeR.tup|apply Le.agg|constructor)) rfl rfl ?_
   refine Dg Tryz.func115 rfl ?_;simp only [go_sem,hl,bytesA,encO,Nat.reduceAdd,Nat.reduceLeDiff]
   (and_intros <;> try first|rfl|omega|(unfold I64;omega))
   all_goals (first|omega|(repeat' (first|exact WkH.nil _|exact LeR.one (Le.refl _)|exact LeL.nil|apply LeR.tup|exact Le.refl _|exact Le1.refl _|exact Le1L.nil|exact le1l_refl _|rfl|exact hcs|exact belL_app (belL_app (belL_take _ hcs) rfl) (belL_drop _ hcs)|apply WkH.cons|apply LeB.box|apply Le1L.cons|apply Le.one)))
 ·have e1 : rdO b e cur = (b,e,cur) := by unfold rdO;simp [he]
  rw [e1,lay_self (xs := [.int .i64 cur.a,.int .i64 cur.b,.int .i64 cur.kind,.str cur.s,.str cur.t,.int .i64 cur.x,.int .i64 cur.y,.int .i64 cur.z]) ho hl]
  refine ⟨⟨_,Tryz.func115,by kernel_rfl,rfl⟩,Sg Tryz.func115 rfl fun c0 hc0 => ?_⟩;simp only [go_sem,pp,he,↓alt_t,Nat.reduceAdd,Nat.reduceSub]
  (and_intros <;> try first|rfl|omega|(unfold I64;omega))
  all_goals (first|omega|(repeat' (first|exact WkH.nil _|exact LeR.one (Le.refl _)|exact LeL.nil|apply LeR.tup|exact Le.refl _|exact Le1.refl _|exact Le1L.nil|exact le1l_refl _|rfl|exact hcs|exact belL_app (belL_app (belL_take _ hcs) rfl) (belL_drop _ hcs)|apply WkH.cons|apply LeB.box|apply Le1L.cons|apply Le.one)))
theorem replies_r (b : Bytes) (e : Int) (cur : Rpl) (cs : List AV) (o : Nat) (hb : b.length ≤ 1000000) (ho : (cs.drop o).take 6 = [.int .i64 cur.a,.int .i64 cur.b,.int .i64 cur.e,.str cur.s,.int .i64 cur.x,textsA cur.l]) (hl : o + 6 ≤ cs.length) (hcs : belL 0 cs = true) : BSpec Tryz.prog 121 [.agg [.ptr 1 o],.ptr 0 0] [pp b true e,.box cs] [pp (rdX b e cur).1 true (rdX b e cur).2.1,.box (lay cs o [.int .i64 (rdX b e cur).2.2.a,.int .i64 (rdX b e cur).2.2.b,.int .i64 (rdX b e cur).2.2.e,.str (rdX b e cur).2.2.s,.int .i64 (rdX b e cur).2.2.x,textsA (rdX b e cur).2.2.l])] (.tup []) := by
 by_cases he : e = 0
 ·subst he
  have hi := takereply_spec b hb
  cases ht : takeRp b with
  | error z =>
   rw [ht] at hi
   simp only [takeRpA] at hi
   have e1 : rdX b 0 cur = ([],z,⟨0,0,0,[],0,[]⟩) := by unfold rdX;simp [ht]
   rw [e1]
   refine ⟨⟨_,Tryz.func121,by kernel_rfl,rfl⟩,Sg Tryz.func121 rfl fun c0 hc0 => ?_⟩;simp only [go_sem,pp,↓alt_t,↓alt_f,Nat.reduceAdd,Nat.reduceLeDiff,Nat.reduceSub]
   refine ⟨rfl,?_⟩
   refine DOps.pure rfl .free rfl rfl (hi) (by simp only [go_sem];(repeat' first|exact .refl _|apply LeR.tup|apply Le.agg|constructor)) rfl rfl ?_
   refine Dg Tryz.func121 rfl ?_;simp only [go_sem,hl,bytesA,encR,Nat.reduceAdd,Nat.reduceLeDiff]
   (and_intros <;> try first|rfl|omega|(unfold I64;omega))
   all_goals (first|omega|(repeat' (first|exact WkH.nil _|exact LeR.one (Le.refl _)|exact LeL.nil|apply LeR.tup|exact Le.refl _|exact Le1.refl _|exact Le1L.nil|exact le1l_refl _|rfl|exact hcs|exact belL_app (belL_app (belL_take _ hcs) rfl) (belL_drop _ hcs)|apply WkH.cons|apply LeB.box|apply Le1L.cons|apply Le.one)))
  | ok p =>
   obtain ⟨n,q⟩ := p
   rw [ht] at hi
   simp only [takeRpA] at hi
   have e1 : rdX b 0 cur = (q,0,n) := by unfold rdX;simp [ht]
   rw [e1]
   refine ⟨⟨_,Tryz.func121,by kernel_rfl,rfl⟩,Sg Tryz.func121 rfl fun c0 hc0 => ?_⟩;simp only [go_sem,pp,↓alt_t,↓alt_f,Nat.reduceAdd,Nat.reduceLeDiff,Nat.reduceSub]
   refine ⟨rfl,?_⟩
   refine DOps.pure rfl .free rfl rfl (hi) (by simp only [go_sem];(repeat' first|exact .refl _|apply LeR.tup|apply Le.agg|constructor)) rfl rfl ?_
   refine Dg Tryz.func121 rfl ?_;simp only [go_sem,hl,bytesA,encR,Nat.reduceAdd,Nat.reduceLeDiff]
   (and_intros <;> try first|rfl|omega|(unfold I64;omega))
   all_goals (first|omega|(repeat' (first|exact WkH.nil _|exact LeR.one (Le.refl _)|exact LeL.nil|apply LeR.tup|exact Le.refl _|exact Le1.refl _|exact Le1L.nil|exact le1l_refl _|rfl|exact hcs|exact belL_app (belL_app (belL_take _ hcs) rfl) (belL_drop _ hcs)|apply WkH.cons|apply LeB.box|apply Le1L.cons|apply Le.one)))
 ·have e1 : rdX b e cur = (b,e,cur) := by unfold rdX;simp [he]
  rw [e1,lay_self (xs := [.int .i64 cur.a,.int .i64 cur.b,.int .i64 cur.e,.str cur.s,.int .i64 cur.x,textsA cur.l]) ho hl]
  refine ⟨⟨_,Tryz.func121,by kernel_rfl,rfl⟩,Sg Tryz.func121 rfl fun c0 hc0 => ?_⟩;simp only [go_sem,pp,he,↓alt_t,Nat.reduceAdd,Nat.reduceSub]
  (and_intros <;> try first|rfl|omega|(unfold I64;omega))
  all_goals (first|omega|(repeat' (first|exact WkH.nil _|exact LeR.one (Le.refl _)|exact LeL.nil|apply LeR.tup|exact Le.refl _|exact Le1.refl _|exact Le1L.nil|exact le1l_refl _|rfl|exact hcs|exact belL_app (belL_app (belL_take _ hcs) rfl) (belL_drop _ hcs)|apply WkH.cons|apply LeB.box|apply Le1L.cons|apply Le.one)))
def rdF (b : Bytes) (e : Int) (cur : Bool) : Bytes × Int × Bool := ((rdN b e (if cur then 1 else 0)).1,(if (rdN b e (if cur then 1 else 0)).2.2 ≠ 0 ∧ (rdN b e (if cur then 1 else 0)).2.2 ≠ 1 then 3 else (rdN b e (if cur then 1 else 0)).2.1),decide ((rdN b e (if cur then 1 else 0)).2.2 = 1))
theorem belLL_set {n : Nat} : ∀ {L : List (List AV)} {j : Nat} {x : List AV},belLL n L = true → belL n x = true → belLL n (L.set j x) = true
 | [],_,_,h,_ => h
 | y :: L,0,x,h,hx => by
  simp only [belLL,Y6,Bool.and_eq_true] at h ⊢
  exact ⟨hx,h.2⟩
 | y :: L,j + 1,x,h,hx => by
  simp only [belLL,Y7,Bool.and_eq_true] at h ⊢
  exact ⟨h.1,belLL_set h.2 hx⟩
theorem flag_r_true (b : Bytes) (e : Int) (cs : List AV) (o : Nat) (hb : b.length ≤ 1000000) (ho : (cs.drop o).take 1 = [.bool true]) (hl : o + 1 ≤ cs.length) (hcs : belL 0 cs = true) : BSpec Tryz.prog 126 [.agg [.ptr 1 o],.ptr 0 0] [pp b true e,.box cs] [pp (rdF b e true).1 true (rdF b e true).2.1,.box (lay cs o [.bool (rdF b e true).2.2])] (.tup []) := by
 have hn := number_r b e 1 [.int .i64 1] 0 hb rfl (by decide) rfl
 unfold rdF
 simp only [Ys]
 generalize rdN b e 1 = t at *
 obtain ⟨b',e',n⟩ := t
 simp only [go_sem] at hn ⊢
 refine ⟨⟨_,Tryz.func126,by kernel_rfl,rfl⟩,Sg Tryz.func126 rfl fun c0 hc0 => ?_⟩;simp only [go_sem,pp,ho,ne_eq,↓alt_t,Nat.reduceAdd,Nat.reduceSub]
 refine ⟨by omega,?_⟩
 refine Ops.callB .free rfl rfl (js := [0,3]) (by decide) (LentAll.cons rfl (pp_lent b true e) (LentAll.cons rfl (LentB.box_ [.int .i64 1] rfl) LentAll.nil)) (lent2 (pp_lent _ _ _) (LentB.box_ _ rfl)) rfl rfl (by simp only [go_sem,cond_true,cond_false,renL,AV.ren,List.idxOf,List.findIdx,List.findIdx.go,Nat.reduceAdd,Nat.reduceBEq];(repeat' first|exact .refl _|apply LeR.tup|apply Le.agg|constructor)) (hn) rfl ?_
 by_cases n0 : n = 0
 ·subst n0
  refine Og Tryz.func126 ?_;simp only [go_sem,putBack,pp,hl,↓alt_f,↓alts_f,↓gone_tf,Int.reduceEq]
  (and_intros <;> try first|rfl|omega|(unfold I64;omega))
  all_goals (first|omega|(repeat' (first|exact WkH.nil _|exact LeR.one (Le.refl _)|exact LeL.nil|apply LeR.tup|exact Le.refl _|exact Le1.refl _|exact Le1L.nil|exact le1l_refl _|rfl|exact hcs|exact belL_app (belL_app (belL_take _ hcs) rfl) (belL_drop _ hcs)|apply WkH.cons|apply LeB.box|apply Le1L.cons|apply Le.one)))
 ·by_cases n1 : n = 1
  ·subst n1
   refine Og Tryz.func126 ?_;simp only [go_sem,putBack,pp,hl,show ¬ (1 : Int) = 0 by decide,↓alt_f,↓alts_t,↓gone_tt]
   (and_intros <;> try first|rfl|omega|(unfold I64;omega))
   all_goals (first|omega|(repeat' (first|exact WkH.nil _|exact LeR.one (Le.refl _)|exact LeL.nil|apply LeR.tup|exact Le.refl _|exact Le1.refl _|exact Le1L.nil|exact le1l_refl _|rfl|exact hcs|exact belL_app (belL_app (belL_take _ hcs) rfl) (belL_drop _ hcs)|apply WkH.cons|apply LeB.box|apply Le1L.cons|apply Le.one)))
  ·have h3 : (n ≠ 0 ∧ n ≠ 1) := ⟨n0,n1⟩
   rw [if_pos h3]
   refine Og Tryz.func126 ?_;simp only [go_sem,putBack,pp,hl,n0,n1,↓alt_t,↓alts_t,↓gone_tt,Nat.reduceAdd]
   (and_intros <;> try first|rfl|omega|(unfold I64;omega))
   all_goals (first|omega|(repeat' (first|exact WkH.nil _|exact LeR.one (Le.refl _)|exact LeL.nil|apply LeR.tup|exact Le.refl _|exact Le1.refl _|exact Le1L.nil|exact le1l_refl _|rfl|exact hcs|exact belL_app (belL_app (belL_take _ hcs) rfl) (belL_drop _ hcs)|apply WkH.cons|apply LeB.box|apply Le1L.cons|apply Le.one)))
theorem flag_r_false (b : Bytes) (e : Int) (cs : List AV) (o : Nat) (hb : b.length ≤ 1000000) (ho : (cs.drop o).take 1 = [.bool false]) (hl : o + 1 ≤ cs.length) (hcs : belL 0 cs = true) : BSpec Tryz.prog 126 [.agg [.ptr 1 o],.ptr 0 0] [pp b true e,.box cs] [pp (rdF b e false).1 true (rdF b e false).2.1,.box (lay cs o [.bool (rdF b e false).2.2])] (.tup []) := by
 have hn := number_r b e 0 [.int .i64 0] 0 hb rfl (by decide) rfl
 unfold rdF
 simp only [Y8,Yr]
 generalize rdN b e 0 = t at *
 obtain ⟨b',e',n⟩ := t
 simp only [go_sem] at hn ⊢
 refine ⟨⟨_,Tryz.func126,by kernel_rfl,rfl⟩,Sg Tryz.func126 rfl fun c0 hc0 => ?_⟩;simp only [go_sem,pp,ho,ne_eq,↓alt_f,Nat.reduceAdd,Nat.reduceSub]
 refine ⟨by omega,?_⟩
 refine Ops.callB .free rfl rfl (js := [0,3]) (by decide) (LentAll.cons rfl (pp_lent b true e) (LentAll.cons rfl (LentB.box_ [.int .i64 0] rfl) LentAll.nil)) (lent2 (pp_lent _ _ _) (LentB.box_ _ rfl)) rfl rfl (by simp only [go_sem,cond_true,cond_false,renL,AV.ren,List.idxOf,List.findIdx,List.findIdx.go,Nat.reduceAdd,Nat.reduceBEq];(repeat' first|exact .refl _|apply LeR.tup|apply Le.agg|constructor)) (hn) rfl ?_
 by_cases n0 : n = 0
 ·subst n0
  refine Og Tryz.func126 ?_;simp only [go_sem,putBack,pp,hl,↓alt_f,↓alts_f,↓gone_tf,Int.reduceEq]
  (and_intros <;> try first|rfl|omega|(unfold I64;omega))
  all_goals (first|omega|(repeat' (first|exact WkH.nil _|exact LeR.one (Le.refl _)|exact LeL.nil|apply LeR.tup|exact Le.refl _|exact Le1.refl _|exact Le1L.nil|exact le1l_refl _|rfl|exact hcs|exact belL_app (belL_app (belL_take _ hcs) rfl) (belL_drop _ hcs)|apply WkH.cons|apply LeB.box|apply Le1L.cons|apply Le.one)))
 ·by_cases n1 : n = 1
  ·subst n1
   refine Og Tryz.func126 ?_;simp only [go_sem,putBack,pp,hl,show ¬ (1 : Int) = 0 by decide,↓alt_f,↓alts_t,↓gone_tt]
   (and_intros <;> try first|rfl|omega|(unfold I64;omega))
   all_goals (first|omega|(repeat' (first|exact WkH.nil _|exact LeR.one (Le.refl _)|exact LeL.nil|apply LeR.tup|exact Le.refl _|exact Le1.refl _|exact Le1L.nil|exact le1l_refl _|rfl|exact hcs|exact belL_app (belL_app (belL_take _ hcs) rfl) (belL_drop _ hcs)|apply WkH.cons|apply LeB.box|apply Le1L.cons|apply Le.one)))
  ·have h3 : (n ≠ 0 ∧ n ≠ 1) := ⟨n0,n1⟩
   rw [if_pos h3]
   refine Og Tryz.func126 ?_;simp only [go_sem,putBack,pp,hl,n0,n1,↓alt_t,↓alts_t,↓gone_tt,Nat.reduceAdd]
   (and_intros <;> try first|rfl|omega|(unfold I64;omega))
   all_goals (first|omega|(repeat' (first|exact WkH.nil _|exact LeR.one (Le.refl _)|exact LeL.nil|apply LeR.tup|exact Le.refl _|exact Le1.refl _|exact Le1L.nil|exact le1l_refl _|rfl|exact hcs|exact belL_app (belL_app (belL_take _ hcs) rfl) (belL_drop _ hcs)|apply WkH.cons|apply LeB.box|apply Le1L.cons|apply Le.one)))
theorem set_lay_self {L : List (List AV)} {j o : Nat} {row xs : List AV} (hj : L[j]? = some row) (h : (row.drop o).take xs.length = xs) (hl : o + xs.length ≤ row.length) : L.set j (lay row o xs) = L := by
 rw [lay_self h hl]
 obtain ⟨h1,h2⟩ := List.getElem?_eq_some_iff.1 hj
 rw [← h2,List.set_getElem_self]
theorem set_lay_bel {L : List (List AV)} {j o : Nat} {row xs : List AV} (hj : L[j]? = some row) (hL : belLL 0 L = true) (hx : belL 0 xs = true) : belLL 0 (L.set j (lay row o xs)) = true := belLL_set hL (belL_lay (belLL_get hL j row hj) hx)
theorem rows_lent {k : Nat} {L : List (List AV)} (h : belLL 0 L = true) : LentB (.rows k L) := .inr ⟨_,_,rfl,h⟩
theorem number_q (b : Bytes) (e : Int) (cur : Int) (L : List (List AV)) (row : List AV) (k j o : Nat) (hb : b.length ≤ 1000000) (hj : L[j]? = some row) (ho : (row.drop o).take 1 = [.int .i64 cur]) (hk : row.length = k) (hl : o + 1 ≤ k) (hL : belLL 0 L = true) : BSpec Tryz.prog 41 [.agg [.eptr 1 k j o],.ptr 0 0] [pp b true e,.rows k L] [pp (rdN b e cur).1 true (rdN b e cur).2.1,.rows k (L.set j (lay row o [.int .i64 (rdN b e cur).2.2]))] (.tup []) := by
 have hlt : j < L.length := (List.getElem?_eq_some_iff.1 hj).1
 have h1k : 0 < 1 := by omega
 by_cases he : e = 0
 ·subst he
  have hi := takeint_spec b
  cases ht : takeZ b with
  | error z =>
   rw [ht] at hi
   simp only [takeZA] at hi
   have e1 : rdN b 0 cur = ([],z,0) := by unfold rdN;simp [ht]
   rw [e1]
   have hYb : (ABlk.rows k (L.set j (lay row o [.int .i64 0]))).bel 0 = true := set_lay_bel hj hL rfl
   refine ⟨⟨_,Tryz.func41,by kernel_rfl,rfl⟩,Sg Tryz.func41 rfl fun c0 hc0 => ?_⟩;simp only [go_sem,pp,↓alt_t,↓alt_f,Nat.reduceAdd,Nat.reduceLeDiff,Nat.reduceSub]
   refine ⟨rfl,?_⟩
   refine DOps.pure rfl .free rfl rfl (hi) (by simp only [go_sem];(repeat' first|exact .refl _|apply LeR.tup|apply Le.agg|constructor)) rfl rfl ?_
   refine Dg Tryz.func41 rfl ?_;simp only [go_sem,hl,hlt,hj,bytesA,Nat.reduceAdd,Nat.reduceLeDiff,Nat.reduceLT]
   (and_intros <;> try first|rfl|omega|(unfold I64;omega))
   all_goals (first|omega|(repeat' (first|exact WkH.nil _|exact LeR.one (Le.refl _)|exact LeL.nil|apply LeR.tup|exact LeB.same _ hYb|exact Le.refl _|exact Le1.refl _|exact Le1L.nil|rfl|apply WkH.cons|apply LeB.box|apply Le1L.cons|apply Le.one)))
  | ok p =>
   obtain ⟨n,q⟩ := p
   rw [ht] at hi
   simp only [takeZA] at hi
   have e1 : rdN b 0 cur = (q,0,n) := by unfold rdN;simp [ht]
   rw [e1]
   have hYb : (ABlk.rows k (L.set j (lay row o [.int .i64 n]))).bel 0 = true := set_lay_bel hj hL rfl
   refine ⟨⟨_,Tryz.func41,by kernel_rfl,rfl⟩,Sg Tryz.func41 rfl fun c0 hc0 => ?_⟩;simp only [go_sem,pp,↓alt_t,↓alt_f,Nat.reduceAdd,Nat.reduceLeDiff,Nat.reduceSub]
   refine ⟨rfl,?_⟩
   refine DOps.pure rfl .free rfl rfl (hi) (by simp only [go_sem];(repeat' first|exact .refl _|apply LeR.tup|apply Le.agg|constructor)) rfl rfl ?_
   refine Dg Tryz.func41 rfl ?_;simp only [go_sem,hl,hlt,hj,bytesA,Nat.reduceAdd,Nat.reduceLeDiff,Nat.reduceLT]
   (and_intros <;> try first|rfl|omega|(unfold I64;omega))
   all_goals (first|omega|(repeat' (first|exact WkH.nil _|exact LeR.one (Le.refl _)|exact LeL.nil|apply LeR.tup|exact LeB.same _ hYb|exact Le.refl _|exact Le1.refl _|exact Le1L.nil|rfl|apply WkH.cons|apply LeB.box|apply Le1L.cons|apply Le.one)))
 ·have e1 : rdN b e cur = (b,e,cur) := by unfold rdN;simp [he]
  rw [e1,set_lay_self (xs := [.int .i64 cur]) hj ho (by rw [hk];exact hl)]
  have hYb : (ABlk.rows k L).bel 0 = true := hL
  refine ⟨⟨_,Tryz.func41,by kernel_rfl,rfl⟩,Sg Tryz.func41 rfl fun c0 hc0 => ?_⟩;simp only [go_sem,pp,he,↓alt_t,Nat.reduceAdd,Nat.reduceSub]
  (and_intros <;> try first|rfl|omega|(unfold I64;omega))
  all_goals (first|omega|(repeat' (first|exact WkH.nil _|exact LeR.one (Le.refl _)|exact LeL.nil|apply LeR.tup|exact LeB.same _ hYb|exact Le.refl _|exact Le1.refl _|exact Le1L.nil|rfl|apply WkH.cons|apply LeB.box|apply Le1L.cons|apply Le.one)))
theorem text_q (b : Bytes) (e : Int) (cur : Bytes) (L : List (List AV)) (row : List AV) (k j o : Nat) (hb : b.length ≤ 1000000) (hj : L[j]? = some row) (ho : (row.drop o).take 1 = [.str cur]) (hk : row.length = k) (hl : o + 1 ≤ k) (hL : belLL 0 L = true) : BSpec Tryz.prog 109 [.agg [.eptr 1 k j o],.ptr 0 0] [pp b true e,.rows k L] [pp (rdT b e cur).1 true (rdT b e cur).2.1,.rows k (L.set j (lay row o [.str (rdT b e cur).2.2]))] (.tup []) := by
 have hlt : j < L.length := (List.getElem?_eq_some_iff.1 hj).1
 have h1k : 0 < 1 := by omega
 by_cases he : e = 0
 ·subst he
  have hi := taketext_spec b 6000 hb (by omega)
  cases ht : takeT b 6000 with
  | error z =>
   rw [ht] at hi
   simp only [takeTA] at hi
   have e1 : rdT b 0 cur = ([],z,[]) := by unfold rdT;simp [ht]
   rw [e1]
   have hYb : (ABlk.rows k (L.set j (lay row o [.str []]))).bel 0 = true := set_lay_bel hj hL rfl
   refine ⟨⟨_,Tryz.func109,by kernel_rfl,rfl⟩,Sg Tryz.func109 rfl fun c0 hc0 => ?_⟩;simp only [go_sem,pp,↓alt_t,↓alt_f,Nat.reduceAdd,Nat.reduceLeDiff,Nat.reduceSub]
   refine ⟨rfl,?_⟩
   refine DOps.pure rfl .free rfl rfl (hi) (by simp only [go_sem];(repeat' first|exact .refl _|apply LeR.tup|apply Le.agg|constructor)) rfl rfl ?_
   refine Dg Tryz.func109 rfl ?_;simp only [go_sem,hl,hlt,hj,bytesA,Nat.reduceAdd,Nat.reduceLeDiff,Nat.reduceLT]
   (and_intros <;> try first|rfl|omega|(unfold I64;omega))
   all_goals (first|omega|(repeat' (first|exact WkH.nil _|exact LeR.one (Le.refl _)|exact LeL.nil|apply LeR.tup|exact LeB.same _ hYb|exact Le.refl _|exact Le1.refl _|exact Le1L.nil|rfl|apply WkH.cons|apply LeB.box|apply Le1L.cons|apply Le.one)))
  | ok p =>
   obtain ⟨n,q⟩ := p
   rw [ht] at hi
   simp only [takeTA] at hi
   have e1 : rdT b 0 cur = (q,0,n) := by unfold rdT;simp [ht]
   rw [e1]
   have hYb : (ABlk.rows k (L.set j (lay row o [.str n]))).bel 0 = true := set_lay_bel hj hL rfl
   refine ⟨⟨_,Tryz.func109,by kernel_rfl,rfl⟩,Sg Tryz.func109 rfl fun c0 hc0 => ?_⟩;simp only [go_sem,pp,↓alt_t,↓alt_f,Nat.reduceAdd,Nat.reduceLeDiff,Nat.reduceSub]
   refine ⟨rfl,?_⟩
   refine DOps.pure rfl .free rfl rfl (hi) (by simp only [go_sem];(repeat' first|exact .refl _|apply LeR.tup|apply Le.agg|constructor)) rfl rfl ?_
   refine Dg Tryz.func109 rfl ?_;simp only [go_sem,hl,hlt,hj,bytesA,Nat.reduceAdd,Nat.reduceLeDiff,Nat.reduceLT]
   (and_intros <;> try first|rfl|omega|(unfold I64;omega))
   all_goals (first|omega|(repeat' (first|exact WkH.nil _|exact LeR.one (Le.refl _)|exact LeL.nil|apply LeR.tup|exact LeB.same _ hYb|exact Le.refl _|exact Le1.refl _|exact Le1L.nil|rfl|apply WkH.cons|apply LeB.box|apply Le1L.cons|apply Le.one)))
 ·have e1 : rdT b e cur = (b,e,cur) := by unfold rdT;simp [he]
  rw [e1,set_lay_self (xs := [.str cur]) hj ho (by rw [hk];exact hl)]
  have hYb : (ABlk.rows k L).bel 0 = true := hL
  refine ⟨⟨_,Tryz.func109,by kernel_rfl,rfl⟩,Sg Tryz.func109 rfl fun c0 hc0 => ?_⟩;simp only [go_sem,pp,he,↓alt_t,Nat.reduceAdd,Nat.reduceSub]
  (and_intros <;> try first|rfl|omega|(unfold I64;omega))
  all_goals (first|omega|(repeat' (first|exact WkH.nil _|exact LeR.one (Le.refl _)|exact LeL.nil|apply LeR.tup|exact LeB.same _ hYb|exact Le.refl _|exact Le1.refl _|exact Le1L.nil|rfl|apply WkH.cons|apply LeB.box|apply Le1L.cons|apply Le.one)))
theorem flag_q_true (b : Bytes) (e : Int) (L : List (List AV)) (row : List AV) (k j o : Nat) (hb : b.length ≤ 1000000) (hj : L[j]? = some row) (ho : (row.drop o).take 1 = [.bool true]) (hk : row.length = k) (hl : o + 1 ≤ k) (hL : belLL 0 L = true) : BSpec Tryz.prog 126 [.agg [.eptr 1 k j o],.ptr 0 0] [pp b true e,.rows k L] [pp (rdF b e true).1 true (rdF b e true).2.1,.rows k (L.set j (lay row o [.bool (rdF b e true).2.2]))] (.tup []) := by
 have hlt : j < L.length := (List.getElem?_eq_some_iff.1 hj).1
 have hn := number_r b e 1 [.int .i64 1] 0 hb rfl (by decide) rfl
 have hYb : ∀ x,(ABlk.rows k (L.set j (lay row o [.bool x]))).bel 0 = true := fun x => set_lay_bel hj hL rfl
 unfold rdF
 simp only [Ys]
 generalize rdN b e 1 = t at *
 obtain ⟨b',e',n⟩ := t
 have l0 : ∀ x : AV,lay [.int .i64 1] 0 [x] = [x] := fun _ => rfl
 simp only [l0] at hn ⊢
 refine ⟨⟨_,Tryz.func126,by kernel_rfl,rfl⟩,Sg Tryz.func126 rfl fun c0 hc0 => ?_⟩;simp only [go_sem,pp,hj,ho,hl,hlt,ne_eq,↓alt_t,Nat.reduceAdd,Nat.reduceSub]
 refine Ops.callB .free rfl rfl (js := [0,3]) (by decide) (LentAll.cons rfl (pp_lent b true e) (LentAll.cons rfl (LentB.box_ [.int .i64 1] rfl) LentAll.nil)) (lent2 (pp_lent _ _ _) (LentB.box_ _ rfl)) rfl rfl (by simp only [go_sem,cond_true,cond_false,renL,AV.ren,List.idxOf,List.findIdx,List.findIdx.go,Nat.reduceAdd,Nat.reduceBEq];(repeat' first|exact .refl _|apply LeR.tup|apply Le.agg|constructor)) (hn) rfl ?_
 by_cases n0 : n = 0
 ·subst n0
  refine Og Tryz.func126 ?_;simp only [go_sem,putBack,pp,hj,hl,hlt,↓alt_f,↓alts_f,↓gone_tf,Int.reduceEq,Nat.reduceLT]
  (and_intros <;> try first|rfl|omega|(unfold I64;omega))
  all_goals (first|omega|(repeat' (first|exact WkH.nil _|exact LeR.one (Le.refl _)|exact LeL.nil|apply LeR.tup|exact LeB.same _ (hYb _)|exact Le.refl _|exact Le1.refl _|exact Le1L.nil|rfl|apply WkH.cons|apply LeB.box|apply Le1L.cons|apply Le.one)))
 ·by_cases n1 : n = 1
  ·subst n1
   refine Og Tryz.func126 ?_;simp only [go_sem,putBack,pp,hj,hl,hlt,show ¬ (1 : Int) = 0 by decide,↓alt_f,↓alts_t,↓gone_tt,Nat.reduceLT]
   (and_intros <;> try first|rfl|omega|(unfold I64;omega))
   all_goals (first|omega|(repeat' (first|exact WkH.nil _|exact LeR.one (Le.refl _)|exact LeL.nil|apply LeR.tup|exact LeB.same _ (hYb _)|exact Le.refl _|exact Le1.refl _|exact Le1L.nil|rfl|apply WkH.cons|apply LeB.box|apply Le1L.cons|apply Le.one)))
  ·have h3 : (n ≠ 0 ∧ n ≠ 1) := ⟨n0,n1⟩
   rw [if_pos h3]
   refine Og Tryz.func126 ?_;simp only [go_sem,putBack,pp,hj,hl,hlt,n0,n1,↓alt_t,↓alts_t,↓gone_tt,Nat.reduceAdd,Nat.reduceLT]
   (and_intros <;> try first|rfl|omega|(unfold I64;omega))
   all_goals (first|omega|(repeat' (first|exact WkH.nil _|exact LeR.one (Le.refl _)|exact LeL.nil|apply LeR.tup|exact LeB.same _ (hYb _)|exact Le.refl _|exact Le1.refl _|exact Le1L.nil|rfl|apply WkH.cons|apply LeB.box|apply Le1L.cons|apply Le.one)))
theorem flag_q_false (b : Bytes) (e : Int) (L : List (List AV)) (row : List AV) (k j o : Nat) (hb : b.length ≤ 1000000) (hj : L[j]? = some row) (ho : (row.drop o).take 1 = [.bool false]) (hk : row.length = k) (hl : o + 1 ≤ k) (hL : belLL 0 L = true) : BSpec Tryz.prog 126 [.agg [.eptr 1 k j o],.ptr 0 0] [pp b true e,.rows k L] [pp (rdF b e false).1 true (rdF b e false).2.1,.rows k (L.set j (lay row o [.bool (rdF b e false).2.2]))] (.tup []) := by
 have hlt : j < L.length := (List.getElem?_eq_some_iff.1 hj).1
 have hn := number_r b e 0 [.int .i64 0] 0 hb rfl (by decide) rfl
 have hYb : ∀ x,(ABlk.rows k (L.set j (lay row o [.bool x]))).bel 0 = true := fun x => set_lay_bel hj hL rfl
 unfold rdF
 simp only [Y8,Yr]
 generalize rdN b e 0 = t at *
 obtain ⟨b',e',n⟩ := t
 have l0 : ∀ x : AV,lay [.int .i64 0] 0 [x] = [x] := fun _ => rfl
 simp only [l0] at hn ⊢
 refine ⟨⟨_,Tryz.func126,by kernel_rfl,rfl⟩,Sg Tryz.func126 rfl fun c0 hc0 => ?_⟩;simp only [go_sem,pp,hj,ho,hl,hlt,ne_eq,↓alt_f,Nat.reduceAdd,Nat.reduceSub]
 refine Ops.callB .free rfl rfl (js := [0,3]) (by decide) (LentAll.cons rfl (pp_lent b true e) (LentAll.cons rfl (LentB.box_ [.int .i64 0] rfl) LentAll.nil)) (lent2 (pp_lent _ _ _) (LentB.box_ _ rfl)) rfl rfl (by simp only [go_sem,cond_true,cond_false,renL,AV.ren,List.idxOf,List.findIdx,List.findIdx.go,Nat.reduceAdd,Nat.reduceBEq];(repeat' first|exact .refl _|apply LeR.tup|apply Le.agg|constructor)) (hn) rfl ?_
 by_cases n0 : n = 0
 ·subst n0
  refine Og Tryz.func126 ?_;simp only [go_sem,putBack,pp,hj,hl,hlt,↓alt_f,↓alts_f,↓gone_tf,Int.reduceEq,Nat.reduceLT]
  (and_intros <;> try first|rfl|omega|(unfold I64;omega))
  all_goals (first|omega|(repeat' (first|exact WkH.nil _|exact LeR.one (Le.refl _)|exact LeL.nil|apply LeR.tup|exact LeB.same _ (hYb _)|exact Le.refl _|exact Le1.refl _|exact Le1L.nil|rfl|apply WkH.cons|apply LeB.box|apply Le1L.cons|apply Le.one)))
 ·by_cases n1 : n = 1
  ·subst n1
   refine Og Tryz.func126 ?_;simp only [go_sem,putBack,pp,hj,hl,hlt,show ¬ (1 : Int) = 0 by decide,↓alt_f,↓alts_t,↓gone_tt,Nat.reduceLT]
   (and_intros <;> try first|rfl|omega|(unfold I64;omega))
   all_goals (first|omega|(repeat' (first|exact WkH.nil _|exact LeR.one (Le.refl _)|exact LeL.nil|apply LeR.tup|exact LeB.same _ (hYb _)|exact Le.refl _|exact Le1.refl _|exact Le1L.nil|rfl|apply WkH.cons|apply LeB.box|apply Le1L.cons|apply Le.one)))
  ·have h3 : (n ≠ 0 ∧ n ≠ 1) := ⟨n0,n1⟩
   rw [if_pos h3]
   refine Og Tryz.func126 ?_;simp only [go_sem,putBack,pp,hj,hl,hlt,n0,n1,↓alt_t,↓alts_t,↓gone_tt,Nat.reduceAdd,Nat.reduceLT]
   (and_intros <;> try first|rfl|omega|(unfold I64;omega))
   all_goals (first|omega|(repeat' (first|exact WkH.nil _|exact LeR.one (Le.refl _)|exact LeL.nil|apply LeR.tup|exact LeB.same _ (hYb _)|exact Le.refl _|exact Le1.refl _|exact Le1L.nil|rfl|apply WkH.cons|apply LeB.box|apply Le1L.cons|apply Le.one)))
mutual
theorem AV.bel_up {n m : Nat} (h : n ≤ m) : ∀ a : AV,a.bel n = true → a.bel m = true
 | .int _ _,_ => rfl
 | .bool _,_ => rfl
 | .str _,_ => rfl
 | .nilp,_ => rfl
 | .ptr i _,e => by simp only [AV.bel,decide_eq_true_eq] at e ⊢;omega
 | .eptr i _ _ _,e => by simp only [AV.bel,decide_eq_true_eq] at e ⊢;omega
 | .msl i _ _ _ _,e => by simp only [AV.bel,decide_eq_true_eq] at e ⊢;omega
 | .msu i _ _,e => by simp only [AV.bel,decide_eq_true_eq] at e ⊢;omega
 | .mp i,e => by simp only [AV.bel,decide_eq_true_eq] at e ⊢;omega
 | .sl _ _ .no,_ => rfl
 | .sl _ _ (.own i),e => by simp only [AV.bel,decide_eq_true_eq] at e ⊢;omega
 | .nils,_ => rfl
 | .agg cs,e => belL_up h cs e
 | .tup cs,e => belL_up h cs e
 | .psl _ l,e => belLL_up h l e
 | .rptr cs,e => belL_up h cs e
 | .fn _ a b,e => by
  simp only [AV.bel,Bool.and_eq_true] at e ⊢
  exact ⟨belL_up h a e.1,belL_up h b e.2⟩
 | .nilf,_ => rfl
 | .iface _ v,e => AV.bel_up h v e
 | .nilI,_ => rfl
 | .nilm,_ => rfl
 | .cnd _ v,e => AV.bel_up h v e
 | .junk,_ => rfl
theorem belL_up {n m : Nat} (h : n ≤ m) : ∀ l : List AV,belL n l = true → belL m l = true
 | [],_ => rfl
 | a :: l,e => by
  simp only [belL,Bool.and_eq_true] at e ⊢
  exact ⟨AV.bel_up h a e.1,belL_up h l e.2⟩
theorem belLL_up {n m : Nat} (h : n ≤ m) : ∀ l : List (List AV),belLL n l = true → belLL m l = true
 | [],_ => rfl
 | a :: l,e => by
  simp only [belLL,Bool.and_eq_true] at e ⊢
  exact ⟨belL_up h a e.1,belLL_up h l e.2⟩
end
theorem LentB.bel {x : ABlk} (h : LentB x) (n : Nat) : x.bel n = true := by
 rcases h with ⟨cs,rfl,h⟩|⟨k,L,rfl,h⟩
 ·exact belL_up (Nat.zero_le n) cs h
 ·exact belLL_up (Nat.zero_le n) L h
structure CellAt (C : AV → List AV) (o : Nat) : Prop where
 rd : ∀ a,((C a).drop o).take 1 = [a]
 wr : ∀ a x,(C a).take o ++ [x] ++ (C a).drop (o + 1) = C x
 le : ∀ a,o + 1 ≤ (C a).length
 get : ∀ a,(C a)[o]? = some a
 set : ∀ a x,(C a).set o x = C x
 bel : ∀ n a,a.bel n = true → belL n (C a) = true
theorem CellAt.of {C : AV → List AV} {o : Nat} (xs ys : List AV) (h : ∀ a,C a = xs ++ a :: ys) (ho : o = xs.length) (hx : belL 0 xs = true) (hy : belL 0 ys = true) : CellAt C o := by
 subst ho
 refine ⟨fun a => ?_,fun a x => ?_,fun a => ?_,fun a => ?_,fun a x => ?_,fun n a ha => ?_⟩
 ·rw [h,List.drop_left];rfl
 ·rw [h,h,List.take_left,List.append_assoc]
  congr 1
  rw [show xs ++ a :: ys = (xs ++ [a]) ++ ys by simp,show xs.length + 1 = (xs ++ [a]).length by simp,List.drop_left]
  rfl
 ·rw [h];simp
 ·rw [h];simp
 ·rw [h,h];simp
 ·rw [h]
  refine belL_app (belL_up (Nat.zero_le n) _ hx) ?_
  simp only [belL,Bool.and_eq_true]
  exact ⟨ha,belL_up (Nat.zero_le n) _ hy⟩
theorem CellAt.lay {C : AV → List AV} {o : Nat} (h : CellAt C o) (a x : AV) : lay (C a) o [x] = C x := h.wr a x
structure CellIn (R : AV → List (List AV)) (k j o : Nat) : Prop where
 lt : ∀ a,j < (R a).length
 rd : ∀ a,(((R a)[j]?.getD []).drop o).take 1 = [a]
 wr : ∀ a x,(R a).set j (((R a)[j]?.getD []).take o ++ [x] ++ ((R a)[j]?.getD []).drop (o + 1)) = R x
 le : o + 1 ≤ k
 get : ∀ a,∃ row,(R a)[j]? = some row ∧ row[o]? = some a
 len : ∀ a row,(R a)[j]? = some row → row.length = k
 set : ∀ a x,(R a).set j (((R a)[j]?.getD []).set o x) = R x
 bel : ∀ n a,a.bel n = true → belLL n (R a) = true
theorem belLL_app {n : Nat} : ∀ {xs ys : List (List AV)},belLL n xs = true → belLL n ys = true → belLL n (xs ++ ys) = true
 | [],_,_,h => h
 | x :: xs,ys,h1,h2 => by
  simp only [belLL,Y5,Bool.and_eq_true] at h1 ⊢
  exact ⟨h1.1,belLL_app h1.2 h2⟩
theorem CellIn.of {C : AV → List AV} {k j o : Nat} (L : List (List AV)) (hj : j < L.length) (hC : CellAt C o) (ho : o + 1 ≤ k) (hk : ∀ a,(C a).length = k) (hL : belLL 0 L = true) : CellIn (fun a => L.set j (C a)) k j o := by
 have e : ∀ a,(L.set j (C a))[j]? = some (C a) := fun a => List.getElem?_set_self hj
 refine ⟨fun a => by simpa using hj,fun a => ?_,fun a x => ?_,ho,fun a => ⟨_,e a,hC.get a⟩,fun a row h => by rw [e] at h;cases h;exact hk a,fun a x => ?_,fun n a ha => ?_⟩
 ·simp only [e,Y4];exact hC.rd a
 ·simp only [e,Y4];rw [hC.wr,List.set_set]
 ·simp only [e,Y4];rw [hC.set,List.set_set]
 ·exact belLL_set (belLL_up (Nat.zero_le n) _ hL) (hC.bel n a ha)
section
variable {P : Program} {c0 : Cx} {s : AState}
theorem recell_core {c : Cx} (hc : RelH c) {q kq j m : Nat} {Lq : List (List AV)} {row : List AV} {a x : AV} (hq : c.h[q]? = some (.rows kq Lq)) (hj : Lq[j]? = some row) (hm : row[m]? = some a) (hax : ∀ b us e v,c.ρ q = some b → c.w.heap[b]? = some (.cells us e (0,0)) → us[j * kq + m]? = some v → Ev c ⟨c.ρ,c.h.set q (.rows kq (Lq.set j (row.set m x))),c.w,c.X⟩ → RV c v a → RV ⟨c.ρ,c.h.set q (.rows kq (Lq.set j (row.set m x))),c.w,c.X⟩ v x) :
  RelH ⟨c.ρ,c.h.set q (.rows kq (Lq.set j (row.set m x))),c.w,c.X⟩ ∧ Ev c ⟨c.ρ,c.h.set q (.rows kq (Lq.set j (row.set m x))),c.w,c.X⟩ := by
 obtain ⟨b,us,e,hb,hh,hel,hrv⟩ := hc.blk q _ hq
 refine Cx.retell hc q b _ _ hq hb rfl rfl rfl rfl (fun o h => h.elim) fun hev => ?_
 refine ⟨b,us,e,hb,hh,fun p y hy => ?_,fun p y m' a' hy ha' => ?_⟩
 ·rw [List.getElem?_set] at hy
  split at hy
  ·rename_i hpj
   subst hpj
   split at hy
   ·cases hy
    have := hel j row hj
    simpa using this
   ·cases hy
  ·exact hel p y hy
 ·rw [List.getElem?_set] at hy
  split at hy
  ·rename_i hpj
   subst hpj
   split at hy
   ·cases hy
    rw [List.getElem?_set] at ha'
    split at ha'
    ·rename_i hmm
     subst hmm
     split at ha'
     ·cases ha'
      obtain ⟨u,h1,h2⟩ := hrv j row m a hj hm
      exact ⟨u,h1,hax b us e u hb hh h1 hev h2⟩
     ·cases ha'
    ·obtain ⟨u,h1,h2⟩ := hrv j row m' a' hj ha'
     exact ⟨u,h1,h2.mono hev⟩
   ·cases hy
  ·obtain ⟨u,h1,h2⟩ := hrv p y m' a' hy ha'
   exact ⟨u,h1,h2.mono hev⟩
theorem Weak.nilR (q kq j m kk : Nat) (Lq : List (List AV)) (row : List AV) (hq : s.h[q]? = some (.rows kq Lq)) (hj : Lq[j]? = some row) (hm : row[m]? = some .nils) : Weak P c0 s ⟨s.t,s.h.set q (.rows kq (Lq.set j (row.set m (.sl kk [] .no))))⟩ := by
 refine ⟨fun ρ w vs h1 h2 h3 => ?_⟩
 obtain ⟨g1,g2⟩ := recell_core (x := .sl kk [] .no) h1 hq hj hm fun _ _ _ v _ _ _ _ hv => by cases hv;exact .nil_sl kk
 exact ⟨ρ,g1,h2.trans g2,h3.mono g2⟩
theorem Weak.freezeR (q kq j m i kk oo nn cap : Nat) (L Lq : List (List AV)) (row : List AV) (hq : s.h[q]? = some (.rows kq Lq)) (hj : Lq[j]? = some row) (hm : row[m]? = some (.msl i kk oo nn cap)) (hiq : i ≠ q) (hi : s.h[i]? = some (.rows kk L)) (hk : 0 < kk) (hon : oo + nn ≤ L.length) (hp : ∀ x ∈ (L.drop oo).take nn,∀ a ∈ x,a.plain = true) :
  Weak P c0 s ⟨s.t,(s.h.set i .dead).set q (.rows kq (Lq.set j (row.set m (.sl kk ((L.drop oo).take nn) .no))))⟩ := by
 refine ⟨fun ρ w vs h1 h2 h3 => ?_⟩
 obtain ⟨b,us,e,hb,hh,hel,hrv⟩ := h1.blk q _ hq
 obtain ⟨u,hu,hr⟩ := hrv j row m _ hj hm
 obtain ⟨q1,q2,q3⟩ := hr.frozen h1 hi hk hon hp
 have hq' : (s.h.set i .dead)[q]? = some (.rows kq Lq) := by rw [List.getElem?_set_ne hiq];exact hq
 obtain ⟨g1,g2⟩ := recell_core (x := .sl kk ((L.drop oo).take nn) .no) q1 hq' hj hm fun b' us' e' v hb' hh' hv hev _ => by
  rw [hb] at hb'
  cases hb'
  rw [hh] at hh'
  cases hh'
  rw [hu] at hv
  cases hv
  exact q3.mono hev
 exact ⟨ρ,g1,h2.trans (q2.trans g2),h3.mono (q2.trans g2)⟩
end
def ToldR (L : List (Nat × AV)) (A X : Nat → ABlk) : Prop := ∀ (k : Nat) t v,L[k]? = some (t,v) → v.bel 2 = true ∧ v.among [0,1] = true ∧ v.ren [0,1] = v ∧ ∃ g,MethodAt Tryz.prog t "consistory/wire.tell" g ∧ BSpec Tryz.prog g [v,.ptr 0 0] [A k,X k] [A (k + 1),X (k + 1)] (.tup [])
theorem parts_r (L : List (Nat × AV)) (A X : Nat → ABlk) (hl : L.length ≤ 1000) (hA : ∀ k,k ≤ L.length → LentB (A k)) (hX : ∀ k,k ≤ L.length → LentB (X k)) (hL : ToldR L A X) : BSpec Tryz.prog 113 [.psl 1 (L.map partC),.ptr 0 0] [A 0,X 0] [A L.length,X L.length] (.tup []) := by
 refine ⟨⟨_,Tryz.func113,by kernel_rfl,rfl⟩,Sg Tryz.func113 rfl fun c0 hc0 => ?_⟩;simp only [go_sem,Nat.reduceAdd,Nat.reduceSub]
 refine Run.loopV (α := Nat) (fun k => k ≤ L.length) (fun k => [(8,.int .i64 k)]) 2 (fun k => [(0,A k),(1,X k)]) (fun k => L.length - k) 0 (Nat.zero_le _) ?_ ?_
 ·simp only [go_sem,writes,junks,puts,hputs,List.filterMap_cons,List.filterMap_nil]
  (refine Weak.of (by simp [hc0]) ?_ ?_ <;> (repeat' first|exact .refl _|exact .junk _|exact .nil|exact .nil _|exact .tok _ _ _|rfl|apply WkT.cons|apply WkH.cons|apply LeB.same|apply LeB.box|apply Le1L.cons|apply Le.agg|apply Le.one))
  all_goals (first|exact partsBel fun k t v h => (hL k t v h).1|exact (hA _ (by omega)).bel _|exact (hX _ (by omega)).bel _)
 intro k hk ih
 simp only [writes,junks,puts,hputs,List.filterMap_cons,List.filterMap_nil,Y6,Y7,Yg,Yk,Y5,Y3,Yd] at hk ih ⊢
 by_cases hlt : k < L.length
 ·obtain ⟨⟨t,v⟩,hp⟩ : ∃ p,L[k]? = some p := ⟨_,List.getElem?_eq_getElem hlt⟩
  have hkk : (k : Int) < L.length := by omega
  obtain ⟨h0,h1,h2,g,hm,hb⟩ := hL k t v hp
  refine Rg Tryz.func113 ?_;simp only [go_sem,hkk,List.getElem?_map,hp,partC,↓alt_t,Nat.reduceAdd,Nat.reduceLT]
  refine ⟨by omega,?_⟩
  refine Ops.invokeB .free rfl rfl hm (js := [0,1]) (by decide) (LentAll.cons rfl (hA k (by omega)) (LentAll.cons rfl (hX k (by omega)) LentAll.nil)) (lent2 (hA (k + 1) (by omega)) (hX (k + 1) (by omega))) rfl (by simp only [go_sem,amongL,h1];rfl) (by simp only [go_sem,renL,h2];exact LeL.cons (Le.refl _) (LeL.cons (Le.refl _) LeL.nil)) hb rfl ?_
  refine Og Tryz.func113 ?_;simp only [go_sem,putBack]
  (and_intros <;> try first|rfl|omega|(unfold I64;omega))
  refine ih (k + 1) _ (by omega) (by omega) ?_
  simp only [Int.natCast_add,Int.natCast_one]
  (refine Weak.of (by simp [hc0]) ?_ ?_ <;> (repeat' first|exact .refl _|exact .junk _|exact .nil|exact .nil _|exact .tok _ _ _|rfl|apply WkT.cons|apply WkH.cons|apply LeB.same|apply LeB.box|apply Le1L.cons|apply Le.agg|apply Le.one))
  all_goals (first|exact partsBel fun k t v h => (hL k t v h).1|exact (hA _ (by omega)).bel _|exact (hX _ (by omega)).bel _)
 ·obtain rfl : k = L.length := by omega
  have hkk : ¬ (L.length : Int) < L.length := by omega
  refine Rg Tryz.func113 ?_;simp only [go_sem,hkk,↓alt_f]
  refine ⟨by (repeat' first|exact .refl _|apply LeR.tup|apply Le.agg|constructor),?_⟩
  exact WkH.cons (LeB.same _ ((hA _ (Nat.le_refl _)).bel 0)) (WkH.cons (LeB.same _ ((hX _ (Nat.le_refl _)).bel 0)) (WkH.nil _))
theorem rdN_le (b : Bytes) (e cur : Int) : (rdN b e cur).1.length ≤ b.length := by
 unfold rdN
 split
 ·split
  ·rename_i h;exact takeZ_len h
  ·simp
 ·exact Nat.le_refl _
theorem rdT_le (b : Bytes) (e : Int) (cur : Bytes) : (rdT b e cur).1.length ≤ b.length := by
 unfold rdT
 split
 ·split
  ·rename_i h;have := takeT_shorter h;simp only;omega
  ·simp
 ·exact Nat.le_refl _
theorem rdF_le (b : Bytes) (e : Int) (cur : Bool) : (rdF b e cur).1.length ≤ b.length := rdN_le _ _ _
theorem Le1L.set {cs : List AV} {o : Nat} {a x : AV} (h : Le1 a x) : cs[o]? = some a → Le1L cs (cs.set o x) := by
 induction cs generalizing o with
 | nil => intro e;simp at e
 | cons c cs ih =>
  intro e
  cases o with
  | zero =>
   simp at e
   subst e
   exact .cons h (le1l_refl _)
  | succ o => exact .cons (.refl _) (ih (by simpa using e))
theorem CellAt.le1 {C : AV → List AV} {o : Nat} (h : CellAt C o) {a x : AV} (hl : Le1 a x) : Le1L (C a) (C x) := by
 rw [← h.set a x]
 exact Le1L.set hl (h.get a)
theorem number_c (b : Bytes) (e cur : Int) (C : AV → List AV) (o : Nat) (h : CellAt C o) (hb : b.length ≤ 1000000) : BSpec Tryz.prog 41 [.agg [.ptr 1 o],.ptr 0 0] [pp b true e,.box (C (.int .i64 cur))] [pp (rdN b e cur).1 true (rdN b e cur).2.1,.box (C (.int .i64 (rdN b e cur).2.2))] (.tup []) := by
 have := number_r b e cur (C (.int .i64 cur)) o hb (h.rd _) (h.le _) (h.bel 0 _ rfl)
 rwa [h.lay] at this
theorem text_c (b : Bytes) (e : Int) (cur : Bytes) (C : AV → List AV) (o : Nat) (h : CellAt C o) (hb : b.length ≤ 1000000) : BSpec Tryz.prog 109 [.agg [.ptr 1 o],.ptr 0 0] [pp b true e,.box (C (.str cur))] [pp (rdT b e cur).1 true (rdT b e cur).2.1,.box (C (.str (rdT b e cur).2.2))] (.tup []) := by
 have := text_r b e cur (C (.str cur)) o hb (h.rd _) (h.le _) (h.bel 0 _ rfl)
 rwa [h.lay] at this
theorem flag_c (b : Bytes) (e : Int) (cur : Bool) (C : AV → List AV) (o : Nat) (h : CellAt C o) (hb : b.length ≤ 1000000) : BSpec Tryz.prog 126 [.agg [.ptr 1 o],.ptr 0 0] [pp b true e,.box (C (.bool cur))] [pp (rdF b e cur).1 true (rdF b e cur).2.1,.box (C (.bool (rdF b e cur).2.2))] (.tup []) := by
 have := (show BSpec Tryz.prog 126 [.agg [.ptr 1 o],.ptr 0 0] [pp b true e,.box (C (.bool cur))] [pp (rdF b e cur).1 true (rdF b e cur).2.1,.box (lay (C (.bool cur)) o [.bool (rdF b e cur).2.2])] (.tup []) by
  cases cur with
  | true => exact flag_r_true b e _ o hb (h.rd _) (h.le _) (h.bel 0 _ rfl)
  | false => exact flag_r_false b e _ o hb (h.rd _) (h.le _) (h.bel 0 _ rfl))
 rwa [h.lay] at this
theorem CellIn.row {R : AV → List (List AV)} {k j o : Nat} (h : CellIn R k j o) (a : AV) : ∃ row,(R a)[j]? = some row ∧ (row.drop o).take 1 = [a] ∧ row.length = k ∧ ∀ x,(R a).set j (lay row o [x]) = R x := by
 obtain ⟨row,h1,h2⟩ := h.get a
 have h3 := h.rd a
 have h4 := h.wr a
 rw [h1,Option.getD_some] at h3
 refine ⟨row,h1,h3,h.len a row h1,fun x => ?_⟩
 have := h4 x
 rw [h1,Option.getD_some] at this
 exact this
theorem number_d (b : Bytes) (e cur : Int) (R : AV → List (List AV)) (k j o : Nat) (h : CellIn R k j o) (hb : b.length ≤ 1000000) : BSpec Tryz.prog 41 [.agg [.eptr 1 k j o],.ptr 0 0] [pp b true e,.rows k (R (.int .i64 cur))] [pp (rdN b e cur).1 true (rdN b e cur).2.1,.rows k (R (.int .i64 (rdN b e cur).2.2))] (.tup []) := by
 obtain ⟨row,h1,h2,h3,h4⟩ := h.row (.int .i64 cur)
 have := number_q b e cur _ row k j o hb h1 h2 h3 h.le (h.bel 0 _ rfl)
 rwa [h4] at this
theorem text_d (b : Bytes) (e : Int) (cur : Bytes) (R : AV → List (List AV)) (k j o : Nat) (h : CellIn R k j o) (hb : b.length ≤ 1000000) : BSpec Tryz.prog 109 [.agg [.eptr 1 k j o],.ptr 0 0] [pp b true e,.rows k (R (.str cur))] [pp (rdT b e cur).1 true (rdT b e cur).2.1,.rows k (R (.str (rdT b e cur).2.2))] (.tup []) := by
 obtain ⟨row,h1,h2,h3,h4⟩ := h.row (.str cur)
 have := text_q b e cur _ row k j o hb h1 h2 h3 h.le (h.bel 0 _ rfl)
 rwa [h4] at this
theorem flag_d (b : Bytes) (e : Int) (cur : Bool) (R : AV → List (List AV)) (k j o : Nat) (h : CellIn R k j o) (hb : b.length ≤ 1000000) : BSpec Tryz.prog 126 [.agg [.eptr 1 k j o],.ptr 0 0] [pp b true e,.rows k (R (.bool cur))] [pp (rdF b e cur).1 true (rdF b e cur).2.1,.rows k (R (.bool (rdF b e cur).2.2))] (.tup []) := by
 obtain ⟨row,h1,h2,h3,h4⟩ := h.row (.bool cur)
 have := (show BSpec Tryz.prog 126 [.agg [.eptr 1 k j o],.ptr 0 0] [pp b true e,.rows k (R (.bool cur))] [pp (rdF b e cur).1 true (rdF b e cur).2.1,.rows k ((R (.bool cur)).set j (lay row o [.bool (rdF b e cur).2.2]))] (.tup []) by
  cases cur with
  | true => exact flag_q_true b e _ row k j o hb h1 h2 h3 h.le (h.bel 0 _ rfl)
  | false => exact flag_q_false b e _ row k j o hb h1 h2 h3 h.le (h.bel 0 _ rfl))
 rwa [h4] at this
def rdA (b : Bytes) (e : Int) (a : Acc) : Bytes × Int × Acc := ((rdT (rdN (rdN b e a.by_).1 (rdN b e a.by_).2.1 a.view).1 (rdN (rdN b e a.by_).1 (rdN b e a.by_).2.1 a.view).2.1 a.value).1,(rdT (rdN (rdN b e a.by_).1 (rdN b e a.by_).2.1 a.view).1 (rdN (rdN b e a.by_).1 (rdN b e a.by_).2.1 a.view).2.1 a.value).2.1,⟨(rdN b e a.by_).2.2,(rdN (rdN b e a.by_).1 (rdN b e a.by_).2.1 a.view).2.2,(rdT (rdN (rdN b e a.by_).1 (rdN b e a.by_).2.1 a.view).1 (rdN (rdN b e a.by_).1 (rdN b e a.by_).2.1 a.view).2.1 a.value).2.2⟩)
theorem rdA_le (b : Bytes) (e : Int) (a : Acc) : (rdA b e a).1.length ≤ b.length := by
 unfold rdA
 exact Nat.le_trans (rdT_le _ _ _) (Nat.le_trans (rdN_le _ _ _) (rdN_le _ _ _))
def voteB_ (i : Nat) (o : Nat) : List (Nat × AV) := [(87,.agg [.ptr i o]),(87,.agg [.ptr i (o + 1)]),(119,.agg [.ptr i (o + 2)])]
theorem vote_b (o : Nat) (X : ABlk) (hX : LentB X) : BSpec Tryz.prog 73 [.ptr 0 o] [X] [X] (.iface 125 (.psl 1 ((voteB_ 0 o).map partC))) := by
 refine ⟨⟨_,Tryz.func73,by kernel_rfl,rfl⟩,Sg Tryz.func73 rfl fun c0 hc0 => ?_⟩;simp only [go_sem,voteB_,partC,Nat.reduceAdd,Nat.reduceLeDiff,Nat.reduceMul,Nat.reduceBEq,Nat.reduceLT,Nat.reduceSub]
 (and_intros <;> try first|rfl|omega|(unfold I64;omega))
 all_goals (first|exact WkH.cons (LeB.same _ (hX.bel 0)) (WkH.nil _)|(repeat' first|exact .refl _|apply LeR.tup|apply Le.agg|constructor))
def voteD (i : Nat) (k j : Nat) (o : Nat) : List (Nat × AV) := [(87,.agg [.eptr i k j o]),(87,.agg [.eptr i k j (o + 1)]),(119,.agg [.eptr i k j (o + 2)])]
theorem vote_d (k j : Nat) (o : Nat) (X : ABlk) (hX : LentB X) : BSpec Tryz.prog 73 [.eptr 0 k j o] [X] [X] (.iface 125 (.psl 1 ((voteD 0 k j o).map partC))) := by
 refine ⟨⟨_,Tryz.func73,by kernel_rfl,rfl⟩,Sg Tryz.func73 rfl fun c0 hc0 => ?_⟩;simp only [go_sem,voteD,partC,Nat.reduceAdd,Nat.reduceLeDiff,Nat.reduceMul,Nat.reduceBEq,Nat.reduceLT,reduceCtorEq,Nat.reduceSub]
 (and_intros <;> try first|rfl|omega|(unfold I64;omega))
 all_goals (first|exact WkH.cons (LeB.same _ (hX.bel 0)) (WkH.nil _)|(repeat' first|exact .refl _|apply LeR.tup|apply Le.agg|constructor))
theorem vote_rb (b : Bytes) (e : Int) (a : Acc) (xs ys : List AV) (o : Nat) (ho : o = xs.length) (hx : belL 0 xs = true) (hy : belL 0 ys = true) (hb : b.length ≤ 1000000) : BSpec Tryz.prog 113 [.psl 1 ((voteB_ 1 o).map partC),.ptr 0 0] [pp b true e,.box (xs ++ (accC a ++ ys))] [pp (rdA b e a).1 true (rdA b e a).2.1,.box (xs ++ (accC (rdA b e a).2.2 ++ ys))] (.tup []) := by
 have l1 := rdN_le b e a.by_
 have l2 := rdN_le (rdN b e a.by_).1 (rdN b e a.by_).2.1 a.view
 have c0 : CellAt (fun x => xs ++ x :: .int .i64 a.view :: .str a.value :: ys) o := .of xs _ (fun _ => rfl) ho hx (by simp [belL,AV.bel,hy])
 have c1 : CellAt (fun x => xs ++ .int .i64 (rdN b e a.by_).2.2 :: x :: .str a.value :: ys) (o + 1) := .of (xs ++ [.int .i64 (rdN b e a.by_).2.2]) (.str a.value :: ys) (fun _ => by simp) (by simp [ho]) (belL_app hx rfl) (by simp [belL,AV.bel,hy])
 have c2 : CellAt (fun x => xs ++ .int .i64 (rdN b e a.by_).2.2 :: .int .i64 (rdN (rdN b e a.by_).1 (rdN b e a.by_).2.1 a.view).2.2 :: x :: ys) (o + 2) := .of (xs ++ [.int .i64 (rdN b e a.by_).2.2,.int .i64 (rdN (rdN b e a.by_).1 (rdN b e a.by_).2.1 a.view).2.2]) ys (fun _ => by simp) (by simp [ho]) (belL_app hx rfl) hy
 refine parts_r (voteB_ 1 o) (fun|0 => pp b true e|1 => pp (rdN b e a.by_).1 true (rdN b e a.by_).2.1|2 => pp (rdN (rdN b e a.by_).1 (rdN b e a.by_).2.1 a.view).1 true (rdN (rdN b e a.by_).1 (rdN b e a.by_).2.1 a.view).2.1|_ => pp (rdA b e a).1 true (rdA b e a).2.1)
  (fun|0 => .box (xs ++ (accC a ++ ys))|1 => .box (xs ++ .int .i64 (rdN b e a.by_).2.2 :: .int .i64 a.view :: .str a.value :: ys)|2 => .box (xs ++ .int .i64 (rdN b e a.by_).2.2 :: .int .i64 (rdN (rdN b e a.by_).1 (rdN b e a.by_).2.1 a.view).2.2 :: .str a.value :: ys)|_ => .box (xs ++ (accC (rdA b e a).2.2 ++ ys)))
  (by simp [voteB_]) (fun k _ => by match k with|0 => exact pp_lent _ _ _|1 => exact pp_lent _ _ _|2 => exact pp_lent _ _ _|k + 3 => exact pp_lent _ _ _)
  (fun k _ => by match k with|0 => exact .box_ _ (c0.bel 0 _ rfl)|1 => exact .box_ _ (c1.bel 0 (.int .i64 a.view) rfl)|2 => exact .box_ _ (c2.bel 0 (.str a.value) rfl)|k + 3 => exact .box_ _ (c2.bel 0 (.str _) rfl)) ?_
 intro k t v h
 match k,h with
 | 0,h => cases h;exact ⟨rfl,rfl,rfl,_,meth_number,number_c b e a.by_ _ o c0 hb⟩
 | 1,h => cases h;exact ⟨rfl,rfl,rfl,_,meth_number,number_c _ _ a.view _ (o + 1) c1 (Nat.le_trans l1 hb)⟩
 | 2,h => cases h;exact ⟨rfl,rfl,rfl,_,meth_text,text_c _ _ a.value _ (o + 2) c2 (Nat.le_trans l2 (Nat.le_trans l1 hb))⟩
 | k + 3,h => simp [voteB_] at h
theorem vote_rd (b : Bytes) (e : Int) (a : Acc) (L : List (List AV)) (j : Nat) (hj : L[j]? = some (accC a)) (hL : belLL 0 L = true) (hb : b.length ≤ 1000000) : BSpec Tryz.prog 113 [.psl 1 ((voteD 1 3 j 0).map partC),.ptr 0 0] [pp b true e,.rows 3 L] [pp (rdA b e a).1 true (rdA b e a).2.1,.rows 3 (L.set j (accC (rdA b e a).2.2))] (.tup []) := by
 have hlt : j < L.length := (List.getElem?_eq_some_iff.1 hj).1
 have l1 := rdN_le b e a.by_
 have l2 := rdN_le (rdN b e a.by_).1 (rdN b e a.by_).2.1 a.view
 have c0 : CellIn (fun x => L.set j [x,.int .i64 a.view,.str a.value]) 3 j 0 := .of (C := fun x => [x,.int .i64 a.view,.str a.value]) L hlt (.of [] _ (fun _ => rfl) rfl rfl rfl) (by decide) (fun _ => rfl) hL
 have c1 : CellIn (fun x => L.set j [.int .i64 (rdN b e a.by_).2.2,x,.str a.value]) 3 j 1 := .of (C := fun x => [.int .i64 (rdN b e a.by_).2.2,x,.str a.value]) L hlt (.of [.int .i64 (rdN b e a.by_).2.2] _ (fun _ => rfl) rfl rfl rfl) (by decide) (fun _ => rfl) hL
 have c2 : CellIn (fun x => L.set j [.int .i64 (rdN b e a.by_).2.2,.int .i64 (rdN (rdN b e a.by_).1 (rdN b e a.by_).2.1 a.view).2.2,x]) 3 j 2 := .of (C := fun x => [.int .i64 (rdN b e a.by_).2.2,.int .i64 (rdN (rdN b e a.by_).1 (rdN b e a.by_).2.1 a.view).2.2,x]) L hlt (.of [.int .i64 (rdN b e a.by_).2.2,.int .i64 (rdN (rdN b e a.by_).1 (rdN b e a.by_).2.1 a.view).2.2] _ (fun _ => rfl) rfl rfl rfl) (by decide) (fun _ => rfl) hL
 have e0 : L.set j (accC a) = L := by
  obtain ⟨h1,h2⟩ := List.getElem?_eq_some_iff.1 hj
  rw [← h2,List.set_getElem_self]
 have key := parts_r (voteD 1 3 j 0) (fun|0 => pp b true e|1 => pp (rdN b e a.by_).1 true (rdN b e a.by_).2.1|2 => pp (rdN (rdN b e a.by_).1 (rdN b e a.by_).2.1 a.view).1 true (rdN (rdN b e a.by_).1 (rdN b e a.by_).2.1 a.view).2.1|_ => pp (rdA b e a).1 true (rdA b e a).2.1)
  (fun|0 => .rows 3 (L.set j (accC a))|1 => .rows 3 (L.set j [.int .i64 (rdN b e a.by_).2.2,.int .i64 a.view,.str a.value])|2 => .rows 3 (L.set j [.int .i64 (rdN b e a.by_).2.2,.int .i64 (rdN (rdN b e a.by_).1 (rdN b e a.by_).2.1 a.view).2.2,.str a.value])|_ => .rows 3 (L.set j (accC (rdA b e a).2.2)))
  (by simp [voteD]) (fun k _ => by match k with|0 => exact pp_lent _ _ _|1 => exact pp_lent _ _ _|2 => exact pp_lent _ _ _|k + 3 => exact pp_lent _ _ _)
  (fun k _ => by match k with|0 => exact rows_lent (belLL_set hL rfl)|1 => exact rows_lent (belLL_set hL rfl)|2 => exact rows_lent (belLL_set hL rfl)|k + 3 => exact rows_lent (belLL_set hL rfl)) fun k t v h => by
   match k,h with
   | 0,h => cases h;exact ⟨rfl,rfl,rfl,_,meth_number,number_d b e a.by_ _ 3 j 0 c0 hb⟩
   | 1,h => cases h;exact ⟨rfl,rfl,rfl,_,meth_number,number_d _ _ a.view _ 3 j 1 c1 (Nat.le_trans l1 hb)⟩
   | 2,h => cases h;exact ⟨rfl,rfl,rfl,_,meth_text,text_d _ _ a.value _ 3 j 2 c2 (Nat.le_trans l2 (Nat.le_trans l1 hb))⟩
   | k + 3,h => simp [voteD] at h
 have e1 : BSpec Tryz.prog 113 [.psl 1 ((voteD 1 3 j 0).map partC),.ptr 0 0] [pp b true e,.rows 3 (L.set j (accC a))] [pp (rdA b e a).1 true (rdA b e a).2.1,.rows 3 (L.set j (accC (rdA b e a).2.2))] (.tup []) := key
 rwa [e0] at e1
def zA : Acc := ⟨0,0,[]⟩
def rdAs : Nat → Bytes → Int → Bytes × Int × List Acc
 | 0,b,e => (b,e,[])
 | n + 1,b,e => ((rdA (rdAs n b e).1 (rdAs n b e).2.1 zA).1,(rdA (rdAs n b e).1 (rdAs n b e).2.1 zA).2.1,(rdAs n b e).2.2 ++ [(rdA (rdAs n b e).1 (rdAs n b e).2.1 zA).2.2])
def rdV (b : Bytes) (e : Int) : Bytes × Int × List Acc :=
 if (rdN b e 0).2.2 < 0 ∨ 30 < (rdN b e 0).2.2 then ((rdN b e 0).1,5,[]) else if (rdN b e 0).2.1 = 0 then rdAs (rdN b e 0).2.2.toNat (rdN b e 0).1 0 else ((rdN b e 0).1,(rdN b e 0).2.1,[])
theorem rdAs_len (b : Bytes) (e : Int) : ∀ n,(rdAs n b e).2.2.length = n
 | 0 => rfl
 | n + 1 => by simp [rdAs,rdAs_len b e n]
theorem rdAs_le : ∀ (n : Nat) (b : Bytes) (e : Int),(rdAs n b e).1.length ≤ b.length
 | 0,_,_ => Nat.le_refl _
 | n + 1,b,e => Nat.le_trans (rdA_le _ _ _) (rdAs_le n b e)
theorem rdV_le (b : Bytes) (e : Int) : (rdV b e).1.length ≤ b.length := by
 unfold rdV
 have := rdN_le b e 0
 split
 ·exact this
 ·split
  ·exact Nat.le_trans (rdAs_le _ _ _) this
  ·exact this
def rowsA (m : Nat) (l : List Acc) : List (List AV) := l.map accC ++ List.replicate (m - l.length) (accC zA)
theorem rowsA_nil (m : Nat) : rowsA m [] = List.replicate m [.int .i64 0,.int .i64 0,.str []] := rfl
theorem belLL_rep {n : Nat} {x : List AV} (h : belL n x = true) : ∀ m,belLL n (List.replicate m x) = true
 | 0 => rfl
 | m + 1 => by rw [List.replicate_succ];simp only [belLL,h,belLL_rep h m,Bool.and_self]
theorem rowsA_bel (n m : Nat) (l : List Acc) : belLL n (rowsA m l) = true := by
 refine belLL_app ?_ (belLL_rep rfl _)
 induction l with
 | nil => rfl
 | cons a l ih => simp only [Yf,belLL,ih,Bool.and_true];rfl
theorem rowsA_bel0 (n m : Nat) : belLL n (List.replicate m [AV.int .i64 0,.int .i64 0,.str []]) = true := rowsA_bel n m []
theorem rowsA_len (m : Nat) (l : List Acc) : (rowsA m l).length = l.length + (m - l.length) := by simp [rowsA]
theorem rowsA_get (m k : Nat) (l : List Acc) (hl : l.length = k) (hk : k < m) : (rowsA m l)[k]? = some (accC zA) := by
 unfold rowsA
 rw [List.getElem?_append_right (by simp [hl]),List.length_map,hl,Nat.sub_self,List.getElem?_replicate,if_pos (by omega)]
theorem rowsA_set (m k : Nat) (l : List Acc) (hl : l.length = k) (hk : k < m) (a : Acc) : (rowsA m l).set k (accC a) = rowsA m (l ++ [a]) := by
 unfold rowsA
 obtain ⟨d,hd⟩ : ∃ d,m - k = d + 1 := ⟨m - k - 1,by omega⟩
 rw [List.set_append_right _ _ (by simp [hl]),List.length_map,hl,Nat.sub_self,hd,List.replicate_succ,List.set_cons_zero,List.map_append,List.append_assoc,List.length_append,hl,show m - (k + [a].length) = d by simp;omega]
 rfl
theorem rowsA_fin (m : Nat) (l : List Acc) (hl : l.length = m) : (rowsA m l).take m = l.map accC := by
 unfold rowsA
 exact List.take_left' (by simp [hl])
theorem rowsA_plain (l : List Acc) : ∀ x ∈ l.map accC,∀ a ∈ x,a.plain = true := by
 intro x hx a ha
 obtain ⟨c,_,rfl⟩ := List.mem_map.1 hx
 simp only [accC,List.mem_cons,List.not_mem_nil,or_false] at ha
 rcases ha with rfl|rfl|rfl <;> rfl
theorem rowA_rb (b : Bytes) (e : Int) (C : AV → List AV) (o : Nat) (hC : CellAt C o) (hb : b.length ≤ 1000000) : BSpec Tryz.prog 127 [.agg [.ptr 1 o,.fn (.func 73) [] []],.ptr 0 0] [pp b true e,.box (C (.nils))] [pp (rdV b e).1 true (rdV b e).2.1,.box (C (votesA (rdV b e).2.2))] (.tup []) := by
 have hn := number_r b e 0 [.int .i64 0] 0 hb rfl (by decide) rfl
 have hbl := rdN_le b e 0
 unfold rdV
 generalize rdN b e 0 = t at *
 obtain ⟨b',e',n⟩ := t
 have l0 : ∀ x : AV,lay [.int .i64 0] 0 [x] = [x] := fun _ => rfl
 simp only [l0] at hn hbl ⊢
 refine ⟨⟨_,Tryz.func127,by kernel_rfl,rfl⟩,Sg Tryz.func127 rfl fun c0 hc0 => ?_⟩;simp only [go_sem,pp,hC.rd,hC.le,Nat.reduceAdd,Nat.reduceLeDiff,Nat.reduceSub]
 refine Ops.callB .free rfl rfl (js := [0,3]) (by decide) (LentAll.cons rfl (pp_lent b true e) (LentAll.cons rfl (LentB.box_ [.int .i64 0] rfl) LentAll.nil)) (lent2 (pp_lent _ _ _) (LentB.box_ _ rfl)) rfl rfl (by simp only [go_sem,cond_true,cond_false,renL,AV.ren,List.idxOf,List.findIdx,List.findIdx.go,Nat.reduceAdd,Nat.reduceBEq];(repeat' first|exact .refl _|apply LeR.tup|apply Le.agg|constructor)) (hn) rfl ?_
 by_cases n1 : n < 0
 ·rw [if_pos (.inl n1)]
  refine Og Tryz.func127 ?_;simp only [go_sem,putBack,pp,n1,hC.rd,hC.le,↓alt_t,↓alt_f,↓alts_t,↓gone_tt,↓gone_ft,Int.reduceEq,Nat.reduceAdd,Nat.reduceLeDiff]
  (and_intros <;> try first|rfl|omega|(unfold I64;omega))
  all_goals first|omega|skip
  ·skip
   refine Run.unloop ?_
   refine Rg Tryz.func127 ?_;simp only [go_sem,↓alt_f,Int.reduceLT]
   exact ⟨by (repeat' first|exact .refl _|apply LeR.tup|apply Le.agg|constructor),WkH.cons (LeB.same _ rfl) (WkH.cons (LeB.box (hC.le1 (.nil 3)) (hC.bel 0 _ rfl)) (WkH.nil _))⟩
 ·by_cases n2 : 30 < n
  ·rw [if_pos (.inr n2)]
   refine Og Tryz.func127 ?_;simp only [go_sem,putBack,pp,n1,n2,hC.rd,hC.le,↓alt_t,↓alt_f,↓alts_t,↓alts_f,↓gone_tt,↓gone_ff,Int.reduceEq,Nat.reduceAdd,Nat.reduceLeDiff]
   (and_intros <;> try first|rfl|omega|(unfold I64;omega))
   all_goals first|omega|skip
   ·skip
    refine Run.unloop ?_
    refine Rg Tryz.func127 ?_;simp only [go_sem,↓alt_f,Int.reduceLT]
    exact ⟨by (repeat' first|exact .refl _|apply LeR.tup|apply Le.agg|constructor),WkH.cons (LeB.same _ rfl) (WkH.cons (LeB.box (hC.le1 (.nil 3)) (hC.bel 0 _ rfl)) (WkH.nil _))⟩
  ·rw [if_neg (by omega)]
   by_cases e0 : e' = 0
   ·subst e0
    rw [if_pos rfl]
    obtain ⟨m,rfl⟩ := Int.eq_ofNat_of_zero_le (by omega : 0 ≤ n)
    have hm : m ≤ 30 := by omega
    rw [Int.toNat_natCast]
    have hS := rdAs_len b' 0
    have hSl := fun k => Nat.le_trans (rdAs_le k b' 0) (Nat.le_trans hbl hb)
    have hfin : (rowsA m (rdAs m b' 0).2.2).take m = (rdAs m b' 0).2.2.map accC := rowsA_fin m _ (hS m)
    refine Og Tryz.func127 ?_;simp only [go_sem,putBack,pp,n1,n2,hC.rd,hC.wr,hC.le,↓alt_t,↓alt_f,↓alts_t,↓alts_f,↓gone_tt,↓gone_ff,Nat.reduceAdd,Nat.reduceLeDiff,Nat.reduceLT]
    (and_intros <;> try first|rfl|omega|(unfold I64;omega))
    all_goals first|omega|skip
    refine Run.loopV (α := Nat) (fun k => k ≤ m) (fun k => [(44,.int .i64 k)]) 5 (fun k => [(0,pp (rdAs k b' 0).1 true (rdAs k b' 0).2.1),(4,.rows 3 (rowsA m (rdAs k b' 0).2.2))]) (fun k => m - k) 0 (Nat.zero_le _) ?_ ?_
    ·simp only [go_sem,writes,junks,puts,hputs,List.filterMap_cons,List.filterMap_nil,rdAs,rowsA_nil,pp,bytesA]
     (refine Weak.of (by simp [hc0]) ?_ ?_ <;> (repeat' first|exact .refl _|exact .junk _|exact .nil|exact .nil _|exact .tok _ _ _|rfl|apply WkT.cons|apply WkH.cons|apply LeB.same|apply LeB.box|apply Le1L.cons|apply Le.agg|apply Le.one))
     all_goals (first|exact rowsA_bel _ _ _|exact rowsA_bel0 _ _|exact hC.bel _ _ (by simp [AV.bel]))
    intro k hk ih
    simp only [writes,junks,puts,hputs,List.filterMap_cons,List.filterMap_nil,Y6,Y7,Yg,Yk,Y5,Y3,Yd] at hk ih ⊢
    by_cases hlt : k < m
    ·have hkk : (k : Int) < m := by omega
     have hrow := rowsA_get m k _ (hS k) hlt
     have hset := rowsA_set m k _ (hS k) hlt
     have hrb : belLL 0 (rowsA m (rdAs k b' 0).2.2) = true := rowsA_bel _ _ _
     refine Rg Tryz.func127 ?_;simp only [go_sem,hkk,hC.rd,hC.le,pp,↓alt_t,Nat.reduceAdd,Nat.reduceLeDiff,Nat.reduceLT]
     (and_intros <;> try first|rfl|omega|(unfold I64;omega))
     refine DOps.callP rfl .free rfl rfl (js := [4]) (by decide) (LentAll.cons rfl (rows_lent hrb) LentAll.nil) (lent1 (rows_lent hrb)) rfl rfl (by simp only [go_sem,cond_true,renL,AV.ren,List.idxOf,List.findIdx,List.findIdx.go];(repeat' first|exact .refl _|apply LeR.tup|apply Le.agg|constructor)) (vote_d 3 k 0 _ (rows_lent hrb)) rfl ?_
     refine Dg Tryz.func127 rfl ?_;simp only [go_sem,voteD,partC,AV.unr,unrL,unrLL,Nat.reduceAdd]
     refine DOps.invokeB rfl .free rfl rfl meth_parts (js := [0,4]) (by decide) (LentAll.cons rfl (pp_lent _ _ _) (LentAll.cons rfl (rows_lent hrb) LentAll.nil)) (lent2 (pp_lent _ _ _) (rows_lent (belLL_set hrb rfl))) rfl (by simp only [go_sem];rfl) (by simp only [go_sem,Nat.reduceAdd,Nat.reduceBEq,cond_true,cond_false,renL,renLL,AV.ren,List.idxOf,List.findIdx,List.findIdx.go];exact LeL.cons (Le.refl _) (LeL.cons (Le.refl _) LeL.nil)) (vote_rd _ _ zA _ k hrow hrb (hSl k)) rfl ?_
     refine Dg Tryz.func127 rfl ?_;simp only [go_sem,putBack,pp]
     (and_intros <;> try first|rfl|omega|(unfold I64;omega))
     refine ih (k + 1) _ (by omega) (by omega) ?_
     simp only [Int.natCast_add,Int.natCast_one,pp,bytesA,rdAs,hset]
     (refine Weak.of (by simp [hc0]) ?_ ?_ <;> (repeat' first|exact .refl _|exact .junk _|exact .nil|exact .nil _|exact .tok _ _ _|rfl|apply WkT.cons|apply WkH.cons|apply LeB.same|apply LeB.box|apply Le1L.cons|apply Le.agg|apply Le.one))
     all_goals (first|exact rowsA_bel _ _ _|exact hC.bel _ _ (by simp [AV.bel]))
    ·obtain rfl : m = k := by omega
     have hkk : ¬ (m : Int) < m := by omega
     refine Run.weak (Weak.freezeC 1 o 4 3 0 m m _ _ rfl (hC.get _) rfl (by decide) (by rw [rowsA_len];omega) (by rw [List.drop_zero,hfin];exact rowsA_plain _)) ?_
     simp only [Yi,hfin,hC.set,Y6,Y7]
     refine Rg Tryz.func127 ?_;simp only [go_sem,hkk,pp,↓alt_f]
     exact ⟨by (repeat' first|exact .refl _|apply LeR.tup|apply Le.agg|constructor),WkH.cons (LeB.same _ rfl) (WkH.cons (LeB.same _ (hC.bel 0 _ rfl)) (WkH.nil _))⟩
   ·rw [if_neg e0]
    refine Og Tryz.func127 ?_;simp only [go_sem,putBack,pp,n1,n2,e0,hC.rd,hC.le,↓alt_f,↓alts_t,↓alts_f,↓gone_tt,↓gone_ff,Nat.reduceAdd,Nat.reduceLeDiff]
    (and_intros <;> try first|rfl|omega|(unfold I64;omega))
    all_goals first|omega|skip
    ·skip
     refine Run.unloop ?_
     refine Rg Tryz.func127 ?_;simp only [go_sem,↓alt_f,Int.reduceLT]
     exact ⟨by (repeat' first|exact .refl _|apply LeR.tup|apply Le.agg|constructor),WkH.cons (LeB.same _ rfl) (WkH.cons (LeB.box (hC.le1 (.nil 3)) (hC.bel 0 _ rfl)) (WkH.nil _))⟩
theorem rowA_rd (b : Bytes) (e : Int) (R : AV → List (List AV)) (kq j o : Nat) (hC : CellIn R kq j o) (hb : b.length ≤ 1000000) : BSpec Tryz.prog 127 [.agg [.eptr 1 kq j o,.fn (.func 73) [] []],.ptr 0 0] [pp b true e,.rows kq (R (.nils))] [pp (rdV b e).1 true (rdV b e).2.1,.rows kq (R (votesA (rdV b e).2.2))] (.tup []) := by
 have hn := number_r b e 0 [.int .i64 0] 0 hb rfl (by decide) rfl
 have hbl := rdN_le b e 0
 unfold rdV
 generalize rdN b e 0 = t at *
 obtain ⟨b',e',n⟩ := t
 have l0 : ∀ x : AV,lay [.int .i64 0] 0 [x] = [x] := fun _ => rfl
 simp only [l0] at hn hbl ⊢
 refine ⟨⟨_,Tryz.func127,by kernel_rfl,rfl⟩,Sg Tryz.func127 rfl fun c0 hc0 => ?_⟩;simp only [go_sem,pp,hC.rd,hC.lt,hC.le,Nat.reduceAdd,Nat.reduceLeDiff,Nat.reduceSub]
 refine Ops.callB .free rfl rfl (js := [0,3]) (by decide) (LentAll.cons rfl (pp_lent b true e) (LentAll.cons rfl (LentB.box_ [.int .i64 0] rfl) LentAll.nil)) (lent2 (pp_lent _ _ _) (LentB.box_ _ rfl)) rfl rfl (by simp only [go_sem,cond_true,cond_false,renL,AV.ren,List.idxOf,List.findIdx,List.findIdx.go,Nat.reduceAdd,Nat.reduceBEq];(repeat' first|exact .refl _|apply LeR.tup|apply Le.agg|constructor)) (hn) rfl ?_
 by_cases n1 : n < 0
 ·rw [if_pos (.inl n1)]
  refine Og Tryz.func127 ?_;simp only [go_sem,putBack,pp,n1,hC.rd,hC.lt,hC.le,↓alt_t,↓alt_f,↓alts_t,↓gone_tt,↓gone_ft,Int.reduceEq,Nat.reduceAdd,Nat.reduceLeDiff]
  (and_intros <;> try first|rfl|omega|(unfold I64;omega))
  all_goals first|omega|skip
  ·obtain ⟨row,hr1,hr2⟩ := hC.get .nils
   have hrs := hC.set .nils (.sl 3 [] .no)
   rw [hr1,Option.getD_some] at hrs
   refine Run.weak (Weak.nilR 1 kq j o 3 _ row rfl hr1 hr2) ?_
   simp only [hrs,Y6,Y7]
   refine Run.unloop ?_
   refine Rg Tryz.func127 ?_;simp only [go_sem,↓alt_f,Int.reduceLT]
   exact ⟨by (repeat' first|exact .refl _|apply LeR.tup|apply Le.agg|constructor),WkH.cons (LeB.same _ rfl) (WkH.cons (LeB.same _ (hC.bel 0 _ rfl)) (WkH.nil _))⟩
 ·by_cases n2 : 30 < n
  ·rw [if_pos (.inr n2)]
   refine Og Tryz.func127 ?_;simp only [go_sem,putBack,pp,n1,n2,hC.rd,hC.lt,hC.le,↓alt_t,↓alt_f,↓alts_t,↓alts_f,↓gone_tt,↓gone_ff,Int.reduceEq,Nat.reduceAdd,Nat.reduceLeDiff]
   (and_intros <;> try first|rfl|omega|(unfold I64;omega))
   all_goals first|omega|skip
   ·obtain ⟨row,hr1,hr2⟩ := hC.get .nils
    have hrs := hC.set .nils (.sl 3 [] .no)
    rw [hr1,Option.getD_some] at hrs
    refine Run.weak (Weak.nilR 1 kq j o 3 _ row rfl hr1 hr2) ?_
    simp only [hrs,Y6,Y7]
    refine Run.unloop ?_
    refine Rg Tryz.func127 ?_;simp only [go_sem,↓alt_f,Int.reduceLT]
    exact ⟨by (repeat' first|exact .refl _|apply LeR.tup|apply Le.agg|constructor),WkH.cons (LeB.same _ rfl) (WkH.cons (LeB.same _ (hC.bel 0 _ rfl)) (WkH.nil _))⟩
  ·rw [if_neg (by omega)]
   by_cases e0 : e' = 0
   ·subst e0
    rw [if_pos rfl]
    obtain ⟨m,rfl⟩ := Int.eq_ofNat_of_zero_le (by omega : 0 ≤ n)
    have hm : m ≤ 30 := by omega
    rw [Int.toNat_natCast]
    have hS := rdAs_len b' 0
    have hSl := fun k => Nat.le_trans (rdAs_le k b' 0) (Nat.le_trans hbl hb)
    have hfin : (rowsA m (rdAs m b' 0).2.2).take m = (rdAs m b' 0).2.2.map accC := rowsA_fin m _ (hS m)
    refine Og Tryz.func127 ?_;simp only [go_sem,putBack,pp,n1,n2,hC.rd,hC.wr,hC.lt,hC.le,↓alt_t,↓alt_f,↓alts_t,↓alts_f,↓gone_tt,↓gone_ff,Nat.reduceAdd,Nat.reduceLeDiff,Nat.reduceLT]
    (and_intros <;> try first|rfl|omega|(unfold I64;omega))
    all_goals first|omega|skip
    refine Run.loopV (α := Nat) (fun k => k ≤ m) (fun k => [(44,.int .i64 k)]) 5 (fun k => [(0,pp (rdAs k b' 0).1 true (rdAs k b' 0).2.1),(4,.rows 3 (rowsA m (rdAs k b' 0).2.2))]) (fun k => m - k) 0 (Nat.zero_le _) ?_ ?_
    ·simp only [go_sem,writes,junks,puts,hputs,List.filterMap_cons,List.filterMap_nil,rdAs,rowsA_nil,pp,bytesA]
     (refine Weak.of (by simp [hc0]) ?_ ?_ <;> (repeat' first|exact .refl _|exact .junk _|exact .nil|exact .nil _|exact .tok _ _ _|rfl|apply WkT.cons|apply WkH.cons|apply LeB.same|apply LeB.box|apply Le1L.cons|apply Le.agg|apply Le.one))
     all_goals (first|exact rowsA_bel _ _ _|exact rowsA_bel0 _ _|exact hC.bel _ _ (by simp [AV.bel]))
    intro k hk ih
    simp only [writes,junks,puts,hputs,List.filterMap_cons,List.filterMap_nil,Y6,Y7,Yg,Yk,Y5,Y3,Yd] at hk ih ⊢
    by_cases hlt : k < m
    ·have hkk : (k : Int) < m := by omega
     have hrow := rowsA_get m k _ (hS k) hlt
     have hset := rowsA_set m k _ (hS k) hlt
     have hrb : belLL 0 (rowsA m (rdAs k b' 0).2.2) = true := rowsA_bel _ _ _
     refine Rg Tryz.func127 ?_;simp only [go_sem,hkk,hC.rd,hC.lt,hC.le,pp,↓alt_t,Nat.reduceAdd,Nat.reduceLeDiff,Nat.reduceLT]
     (and_intros <;> try first|rfl|omega|(unfold I64;omega))
     refine DOps.callP rfl .free rfl rfl (js := [4]) (by decide) (LentAll.cons rfl (rows_lent hrb) LentAll.nil) (lent1 (rows_lent hrb)) rfl rfl (by simp only [go_sem,cond_true,renL,AV.ren,List.idxOf,List.findIdx,List.findIdx.go];(repeat' first|exact .refl _|apply LeR.tup|apply Le.agg|constructor)) (vote_d 3 k 0 _ (rows_lent hrb)) rfl ?_
     refine Dg Tryz.func127 rfl ?_;simp only [go_sem,voteD,partC,AV.unr,unrL,unrLL,Nat.reduceAdd]
     refine DOps.invokeB rfl .free rfl rfl meth_parts (js := [0,4]) (by decide) (LentAll.cons rfl (pp_lent _ _ _) (LentAll.cons rfl (rows_lent hrb) LentAll.nil)) (lent2 (pp_lent _ _ _) (rows_lent (belLL_set hrb rfl))) rfl (by simp only [go_sem];rfl) (by simp only [go_sem,Nat.reduceAdd,Nat.reduceBEq,cond_true,cond_false,renL,renLL,AV.ren,List.idxOf,List.findIdx,List.findIdx.go];exact LeL.cons (Le.refl _) (LeL.cons (Le.refl _) LeL.nil)) (vote_rd _ _ zA _ k hrow hrb (hSl k)) rfl ?_
     refine Dg Tryz.func127 rfl ?_;simp only [go_sem,putBack,pp]
     (and_intros <;> try first|rfl|omega|(unfold I64;omega))
     refine ih (k + 1) _ (by omega) (by omega) ?_
     simp only [Int.natCast_add,Int.natCast_one,pp,bytesA,rdAs,hset]
     (refine Weak.of (by simp [hc0]) ?_ ?_ <;> (repeat' first|exact .refl _|exact .junk _|exact .nil|exact .nil _|exact .tok _ _ _|rfl|apply WkT.cons|apply WkH.cons|apply LeB.same|apply LeB.box|apply Le1L.cons|apply Le.agg|apply Le.one))
     all_goals (first|exact rowsA_bel _ _ _|exact hC.bel _ _ (by simp [AV.bel]))
    ·obtain rfl : m = k := by omega
     have hkk : ¬ (m : Int) < m := by omega
     obtain ⟨row,hr1,hr2⟩ := hC.get (.msl 4 3 0 m m)
     have hrs := fun x => hC.set (.msl 4 3 0 m m) x
     simp only [hr1,Y4] at hrs
     refine Run.weak (Weak.freezeR 1 kq j o 4 3 0 m m _ _ row rfl hr1 hr2 (by decide) rfl (by decide) (by rw [rowsA_len];omega) (by rw [List.drop_zero,hfin];exact rowsA_plain _)) ?_
     simp only [Yi,hfin,hrs,Y6,Y7]
     refine Rg Tryz.func127 ?_;simp only [go_sem,hkk,pp,↓alt_f]
     exact ⟨by (repeat' first|exact .refl _|apply LeR.tup|apply Le.agg|constructor),WkH.cons (LeB.same _ rfl) (WkH.cons (LeB.same _ (hC.bel 0 _ rfl)) (WkH.nil _))⟩
   ·rw [if_neg e0]
    refine Og Tryz.func127 ?_;simp only [go_sem,putBack,pp,n1,n2,e0,hC.rd,hC.lt,hC.le,↓alt_f,↓alts_t,↓alts_f,↓gone_tt,↓gone_ff,Nat.reduceAdd,Nat.reduceLeDiff]
    (and_intros <;> try first|rfl|omega|(unfold I64;omega))
    all_goals first|omega|skip
    ·obtain ⟨row,hr1,hr2⟩ := hC.get .nils
     have hrs := hC.set .nils (.sl 3 [] .no)
     rw [hr1,Option.getD_some] at hrs
     refine Run.weak (Weak.nilR 1 kq j o 3 _ row rfl hr1 hr2) ?_
     simp only [hrs,Y6,Y7]
     refine Run.unloop ?_
     refine Rg Tryz.func127 ?_;simp only [go_sem,↓alt_f,Int.reduceLT]
     exact ⟨by (repeat' first|exact .refl _|apply LeR.tup|apply Le.agg|constructor),WkH.cons (LeB.same _ rfl) (WkH.cons (LeB.same _ (hC.bel 0 _ rfl)) (WkH.nil _))⟩
end Go.Proofs.YtkamcoechjdgpaaGreat
