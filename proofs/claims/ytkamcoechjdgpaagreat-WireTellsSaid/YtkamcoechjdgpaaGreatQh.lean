/-
  Several texts in one: Hb, Hc, Hg, Hm, Hn, Ho, Hp, Hh, Iy, Iz, Ix, Iw, Tp, Open, ZRep, OpenS, Rd, RdI.
-/
import Derived.Test.YtkamcoechjdgpaaGreatQg
import Derived.Test.YtkamcoechjdgpaaGreatQd
import Derived.Test.YtkamcoechjdgpaaGreatQc
import Derived.Test.YtkamcoechjdgpaaGreatQf
import Derived.SizedLaws
import Derived.OpenShut
set_option maxRecDepth 20000
set_option maxHeartbeats 8000000
namespace Go.Proofs.YtkamcoechjdgpaaGreat
open Go.RowKit
theorem rput12_spec (b : Bytes) (o : Ord) (hb : b.length ≤ 100000) (ho : smO o) : ASpec Tryz.prog 48 [bytesA b,encO o] (bytesA (b ++ putO o)) := by
 obtain ⟨h0,h1,h2,h3,h4,h5,ha,hb2⟩ := ho
 have hz : ∀ n ∈ [o.a,o.b,o.kind,o.x,o.y,o.z],I64 n := by simp;exact ⟨h0,h1,h2,h3,h4,h5⟩
 have hl := encZs_le [o.a,o.b,o.kind,o.x,o.y,o.z] hz
 have ht := encT_le o.s (by omega)
 simp only [Ya,Y9,Nat.reduceAdd,Nat.reduceMul] at hl
 refine ⟨⟨_,Tryz.func48,by kernel_rfl,rfl⟩,Sg Tryz.func48 rfl fun c0 hc0 => ?_⟩;simp only [go_sem,encO,bytesA,Nat.reduceAdd,Nat.reduceLeDiff,Nat.reduceMul,Nat.reduceBEq,Nat.reduceLT,Nat.reduceSub]
 refine Run.loopV (α := Nat) (fun k => k ≤ 6) (fun k => [(0,bytesA (b ++ encZs ([o.a,o.b,o.kind,o.x,o.y,o.z].take k))),(6,.int .i64 k)]) 2 (fun _ => []) (fun k => 6 - k) 0 (Nat.zero_le _) ?_ ?_
 ·simp only [go_sem,writes,junks,puts,hputs,List.filterMap_cons,List.filterMap_nil,bytesA,encZs,List.flatten_nil]
  (refine Weak.of (by simp [hc0]) ?_ ?_ <;> (repeat' first|exact .refl _|exact .junk _|exact .nil|exact .nil _|exact .tok _ _ _|rfl|apply WkT.cons|apply WkH.cons|apply LeB.same|apply LeB.box|apply Le1L.cons|apply Le.agg|apply Le.one))
 ·intro k hI ih
  simp only [writes,junks,puts,hputs,List.filterMap_cons,List.filterMap_nil,Y6,Y7,Yg,Yk,Y5,Y3,Yd] at ih ⊢
  by_cases hk : k < 6
  ·obtain ⟨x,hx⟩ : ∃ x,([o.a,o.b,o.kind,o.x,o.y,o.z])[k]? = some x := ⟨_,List.getElem?_eq_getElem (by simpa using hk)⟩
   have hkk : (k : Int) < 6 := by omega
   have hxm := hz x (List.mem_of_getElem? hx)
   have hx' : ([[.int .i64 o.a],[.int .i64 o.b],[.int .i64 o.kind],[.int .i64 o.x],[.int .i64 o.y],[.int .i64 o.z]] : List (List AV))[k]? = some [.int .i64 x] := by
    show (([o.a,o.b,o.kind,o.x,o.y,o.z]).map intC)[k]? = _
    rw [List.getElem?_map,hx];rfl
   have hle := encZs_le ([o.a,o.b,o.kind,o.x,o.y,o.z].take k) fun n hn => hz n (List.mem_of_mem_take hn)
   rw [List.length_take] at hle
   have hsn : encZs ([o.a,o.b,o.kind,o.x,o.y,o.z].take (k + 1)) = encZs ([o.a,o.b,o.kind,o.x,o.y,o.z].take k) ++ encN (zig x) := by
    rw [List.take_add_one,hx]
    simp [encZs]
   refine Rg Tryz.func48 ?_;simp only [go_sem,hx',hkk,bytesA,Int.cast_ofNat_Int,↓alt_t,Nat.reduceAdd,Nat.reduceLT]
   (and_intros <;> try first|rfl|omega|(unfold I64;omega))
   have hc := (rint_spec (b ++ encZs ([o.a,o.b,o.kind,o.x,o.y,o.z].take k)) x (by rw [List.length_append];omega) hxm).spec
   refine Ops.pure .free rfl rfl (hc) (by simp only [go_sem,bytesA];(repeat' first|exact .refl _|apply LeR.tup|apply Le.agg|constructor)) rfl rfl ?_
   refine Og Tryz.func48 ?_;simp only [go_sem]
   (and_intros <;> try first|rfl|omega|(unfold I64;omega))
   refine ih (k + 1) _ (by omega) (by omega) ?_
   rw [hsn,← List.append_assoc]
   simp only [Int.natCast_add,Int.natCast_one,bytesA]
   (refine Weak.of (by simp [hc0]) ?_ ?_ <;> (repeat' first|exact .refl _|exact .junk _|exact .nil|exact .nil _|exact .tok _ _ _|rfl|apply WkT.cons|apply WkH.cons|apply LeB.same|apply LeB.box|apply Le1L.cons|apply Le.agg|apply Le.one))
  ·obtain rfl : k = 6 := by omega
   refine Rg Tryz.func48 ?_;simp only [go_sem,bytesA,Int.cast_ofNat_Int,Int.lt_irrefl,↓alt_f,Nat.reduceAdd,Nat.reduceLeDiff]
   have hs1 := (rtext_spec (b ++ encZs [o.a,o.b,o.kind,o.x,o.y,o.z]) o.s (by rw [List.length_append];omega) (by omega)).spec
   refine Ops.pure .free rfl rfl (hs1) (by simp only [go_sem,bytesA];(repeat' first|exact .refl _|apply LeR.tup|apply Le.agg|constructor)) rfl rfl ?_
   refine Og Tryz.func48 ?_;simp only [go_sem,Nat.reduceAdd,Nat.reduceLeDiff]
   have hs2 := (rtext_spec (b ++ encZs [o.a,o.b,o.kind,o.x,o.y,o.z] ++ encT o.s) o.t (by simp only [List.length_append];omega) (by omega)).spec
   refine Ops.pure .free rfl rfl (hs2) (by simp only [go_sem,bytesA];(repeat' first|exact .refl _|apply LeR.tup|apply Le.agg|constructor)) rfl rfl ?_
   refine Og Tryz.func48 ?_;simp only [go_sem]
   simp only [putO,List.append_assoc]
   (repeat' first|exact .refl _|apply LeR.tup|apply Le.agg|constructor)
theorem rputreply_spec (b : Bytes) (o : Rpl) (hb : b.length ≤ 100000) (ho : smR o) : ASpec Tryz.prog 49 [bytesA b,encR o] (bytesA (b ++ putR o)) := by
 obtain ⟨h0,h1,h2,h3,ha,hb2⟩ := ho
 have hz : ∀ n ∈ [o.a,o.b,o.e,o.x],I64 n := by simp;exact ⟨h0,h1,h2,h3⟩
 have hl := encZs_le [o.a,o.b,o.e,o.x] hz
 have ht := encT_le o.s (by omega)
 simp only [Ya,Y9,Nat.reduceAdd,Nat.reduceMul] at hl
 refine ⟨⟨_,Tryz.func49,by kernel_rfl,rfl⟩,Sg Tryz.func49 rfl fun c0 hc0 => ?_⟩;simp only [go_sem,encR,textsA,bytesA,Nat.reduceAdd,Nat.reduceLeDiff,Nat.reduceMul,Nat.reduceBEq,Nat.reduceLT,Nat.reduceSub]
 refine Run.loopV (α := Nat) (fun k => k ≤ 4) (fun k => [(0,bytesA (b ++ encZs ([o.a,o.b,o.e,o.x].take k))),(6,.int .i64 k)]) 2 (fun _ => []) (fun k => 4 - k) 0 (Nat.zero_le _) ?_ ?_
 ·simp only [go_sem,writes,junks,puts,hputs,List.filterMap_cons,List.filterMap_nil,bytesA,encZs,List.flatten_nil]
  (refine Weak.of (by simp [hc0]) ?_ ?_ <;> (repeat' first|exact .refl _|exact .junk _|exact .nil|exact .nil _|exact .tok _ _ _|rfl|apply WkT.cons|apply WkH.cons|apply LeB.same|apply LeB.box|apply Le1L.cons|apply Le.agg|apply Le.one))
 ·intro k hI ih
  simp only [writes,junks,puts,hputs,List.filterMap_cons,List.filterMap_nil,Y6,Y7,Yg,Yk,Y5,Y3,Yd] at ih ⊢
  by_cases hk : k < 4
  ·obtain ⟨x,hx⟩ : ∃ x,([o.a,o.b,o.e,o.x])[k]? = some x := ⟨_,List.getElem?_eq_getElem (by simpa using hk)⟩
   have hkk : (k : Int) < 4 := by omega
   have hxm := hz x (List.mem_of_getElem? hx)
   have hx' : ([[.int .i64 o.a],[.int .i64 o.b],[.int .i64 o.e],[.int .i64 o.x]] : List (List AV))[k]? = some [.int .i64 x] := by
    show (([o.a,o.b,o.e,o.x]).map intC)[k]? = _
    rw [List.getElem?_map,hx];rfl
   have hle := encZs_le ([o.a,o.b,o.e,o.x].take k) fun n hn => hz n (List.mem_of_mem_take hn)
   rw [List.length_take] at hle
   have hsn : encZs ([o.a,o.b,o.e,o.x].take (k + 1)) = encZs ([o.a,o.b,o.e,o.x].take k) ++ encN (zig x) := by
    rw [List.take_add_one,hx]
    simp [encZs]
   refine Rg Tryz.func49 ?_;simp only [go_sem,hx',hkk,bytesA,Int.cast_ofNat_Int,↓alt_t,Nat.reduceAdd,Nat.reduceLT]
   (and_intros <;> try first|rfl|omega|(unfold I64;omega))
   have hc := (rint_spec (b ++ encZs ([o.a,o.b,o.e,o.x].take k)) x (by rw [List.length_append];omega) hxm).spec
   refine Ops.pure .free rfl rfl (hc) (by simp only [go_sem,bytesA];(repeat' first|exact .refl _|apply LeR.tup|apply Le.agg|constructor)) rfl rfl ?_
   refine Og Tryz.func49 ?_;simp only [go_sem]
   (and_intros <;> try first|rfl|omega|(unfold I64;omega))
   refine ih (k + 1) _ (by omega) (by omega) ?_
   rw [hsn,← List.append_assoc]
   simp only [Int.natCast_add,Int.natCast_one,bytesA]
   (refine Weak.of (by simp [hc0]) ?_ ?_ <;> (repeat' first|exact .refl _|exact .junk _|exact .nil|exact .nil _|exact .tok _ _ _|rfl|apply WkT.cons|apply WkH.cons|apply LeB.same|apply LeB.box|apply Le1L.cons|apply Le.agg|apply Le.one))
  ·obtain rfl : k = 4 := by omega
   refine Rg Tryz.func49 ?_;simp only [go_sem,bytesA,Int.cast_ofNat_Int,Int.lt_irrefl,↓alt_f,Nat.reduceAdd,Nat.reduceLeDiff]
   have hs1 := (rtext_spec (b ++ encZs [o.a,o.b,o.e,o.x]) o.s (by rw [List.length_append];omega) (by omega)).spec
   refine Ops.pure .free rfl rfl (hs1) (by simp only [go_sem,bytesA];(repeat' first|exact .refl _|apply LeR.tup|apply Le.agg|constructor)) rfl rfl ?_
   refine Og Tryz.func49 ?_;simp only [go_sem,Nat.reduceAdd]
   have hs2 := rlist_spec (b ++ encZs [o.a,o.b,o.e,o.x] ++ encT o.s) o.l (by simp only [List.length_append];omega)
   refine Ops.pure .free rfl rfl (hs2) (by simp only [go_sem,bytesA,textsA];(repeat' first|exact .refl _|apply LeR.tup|apply Le.agg|constructor)) rfl rfl ?_
   refine Og Tryz.func49 ?_;simp only [go_sem,bytesA]
   simp only [putR,List.append_assoc]
   (repeat' first|exact .refl _|apply LeR.tup|apply Le.agg|constructor)
theorem encZs_one (n : Int) : encZs [n] = encN (zig n) := by simp [encZs]
theorem rints27_spec (b : Bytes) (l : List Int) (hb : b.length ≤ 900000) (hl : l.length ≤ 1000) (hz : ∀ n ∈ l,I64 n) : ASpec Tryz.prog 17 [bytesA b,.sl 1 (l.map intC) .no] (bytesA (b ++ encZs l)) := by
 refine ⟨⟨_,Tryz.func17,by kernel_rfl,rfl⟩,Sg Tryz.func17 rfl fun c0 hc0 => ?_⟩;simp only [go_sem,bytesA,Nat.reduceAdd,Nat.reduceSub]
 refine Run.loopV (α := Nat) (fun k => k ≤ l.length) (fun k => [(0,bytesA (b ++ encZs (l.take k))),(5,.int .i64 k)]) 0 (fun _ => []) (fun k => l.length - k) 0 (Nat.zero_le _) ?_ ?_
 ·simp only [go_sem,writes,junks,puts,hputs,List.filterMap_cons,List.filterMap_nil,bytesA,encZs,List.flatten_nil]
  (refine Weak.of (by simp [hc0]) ?_ ?_ <;> (repeat' first|exact .refl _|exact .junk _|exact .nil|exact .nil _|exact .tok _ _ _|rfl|apply WkT.cons|apply WkH.cons|apply LeB.same|apply LeB.box|apply Le1L.cons|apply Le.agg|apply Le.one))
 ·intro k hI ih
  simp only [writes,junks,puts,hputs,List.filterMap_cons,List.filterMap_nil,Y6,Y7,Yk,Y5,Y3,Yd] at ih ⊢
  by_cases hk : k < l.length
  ·obtain ⟨x,hx⟩ : ∃ x,l[k]? = some x := ⟨_,List.getElem?_eq_getElem hk⟩
   have hkk : (k : Int) < l.length := by omega
   have hxm := hz x (List.mem_of_getElem? hx)
   have hle := encZs_le (l.take k) fun n hn => hz n (List.mem_of_mem_take hn)
   rw [List.length_take] at hle
   have hsn : encZs (l.take (k + 1)) = encZs (l.take k) ++ encN (zig x) := by
    rw [List.take_add_one,hx]
    simp [encZs]
   have hc := (rint_spec (b ++ encZs (l.take k)) x (by rw [List.length_append];omega) hxm).spec
   refine Rg Tryz.func17 ?_;simp only [go_sem,hx,hkk,bytesA,intC,List.getElem?_map,↓alt_t,Nat.reduceAdd,Nat.reduceLT]
   (and_intros <;> try first|rfl|omega|(unfold I64;omega))
   refine Ops.pure .free rfl rfl (hc) (by simp only [go_sem,bytesA];(repeat' first|exact .refl _|apply LeR.tup|apply Le.agg|constructor)) rfl rfl ?_
   refine Og Tryz.func17 ?_;simp only [go_sem]
   (and_intros <;> try first|rfl|omega|(unfold I64;omega))
   refine ih (k + 1) _ (by omega) (by omega) ?_
   rw [hsn,← List.append_assoc]
   simp only [Int.natCast_add,Int.natCast_one,bytesA]
   (refine Weak.of (by simp [hc0]) ?_ ?_ <;> (repeat' first|exact .refl _|exact .junk _|exact .nil|exact .nil _|exact .tok _ _ _|rfl|apply WkT.cons|apply WkH.cons|apply LeB.same|apply LeB.box|apply Le1L.cons|apply Le.agg|apply Le.one))
  ·obtain rfl : k = l.length := by omega
   have hkk : ¬ (l.length : Int) < l.length := by omega
   refine Rg Tryz.func17 ?_;simp only [go_sem,hkk,bytesA,↓alt_f]
   rw [List.take_length]
   (repeat' first|exact .refl _|apply LeR.tup|apply Le.agg|constructor)
theorem rvote27_spec (b : Bytes) (a : Acc) (hb : b.length ≤ 800000) (ha : smA a) : ASpec Tryz.prog 46 [bytesA b,encA a] (bytesA (b ++ voteB a)) := by
 obtain ⟨h1,h2,h3⟩ := ha
 have hi := rints27_spec b [a.by_,a.view] (by omega) (by simp) (by simp;exact ⟨h1,h2⟩)
 have hl := encZs_le [a.by_,a.view] (by simp;exact ⟨h1,h2⟩)
 simp only [Ya,Y9,Nat.reduceAdd,Nat.reduceMul] at hl
 have ht := (rtext_spec (b ++ encZs [a.by_,a.view]) a.value (by rw [List.length_append];omega) (by omega)).spec
 have he : voteB a = encZs [a.by_,a.view] ++ encT a.value := by simp [voteB,encZs]
 rw [he,← List.append_assoc]
 refine ⟨⟨_,Tryz.func46,by kernel_rfl,rfl⟩,Sg Tryz.func46 rfl fun c0 hc0 => ?_⟩;simp only [go_sem,bytesA,encA,accC,Nat.reduceAdd,Nat.reduceLeDiff,Nat.reduceMul,Nat.reduceBEq,Nat.reduceLT,Nat.reduceSub]
 (and_intros <;> try first|rfl|omega|(unfold I64;omega))
 refine Ops.pure .free rfl rfl (hi) (by simp only [go_sem,bytesA,intC];(repeat' first|exact .refl _|apply LeR.tup|apply Le.agg|constructor)) rfl rfl ?_
 refine Og Tryz.func46 ?_;simp only [go_sem,bytesA,Nat.reduceAdd]
 (and_intros <;> try first|rfl|omega|(unfold I64;omega))
 refine Ops.pure .free rfl rfl (ht) (by simp only [go_sem,bytesA];(repeat' first|exact .refl _|apply LeR.tup|apply Le.agg|constructor)) rfl rfl ?_
 refine Og Tryz.func46 ?_;simp only [go_sem]
 (and_intros <;> try first|rfl|omega|(unfold I64;omega))
 (repeat' first|exact .refl _|apply LeR.tup|apply Le.agg|constructor)
theorem rvotes27_spec (b : Bytes) (l : List Acc) (hb : b.length + totA l ≤ 700000) (hl : ∀ a ∈ l,smA a) : ASpec Tryz.prog 47 [bytesA b,votesA l] (bytesA (b ++ votesB l)) := by
 have hlen : 27 * l.length ≤ totA l := by
  clear hb hl
  induction l with
  | nil => simp
  | cons x l ih => rw [totA_cons,List.length_cons];omega
 have hI : I64 (l.length : Int) := by unfold I64;omega
 have hi := rints27_spec b [(l.length : Int)] (by omega) (by simp) (by simp;exact hI)
 have hn := enc9 _ hI
 rw [encZs_one] at hi
 refine ⟨⟨_,Tryz.func47,by kernel_rfl,rfl⟩,Sg Tryz.func47 rfl fun c0 hc0 => ?_⟩;simp only [go_sem,bytesA,votesA,Nat.reduceAdd,Nat.reduceLeDiff,Nat.reduceMul,Nat.reduceBEq,Nat.reduceLT,Nat.reduceSub]
 (and_intros <;> try first|rfl|omega|(unfold I64;omega))
 refine Ops.pure .free rfl rfl (hi) (by simp only [go_sem,bytesA,intC];(repeat' first|exact .refl _|apply LeR.tup|apply Le.agg|constructor)) rfl rfl ?_
 refine Og Tryz.func47 ?_;simp only [go_sem,bytesA]
 (and_intros <;> try first|rfl|omega|(unfold I64;omega))
 refine Run.loopV (α := Nat) (fun k => k ≤ l.length) (fun k => [(0,bytesA (b ++ encN (zig l.length) ++ ((l.take k).map voteB).flatten)),(5,.int .i64 k)]) 1 (fun _ => []) (fun k => l.length - k) 0 (Nat.zero_le _) ?_ ?_
 ·simp only [go_sem,writes,junks,puts,hputs,List.filterMap_cons,List.filterMap_nil,bytesA,List.flatten_nil]
  (refine Weak.of (by simp [hc0]) ?_ ?_ <;> (repeat' first|exact .refl _|exact .junk _|exact .nil|exact .nil _|exact .tok _ _ _|rfl|apply WkT.cons|apply WkH.cons|apply LeB.same|apply LeB.box|apply Le1L.cons|apply Le.agg|apply Le.one))
 ·intro k hk0 ih
  simp only [writes,junks,puts,hputs,List.filterMap_cons,List.filterMap_nil,Y6,Y7,Yg,Yk,Y5,Y3,Yd] at ih ⊢
  by_cases hk : k < l.length
  ·obtain ⟨x,hx⟩ : ∃ x,l[k]? = some x := ⟨_,List.getElem?_eq_getElem hk⟩
   have hkk : (k : Int) < l.length := by omega
   have hxs := hl x (List.mem_of_getElem? hx)
   have h1 := votesB_take (l.take k) fun a ha => hl a (List.mem_of_mem_take ha)
   have h2 := totA_take l k x hx
   have hsn : ((l.take (k + 1)).map voteB).flatten = ((l.take k).map voteB).flatten ++ voteB x := by
    rw [List.take_add_one,hx]
    simp
   have hc := rvote27_spec (b ++ encN (zig l.length) ++ ((l.take k).map voteB).flatten) x (by simp only [List.length_append];omega) hxs
   refine Rg Tryz.func47 ?_;simp only [go_sem,hx,hkk,bytesA,accC,List.getElem?_map,↓alt_t,Nat.reduceAdd,Nat.reduceLT]
   (and_intros <;> try first|rfl|omega|(unfold I64;omega))
   refine Ops.pure .free rfl rfl (hc) (by simp only [go_sem,bytesA,encA,accC];(repeat' first|exact .refl _|apply LeR.tup|apply Le.agg|constructor)) rfl rfl ?_
   refine Og Tryz.func47 ?_;simp only [go_sem,bytesA]
   (and_intros <;> try first|rfl|omega|(unfold I64;omega))
   refine ih (k + 1) _ (by omega) (by omega) ?_
   rw [hsn,← List.append_assoc]
   simp only [Int.natCast_add,Int.natCast_one,bytesA]
   (refine Weak.of (by simp [hc0]) ?_ ?_ <;> (repeat' first|exact .refl _|exact .junk _|exact .nil|exact .nil _|exact .tok _ _ _|rfl|apply WkT.cons|apply WkH.cons|apply LeB.same|apply LeB.box|apply Le1L.cons|apply Le.agg|apply Le.one))
  ·obtain rfl : k = l.length := by omega
   have hkk : ¬ (l.length : Int) < l.length := by omega
   refine Rg Tryz.func47 ?_;simp only [go_sem,hkk,bytesA,↓alt_f]
   rw [List.take_length,List.append_assoc]
   (repeat' first|exact .refl _|apply LeR.tup|apply Le.agg|constructor)
theorem rreport27_true (b : Bytes) (r : Rp) (hh : r.has = true) (hb : b.length + totR r ≤ 600000) (hr : smRp r) : ASpec Tryz.prog 45 [bytesA b,encRp r] (bytesA (b ++ reportB r)) := by
 obtain ⟨h1,h2,h3,h4,h5,h6⟩ := hr
 have hz : ∀ n ∈ [r.by_,r.for_,1,r.view],I64 n := by simp;exact ⟨h1,h2,by unfold I64;omega,h3⟩
 have hi := rints27_spec b [r.by_,r.for_,1,r.view] (by omega) (by simp) hz
 have hl := encZs_le [r.by_,r.for_,1,r.view] hz
 simp only [Ya,Y9,Nat.reduceAdd,Nat.reduceMul] at hl
 have htr : totR r = r.value.length + totA r.proof + 60 := rfl
 have htl := encT_le r.value (by omega)
 have ht := (rtext_spec (b ++ encZs [r.by_,r.for_,1,r.view]) r.value (by rw [List.length_append];omega) (by omega)).spec
 have hv := rvotes27_spec (b ++ encZs [r.by_,r.for_,1,r.view] ++ encT r.value) r.proof (by simp only [List.length_append];omega) h5
 have he : reportB r = encZs [r.by_,r.for_,1,r.view] ++ encT r.value ++ votesB r.proof := by simp [reportB,encZs,hh]
 rw [he,← List.append_assoc,← List.append_assoc]
 refine ⟨⟨_,Tryz.func45,by kernel_rfl,rfl⟩,Sg Tryz.func45 rfl fun c0 hc0 => ?_⟩;simp only [go_sem,bytesA,encRp,rpC,hh,↓alt_t,Nat.reduceAdd,Nat.reduceLeDiff,Nat.reduceMul,Nat.reduceBEq,Nat.reduceLT,Nat.reduceSub]
 (and_intros <;> try first|rfl|omega|(unfold I64;omega))
 refine Ops.pure .free rfl rfl (hi) (by simp only [go_sem,bytesA,intC];(repeat' first|exact .refl _|apply LeR.tup|apply Le.agg|constructor)) rfl rfl ?_
 refine Og Tryz.func45 ?_;simp only [go_sem,bytesA,Nat.reduceAdd,Nat.reduceLeDiff]
 (and_intros <;> try first|rfl|omega|(unfold I64;omega))
 refine Ops.pure .free rfl rfl (ht) (by simp only [go_sem,bytesA];(repeat' first|exact .refl _|apply LeR.tup|apply Le.agg|constructor)) rfl rfl ?_
 refine Og Tryz.func45 ?_;simp only [go_sem,Nat.reduceAdd]
 (and_intros <;> try first|rfl|omega|(unfold I64;omega))
 refine Ops.pure .free rfl rfl (hv) (by simp only [go_sem,bytesA,votesA];(repeat' first|exact .refl _|apply LeR.tup|apply Le.agg|constructor)) rfl rfl ?_
 refine Og Tryz.func45 ?_;simp only [go_sem,bytesA]
 (and_intros <;> try first|rfl|omega|(unfold I64;omega))
 (repeat' first|exact .refl _|apply LeR.tup|apply Le.agg|constructor)
theorem rreport27_false (b : Bytes) (r : Rp) (hh : r.has = false) (hb : b.length + totR r ≤ 600000) (hr : smRp r) : ASpec Tryz.prog 45 [bytesA b,encRp r] (bytesA (b ++ reportB r)) := by
 obtain ⟨h1,h2,h3,h4,h5,h6⟩ := hr
 have hz : ∀ n ∈ [r.by_,r.for_,0,r.view],I64 n := by simp;exact ⟨h1,h2,by unfold I64;omega,h3⟩
 have hi := rints27_spec b [r.by_,r.for_,0,r.view] (by omega) (by simp) hz
 have hl := encZs_le [r.by_,r.for_,0,r.view] hz
 simp only [Ya,Y9,Nat.reduceAdd,Nat.reduceMul] at hl
 have htr : totR r = r.value.length + totA r.proof + 60 := rfl
 have htl := encT_le r.value (by omega)
 have ht := (rtext_spec (b ++ encZs [r.by_,r.for_,0,r.view]) r.value (by rw [List.length_append];omega) (by omega)).spec
 have hv := rvotes27_spec (b ++ encZs [r.by_,r.for_,0,r.view] ++ encT r.value) r.proof (by simp only [List.length_append];omega) h5
 have he : reportB r = encZs [r.by_,r.for_,0,r.view] ++ encT r.value ++ votesB r.proof := by simp [reportB,encZs,hh]
 rw [he,← List.append_assoc,← List.append_assoc]
 refine ⟨⟨_,Tryz.func45,by kernel_rfl,rfl⟩,Sg Tryz.func45 rfl fun c0 hc0 => ?_⟩;simp only [go_sem,bytesA,encRp,rpC,hh,↓alt_f,Nat.reduceAdd,Nat.reduceLeDiff,Nat.reduceMul,Nat.reduceBEq,Nat.reduceLT,Nat.reduceSub]
 (and_intros <;> try first|rfl|omega|(unfold I64;omega))
 refine Ops.pure .free rfl rfl (hi) (by simp only [go_sem,bytesA,intC];(repeat' first|exact .refl _|apply LeR.tup|apply Le.agg|constructor)) rfl rfl ?_
 refine Og Tryz.func45 ?_;simp only [go_sem,bytesA,Nat.reduceAdd,Nat.reduceLeDiff]
 (and_intros <;> try first|rfl|omega|(unfold I64;omega))
 refine Ops.pure .free rfl rfl (ht) (by simp only [go_sem,bytesA];(repeat' first|exact .refl _|apply LeR.tup|apply Le.agg|constructor)) rfl rfl ?_
 refine Og Tryz.func45 ?_;simp only [go_sem,Nat.reduceAdd]
 (and_intros <;> try first|rfl|omega|(unfold I64;omega))
 refine Ops.pure .free rfl rfl (hv) (by simp only [go_sem,bytesA,votesA];(repeat' first|exact .refl _|apply LeR.tup|apply Le.agg|constructor)) rfl rfl ?_
 refine Og Tryz.func45 ?_;simp only [go_sem,bytesA]
 (and_intros <;> try first|rfl|omega|(unfold I64;omega))
 (repeat' first|exact .refl _|apply LeR.tup|apply Le.agg|constructor)
theorem rreport27_spec (b : Bytes) (r : Rp) (hb : b.length + totR r ≤ 600000) (hr : smRp r) : ASpec Tryz.prog 45 [bytesA b,encRp r] (bytesA (b ++ reportB r)) := by
 cases h : r.has with
 | true => exact rreport27_true b r h hb hr
 | false => exact rreport27_false b r h hb hr
theorem rpart_f (b : Bytes) (l : Ltr) (hb : b.length ≤ 30000) (h : smL l) : ASpec Tryz.prog 19 [bytesA b,.agg (letC l),.int .u8 102] (bytesA (b ++ encN (zig l.frm))) := by
 have hl : l.sum.length = 32 := h.2.2.2.2.2.2.2.2.2.2.2.2.2.1
 have y1 := let_1 l
 have y2 := let_2 l
 have y3 := let_3 l
 have y4 := let_4 l
 have y5 := let_5 l
 have y6 := let_6 l
 have y9 := let_9 l
 have y10 := let_10 l
 have y16 := let_16 l hl
 have y48 := let_48 l hl
 have y56 := let_56 l hl
 have xlen := let_len l hl
 have hbel := let_bel l
 obtain ⟨h1,h2,h3,h4,h5,h6,h7,h8,h9,h10,h11,h12,h13,h14,h15,h16,h17,h18,h19⟩ := h
 have hi := rints27_spec b [l.frm] (by omega) (by simp) (by simp;exact h1)
 rw [encZs_one] at hi
 generalize letC l = cs at *
 refine ⟨⟨_,Tryz.func19,by kernel_rfl,rfl⟩,Sg Tryz.func19 rfl fun c0 hc0 => ?_⟩;simp only [go_sem,y1,xlen,bytesA,↓alt_t,Nat.reduceAdd,Nat.reduceLeDiff,Nat.reduceMul,Nat.reduceBEq,Nat.reduceLT,Nat.reduceSub]
 (and_intros <;> try first|rfl|omega|(unfold I64;omega))
 refine Ops.pure .free rfl rfl (hi) (by simp only [go_sem,bytesA,intC];(repeat' first|exact .refl _|apply LeR.tup|apply Le.agg|constructor)) rfl rfl ?_
 refine Og Tryz.func19 ?_;simp only [go_sem,bytesA]
 (and_intros <;> try first|rfl|omega|(unfold I64;omega))
 (repeat' first|exact .refl _|apply LeR.tup|apply Le.agg|constructor)
theorem rpart_s (b : Bytes) (l : Ltr) (hb : b.length ≤ 30000) (h : smL l) : ASpec Tryz.prog 19 [bytesA b,.agg (letC l),.int .u8 115] (bytesA (b ++ encN (zig l.slot))) := by
 have hl : l.sum.length = 32 := h.2.2.2.2.2.2.2.2.2.2.2.2.2.1
 have y1 := let_1 l
 have y2 := let_2 l
 have y3 := let_3 l
 have y4 := let_4 l
 have y5 := let_5 l
 have y6 := let_6 l
 have y9 := let_9 l
 have y10 := let_10 l
 have y16 := let_16 l hl
 have y48 := let_48 l hl
 have y56 := let_56 l hl
 have xlen := let_len l hl
 have hbel := let_bel l
 obtain ⟨h1,h2,h3,h4,h5,h6,h7,h8,h9,h10,h11,h12,h13,h14,h15,h16,h17,h18,h19⟩ := h
 have hi := rints27_spec b [l.slot] (by omega) (by simp) (by simp;exact h2)
 rw [encZs_one] at hi
 generalize letC l = cs at *
 refine ⟨⟨_,Tryz.func19,by kernel_rfl,rfl⟩,Sg Tryz.func19 rfl fun c0 hc0 => ?_⟩;simp only [go_sem,y2,xlen,bytesA,↓alt_t,↓alt_f,Int.reduceEq,Nat.reduceAdd,Nat.reduceLeDiff,Nat.reduceMul,Nat.reduceBEq,Nat.reduceLT,Nat.reduceSub]
 (and_intros <;> try first|rfl|omega|(unfold I64;omega))
 refine Ops.pure .free rfl rfl (hi) (by simp only [go_sem,bytesA,intC];(repeat' first|exact .refl _|apply LeR.tup|apply Le.agg|constructor)) rfl rfl ?_
 refine Og Tryz.func19 ?_;simp only [go_sem,bytesA]
 (and_intros <;> try first|rfl|omega|(unfold I64;omega))
 (repeat' first|exact .refl _|apply LeR.tup|apply Le.agg|constructor)
theorem rpart_v (b : Bytes) (l : Ltr) (hb : b.length ≤ 30000) (h : smL l) : ASpec Tryz.prog 19 [bytesA b,.agg (letC l),.int .u8 118] (bytesA (b ++ encN (zig l.view))) := by
 have hl : l.sum.length = 32 := h.2.2.2.2.2.2.2.2.2.2.2.2.2.1
 have y1 := let_1 l
 have y2 := let_2 l
 have y3 := let_3 l
 have y4 := let_4 l
 have y5 := let_5 l
 have y6 := let_6 l
 have y9 := let_9 l
 have y10 := let_10 l
 have y16 := let_16 l hl
 have y48 := let_48 l hl
 have y56 := let_56 l hl
 have xlen := let_len l hl
 have hbel := let_bel l
 obtain ⟨h1,h2,h3,h4,h5,h6,h7,h8,h9,h10,h11,h12,h13,h14,h15,h16,h17,h18,h19⟩ := h
 have hi := rints27_spec b [l.view] (by omega) (by simp) (by simp;exact h3)
 rw [encZs_one] at hi
 generalize letC l = cs at *
 refine ⟨⟨_,Tryz.func19,by kernel_rfl,rfl⟩,Sg Tryz.func19 rfl fun c0 hc0 => ?_⟩;simp only [go_sem,y3,xlen,bytesA,↓alt_t,↓alt_f,Int.reduceEq,Nat.reduceAdd,Nat.reduceLeDiff,Nat.reduceMul,Nat.reduceBEq,Nat.reduceLT,Nat.reduceSub]
 (and_intros <;> try first|rfl|omega|(unfold I64;omega))
 refine Ops.pure .free rfl rfl (hi) (by simp only [go_sem,bytesA,intC];(repeat' first|exact .refl _|apply LeR.tup|apply Le.agg|constructor)) rfl rfl ?_
 refine Og Tryz.func19 ?_;simp only [go_sem,bytesA]
 (and_intros <;> try first|rfl|omega|(unfold I64;omega))
 (repeat' first|exact .refl _|apply LeR.tup|apply Le.agg|constructor)
theorem rpart_x (b : Bytes) (l : Ltr) (hb : b.length ≤ 30000) (h : smL l) : ASpec Tryz.prog 19 [bytesA b,.agg (letC l),.int .u8 120] (bytesA (b ++ encT l.value)) := by
 have hl : l.sum.length = 32 := h.2.2.2.2.2.2.2.2.2.2.2.2.2.1
 have y1 := let_1 l
 have y2 := let_2 l
 have y3 := let_3 l
 have y4 := let_4 l
 have y5 := let_5 l
 have y6 := let_6 l
 have y9 := let_9 l
 have y10 := let_10 l
 have y16 := let_16 l hl
 have y48 := let_48 l hl
 have y56 := let_56 l hl
 have xlen := let_len l hl
 have hbel := let_bel l
 obtain ⟨h1,h2,h3,h4,h5,h6,h7,h8,h9,h10,h11,h12,h13,h14,h15,h16,h17,h18,h19⟩ := h
 have ht := (rtext_spec b l.value (by omega) (by omega)).spec
 generalize letC l = cs at *
 refine ⟨⟨_,Tryz.func19,by kernel_rfl,rfl⟩,Sg Tryz.func19 rfl fun c0 hc0 => ?_⟩;simp only [go_sem,y4,xlen,bytesA,↓alt_t,↓alt_f,Int.reduceEq,Nat.reduceAdd,Nat.reduceLeDiff,Nat.reduceSub]
 (and_intros <;> try first|rfl|omega|(unfold I64;omega))
 refine Ops.pure .free rfl rfl (ht) (by simp only [go_sem,bytesA];(repeat' first|exact .refl _|apply LeR.tup|apply Le.agg|constructor)) rfl rfl ?_
 refine Og Tryz.func19 ?_;simp only [go_sem]
 (and_intros <;> try first|rfl|omega|(unfold I64;omega))
 (repeat' first|exact .refl _|apply LeR.tup|apply Le.agg|constructor)
theorem rpart_a (b : Bytes) (l : Ltr) (hb : b.length ≤ 30000) (h : smL l) : ASpec Tryz.prog 19 [bytesA b,.agg (letC l),.int .u8 97] (bytesA (b ++ voteB l.vote)) := by
 have hl : l.sum.length = 32 := h.2.2.2.2.2.2.2.2.2.2.2.2.2.1
 have y1 := let_1 l
 have y2 := let_2 l
 have y3 := let_3 l
 have y4 := let_4 l
 have y5 := let_5 l
 have y6 := let_6 l
 have y9 := let_9 l
 have y10 := let_10 l
 have y16 := let_16 l hl
 have y48 := let_48 l hl
 have y56 := let_56 l hl
 have xlen := let_len l hl
 have hbel := let_bel l
 obtain ⟨h1,h2,h3,h4,h5,h6,h7,h8,h9,h10,h11,h12,h13,h14,h15,h16,h17,h18,h19⟩ := h
 have hv := rvote27_spec b l.vote (by omega) h8
 generalize letC l = cs at *
 refine ⟨⟨_,Tryz.func19,by kernel_rfl,rfl⟩,Sg Tryz.func19 rfl fun c0 hc0 => ?_⟩;simp only [go_sem,y6,xlen,bytesA,↓alt_t,↓alt_f,Int.reduceEq,Nat.reduceAdd,Nat.reduceLeDiff,Nat.reduceSub]
 (and_intros <;> try first|rfl|omega|(unfold I64;omega))
 refine Ops.pure .free rfl rfl (hv) (by simp only [go_sem,bytesA,encA];(repeat' first|exact .refl _|apply LeR.tup|apply Le.agg|constructor)) rfl rfl ?_
 refine Og Tryz.func19 ?_;simp only [go_sem,bytesA]
 (and_intros <;> try first|rfl|omega|(unfold I64;omega))
 (repeat' first|exact .refl _|apply LeR.tup|apply Le.agg|constructor)
theorem rpart_p (b : Bytes) (l : Ltr) (hb : b.length ≤ 30000) (h : smL l) : ASpec Tryz.prog 19 [bytesA b,.agg (letC l),.int .u8 112] (bytesA (b ++ votesB l.proof)) := by
 have hl : l.sum.length = 32 := h.2.2.2.2.2.2.2.2.2.2.2.2.2.1
 have y1 := let_1 l
 have y2 := let_2 l
 have y3 := let_3 l
 have y4 := let_4 l
 have y5 := let_5 l
 have y6 := let_6 l
 have y9 := let_9 l
 have y10 := let_10 l
 have y16 := let_16 l hl
 have y48 := let_48 l hl
 have y56 := let_56 l hl
 have xlen := let_len l hl
 have hbel := let_bel l
 obtain ⟨h1,h2,h3,h4,h5,h6,h7,h8,h9,h10,h11,h12,h13,h14,h15,h16,h17,h18,h19⟩ := h
 have hv := rvotes27_spec b l.proof (by omega) h9
 generalize letC l = cs at *
 refine ⟨⟨_,Tryz.func19,by kernel_rfl,rfl⟩,Sg Tryz.func19 rfl fun c0 hc0 => ?_⟩;simp only [go_sem,y9,xlen,bytesA,↓alt_t,↓alt_f,Int.reduceEq,Nat.reduceAdd,Nat.reduceLeDiff,Nat.reduceSub]
 (and_intros <;> try first|rfl|omega|(unfold I64;omega))
 refine Ops.pure .free rfl rfl (hv) (by simp only [go_sem,bytesA,votesA];(repeat' first|exact .refl _|apply LeR.tup|apply Le.agg|constructor)) rfl rfl ?_
 refine Og Tryz.func19 ?_;simp only [go_sem,bytesA]
 (and_intros <;> try first|rfl|omega|(unfold I64;omega))
 (repeat' first|exact .refl _|apply LeR.tup|apply Le.agg|constructor)
theorem rpart_r (b : Bytes) (l : Ltr) (hb : b.length ≤ 30000) (h : smL l) : ASpec Tryz.prog 19 [bytesA b,.agg (letC l),.int .u8 114] (bytesA (b ++ reportB l.r)) := by
 have hl : l.sum.length = 32 := h.2.2.2.2.2.2.2.2.2.2.2.2.2.1
 have y1 := let_1 l
 have y2 := let_2 l
 have y3 := let_3 l
 have y4 := let_4 l
 have y5 := let_5 l
 have y6 := let_6 l
 have y9 := let_9 l
 have y10 := let_10 l
 have y16 := let_16 l hl
 have y48 := let_48 l hl
 have y56 := let_56 l hl
 have xlen := let_len l hl
 have hbel := let_bel l
 obtain ⟨h1,h2,h3,h4,h5,h6,h7,h8,h9,h10,h11,h12,h13,h14,h15,h16,h17,h18,h19⟩ := h
 have hv := rreport27_spec b l.r (by omega) h12
 generalize letC l = cs at *
 refine ⟨⟨_,Tryz.func19,by kernel_rfl,rfl⟩,Sg Tryz.func19 rfl fun c0 hc0 => ?_⟩;simp only [go_sem,y10,xlen,bytesA,↓alt_t,↓alt_f,Int.reduceEq,Nat.reduceAdd,Nat.reduceLeDiff,Nat.reduceSub]
 (and_intros <;> try first|rfl|omega|(unfold I64;omega))
 refine Ops.pure .free rfl rfl (hv) (by simp only [go_sem,bytesA,encRp];(repeat' first|exact .refl _|apply LeR.tup|apply Le.agg|constructor)) rfl rfl ?_
 refine Og Tryz.func19 ?_;simp only [go_sem,bytesA]
 (and_intros <;> try first|rfl|omega|(unfold I64;omega))
 (repeat' first|exact .refl _|apply LeR.tup|apply Le.agg|constructor)
theorem rpart_o (b : Bytes) (l : Ltr) (hb : b.length ≤ 30000) (h : smL l) : ASpec Tryz.prog 19 [bytesA b,.agg (letC l),.int .u8 111] (bytesA (b ++ putO l.o)) := by
 have hl : l.sum.length = 32 := h.2.2.2.2.2.2.2.2.2.2.2.2.2.1
 have y1 := let_1 l
 have y2 := let_2 l
 have y3 := let_3 l
 have y4 := let_4 l
 have y5 := let_5 l
 have y6 := let_6 l
 have y9 := let_9 l
 have y10 := let_10 l
 have y16 := let_16 l hl
 have y48 := let_48 l hl
 have y56 := let_56 l hl
 have xlen := let_len l hl
 have hbel := let_bel l
 obtain ⟨h1,h2,h3,h4,h5,h6,h7,h8,h9,h10,h11,h12,h13,h14,h15,h16,h17,h18,h19⟩ := h
 have hv := rput12_spec b l.o (by omega) h15
 generalize letC l = cs at *
 refine ⟨⟨_,Tryz.func19,by kernel_rfl,rfl⟩,Sg Tryz.func19 rfl fun c0 hc0 => ?_⟩;simp only [go_sem,y48,xlen,bytesA,↓alt_t,↓alt_f,Int.reduceEq,Nat.reduceAdd,Nat.reduceLeDiff,Nat.reduceSub]
 (and_intros <;> try first|rfl|omega|(unfold I64;omega))
 refine Ops.pure .free rfl rfl (hv) (by simp only [go_sem,bytesA,encO,ordC];(repeat' first|exact .refl _|apply LeR.tup|apply Le.agg|constructor)) rfl rfl ?_
 refine Og Tryz.func19 ?_;simp only [go_sem,bytesA]
 (and_intros <;> try first|rfl|omega|(unfold I64;omega))
 (repeat' first|exact .refl _|apply LeR.tup|apply Le.agg|constructor)
theorem rpart_y (b : Bytes) (l : Ltr) (hb : b.length ≤ 30000) (h : smL l) : ASpec Tryz.prog 19 [bytesA b,.agg (letC l),.int .u8 121] (bytesA (b ++ putR l.x)) := by
 have hl : l.sum.length = 32 := h.2.2.2.2.2.2.2.2.2.2.2.2.2.1
 have y1 := let_1 l
 have y2 := let_2 l
 have y3 := let_3 l
 have y4 := let_4 l
 have y5 := let_5 l
 have y6 := let_6 l
 have y9 := let_9 l
 have y10 := let_10 l
 have y16 := let_16 l hl
 have y48 := let_48 l hl
 have y56 := let_56 l hl
 have xlen := let_len l hl
 have hbel := let_bel l
 obtain ⟨h1,h2,h3,h4,h5,h6,h7,h8,h9,h10,h11,h12,h13,h14,h15,h16,h17,h18,h19⟩ := h
 have hv := rputreply_spec b l.x (by omega) h16
 generalize letC l = cs at *
 refine ⟨⟨_,Tryz.func19,by kernel_rfl,rfl⟩,Sg Tryz.func19 rfl fun c0 hc0 => ?_⟩;simp only [go_sem,y56,xlen,bytesA,↓alt_f,Int.reduceEq,Nat.reduceAdd,Nat.reduceSub]
 (and_intros <;> try first|rfl|omega|(unfold I64;omega))
 refine Ops.pure .free rfl rfl (hv) (by simp only [go_sem,bytesA,encR,rplC,textsA];(repeat' first|exact .refl _|apply LeR.tup|apply Le.agg|constructor)) rfl rfl ?_
 refine Og Tryz.func19 ?_;simp only [go_sem,bytesA]
 (and_intros <;> try first|rfl|omega|(unfold I64;omega))
 (repeat' first|exact .refl _|apply LeR.tup|apply Le.agg|constructor)
theorem rpart_c (b : Bytes) (l : Ltr) (hb : b.length ≤ 30000) (h : smL l) : ASpec Tryz.prog 19 [bytesA b,.agg (letC l),.int .u8 99] (bytesA (b ++ rpsB l.cert)) := by
 have hl : l.sum.length = 32 := h.2.2.2.2.2.2.2.2.2.2.2.2.2.1
 have y1 := let_1 l
 have y2 := let_2 l
 have y3 := let_3 l
 have y4 := let_4 l
 have y5 := let_5 l
 have y6 := let_6 l
 have y9 := let_9 l
 have y10 := let_10 l
 have y16 := let_16 l hl
 have y48 := let_48 l hl
 have y56 := let_56 l hl
 have xlen := let_len l hl
 have hbel := let_bel l
 obtain ⟨h1,h2,h3,h4,h5,h6,h7,h8,h9,h10,h11,h12,h13,h14,h15,h16,h17,h18,h19⟩ := h
 have hI : I64 (l.cert.length : Int) := by unfold I64;omega
 have hi := rints27_spec b [(l.cert.length : Int)] (by omega) (by simp) (by simp;exact hI)
 have hn := enc9 _ hI
 rw [encZs_one] at hi
 generalize letC l = cs at *
 refine ⟨⟨_,Tryz.func19,by kernel_rfl,rfl⟩,Sg Tryz.func19 rfl fun c0 hc0 => ?_⟩;simp only [go_sem,y5,xlen,bytesA,rpsA,↓alt_t,↓alt_f,Int.reduceEq,Nat.reduceAdd,Nat.reduceLeDiff,Nat.reduceMul,Nat.reduceBEq,Nat.reduceLT,Nat.reduceSub]
 (and_intros <;> try first|rfl|omega|(unfold I64;omega))
 refine Ops.pure .free rfl rfl (hi) (by simp only [go_sem,bytesA,intC];(repeat' first|exact .refl _|apply LeR.tup|apply Le.agg|constructor)) rfl rfl ?_
 refine Og Tryz.func19 ?_;simp only [go_sem,bytesA]
 (and_intros <;> try first|rfl|omega|(unfold I64;omega))
 refine Run.loopV (α := Nat) (fun k => k ≤ l.cert.length) (fun k => [(0,bytesA (b ++ encN (zig l.cert.length) ++ ((l.cert.take k).map reportB).flatten)),(7,.int .i64 k)]) 2 (fun _ => []) (fun k => l.cert.length - k) 0 (Nat.zero_le _) ?_ ?_
 ·simp only [go_sem,writes,junks,puts,hputs,List.filterMap_cons,List.filterMap_nil,bytesA,List.flatten_nil]
  (refine Weak.of (by simp [hc0]) ?_ ?_ <;> (repeat' first|exact .refl _|exact .junk _|exact .nil|exact .nil _|exact .tok _ _ _|rfl|apply WkT.cons|apply WkH.cons|apply LeB.same|apply LeB.box|apply Le1L.cons|apply Le.agg|apply Le.one))
  all_goals exact hbel _
 ·intro k hk0 ih
  simp only [writes,junks,puts,hputs,List.filterMap_cons,List.filterMap_nil,Y6,Y7,Yg,Yk,Y5,Y3,Yd] at ih ⊢
  by_cases hk : k < l.cert.length
  ·obtain ⟨x,hx⟩ : ∃ x,l.cert[k]? = some x := ⟨_,List.getElem?_eq_getElem hk⟩
   have hkk : (k : Int) < l.cert.length := by omega
   have hxs := h5 x (List.mem_of_getElem? hx)
   have q1 := rpsB_take (l.cert.take k) fun a ha => h5 a (List.mem_of_mem_take ha)
   have q2 := totRs_take l.cert k x hx
   have hsn : ((l.cert.take (k + 1)).map reportB).flatten = ((l.cert.take k).map reportB).flatten ++ reportB x := by
    rw [List.take_add_one,hx]
    simp
   have hc := rreport27_spec (b ++ encN (zig l.cert.length) ++ ((l.cert.take k).map reportB).flatten) x (by simp only [List.length_append];omega) hxs
   refine Rg Tryz.func19 ?_;simp only [go_sem,hx,hkk,bytesA,rpsA,rpC,List.getElem?_map,y5,xlen,↓alt_t,Nat.reduceAdd,Nat.reduceLeDiff,Nat.reduceLT]
   (and_intros <;> try first|rfl|omega|(unfold I64;omega))
   refine Ops.pure .free rfl rfl (hc) (by simp only [go_sem,bytesA,encRp,rpC];(repeat' first|exact .refl _|apply LeR.tup|apply Le.agg|constructor)) rfl rfl ?_
   refine Og Tryz.func19 ?_;simp only [go_sem,bytesA]
   (and_intros <;> try first|rfl|omega|(unfold I64;omega))
   refine ih (k + 1) _ (by omega) (by omega) ?_
   rw [hsn,← List.append_assoc]
   simp only [Int.natCast_add,Int.natCast_one,bytesA]
   (refine Weak.of (by simp [hc0]) ?_ ?_ <;> (repeat' first|exact .refl _|exact .junk _|exact .nil|exact .nil _|exact .tok _ _ _|rfl|apply WkT.cons|apply WkH.cons|apply LeB.same|apply LeB.box|apply Le1L.cons|apply Le.agg|apply Le.one))
   all_goals exact hbel _
  ·obtain rfl : k = l.cert.length := by omega
   have hkk : ¬ (l.cert.length : Int) < l.cert.length := by omega
   refine Rg Tryz.func19 ?_;simp only [go_sem,hkk,bytesA,rpsA,y5,xlen,↓alt_f,Nat.reduceAdd,Nat.reduceLeDiff,Nat.reduceBEq]
   rw [List.take_length,List.append_assoc]
   (repeat' first|exact .refl _|apply LeR.tup|apply Le.agg|constructor)
def wrPF (c : UInt8) (l : Ltr) : Bytes :=
 if c = 102 then encN (zig l.frm) else
 if c = 115 then encN (zig l.slot) else
 if c = 118 then encN (zig l.view) else
 if c = 120 then encT l.value else
 if c = 99 then rpsB l.cert else
 if c = 97 then voteB l.vote else
 if c = 112 then votesB l.proof else
 if c = 114 then reportB l.r else
 if c = 109 then l.sum else
 if c = 111 then putO l.o else
 putR l.x
theorem rpart_spec (b : Bytes) (l : Ltr) (hb : b.length ≤ 30000) (h : smL l) (c : UInt8) (hc : c ∈ ([102,115,118,120,99,97,112,114,111,121] : List UInt8)) : ASpec Tryz.prog 19 [bytesA b,.agg (letC l),.int .u8 c.toNat] (bytesA (b ++ wrPF c l)) := by
 simp only [List.mem_cons,List.not_mem_nil,or_false] at hc
 rcases hc with rfl|rfl|rfl|rfl|rfl|rfl|rfl|rfl|rfl|rfl
 ·exact rpart_f b l hb h
 ·exact rpart_s b l hb h
 ·exact rpart_v b l hb h
 ·exact rpart_x b l hb h
 ·exact rpart_c b l hb h
 ·exact rpart_a b l hb h
 ·exact rpart_p b l hb h
 ·exact rpart_r b l hb h
 ·exact rpart_o b l hb h
 ·exact rpart_y b l hb h
theorem wr_parts (l : Ltr) (h : 1 ≤ l.kind ∧ l.kind ≤ 10) : ((usesOf l.kind).map fun c => wrPF c l).flatten = wrB l := by
 rcases (by omega : l.kind = 1 ∨ l.kind = 2 ∨ l.kind = 3 ∨ l.kind = 4 ∨ l.kind = 5 ∨ l.kind = 6 ∨ l.kind = 7 ∨ l.kind = 8 ∨ l.kind = 9 ∨ l.kind = 10) with h|h|h|h|h|h|h|h|h|h
 ·rw [usesOf_1 h,wrB_1 l h];simp [wrPF]
 ·rw [usesOf_2 h,wrB_2 l h];simp [wrPF]
 ·rw [usesOf_3 h,wrB_3 l h];simp [wrPF]
 ·rw [usesOf_4 h,wrB_4 l h];simp [wrPF]
 ·rw [usesOf_5 h,wrB_5 l h];simp [wrPF]
 ·rw [usesOf_6 h,wrB_6 l h];simp [wrPF]
 ·rw [usesOf_7 h,wrB_7 l h];simp [wrPF]
 ·rw [usesOf_8 h,wrB_8 l h];simp [wrPF]
 ·rw [usesOf_9 h,wrB_9 l h];simp [wrPF]
 ·rw [usesOf_10 h,wrB_10 l h];simp [wrPF]
theorem pre_le (l : Ltr) (h : smL l) : ∀ u : Bytes,(∀ c ∈ u,c ∈ ([102,115,118,120] : List UInt8)) → ((u.map fun c => wrPF c l).flatten).length ≤ 6100 * u.length
 | [],_ => by simp
 | c :: u,hu => by
  have ih := pre_le l h u fun x hx => hu x (List.mem_cons_of_mem _ hx)
  have hc := hu c List.mem_cons_self
  obtain ⟨h1,h2,h3,h4,_⟩ := h
  have e1 := enc9 _ h1
  have e2 := enc9 _ h2
  have e3 := enc9 _ h3
  have e4 := encT_le l.value (by omega)
  have hw : (wrPF c l).length ≤ 6100 := by
   simp only [List.mem_cons,List.not_mem_nil,or_false] at hc
   rcases hc with rfl|rfl|rfl|rfl
   ·show (encN (zig l.frm)).length ≤ _;omega
   ·show (encN (zig l.slot)).length ≤ _;omega
   ·show (encN (zig l.view)).length ≤ _;omega
   ·show (encT l.value).length ≤ _;omega
  rw [List.map_cons,List.flatten_cons,List.length_append,List.length_cons]
  omega
theorem usesOf_mem {k : Int} (h : 1 ≤ k ∧ k ≤ 10) : (usesOf k).length ≤ 5 ∧ (∀ c ∈ (usesOf k).dropLast,c ∈ ([102,115,118,120] : List UInt8)) ∧ (k ≠ 7 → ∀ c ∈ usesOf k,c ∈ ([102,115,118,120,99,97,112,114,111,121] : List UInt8)) := by
 rcases (by omega : k = 1 ∨ k = 2 ∨ k = 3 ∨ k = 4 ∨ k = 5 ∨ k = 6 ∨ k = 7 ∨ k = 8 ∨ k = 9 ∨ k = 10) with h|h|h|h|h|h|h|h|h|h
 ·rw [usesOf_1 h];exact ⟨by decide,by decide,fun h7 => by decide⟩
 ·rw [usesOf_2 h];exact ⟨by decide,by decide,fun h7 => by decide⟩
 ·rw [usesOf_3 h];exact ⟨by decide,by decide,fun h7 => by decide⟩
 ·rw [usesOf_4 h];exact ⟨by decide,by decide,fun h7 => by decide⟩
 ·rw [usesOf_5 h];exact ⟨by decide,by decide,fun h7 => by decide⟩
 ·rw [usesOf_6 h];exact ⟨by decide,by decide,fun h7 => by decide⟩
 ·rw [usesOf_7 h];exact ⟨by decide,by decide,fun h7 => absurd h h7⟩
 ·rw [usesOf_8 h];exact ⟨by decide,by decide,fun h7 => by decide⟩
 ·rw [usesOf_9 h];exact ⟨by decide,by decide,fun h7 => by decide⟩
 ·rw [usesOf_10 h];exact ⟨by decide,by decide,fun h7 => by decide⟩
theorem renc27_no (l : Ltr) (ht : TyL l) (hz : SzL l) (hg : ¬ Good l) : ASpec Tryz.prog 7 [.agg (letC l)] (.tup [.nils,.int .i64 1]) := by
 have hl : l.sum.length = 32 := ht.2.2.2.2.2.2.2.2.1
 have hm := rmay27_spec l ht hz
 rw [not_may hg] at hm
 have ab := arg_bel l 0
 have xfull := let_full l hl
 have xlen := let_len l hl
 generalize letC l = cs at *
 refine ⟨⟨_,Tryz.func7,by kernel_rfl,rfl⟩,Sg Tryz.func7 rfl fun c0 hc0 => ?_⟩;simp only [go_sem,xfull,xlen,Nat.reduceSub]
 refine Ops.pure .free rfl rfl (hm) (by simp only [go_sem];(repeat' first|exact .refl _|apply LeR.tup|apply Le.agg|constructor)) ab rfl ?_
 refine Og Tryz.func7 ?_;simp only [go_sem,↓alt_t]
 (and_intros <;> try first|rfl|omega|(unfold I64;omega))
 (repeat' first|exact .refl _|apply LeR.tup|apply Le.agg|constructor)
theorem renc27_ok (l : Ltr) (ht : TyL l) (hz : SzL l) (hg : Good l) (hs : smL l) (h7 : l.kind ≠ 7) : ASpec Tryz.prog 7 [.agg (letC l)] (.tup [bytesA (wrL l),.int .i64 0]) := by
 have hl : l.sum.length = 32 := ht.2.2.2.2.2.2.2.2.1
 have hm := rmay27_spec l ht hz
 rw [hg.may] at hm
 have hus := uses27_spec l.kind
 have hI : I64 l.kind := ht.1
 have hi := rints27_spec [] [l.kind] (by simp) (by simp) (by simp;exact hI)
 rw [encZs_one,List.nil_append] at hi
 have hn := enc9 _ hI
 obtain ⟨u1,u2,u3⟩ := usesOf_mem hg.1
 have hwp := wr_parts l hg.1
 have ab := arg_bel l 0
 have ab3 : ∀ (x : Bytes) (c : Int),belL 0 [bytesA x,.agg (letC l),.int .u8 c] = true := fun x c => by
  show (true && (AV.bel 0 (.agg (letC l)) && true)) = true
  rw [Bool.and_true,Bool.true_and]
  exact let_bel l 0
 have hbel := let_bel l
 have y0 := let_0 l
 have xfull := let_full l hl
 have xlen := let_len l hl
 have hpa := fun b hb c hc => rpart_spec b l hb hs c hc
 rw [wrL,← hwp]
 obtain ⟨u,hu⟩ : ∃ u,usesOf l.kind = u := ⟨_,rfl⟩
 rw [hu] at hus u1 u2 u3 ⊢
 generalize letC l = cs at *
 refine ⟨⟨_,Tryz.func7,by kernel_rfl,rfl⟩,Sg Tryz.func7 rfl fun c0 hc0 => ?_⟩;simp only [go_sem,xfull,xlen,Nat.reduceSub]
 refine Ops.pure .free rfl rfl (hm) (by simp only [go_sem];(repeat' first|exact .refl _|apply LeR.tup|apply Le.agg|constructor)) ab rfl ?_
 refine Og Tryz.func7 ?_;simp only [go_sem,xlen,y0,↓alt_f,Nat.reduceAdd,Nat.reduceLeDiff,Nat.reduceMul,Nat.reduceBEq,Nat.reduceLT]
 (and_intros <;> try first|rfl|omega|(unfold I64;omega))
 refine Ops.pure .free rfl rfl (hi) (by simp only [go_sem,bytesA,intC];(repeat' first|exact .refl _|apply LeR.tup|apply Le.agg|constructor)) rfl rfl ?_
 refine Og Tryz.func7 ?_;simp only [go_sem,xlen,y0,bytesA,Nat.reduceAdd,Nat.reduceLeDiff]
 (and_intros <;> try first|rfl|omega|(unfold I64;omega))
 refine Ops.pure .free rfl rfl (hus) (by simp only [go_sem];(repeat' first|exact .refl _|apply LeR.tup|apply Le.agg|constructor)) rfl rfl ?_
 refine Og Tryz.func7 ?_;simp only [go_sem]
 (and_intros <;> try first|rfl|omega|(unfold I64;omega))
 refine Run.loopV (α := Nat) (fun k => k ≤ u.length) (fun k => [(4,bytesA (encN (zig l.kind) ++ ((u.take k).map fun c => wrPF c l).flatten)),(6,.int .i64 k)]) 2 (fun _ => []) (fun k => u.length - k) 0 (Nat.zero_le _) ?_ ?_
 ·simp only [go_sem,writes,junks,puts,hputs,List.filterMap_cons,List.filterMap_nil,bytesA,List.flatten_nil]
  (refine Weak.of (by simp [hc0]) ?_ ?_ <;> (repeat' first|exact .refl _|exact .junk _|exact .nil|exact .nil _|exact .tok _ _ _|rfl|apply WkT.cons|apply WkH.cons|apply LeB.same|apply LeB.box|apply Le1L.cons|apply Le.agg|apply Le.one))
  all_goals exact hbel _
 ·intro k hk0 ih
  simp only [writes,junks,puts,hputs,List.filterMap_cons,List.filterMap_nil,Y6,Y7,Yg,Yk,Y5,Y3,Yd] at ih ⊢
  by_cases hk : k < u.length
  ·obtain ⟨x,hx⟩ : ∃ x,u[k]? = some x := ⟨_,List.getElem?_eq_getElem hk⟩
   have hkk : (k : Int) < u.length := by omega
   have q1 := pre_le l hs (u.take k) fun a ha => u2 a (by
    rw [List.dropLast_eq_take]
    obtain ⟨j,hj⟩ := List.mem_iff_getElem?.1 ha
    rw [List.getElem?_take] at hj
    split at hj
    ·refine List.mem_iff_getElem?.2 ⟨j,?_⟩
     rw [List.getElem?_take,if_pos (by omega),hj]
    ·cases hj)
   rw [List.length_take] at q1
   have hsn : ((u.take (k + 1)).map fun c => wrPF c l).flatten = ((u.take k).map fun c => wrPF c l).flatten ++ wrPF x l := by
    rw [List.take_add_one,hx]
    simp
   have hc := hpa (encN (zig l.kind) ++ ((u.take k).map fun c => wrPF c l).flatten) (by rw [List.length_append];omega) x (u3 h7 x (List.mem_of_getElem? hx))
   have hb3 := ab3 (encN (zig l.kind) ++ ((u.take k).map fun c => wrPF c l).flatten) x.toNat
   refine Rg Tryz.func7 ?_;simp only [go_sem,hx,hkk,bytesA,xfull,xlen,↓alt_t,Nat.reduceAdd]
   (and_intros <;> try first|rfl|omega|(unfold I64;omega))
   refine DOps.pure rfl .free rfl rfl (hc) (by simp only [go_sem,bytesA];(repeat' first|exact .refl _|apply LeR.tup|apply Le.agg|constructor)) hb3 rfl ?_
   refine Dg Tryz.func7 rfl ?_;simp only [go_sem,bytesA,Nat.reduceAdd]
   (and_intros <;> try first|rfl|omega|(unfold I64;omega))
   refine ih (k + 1) _ (by omega) (by omega) ?_
   rw [hsn,← List.append_assoc]
   simp only [Int.natCast_add,Int.natCast_one,bytesA]
   (refine Weak.of (by simp [hc0]) ?_ ?_ <;> (repeat' first|exact .refl _|exact .junk _|exact .nil|exact .nil _|exact .tok _ _ _|rfl|apply WkT.cons|apply WkH.cons|apply LeB.same|apply LeB.box|apply Le1L.cons|apply Le.agg|apply Le.one))
   all_goals exact hbel _
  ·obtain rfl : k = u.length := by omega
   have hkk : ¬ (u.length : Int) < u.length := by omega
   refine Rg Tryz.func7 ?_;simp only [go_sem,hkk,bytesA,↓alt_f]
   rw [List.take_length]
   (repeat' first|exact .refl _|apply LeR.tup|apply Le.agg|constructor)
theorem lay_pre (p x y r : List AV) (o : Nat) (xs : List AV) (ho : p.length = o) (hx : x.length = xs.length) : lay (p ++ (x ++ r)) o xs = p ++ (xs ++ r) := by
 subst ho
 unfold lay
 rw [List.take_left,← hx,← List.drop_drop,List.drop_left,List.drop_left,List.append_assoc]
theorem lay_frm (l : Ltr) (v : Int) : lay (letC l) 1 [.int .i64 v] = letC { l with frm := v } := rfl
theorem lay_slot (l : Ltr) (v : Int) : lay (letC l) 2 [.int .i64 v] = letC { l with slot := v } := rfl
theorem lay_view (l : Ltr) (v : Int) : lay (letC l) 3 [.int .i64 v] = letC { l with view := v } := rfl
theorem lay_value (l : Ltr) (v : Bytes) : lay (letC l) 4 [.str v] = letC { l with value := v } := rfl
theorem lay_cert (l : Ltr) (v : List Rp) : lay (letC l) 5 [rpsA v] = letC { l with cert := v } := rfl
theorem lay_vote (l : Ltr) (v : Acc) : lay (letC l) 6 (accC v) = letC { l with vote := v } := rfl
theorem lay_proof (l : Ltr) (v : List Acc) : lay (letC l) 9 [votesA v] = letC { l with proof := v } := rfl
theorem lay_r (l : Ltr) (v : Rp) : lay (letC l) 10 (rpC v) = letC { l with r := v } := rfl
theorem tkM_len (b : Bytes) : (tkM b).1.length = 32 := by
 unfold tkM
 split
 ·rfl
 ·simp;omega
theorem lay_sum (l : Ltr) (v : Bytes) (hl : l.sum.length = 32) (hv : v.length = 32) : lay (letC l) 16 (sumC v) = letC { l with sum := v } := by
 have h := lay_pre (.int .i64 l.kind :: ([.int .i64 l.frm,.int .i64 l.slot,.int .i64 l.view,.str l.value,rpsA l.cert] ++ (accC l.vote ++ (votesA l.proof :: rpC l.r)))) (sumC l.sum) [] (ordC l.o ++ rplC l.x) 16 (sumC v) rfl (by simp [sumC,hl,hv])
 exact h
theorem lay_o (l : Ltr) (v : Ord) (hl : l.sum.length = 32) : lay (letC l) 48 (ordC v) = letC { l with o := v } := by
 have h := lay_pre (.int .i64 l.kind :: ([.int .i64 l.frm,.int .i64 l.slot,.int .i64 l.view,.str l.value,rpsA l.cert] ++ (accC l.vote ++ (votesA l.proof :: (rpC l.r ++ sumC l.sum))))) (ordC l.o) [] (rplC l.x) 48 (ordC v) (by simp [accC,rpC,sumC,hl]) rfl
 simp only [Y5,List.append_assoc] at h
 exact h
theorem lay_x (l : Ltr) (v : Rpl) (hl : l.sum.length = 32) : lay (letC l) 56 (rplC v) = letC { l with x := v } := by
 have h := lay_pre (.int .i64 l.kind :: ([.int .i64 l.frm,.int .i64 l.slot,.int .i64 l.view,.str l.value,rpsA l.cert] ++ (accC l.vote ++ (votesA l.proof :: (rpC l.r ++ (sumC l.sum ++ ordC l.o)))))) (rplC l.x) [] [] 56 (rplC v) (by simp [accC,rpC,sumC,ordC,hl]) rfl
 simp only [Y5,List.append_assoc,Yd] at h
 exact h
theorem rtakenumber_frm (b : Bytes) (l : Ltr) (hl : l.sum.length = 32) : ASpec Tryz.prog 51 [bytesA b,.agg (letC l),.int .u8 102] (.tup [.agg (letC { l with frm := (rdN b 0 0).2.2 }),bytesA (rdN b 0 0).1,.bool (decide ((rdN b 0 0).2.1 = 0))]) := by
 have s1 := rtaken_spec b
 generalize rdN b 0 0 = t at *
 obtain ⟨y,e,n⟩ := t
 simp only at s1 ⊢
 generalize decide (e = 0) = d at *
 have xlen := let_len l hl
 have xlen' := let_len { l with frm := n } hl
 have hs := lay_frm l n
 unfold lay at hs
 simp only [Ya,Y9,Nat.reduceAdd] at hs
 have hbel := let_bel l
 have hbel' := let_bel { l with frm := n }
 have xT : (letC l).take 62 = letC l := List.take_of_length_le (Nat.le_of_eq xlen)
 have xT' : (letC { l with frm := n }).take 62 = letC { l with frm := n } := List.take_of_length_le (Nat.le_of_eq xlen')
 generalize letC { l with frm := n } = cs' at *
 generalize letC l = cs at *
 refine ⟨⟨_,Tryz.func51,by kernel_rfl,rfl⟩,Sg Tryz.func51 rfl fun c0 hc0 => ?_⟩;simp only [go_sem,bytesA,Nat.reduceAdd,Nat.reduceSub]
 refine Ops.pure .free rfl rfl (s1) (by simp only [go_sem,bytesA];(repeat' first|exact .refl _|apply LeR.tup|apply Le.agg|constructor)) rfl rfl ?_
 refine Og Tryz.func51 ?_;simp only [go_sem,bytesA,hs,xlen,xlen',xT',↓alt_t,Nat.reduceAdd,Nat.reduceLeDiff]
 (and_intros <;> try first|rfl|omega|(unfold I64;omega))
 all_goals (first|rfl|exact Nat.le_refl _|(repeat' first|exact .refl _|apply LeR.tup|apply Le.agg|constructor))
theorem rtakenumber_slot (b : Bytes) (l : Ltr) (hl : l.sum.length = 32) : ASpec Tryz.prog 51 [bytesA b,.agg (letC l),.int .u8 115] (.tup [.agg (letC { l with slot := (rdN b 0 0).2.2 }),bytesA (rdN b 0 0).1,.bool (decide ((rdN b 0 0).2.1 = 0))]) := by
 have s1 := rtaken_spec b
 generalize rdN b 0 0 = t at *
 obtain ⟨y,e,n⟩ := t
 simp only at s1 ⊢
 generalize decide (e = 0) = d at *
 have xlen := let_len l hl
 have xlen' := let_len { l with slot := n } hl
 have hs := lay_slot l n
 unfold lay at hs
 simp only [Ya,Y9,Nat.reduceAdd] at hs
 have hbel := let_bel l
 have hbel' := let_bel { l with slot := n }
 have xT : (letC l).take 62 = letC l := List.take_of_length_le (Nat.le_of_eq xlen)
 have xT' : (letC { l with slot := n }).take 62 = letC { l with slot := n } := List.take_of_length_le (Nat.le_of_eq xlen')
 generalize letC { l with slot := n } = cs' at *
 generalize letC l = cs at *
 refine ⟨⟨_,Tryz.func51,by kernel_rfl,rfl⟩,Sg Tryz.func51 rfl fun c0 hc0 => ?_⟩;simp only [go_sem,bytesA,Nat.reduceAdd,Nat.reduceSub]
 refine Ops.pure .free rfl rfl (s1) (by simp only [go_sem,bytesA];(repeat' first|exact .refl _|apply LeR.tup|apply Le.agg|constructor)) rfl rfl ?_
 refine Og Tryz.func51 ?_;simp only [go_sem,bytesA,hs,xlen,xlen',xT',↓alt_t,↓alt_f,Int.reduceEq,Nat.reduceAdd,Nat.reduceLeDiff]
 (and_intros <;> try first|rfl|omega|(unfold I64;omega))
 all_goals (first|rfl|exact Nat.le_refl _|(repeat' first|exact .refl _|apply LeR.tup|apply Le.agg|constructor))
theorem rtakenumber_view (b : Bytes) (l : Ltr) (hl : l.sum.length = 32) : ASpec Tryz.prog 51 [bytesA b,.agg (letC l),.int .u8 118] (.tup [.agg (letC { l with view := (rdN b 0 0).2.2 }),bytesA (rdN b 0 0).1,.bool (decide ((rdN b 0 0).2.1 = 0))]) := by
 have s1 := rtaken_spec b
 generalize rdN b 0 0 = t at *
 obtain ⟨y,e,n⟩ := t
 simp only at s1 ⊢
 generalize decide (e = 0) = d at *
 have xlen := let_len l hl
 have xlen' := let_len { l with view := n } hl
 have hs := lay_view l n
 unfold lay at hs
 simp only [Ya,Y9,Nat.reduceAdd] at hs
 have hbel := let_bel l
 have hbel' := let_bel { l with view := n }
 have xT : (letC l).take 62 = letC l := List.take_of_length_le (Nat.le_of_eq xlen)
 have xT' : (letC { l with view := n }).take 62 = letC { l with view := n } := List.take_of_length_le (Nat.le_of_eq xlen')
 generalize letC { l with view := n } = cs' at *
 generalize letC l = cs at *
 refine ⟨⟨_,Tryz.func51,by kernel_rfl,rfl⟩,Sg Tryz.func51 rfl fun c0 hc0 => ?_⟩;simp only [go_sem,bytesA,Nat.reduceAdd,Nat.reduceSub]
 refine Ops.pure .free rfl rfl (s1) (by simp only [go_sem,bytesA];(repeat' first|exact .refl _|apply LeR.tup|apply Le.agg|constructor)) rfl rfl ?_
 refine Og Tryz.func51 ?_;simp only [go_sem,bytesA,hs,xlen,xlen',xT',↓alt_t,↓alt_f,Int.reduceEq,Nat.reduceAdd,Nat.reduceLeDiff]
 (and_intros <;> try first|rfl|omega|(unfold I64;omega))
 all_goals (first|rfl|exact Nat.le_refl _|(repeat' first|exact .refl _|apply LeR.tup|apply Le.agg|constructor))
theorem rtakerow_vote (b : Bytes) (hb : b.length ≤ 1000000) (l : Ltr) (hl : l.sum.length = 32) : ASpec Tryz.prog 55 [bytesA b,.agg (letC l),.int .u8 97] (.tup [.agg (letC { l with vote := (tkA b).1 }),bytesA (tkA b).2.1,.bool (tkA b).2.2]) := by
 have s1 := rtakevote_spec b hb
 generalize tkA b = t at *
 obtain ⟨v,y,d⟩ := t
 simp only at s1 ⊢
 have xlen := let_len l hl
 have xlen' := let_len { l with vote := v } hl
 have hs := lay_vote l v 
 unfold lay accC at hs
 simp only [Ya,Y9,Nat.reduceAdd] at hs
 have hbel := let_bel l
 have hbel' := let_bel { l with vote := v }
 have xT : (letC l).take 62 = letC l := List.take_of_length_le (Nat.le_of_eq xlen)
 have xT' : (letC { l with vote := v }).take 62 = letC { l with vote := v } := List.take_of_length_le (Nat.le_of_eq xlen')
 generalize letC { l with vote := v } = cs' at *
 generalize letC l = cs at *
 refine ⟨⟨_,Tryz.func55,by kernel_rfl,rfl⟩,Sg Tryz.func55 rfl fun c0 hc0 => ?_⟩;simp only [go_sem,bytesA,↓alt_t,Nat.reduceAdd,Nat.reduceSub]
 refine Ops.pure .free rfl rfl (s1) (by simp only [go_sem,bytesA];(repeat' first|exact .refl _|apply LeR.tup|apply Le.agg|constructor)) rfl rfl ?_
 refine Og Tryz.func55 ?_;simp only [go_sem,encA,accC,bytesA,hs,xlen,xlen',xT',Nat.reduceAdd,Nat.reduceLeDiff]
 (and_intros <;> try first|rfl|omega|(unfold I64;omega))
 all_goals (first|rfl|exact Nat.le_refl _|(repeat' first|exact .refl _|apply LeR.tup|apply Le.agg|constructor))
theorem rtakerow_proof (b : Bytes) (hb : b.length ≤ 1000000) (l : Ltr) (hl : l.sum.length = 32) : ASpec Tryz.prog 55 [bytesA b,.agg (letC l),.int .u8 112] (.tup [.agg (letC { l with proof := ((tkRow tkA) b).1 }),bytesA ((tkRow tkA) b).2.1,.bool ((tkRow tkA) b).2.2]) := by
 have s1 := rtakevotes_spec b hb
 generalize (tkRow tkA) b = t at *
 obtain ⟨v,y,d⟩ := t
 simp only at s1 ⊢
 have xlen := let_len l hl
 have xlen' := let_len { l with proof := v } hl
 have hs := lay_proof l v 
 unfold lay votesA at hs
 simp only [Ya,Y9,Nat.reduceAdd] at hs
 have hbel := let_bel l
 have hbel' := let_bel { l with proof := v }
 have xT : (letC l).take 62 = letC l := List.take_of_length_le (Nat.le_of_eq xlen)
 have xT' : (letC { l with proof := v }).take 62 = letC { l with proof := v } := List.take_of_length_le (Nat.le_of_eq xlen')
 generalize letC { l with proof := v } = cs' at *
 generalize letC l = cs at *
 refine ⟨⟨_,Tryz.func55,by kernel_rfl,rfl⟩,Sg Tryz.func55 rfl fun c0 hc0 => ?_⟩;simp only [go_sem,bytesA,↓alt_t,↓alt_f,Int.reduceEq,Nat.reduceAdd,Nat.reduceSub]
 refine Ops.pure .free rfl rfl (s1) (by simp only [go_sem,bytesA];(repeat' first|exact .refl _|apply LeR.tup|apply Le.agg|constructor)) rfl rfl ?_
 refine Og Tryz.func55 ?_;simp only [go_sem,votesA,bytesA,hs,xlen,xlen',xT',Nat.reduceAdd,Nat.reduceLeDiff]
 (and_intros <;> try first|rfl|omega|(unfold I64;omega))
 all_goals (first|rfl|exact Nat.le_refl _|(repeat' first|exact .refl _|apply LeR.tup|apply Le.agg|constructor))
theorem rtakerow_r (b : Bytes) (hb : b.length ≤ 1000000) (l : Ltr) (hl : l.sum.length = 32) : ASpec Tryz.prog 55 [bytesA b,.agg (letC l),.int .u8 114] (.tup [.agg (letC { l with r := (tkR b).1 }),bytesA (tkR b).2.1,.bool (tkR b).2.2]) := by
 have s1 := rtakereport_spec b hb
 generalize tkR b = t at *
 obtain ⟨v,y,d⟩ := t
 simp only at s1 ⊢
 have xlen := let_len l hl
 have xlen' := let_len { l with r := v } hl
 have hs := lay_r l v 
 unfold lay rpC votesA at hs
 simp only [Ya,Y9,Nat.reduceAdd] at hs
 have hbel := let_bel l
 have hbel' := let_bel { l with r := v }
 have xT : (letC l).take 62 = letC l := List.take_of_length_le (Nat.le_of_eq xlen)
 have xT' : (letC { l with r := v }).take 62 = letC { l with r := v } := List.take_of_length_le (Nat.le_of_eq xlen')
 generalize letC { l with r := v } = cs' at *
 generalize letC l = cs at *
 refine ⟨⟨_,Tryz.func55,by kernel_rfl,rfl⟩,Sg Tryz.func55 rfl fun c0 hc0 => ?_⟩;simp only [go_sem,bytesA,↓alt_t,↓alt_f,Int.reduceEq,Nat.reduceAdd,Nat.reduceSub]
 refine Ops.pure .free rfl rfl (s1) (by simp only [go_sem,bytesA];(repeat' first|exact .refl _|apply LeR.tup|apply Le.agg|constructor)) rfl rfl ?_
 refine Og Tryz.func55 ?_;simp only [go_sem,rpC,votesA,bytesA,hs,xlen,xlen',xT',Nat.reduceAdd,Nat.reduceLeDiff]
 (and_intros <;> try first|rfl|omega|(unfold I64;omega))
 all_goals (first|rfl|exact Nat.le_refl _|(repeat' first|exact .refl _|apply LeR.tup|apply Le.agg|constructor))
theorem rtakerow_cert (b : Bytes) (hb : b.length ≤ 1000000) (l : Ltr) (hl : l.sum.length = 32) : ASpec Tryz.prog 55 [bytesA b,.agg (letC l),.int .u8 99] (.tup [.agg (letC { l with cert := ((tkRow tkR) b).1 }),bytesA ((tkRow tkR) b).2.1,.bool ((tkRow tkR) b).2.2]) := by
 have s1 := rtakecert_spec b hb
 generalize (tkRow tkR) b = t at *
 obtain ⟨v,y,d⟩ := t
 simp only at s1 ⊢
 have xlen := let_len l hl
 have xlen' := let_len { l with cert := v } hl
 have hs := lay_cert l v 
 unfold lay rpsA at hs
 simp only [Ya,Y9,Nat.reduceAdd] at hs
 have hbel := let_bel l
 have hbel' := let_bel { l with cert := v }
 have xT : (letC l).take 62 = letC l := List.take_of_length_le (Nat.le_of_eq xlen)
 have xT' : (letC { l with cert := v }).take 62 = letC { l with cert := v } := List.take_of_length_le (Nat.le_of_eq xlen')
 generalize letC { l with cert := v } = cs' at *
 generalize letC l = cs at *
 refine ⟨⟨_,Tryz.func55,by kernel_rfl,rfl⟩,Sg Tryz.func55 rfl fun c0 hc0 => ?_⟩;simp only [go_sem,bytesA,↓alt_t,↓alt_f,Int.reduceEq,Nat.reduceAdd,Nat.reduceSub]
 refine Ops.pure .free rfl rfl (s1) (by simp only [go_sem,bytesA];(repeat' first|exact .refl _|apply LeR.tup|apply Le.agg|constructor)) rfl rfl ?_
 refine Og Tryz.func55 ?_;simp only [go_sem,rpsA,bytesA,hs,xlen,xlen',xT',Nat.reduceAdd,Nat.reduceLeDiff]
 (and_intros <;> try first|rfl|omega|(unfold I64;omega))
 all_goals (first|rfl|exact Nat.le_refl _|(repeat' first|exact .refl _|apply LeR.tup|apply Le.agg|constructor))
theorem rtakerow_sum (b : Bytes) (hb : b.length ≤ 1000000) (l : Ltr) (hl : l.sum.length = 32) : ASpec Tryz.prog 55 [bytesA b,.agg (letC l),.int .u8 109] (.tup [.agg (letC { l with sum := (tkM b).1 }),bytesA (tkM b).2.1,.bool (tkM b).2.2]) := by
 have s1 := rtakesum_spec b hb
 have hv := tkM_len b
 generalize tkM b = t at *
 obtain ⟨v,y,d⟩ := t
 simp only at s1 hv ⊢
 have xlen := let_len l hl
 have xlen' := let_len { l with sum := v } hv
 have hs := lay_sum l v hl hv
 have hv32 : (sumC v).length = 32 := by simp [sumC,hv]
 have hvT : (sumC v).take 32 = sumC v := List.take_of_length_le (Nat.le_of_eq hv32)
 unfold lay at hs
 simp only [Nat.reduceAdd,hv32] at hs
 have hbel := let_bel l
 have hbel' := let_bel { l with sum := v }
 have xT : (letC l).take 62 = letC l := List.take_of_length_le (Nat.le_of_eq xlen)
 have xT' : (letC { l with sum := v }).take 62 = letC { l with sum := v } := List.take_of_length_le (Nat.le_of_eq xlen')
 have hvb : belL 0 (sumC v) = true := (Pln.sum _).1 _
 have rb : AV.bel 0 (.tup [.agg (sumC v),bytesA y,.bool d]) = true := bool_bel (.agg (sumC v)) hvb y d
 generalize sumC v = vs at *
 generalize letC { l with sum := v } = cs' at *
 generalize letC l = cs at *
 refine ⟨⟨_,Tryz.func55,by kernel_rfl,rfl⟩,Sg Tryz.func55 rfl fun c0 hc0 => ?_⟩;simp only [go_sem,bytesA,↓alt_f,Int.reduceEq,Nat.reduceAdd,Nat.reduceSub]
 refine Ops.pure .free rfl rfl (s1) (by simp only [go_sem,bytesA];(repeat' first|exact .refl _|apply LeR.tup|apply Le.agg|constructor)) rfl rb ?_
 refine Og Tryz.func55 ?_;simp only [go_sem,bytesA,hs,xlen,xlen',xT',hv32,hvT,Nat.reduceAdd,Nat.reduceLeDiff]
 (and_intros <;> try first|rfl|omega|(unfold I64;omega))
 all_goals (first|rfl|exact Nat.le_refl _|(repeat' first|exact .refl _|apply LeR.tup|apply Le.agg|constructor))
def tkO (b : Bytes) : Ord × Bytes × Bool := match takeO b with|.ok p => (p.1,p.2,true)|.error _ => (zO,[],false)
def tkX (b : Bytes) : Rpl × Bytes × Bool := match takeRp b with|.ok p => (p.1,p.2,true)|.error _ => (zX,[],false)
def tkP (c : UInt8) (l : Ltr) (b : Bytes) : Ltr × Bytes × Bool :=
 if c = 102 then ({ l with frm := (rdN b 0 0).2.2 },(rdN b 0 0).1,decide ((rdN b 0 0).2.1 = 0)) else
 if c = 115 then ({ l with slot := (rdN b 0 0).2.2 },(rdN b 0 0).1,decide ((rdN b 0 0).2.1 = 0)) else
 if c = 118 then ({ l with view := (rdN b 0 0).2.2 },(rdN b 0 0).1,decide ((rdN b 0 0).2.1 = 0)) else
 if c = 120 then ({ l with value := (rdT b 0 []).2.2 },(rdT b 0 []).1,decide ((rdT b 0 []).2.1 = 0)) else
 if c = 99 then ({ l with cert := (tkRow tkR b).1 },(tkRow tkR b).2.1,(tkRow tkR b).2.2) else
 if c = 97 then ({ l with vote := (tkA b).1 },(tkA b).2.1,(tkA b).2.2) else
 if c = 112 then ({ l with proof := (tkRow tkA b).1 },(tkRow tkA b).2.1,(tkRow tkA b).2.2) else
 if c = 114 then ({ l with r := (tkR b).1 },(tkR b).2.1,(tkR b).2.2) else
 if c = 109 then ({ l with sum := (tkM b).1 },(tkM b).2.1,(tkM b).2.2) else
 if c = 111 then ({ l with o := (tkO b).1 },(tkO b).2.1,(tkO b).2.2) else
 ({ l with x := (tkX b).1 },(tkX b).2.1,(tkX b).2.2)
theorem arg3_bel (x : Bytes) (l : Ltr) (c : Int) : belL 0 [bytesA x,.agg (letC l),.int .u8 c] = true := by
 show (true && (AV.bel 0 (.agg (letC l)) && true)) = true
 rw [Bool.and_true,Bool.true_and]
 exact let_bel l 0
theorem rtakepart_frm (b : Bytes) (hb : b.length ≤ 1000000) (l : Ltr) (hl : l.sum.length = 32) : ASpec Tryz.prog 22 [bytesA b,.agg (letC l),.int .u8 102] (.tup [.agg (letC { l with frm := (rdN b 0 0).2.2 }),bytesA ((rdN b 0 0).1),.bool (decide ((rdN b 0 0).2.1 = 0))]) := by
 have s1 := rtakenumber_frm b l hl
 generalize (rdN b 0 0).2.2 = v at *
 generalize (rdN b 0 0).1 = y at *
 generalize decide ((rdN b 0 0).2.1 = 0) = d at *
 have xlen := let_len l hl
 have xlen' := let_len { l with frm := v } hl
 have xT : (letC l).take 62 = letC l := List.take_of_length_le (Nat.le_of_eq xlen)
 have xT' : (letC { l with frm := v }).take 62 = letC { l with frm := v } := List.take_of_length_le (Nat.le_of_eq xlen')
 have hbel' := let_bel { l with frm := v }
 have ab := arg3_bel b l 102
 have rb := bool_bel (.agg (letC { l with frm := v })) (hbel' 0) y d
 have hbel := let_bel l
 generalize letC { l with frm := v } = cs' at *
 generalize letC l = cs at *
 refine ⟨⟨_,Tryz.func22,by kernel_rfl,rfl⟩,Sg Tryz.func22 rfl fun c0 hc0 => ?_⟩;simp only [go_sem,xlen,xT,bytesA,↓alt_t,Nat.reduceAdd,Nat.reduceSub]
 refine Ops.pure .free rfl rfl (s1) (by simp only [go_sem,bytesA];(repeat' first|exact .refl _|apply LeR.tup|apply Le.agg|constructor)) ab rb ?_
 refine Og Tryz.func22 ?_;simp only [go_sem,bytesA,xlen',xT',Nat.reduceAdd]
 (and_intros <;> try first|rfl|omega|(unfold I64;omega))
 all_goals (first|rfl|exact Nat.le_refl _|(repeat' first|exact .refl _|apply LeR.tup|apply Le.agg|constructor))
theorem rtakepart_slot (b : Bytes) (hb : b.length ≤ 1000000) (l : Ltr) (hl : l.sum.length = 32) : ASpec Tryz.prog 22 [bytesA b,.agg (letC l),.int .u8 115] (.tup [.agg (letC { l with slot := (rdN b 0 0).2.2 }),bytesA ((rdN b 0 0).1),.bool (decide ((rdN b 0 0).2.1 = 0))]) := by
 have s1 := rtakenumber_slot b l hl
 generalize (rdN b 0 0).2.2 = v at *
 generalize (rdN b 0 0).1 = y at *
 generalize decide ((rdN b 0 0).2.1 = 0) = d at *
 have xlen := let_len l hl
 have xlen' := let_len { l with slot := v } hl
 have xT : (letC l).take 62 = letC l := List.take_of_length_le (Nat.le_of_eq xlen)
 have xT' : (letC { l with slot := v }).take 62 = letC { l with slot := v } := List.take_of_length_le (Nat.le_of_eq xlen')
 have hbel' := let_bel { l with slot := v }
 have ab := arg3_bel b l 115
 have rb := bool_bel (.agg (letC { l with slot := v })) (hbel' 0) y d
 have hbel := let_bel l
 generalize letC { l with slot := v } = cs' at *
 generalize letC l = cs at *
 refine ⟨⟨_,Tryz.func22,by kernel_rfl,rfl⟩,Sg Tryz.func22 rfl fun c0 hc0 => ?_⟩;simp only [go_sem,xlen,xT,bytesA,↓alt_t,↓alt_f,Int.reduceEq,Nat.reduceAdd,Nat.reduceSub]
 refine Ops.pure .free rfl rfl (s1) (by simp only [go_sem,bytesA];(repeat' first|exact .refl _|apply LeR.tup|apply Le.agg|constructor)) ab rb ?_
 refine Og Tryz.func22 ?_;simp only [go_sem,bytesA,xlen',xT',Nat.reduceAdd]
 (and_intros <;> try first|rfl|omega|(unfold I64;omega))
 all_goals (first|rfl|exact Nat.le_refl _|(repeat' first|exact .refl _|apply LeR.tup|apply Le.agg|constructor))
theorem rtakepart_view (b : Bytes) (hb : b.length ≤ 1000000) (l : Ltr) (hl : l.sum.length = 32) : ASpec Tryz.prog 22 [bytesA b,.agg (letC l),.int .u8 118] (.tup [.agg (letC { l with view := (rdN b 0 0).2.2 }),bytesA ((rdN b 0 0).1),.bool (decide ((rdN b 0 0).2.1 = 0))]) := by
 have s1 := rtakenumber_view b l hl
 generalize (rdN b 0 0).2.2 = v at *
 generalize (rdN b 0 0).1 = y at *
 generalize decide ((rdN b 0 0).2.1 = 0) = d at *
 have xlen := let_len l hl
 have xlen' := let_len { l with view := v } hl
 have xT : (letC l).take 62 = letC l := List.take_of_length_le (Nat.le_of_eq xlen)
 have xT' : (letC { l with view := v }).take 62 = letC { l with view := v } := List.take_of_length_le (Nat.le_of_eq xlen')
 have hbel' := let_bel { l with view := v }
 have ab := arg3_bel b l 118
 have rb := bool_bel (.agg (letC { l with view := v })) (hbel' 0) y d
 have hbel := let_bel l
 generalize letC { l with view := v } = cs' at *
 generalize letC l = cs at *
 refine ⟨⟨_,Tryz.func22,by kernel_rfl,rfl⟩,Sg Tryz.func22 rfl fun c0 hc0 => ?_⟩;simp only [go_sem,xlen,xT,bytesA,↓alt_t,↓alt_f,Int.reduceEq,Nat.reduceAdd,Nat.reduceSub]
 refine Ops.pure .free rfl rfl (s1) (by simp only [go_sem,bytesA];(repeat' first|exact .refl _|apply LeR.tup|apply Le.agg|constructor)) ab rb ?_
 refine Og Tryz.func22 ?_;simp only [go_sem,bytesA,xlen',xT',Nat.reduceAdd]
 (and_intros <;> try first|rfl|omega|(unfold I64;omega))
 all_goals (first|rfl|exact Nat.le_refl _|(repeat' first|exact .refl _|apply LeR.tup|apply Le.agg|constructor))
theorem rtakepart_cert (b : Bytes) (hb : b.length ≤ 1000000) (l : Ltr) (hl : l.sum.length = 32) : ASpec Tryz.prog 22 [bytesA b,.agg (letC l),.int .u8 99] (.tup [.agg (letC { l with cert := (tkRow tkR b).1 }),bytesA ((tkRow tkR b).2.1),.bool ((tkRow tkR b).2.2)]) := by
 have s1 := rtakerow_cert b hb l hl
 generalize (tkRow tkR b).1 = v at *
 generalize (tkRow tkR b).2.1 = y at *
 generalize (tkRow tkR b).2.2 = d at *
 have xlen := let_len l hl
 have xlen' := let_len { l with cert := v } hl
 have xT : (letC l).take 62 = letC l := List.take_of_length_le (Nat.le_of_eq xlen)
 have xT' : (letC { l with cert := v }).take 62 = letC { l with cert := v } := List.take_of_length_le (Nat.le_of_eq xlen')
 have hbel' := let_bel { l with cert := v }
 have ab := arg3_bel b l 99
 have rb := bool_bel (.agg (letC { l with cert := v })) (hbel' 0) y d
 have hbel := let_bel l
 generalize letC { l with cert := v } = cs' at *
 generalize letC l = cs at *
 refine ⟨⟨_,Tryz.func22,by kernel_rfl,rfl⟩,Sg Tryz.func22 rfl fun c0 hc0 => ?_⟩;simp only [go_sem,xlen,xT,bytesA,↓alt_f,Int.reduceEq,Nat.reduceAdd,Nat.reduceSub]
 refine Ops.pure .free rfl rfl (s1) (by simp only [go_sem,bytesA];(repeat' first|exact .refl _|apply LeR.tup|apply Le.agg|constructor)) ab rb ?_
 refine Og Tryz.func22 ?_;simp only [go_sem,bytesA,xlen',xT',Nat.reduceAdd]
 (and_intros <;> try first|rfl|omega|(unfold I64;omega))
 all_goals (first|rfl|exact Nat.le_refl _|(repeat' first|exact .refl _|apply LeR.tup|apply Le.agg|constructor))
theorem rtakepart_vote (b : Bytes) (hb : b.length ≤ 1000000) (l : Ltr) (hl : l.sum.length = 32) : ASpec Tryz.prog 22 [bytesA b,.agg (letC l),.int .u8 97] (.tup [.agg (letC { l with vote := (tkA b).1 }),bytesA ((tkA b).2.1),.bool ((tkA b).2.2)]) := by
 have s1 := rtakerow_vote b hb l hl
 generalize (tkA b).1 = v at *
 generalize (tkA b).2.1 = y at *
 generalize (tkA b).2.2 = d at *
 have xlen := let_len l hl
 have xlen' := let_len { l with vote := v } hl
 have xT : (letC l).take 62 = letC l := List.take_of_length_le (Nat.le_of_eq xlen)
 have xT' : (letC { l with vote := v }).take 62 = letC { l with vote := v } := List.take_of_length_le (Nat.le_of_eq xlen')
 have hbel' := let_bel { l with vote := v }
 have ab := arg3_bel b l 97
 have rb := bool_bel (.agg (letC { l with vote := v })) (hbel' 0) y d
 have hbel := let_bel l
 generalize letC { l with vote := v } = cs' at *
 generalize letC l = cs at *
 refine ⟨⟨_,Tryz.func22,by kernel_rfl,rfl⟩,Sg Tryz.func22 rfl fun c0 hc0 => ?_⟩;simp only [go_sem,xlen,xT,bytesA,↓alt_f,Int.reduceEq,Nat.reduceAdd,Nat.reduceSub]
 refine Ops.pure .free rfl rfl (s1) (by simp only [go_sem,bytesA];(repeat' first|exact .refl _|apply LeR.tup|apply Le.agg|constructor)) ab rb ?_
 refine Og Tryz.func22 ?_;simp only [go_sem,bytesA,xlen',xT',Nat.reduceAdd]
 (and_intros <;> try first|rfl|omega|(unfold I64;omega))
 all_goals (first|rfl|exact Nat.le_refl _|(repeat' first|exact .refl _|apply LeR.tup|apply Le.agg|constructor))
theorem rtakepart_proof (b : Bytes) (hb : b.length ≤ 1000000) (l : Ltr) (hl : l.sum.length = 32) : ASpec Tryz.prog 22 [bytesA b,.agg (letC l),.int .u8 112] (.tup [.agg (letC { l with proof := (tkRow tkA b).1 }),bytesA ((tkRow tkA b).2.1),.bool ((tkRow tkA b).2.2)]) := by
 have s1 := rtakerow_proof b hb l hl
 generalize (tkRow tkA b).1 = v at *
 generalize (tkRow tkA b).2.1 = y at *
 generalize (tkRow tkA b).2.2 = d at *
 have xlen := let_len l hl
 have xlen' := let_len { l with proof := v } hl
 have xT : (letC l).take 62 = letC l := List.take_of_length_le (Nat.le_of_eq xlen)
 have xT' : (letC { l with proof := v }).take 62 = letC { l with proof := v } := List.take_of_length_le (Nat.le_of_eq xlen')
 have hbel' := let_bel { l with proof := v }
 have ab := arg3_bel b l 112
 have rb := bool_bel (.agg (letC { l with proof := v })) (hbel' 0) y d
 have hbel := let_bel l
 generalize letC { l with proof := v } = cs' at *
 generalize letC l = cs at *
 refine ⟨⟨_,Tryz.func22,by kernel_rfl,rfl⟩,Sg Tryz.func22 rfl fun c0 hc0 => ?_⟩;simp only [go_sem,xlen,xT,bytesA,↓alt_f,Int.reduceEq,Nat.reduceAdd,Nat.reduceSub]
 refine Ops.pure .free rfl rfl (s1) (by simp only [go_sem,bytesA];(repeat' first|exact .refl _|apply LeR.tup|apply Le.agg|constructor)) ab rb ?_
 refine Og Tryz.func22 ?_;simp only [go_sem,bytesA,xlen',xT',Nat.reduceAdd]
 (and_intros <;> try first|rfl|omega|(unfold I64;omega))
 all_goals (first|rfl|exact Nat.le_refl _|(repeat' first|exact .refl _|apply LeR.tup|apply Le.agg|constructor))
theorem rtakepart_r (b : Bytes) (hb : b.length ≤ 1000000) (l : Ltr) (hl : l.sum.length = 32) : ASpec Tryz.prog 22 [bytesA b,.agg (letC l),.int .u8 114] (.tup [.agg (letC { l with r := (tkR b).1 }),bytesA ((tkR b).2.1),.bool ((tkR b).2.2)]) := by
 have s1 := rtakerow_r b hb l hl
 generalize (tkR b).1 = v at *
 generalize (tkR b).2.1 = y at *
 generalize (tkR b).2.2 = d at *
 have xlen := let_len l hl
 have xlen' := let_len { l with r := v } hl
 have xT : (letC l).take 62 = letC l := List.take_of_length_le (Nat.le_of_eq xlen)
 have xT' : (letC { l with r := v }).take 62 = letC { l with r := v } := List.take_of_length_le (Nat.le_of_eq xlen')
 have hbel' := let_bel { l with r := v }
 have ab := arg3_bel b l 114
 have rb := bool_bel (.agg (letC { l with r := v })) (hbel' 0) y d
 have hbel := let_bel l
 generalize letC { l with r := v } = cs' at *
 generalize letC l = cs at *
 refine ⟨⟨_,Tryz.func22,by kernel_rfl,rfl⟩,Sg Tryz.func22 rfl fun c0 hc0 => ?_⟩;simp only [go_sem,xlen,xT,bytesA,↓alt_f,Int.reduceEq,Nat.reduceAdd,Nat.reduceSub]
 refine Ops.pure .free rfl rfl (s1) (by simp only [go_sem,bytesA];(repeat' first|exact .refl _|apply LeR.tup|apply Le.agg|constructor)) ab rb ?_
 refine Og Tryz.func22 ?_;simp only [go_sem,bytesA,xlen',xT',Nat.reduceAdd]
 (and_intros <;> try first|rfl|omega|(unfold I64;omega))
 all_goals (first|rfl|exact Nat.le_refl _|(repeat' first|exact .refl _|apply LeR.tup|apply Le.agg|constructor))
theorem rtakepart_sum (b : Bytes) (hb : b.length ≤ 1000000) (l : Ltr) (hl : l.sum.length = 32) : ASpec Tryz.prog 22 [bytesA b,.agg (letC l),.int .u8 109] (.tup [.agg (letC { l with sum := (tkM b).1 }),bytesA ((tkM b).2.1),.bool ((tkM b).2.2)]) := by
 have s1 := rtakerow_sum b hb l hl
 have hv := tkM_len b
 generalize (tkM b).1 = v at *
 generalize (tkM b).2.1 = y at *
 generalize (tkM b).2.2 = d at *
 have xlen := let_len l hl
 have xlen' := let_len { l with sum := v } hv
 have xT : (letC l).take 62 = letC l := List.take_of_length_le (Nat.le_of_eq xlen)
 have xT' : (letC { l with sum := v }).take 62 = letC { l with sum := v } := List.take_of_length_le (Nat.le_of_eq xlen')
 have hbel' := let_bel { l with sum := v }
 have ab := arg3_bel b l 109
 have rb := bool_bel (.agg (letC { l with sum := v })) (hbel' 0) y d
 have hbel := let_bel l
 generalize letC { l with sum := v } = cs' at *
 generalize letC l = cs at *
 refine ⟨⟨_,Tryz.func22,by kernel_rfl,rfl⟩,Sg Tryz.func22 rfl fun c0 hc0 => ?_⟩;simp only [go_sem,xlen,xT,bytesA,↓alt_f,Int.reduceEq,Nat.reduceAdd,Nat.reduceSub]
 refine Ops.pure .free rfl rfl (s1) (by simp only [go_sem,bytesA];(repeat' first|exact .refl _|apply LeR.tup|apply Le.agg|constructor)) ab rb ?_
 refine Og Tryz.func22 ?_;simp only [go_sem,bytesA,xlen',xT',Nat.reduceAdd]
 (and_intros <;> try first|rfl|omega|(unfold I64;omega))
 all_goals (first|rfl|exact Nat.le_refl _|(repeat' first|exact .refl _|apply LeR.tup|apply Le.agg|constructor))
theorem rtakepart_value (b : Bytes) (hb : b.length ≤ 1000000) (l : Ltr) (hl : l.sum.length = 32) : ASpec Tryz.prog 22 [bytesA b,.agg (letC l),.int .u8 120] (.tup [.agg (letC { l with value := (rdT b 0 []).2.2 }),bytesA (rdT b 0 []).1,.bool (decide ((rdT b 0 []).2.1 = 0))]) := by
 have s1 := rtext27_spec b hb
 generalize (rdT b 0 []).2.2 = v at *
 generalize (rdT b 0 []).1 = y at *
 generalize decide ((rdT b 0 []).2.1 = 0) = d at *
 have xlen := let_len l hl
 have xlen' := let_len { l with value := v } hl
 have hs := lay_value l v 
 have hbel := let_bel l
 have hbel' := let_bel { l with value := v }
 have xT : (letC l).take 62 = letC l := List.take_of_length_le (Nat.le_of_eq xlen)
 have xT' : (letC { l with value := v }).take 62 = letC { l with value := v } := List.take_of_length_le (Nat.le_of_eq xlen')
 generalize letC { l with value := v } = cs' at *
 generalize letC l = cs at *
 unfold lay at hs
 simp only [Ya,Y9,Nat.reduceAdd] at hs
 refine ⟨⟨_,Tryz.func22,by kernel_rfl,rfl⟩,Sg Tryz.func22 rfl fun c0 hc0 => ?_⟩;simp only [go_sem,bytesA,↓alt_t,↓alt_f,Int.reduceEq,Nat.reduceAdd,Nat.reduceSub]
 refine Ops.pure .free rfl rfl (s1) (by simp only [go_sem,bytesA];(repeat' first|exact .refl _|apply LeR.tup|apply Le.agg|constructor)) rfl rfl ?_
 refine Og Tryz.func22 ?_;simp only [go_sem,bytesA,hs,xlen,xlen',xT',Nat.reduceAdd,Nat.reduceLeDiff]
 (and_intros <;> try first|rfl|omega|(unfold I64;omega))
 all_goals (first|rfl|exact Nat.le_refl _|(repeat' first|exact .refl _|apply LeR.tup|apply Le.agg|constructor))
theorem rtakepart_o (b : Bytes) (hb : b.length ≤ 1000000) (l : Ltr) (hl : l.sum.length = 32) : ASpec Tryz.prog 22 [bytesA b,.agg (letC l),.int .u8 111] (.tup [.agg (letC { l with o := (tkO b).1 }),bytesA (tkO b).2.1,.bool (tkO b).2.2]) := by
 have s1 := rtake12_spec b hb
 unfold tkO
 cases e : takeO b with
 | error z =>
  rw [e] at s1
  have hz := takeO_err e
  simp only
  have xlen := let_len l hl
  have xlen' := let_len { l with o := zO } hl
  have hs := lay_o l zO hl
  have hbel := let_bel l
  have hbel' := let_bel { l with o := zO }
  have xT : (letC l).take 62 = letC l := List.take_of_length_le (Nat.le_of_eq xlen)
  have xT' : (letC { l with o := zO }).take 62 = letC { l with o := zO } := List.take_of_length_le (Nat.le_of_eq xlen')
  generalize letC { l with o := zO } = cs' at *
  generalize letC l = cs at *
  unfold lay ordC at hs
  simp only [Ya,Y9,Nat.reduceAdd,zO] at hs
  refine ⟨⟨_,Tryz.func22,by kernel_rfl,rfl⟩,Sg Tryz.func22 rfl fun c0 hc0 => ?_⟩;simp only [go_sem,bytesA,↓alt_t,↓alt_f,Int.reduceEq,Nat.reduceAdd,Nat.reduceSub]
  refine Ops.pure .free rfl rfl (s1) (by simp only [go_sem,bytesA];(repeat' first|exact .refl _|apply LeR.tup|apply Le.agg|constructor)) rfl rfl ?_
  refine Og Tryz.func22 ?_;simp only [go_sem,takeOA,encO,bytesA,hz,hs,xlen,xlen',xT',Nat.reduceAdd,Nat.reduceLeDiff]
  (and_intros <;> try first|rfl|omega|(unfold I64;omega))
  all_goals (first|rfl|exact Nat.le_refl _|(repeat' first|exact .refl _|apply LeR.tup|apply Le.agg|constructor))
 | ok p =>
  obtain ⟨v,y⟩ := p
  rw [e] at s1
  simp only
  have xlen := let_len l hl
  have xlen' := let_len { l with o := v } hl
  have hs := lay_o l v hl
  have hbel := let_bel l
  have hbel' := let_bel { l with o := v }
  have xT : (letC l).take 62 = letC l := List.take_of_length_le (Nat.le_of_eq xlen)
  have xT' : (letC { l with o := v }).take 62 = letC { l with o := v } := List.take_of_length_le (Nat.le_of_eq xlen')
  generalize letC { l with o := v } = cs' at *
  generalize letC l = cs at *
  unfold lay ordC at hs
  simp only [Ya,Y9,Nat.reduceAdd] at hs
  refine ⟨⟨_,Tryz.func22,by kernel_rfl,rfl⟩,Sg Tryz.func22 rfl fun c0 hc0 => ?_⟩;simp only [go_sem,bytesA,↓alt_t,↓alt_f,Int.reduceEq,Nat.reduceAdd,Nat.reduceSub]
  refine Ops.pure .free rfl rfl (s1) (by simp only [go_sem,bytesA];(repeat' first|exact .refl _|apply LeR.tup|apply Le.agg|constructor)) rfl rfl ?_
  refine Og Tryz.func22 ?_;simp only [go_sem,takeOA,encO,bytesA,hs,xlen,xlen',xT',Nat.reduceAdd,Nat.reduceLeDiff]
  (and_intros <;> try first|rfl|omega|(unfold I64;omega))
  all_goals (first|rfl|exact Nat.le_refl _|(repeat' first|exact .refl _|apply LeR.tup|apply Le.agg|constructor))
theorem rtakepart_x (b : Bytes) (hb : b.length ≤ 1000000) (l : Ltr) (hl : l.sum.length = 32) : ASpec Tryz.prog 22 [bytesA b,.agg (letC l),.int .u8 121] (.tup [.agg (letC { l with x := (tkX b).1 }),bytesA (tkX b).2.1,.bool (tkX b).2.2]) := by
 have s1 := rtakereply_spec b hb
 unfold tkX
 cases e : takeRp b with
 | error z =>
  rw [e] at s1
  have hz := takeRp_err e
  simp only
  have xlen := let_len l hl
  have xlen' := let_len { l with x := zX } hl
  have hs := lay_x l zX hl
  have hbel := let_bel l
  have hbel' := let_bel { l with x := zX }
  have xT : (letC l).take 62 = letC l := List.take_of_length_le (Nat.le_of_eq xlen)
  have xT' : (letC { l with x := zX }).take 62 = letC { l with x := zX } := List.take_of_length_le (Nat.le_of_eq xlen')
  generalize letC { l with x := zX } = cs' at *
  generalize letC l = cs at *
  unfold lay rplC textsA at hs
  simp only [Ya,Y9,Nat.reduceAdd,Ye,zX] at hs
  refine ⟨⟨_,Tryz.func22,by kernel_rfl,rfl⟩,Sg Tryz.func22 rfl fun c0 hc0 => ?_⟩;simp only [go_sem,bytesA,↓alt_t,↓alt_f,Int.reduceEq,Nat.reduceAdd,Nat.reduceSub]
  refine Ops.pure .free rfl rfl (s1) (by simp only [go_sem,bytesA];(repeat' first|exact .refl _|apply LeR.tup|apply Le.agg|constructor)) rfl rfl ?_
  refine Og Tryz.func22 ?_;simp only [go_sem,takeRpA,encR,textsA,bytesA,hz,hs,xlen,xlen',xT',Nat.reduceAdd]
  (and_intros <;> try first|rfl|omega|(unfold I64;omega))
  all_goals (first|rfl|exact Nat.le_refl _|(repeat' first|exact .refl _|apply LeR.tup|apply Le.agg|constructor))
 | ok p =>
  obtain ⟨v,y⟩ := p
  rw [e] at s1
  simp only
  have xlen := let_len l hl
  have xlen' := let_len { l with x := v } hl
  have hs := lay_x l v hl
  have hbel := let_bel l
  have hbel' := let_bel { l with x := v }
  have xT : (letC l).take 62 = letC l := List.take_of_length_le (Nat.le_of_eq xlen)
  have xT' : (letC { l with x := v }).take 62 = letC { l with x := v } := List.take_of_length_le (Nat.le_of_eq xlen')
  generalize letC { l with x := v } = cs' at *
  generalize letC l = cs at *
  unfold lay rplC textsA at hs
  simp only [Ya,Y9,Nat.reduceAdd] at hs
  refine ⟨⟨_,Tryz.func22,by kernel_rfl,rfl⟩,Sg Tryz.func22 rfl fun c0 hc0 => ?_⟩;simp only [go_sem,bytesA,↓alt_t,↓alt_f,Int.reduceEq,Nat.reduceAdd,Nat.reduceSub]
  refine Ops.pure .free rfl rfl (s1) (by simp only [go_sem,bytesA];(repeat' first|exact .refl _|apply LeR.tup|apply Le.agg|constructor)) rfl rfl ?_
  refine Og Tryz.func22 ?_;simp only [go_sem,takeRpA,encR,textsA,bytesA,hs,xlen,xlen',xT',Nat.reduceAdd]
  (and_intros <;> try first|rfl|omega|(unfold I64;omega))
  all_goals (first|rfl|exact Nat.le_refl _|(repeat' first|exact .refl _|apply LeR.tup|apply Le.agg|constructor))
structure Tkr {α : Type} (f : Bytes → α × Bytes × Bool) (W : α → Bytes) (S : α → Prop) : Prop where
 only : ∀ b,(f b).2.2 = true → S (f b).1 ∧ W (f b).1 ++ (f b).2.1 = b
 back : ∀ v r,S v → f (W v ++ r) = (v,r,true)
theorem Tkr.of {α : Type} {f : Bytes → α × Bytes × Bool} {R : Bytes → Int → Bytes × Int × α} {W : α → Bytes} {S : α → Prop} (h : Twin f R) (hr : Rdr R W S) : Tkr f W S where
 only b e := by
  obtain ⟨h1,h2⟩ := h b
  obtain ⟨h3,h4⟩ := h2 e
  rw [e] at h1
  have h5 := hr.only0 b (of_decide_eq_true h1.symm)
  rw [h3,h4]
  exact h5
 back v r hv := by
  obtain ⟨h1,h2⟩ := h (W v ++ r)
  have h3 := hr.back v r hv
  rw [h3] at h1 h2
  obtain ⟨h4,h5⟩ := h2 h1
  exact Prod.ext h4 (Prod.ext h5 h1)
def tkN (b : Bytes) : Int × Bytes × Bool := ((rdN b 0 0).2.2,(rdN b 0 0).1,decide ((rdN b 0 0).2.1 = 0))
def tkT (b : Bytes) : Bytes × Bytes × Bool := ((rdT b 0 []).2.2,(rdT b 0 []).1,decide ((rdT b 0 []).2.1 = 0))
theorem tkN_ok : Tkr tkN (fun n => encN (zig n)) I64 := .of (R := fun b e => rdN b e 0) (fun b => ⟨rfl,fun _ => ⟨rfl,rfl⟩⟩) (rdrN 0)
theorem tkT_ok : Tkr tkT encT (fun s => s.length ≤ 6000) := .of (R := fun b e => rdT b e []) (fun b => ⟨rfl,fun _ => ⟨rfl,rfl⟩⟩) (rdrT [])
theorem tkA_ok : Tkr tkA voteB SA := .of tkA_twin (rdrA zA)
theorem tkV_ok : Tkr (tkRow tkA) votesB SV := .of tkV_twin rdrV
theorem tkR_ok : Tkr tkR reportB SR := .of tkR_twin rdrR
theorem tkC_ok : Tkr (tkRow tkR) rpsB SC := .of tkC_twin rdrC
theorem tkM_ok : Tkr tkM id (fun s => s.length = 32) := .of tkM_twin (rdrM zM)
theorem tkO_ok : Tkr tkO putO (fun o => mayO o = true ∧ smO o) := .of (R := fun b e => rdO b e zO) (fun b => by
 simp only [tkO,rdO,reduceIte]
 cases h : takeO b with
 | ok p => simp
 | error z => have := takeO_err h;simp [this]) (rdrO zO)
theorem tkX_ok : Tkr tkX putR SX := .of (R := fun b e => rdX b e zX) (fun b => by
 simp only [tkX,rdX,reduceIte]
 cases h : takeRp b with
 | ok p => simp
 | error z => have := takeRp_err h;simp [this]) (rdrX zX)
def setF (c : UInt8) (l m : Ltr) : Ltr :=
 if c = 102 then { l with frm := m.frm } else
 if c = 115 then { l with slot := m.slot } else
 if c = 118 then { l with view := m.view } else
 if c = 120 then { l with value := m.value } else
 if c = 99 then { l with cert := m.cert } else
 if c = 97 then { l with vote := m.vote } else
 if c = 112 then { l with proof := m.proof } else
 if c = 114 then { l with r := m.r } else
 if c = 109 then { l with sum := m.sum } else
 if c = 111 then { l with o := m.o } else
 { l with x := m.x }
def SQ (l : Ltr) : Prop := I64 l.frm ∧ I64 l.slot ∧ I64 l.view ∧ l.value.length ≤ 6000 ∧ SC l.cert ∧ SA l.vote ∧ SV l.proof ∧ SR l.r ∧ l.sum.length = 32 ∧ smO l.o ∧ SX l.x
theorem SQ.z (k : Int) : SQ { zL with kind := k } := ⟨zI,zI,zI,zTx,zSC,zSA,zSV,zSR,rfl,zSO,zSX⟩
theorem SQ.ty {l : Ltr} (h : SQ l) (hk : I64 l.kind) : TyL l := by
 obtain ⟨h1,h2,h3,h4,h5,h6,h7,h8,h9,h10,h11⟩ := h
 exact ⟨hk,h1,h2,h3,fun r hr => ⟨(h5.2 r hr).1,(h5.2 r hr).2.1,(h5.2 r hr).2.2.1,fun a ha => ⟨((h5.2 r hr).2.2.2.2.2 a ha).1,((h5.2 r hr).2.2.2.2.2 a ha).2.1⟩⟩,⟨h6.1,h6.2.1⟩,fun a ha => ⟨(h7.2 a ha).1,(h7.2 a ha).2.1⟩,
  ⟨h8.1,h8.2.1,h8.2.2.1,fun a ha => ⟨(h8.2.2.2.2.2 a ha).1,(h8.2.2.2.2.2 a ha).2.1⟩⟩,h9,⟨h10.1,h10.2.1,h10.2.2.1,h10.2.2.2.1,h10.2.2.2.2.1,h10.2.2.2.2.2.1⟩,⟨h11.1,h11.2.1,h11.e,h11.2.2.1⟩⟩
theorem SQ.sz {l : Ltr} (h : SQ l) : SzL l := by
 obtain ⟨h1,h2,h3,h4,h5,h6,h7,h8,h9,h10,h11⟩ := h
 refine ⟨fun r hr => ?_,by have := h5.1;omega,by have := h7.1;omega,by have := h11.2.2.2.2.2.1;omega⟩
 rcases List.mem_append.1 hr with hr|hr
 ·have := (h5.2 r hr).2.2.2.2.1;omega
 ·rw [List.mem_singleton] at hr;subst hr;have := h8.2.2.2.2.1;omega
theorem Good.sq {l : Ltr} (h : Good l) : SQ l := by
 obtain ⟨h1,h2,h3,h4,h5,h6,h7,h8,h9,h10,h11,h12⟩ := h.2.2
 exact ⟨h1,h2,h3,h4,h5,h6,h7,h8,h9,h11,h12⟩
theorem tkP_only (c : UInt8) (l : Ltr) (b : Bytes) (h : SQ l) (ok : (tkP c l b).2.2 = true) : SQ (tkP c l b).1 ∧ (tkP c l b).1.kind = l.kind ∧ wrPF c (tkP c l b).1 ++ (tkP c l b).2.1 = b ∧ (tkP c l b).1 = setF c l (tkP c l b).1 := by
 obtain ⟨h1,h2,h3,h4,h5,h6,h7,h8,h9,h10,h11⟩ := h
 unfold tkP at ok ⊢
 unfold wrPF setF
 by_cases c0 : c = 102
 ·rw [if_pos c0] at ok
  simp only [if_pos c0]
  obtain ⟨g,w⟩ := tkN_ok.only b ok
  exact ⟨⟨g,h2,h3,h4,h5,h6,h7,h8,h9,h10,h11⟩,(by first|rfl|trivial),w,(by first|rfl|trivial)⟩
 rw [if_neg c0] at ok
 simp only [if_neg c0]
 by_cases c1 : c = 115
 ·rw [if_pos c1] at ok
  simp only [if_pos c1]
  obtain ⟨g,w⟩ := tkN_ok.only b ok
  exact ⟨⟨h1,g,h3,h4,h5,h6,h7,h8,h9,h10,h11⟩,(by first|rfl|trivial),w,(by first|rfl|trivial)⟩
 rw [if_neg c1] at ok
 simp only [if_neg c1]
 by_cases c2 : c = 118
 ·rw [if_pos c2] at ok
  simp only [if_pos c2]
  obtain ⟨g,w⟩ := tkN_ok.only b ok
  exact ⟨⟨h1,h2,g,h4,h5,h6,h7,h8,h9,h10,h11⟩,(by first|rfl|trivial),w,(by first|rfl|trivial)⟩
 rw [if_neg c2] at ok
 simp only [if_neg c2]
 by_cases c3 : c = 120
 ·rw [if_pos c3] at ok
  simp only [if_pos c3]
  obtain ⟨g,w⟩ := tkT_ok.only b ok
  exact ⟨⟨h1,h2,h3,g,h5,h6,h7,h8,h9,h10,h11⟩,(by first|rfl|trivial),w,(by first|rfl|trivial)⟩
 rw [if_neg c3] at ok
 simp only [if_neg c3]
 by_cases c4 : c = 99
 ·rw [if_pos c4] at ok
  simp only [if_pos c4]
  obtain ⟨g,w⟩ := tkC_ok.only b ok
  exact ⟨⟨h1,h2,h3,h4,g,h6,h7,h8,h9,h10,h11⟩,(by first|rfl|trivial),w,(by first|rfl|trivial)⟩
 rw [if_neg c4] at ok
 simp only [if_neg c4]
 by_cases c5 : c = 97
 ·rw [if_pos c5] at ok
  simp only [if_pos c5]
  obtain ⟨g,w⟩ := tkA_ok.only b ok
  exact ⟨⟨h1,h2,h3,h4,h5,g,h7,h8,h9,h10,h11⟩,(by first|rfl|trivial),w,(by first|rfl|trivial)⟩
 rw [if_neg c5] at ok
 simp only [if_neg c5]
 by_cases c6 : c = 112
 ·rw [if_pos c6] at ok
  simp only [if_pos c6]
  obtain ⟨g,w⟩ := tkV_ok.only b ok
  exact ⟨⟨h1,h2,h3,h4,h5,h6,g,h8,h9,h10,h11⟩,(by first|rfl|trivial),w,(by first|rfl|trivial)⟩
 rw [if_neg c6] at ok
 simp only [if_neg c6]
 by_cases c7 : c = 114
 ·rw [if_pos c7] at ok
  simp only [if_pos c7]
  obtain ⟨g,w⟩ := tkR_ok.only b ok
  exact ⟨⟨h1,h2,h3,h4,h5,h6,h7,g,h9,h10,h11⟩,(by first|rfl|trivial),w,(by first|rfl|trivial)⟩
 rw [if_neg c7] at ok
 simp only [if_neg c7]
 by_cases c8 : c = 109
 ·rw [if_pos c8] at ok
  simp only [if_pos c8]
  obtain ⟨g,w⟩ := tkM_ok.only b ok
  exact ⟨⟨h1,h2,h3,h4,h5,h6,h7,h8,g,h10,h11⟩,(by first|rfl|trivial),w,(by first|rfl|trivial)⟩
 rw [if_neg c8] at ok
 simp only [if_neg c8]
 by_cases c9 : c = 111
 ·rw [if_pos c9] at ok
  simp only [if_pos c9]
  obtain ⟨g,w⟩ := tkO_ok.only b ok
  exact ⟨⟨h1,h2,h3,h4,h5,h6,h7,h8,h9,g.2,h11⟩,(by first|rfl|trivial),w,(by first|rfl|trivial)⟩
 rw [if_neg c9] at ok
 simp only [if_neg c9]
 obtain ⟨g,w⟩ := tkX_ok.only b ok
 exact ⟨⟨h1,h2,h3,h4,h5,h6,h7,h8,h9,h10,g⟩,(by first|rfl|trivial),w,(by first|rfl|trivial)⟩
theorem tkP_back (c : UInt8) (l m : Ltr) (r : Bytes) (h : SQ m) (hc : c = 111 → mayO m.o = true) : tkP c l (wrPF c m ++ r) = (setF c l m,r,true) := by
 obtain ⟨h1,h2,h3,h4,h5,h6,h7,h8,h9,h10,h11⟩ := h
 unfold tkP wrPF setF
 by_cases c0 : c = 102
 ·simp only [if_pos c0]
  have w := tkN_ok.back m.frm r h1
  unfold tkN at w
  simp only [Prod.mk.injEq] at w
  rw [w.1,w.2.1,w.2.2]
 simp only [if_neg c0]
 by_cases c1 : c = 115
 ·simp only [if_pos c1]
  have w := tkN_ok.back m.slot r h2
  unfold tkN at w
  simp only [Prod.mk.injEq] at w
  rw [w.1,w.2.1,w.2.2]
 simp only [if_neg c1]
 by_cases c2 : c = 118
 ·simp only [if_pos c2]
  have w := tkN_ok.back m.view r h3
  unfold tkN at w
  simp only [Prod.mk.injEq] at w
  rw [w.1,w.2.1,w.2.2]
 simp only [if_neg c2]
 by_cases c3 : c = 120
 ·simp only [if_pos c3]
  have w := tkT_ok.back m.value r h4
  unfold tkT at w
  simp only [Prod.mk.injEq] at w
  rw [w.1,w.2.1,w.2.2]
 simp only [if_neg c3]
 by_cases c4 : c = 99
 ·simp only [if_pos c4]
  have w := tkC_ok.back m.cert r h5
  rw [w]
 simp only [if_neg c4]
 by_cases c5 : c = 97
 ·simp only [if_pos c5]
  have w := tkA_ok.back m.vote r h6
  rw [w]
 simp only [if_neg c5]
 by_cases c6 : c = 112
 ·simp only [if_pos c6]
  have w := tkV_ok.back m.proof r h7
  rw [w]
 simp only [if_neg c6]
 by_cases c7 : c = 114
 ·simp only [if_pos c7]
  have w := tkR_ok.back m.r r h8
  rw [w]
 simp only [if_neg c7]
 by_cases c8 : c = 109
 ·simp only [if_pos c8]
  have w := tkM_ok.back m.sum r h9
  simp only [id] at w
  rw [w]
 simp only [if_neg c8]
 by_cases c9 : c = 111
 ·simp only [if_pos c9]
  have w := tkO_ok.back m.o r ⟨hc c9,h10⟩
  rw [w]
 simp only [if_neg c9]
 rw [tkX_ok.back m.x r h11]
theorem wrPF_ne (c d : UInt8) (l m : Ltr) (hc : c ∈ ([102,115,118,120,99,97,112,114,109,111,121] : List UInt8)) (hd : d ∈ ([102,115,118,120,99,97,112,114,109,111,121] : List UInt8)) (h : d ≠ c) : wrPF d (setF c l m) = wrPF d l := by
 simp only [List.mem_cons,List.not_mem_nil,or_false] at hc hd
 rcases hc with rfl|rfl|rfl|rfl|rfl|rfl|rfl|rfl|rfl|rfl|rfl <;>
  rcases hd with rfl|rfl|rfl|rfl|rfl|rfl|rfl|rfl|rfl|rfl|rfl <;>
  first|exact absurd rfl h|rfl
def tkStep (s : Option (Ltr × Bytes)) (c : UInt8) : Option (Ltr × Bytes) :=
 match s with
 | some p => if (tkP c p.1 p.2).2.2 = true then some ((tkP c p.1 p.2).1,(tkP c p.1 p.2).2.1) else none
 | none => none
theorem step_none : ∀ u : List UInt8,u.foldl tkStep none = none
 | [] => rfl
 | c :: u => step_none u
theorem fold_only : ∀ (u : List UInt8) (l0 : Ltr) (b0 : Bytes) (l : Ltr) (b1 : Bytes),u.foldl tkStep (some (l0,b0)) = some (l,b1) → SQ l0 → u.Nodup → (∀ c ∈ u,c ∈ ([102,115,118,120,99,97,112,114,109,111,121] : List UInt8)) →
  SQ l ∧ l.kind = l0.kind ∧ (u.map fun c => wrPF c l).flatten ++ b1 = b0 ∧ ∀ d ∈ ([102,115,118,120,99,97,112,114,109,111,121] : List UInt8),d ∉ u → wrPF d l = wrPF d l0
 | [],l0,b0,l,b1,h,hs,hn,hu => by
  simp only [List.foldl_nil,Option.some.injEq,Prod.mk.injEq] at h
  obtain ⟨rfl,rfl⟩ := h
  exact ⟨hs,rfl,rfl,fun _ _ _ => rfl⟩
 | c :: u,l0,b0,l,b1,h,hs,hn,hu => by
  rw [List.foldl_cons] at h
  by_cases ok : (tkP c l0 b0).2.2 = true
  ·rw [show tkStep (some (l0,b0)) c = some ((tkP c l0 b0).1,(tkP c l0 b0).2.1) from if_pos ok] at h
   obtain ⟨q1,q2,q3,q4⟩ := tkP_only c l0 b0 hs ok
   obtain ⟨hn1,hn2⟩ := List.nodup_cons.1 hn
   have hcm := hu c (List.mem_cons_self ..)
   obtain ⟨i1,i2,i3,i4⟩ := fold_only u _ _ l b1 h q1 hn2 (fun d hd => hu d (List.mem_cons_of_mem _ hd))
   refine ⟨i1,i2.trans q2,?_,fun d hd hdu => ?_⟩
   ·rw [List.map_cons,List.flatten_cons,List.append_assoc,i3,i4 c hcm hn1,q3]
   ·rw [List.mem_cons,not_or] at hdu
    rw [i4 d hd hdu.2,q4,wrPF_ne c d _ _ hcm hd hdu.1]
  ·rw [show tkStep (some (l0,b0)) c = none from if_neg ok,step_none] at h
   exact absurd h (by simp)
theorem fold_back (m : Ltr) (hm : SQ m) (r : Bytes) : ∀ (u : List UInt8) (l0 : Ltr),(111 ∈ u → mayO m.o = true) → u.foldl tkStep (some (l0,(u.map fun c => wrPF c m).flatten ++ r)) = some (u.foldl (fun l c => setF c l m) l0,r)
 | [],l0,_ => rfl
 | c :: u,l0,h => by
  rw [List.foldl_cons,List.foldl_cons,List.map_cons,List.flatten_cons,List.append_assoc]
  have w := tkP_back c l0 m ((u.map fun c => wrPF c m).flatten ++ r) hm (fun e => h (by rw [e];exact List.mem_cons_self ..))
  rw [show tkStep (some (l0,wrPF c m ++ ((u.map fun c => wrPF c m).flatten ++ r))) c = some (setF c l0 m,(u.map fun c => wrPF c m).flatten ++ r) by
   unfold tkStep
   simp only [w,reduceIte]]
  exact fold_back m hm r u _ (fun e => h (List.mem_cons_of_mem _ e))
theorem fold_len : ∀ (u : List UInt8) (l0 : Ltr) (b0 : Bytes) (l : Ltr) (b1 : Bytes),u.foldl tkStep (some (l0,b0)) = some (l,b1) → SQ l0 → SQ l ∧ l.kind = l0.kind ∧ b1.length ≤ b0.length
 | [],l0,b0,l,b1,h,hs => by
  simp only [List.foldl_nil,Option.some.injEq,Prod.mk.injEq] at h
  obtain ⟨rfl,rfl⟩ := h
  exact ⟨hs,rfl,Nat.le_refl _⟩
 | c :: u,l0,b0,l,b1,h,hs => by
  rw [List.foldl_cons] at h
  by_cases ok : (tkP c l0 b0).2.2 = true
  ·rw [show tkStep (some (l0,b0)) c = some ((tkP c l0 b0).1,(tkP c l0 b0).2.1) from if_pos ok] at h
   obtain ⟨q1,q2,q3,_⟩ := tkP_only c l0 b0 hs ok
   obtain ⟨i1,i2,i3⟩ := fold_len u _ _ l b1 h q1
   have := congrArg List.length q3
   rw [List.length_append] at this
   exact ⟨i1,i2.trans q2,by omega⟩
  ·rw [show tkStep (some (l0,b0)) c = none from if_neg ok,step_none] at h
   exact absurd h (by simp)
theorem uses_set (m : Ltr) (h : 1 ≤ m.kind ∧ m.kind ≤ 10) : (usesOf m.kind).foldl (fun l c => setF c l m) { zL with kind := m.kind } = useL m := by
 rcases (by omega : m.kind = 1 ∨ m.kind = 2 ∨ m.kind = 3 ∨ m.kind = 4 ∨ m.kind = 5 ∨ m.kind = 6 ∨ m.kind = 7 ∨ m.kind = 8 ∨ m.kind = 9 ∨ m.kind = 10) with h|h|h|h|h|h|h|h|h|h
 ·rw [usesOf_1 h,useL_1 m h,h];rfl
 ·rw [usesOf_2 h,useL_2 m h,h];rfl
 ·rw [usesOf_3 h,useL_3 m h,h];rfl
 ·rw [usesOf_4 h,useL_4 m h,h];rfl
 ·rw [usesOf_5 h,useL_5 m h,h];rfl
 ·rw [usesOf_6 h,useL_6 m h,h];rfl
 ·rw [usesOf_7 h,useL_7 m h,h];rfl
 ·rw [usesOf_8 h,useL_8 m h,h];rfl
 ·rw [usesOf_9 h,useL_9 m h,h];rfl
 ·rw [usesOf_10 h,useL_10 m h,h];rfl
theorem uses_nodup (k : Int) : (usesOf k).Nodup ∧ (∀ c ∈ usesOf k,c ∈ ([102,115,118,120,99,97,112,114,109,111,121] : List UInt8)) ∧ (111 ∈ usesOf k → k = 8) := by
 by_cases hk : 1 ≤ k ∧ k ≤ 10
 ·rcases (by omega : k = 1 ∨ k = 2 ∨ k = 3 ∨ k = 4 ∨ k = 5 ∨ k = 6 ∨ k = 7 ∨ k = 8 ∨ k = 9 ∨ k = 10) with h|h|h|h|h|h|h|h|h|h
  ·rw [usesOf_1 h];exact ⟨by decide,by decide,fun e => absurd e (by decide)⟩
  ·rw [usesOf_2 h];exact ⟨by decide,by decide,fun e => absurd e (by decide)⟩
  ·rw [usesOf_3 h];exact ⟨by decide,by decide,fun e => absurd e (by decide)⟩
  ·rw [usesOf_4 h];exact ⟨by decide,by decide,fun e => absurd e (by decide)⟩
  ·rw [usesOf_5 h];exact ⟨by decide,by decide,fun e => absurd e (by decide)⟩
  ·rw [usesOf_6 h];exact ⟨by decide,by decide,fun e => absurd e (by decide)⟩
  ·rw [usesOf_7 h];exact ⟨by decide,by decide,fun e => absurd e (by decide)⟩
  ·rw [usesOf_8 h];exact ⟨by decide,by decide,fun _ => h⟩
  ·rw [usesOf_9 h];exact ⟨by decide,by decide,fun e => absurd e (by decide)⟩
  ·rw [usesOf_10 h];exact ⟨by decide,by decide,fun e => absurd e (by decide)⟩
 ·rw [usesOf_none hk]
  exact ⟨List.nodup_nil,fun c hc => absurd hc (by simp),fun e => absurd e (by simp)⟩
def rdec (b : Bytes) : Ltr × Int :=
 if (rdN b 0 0).2.1 = 0 then
  (match (usesOf (rdN b 0 0).2.2).foldl tkStep (some ({ zL with kind := (rdN b 0 0).2.2 },(rdN b 0 0).1)) with
   | some p => if p.2 = [] ∧ mayL p.1 = true then (p.1,0) else (zL,3)
   | none => (zL,3))
 else (zL,3)
theorem rdec_eq (b : Bytes) : rdec b = if (tkL b).2 = true then ((tkL b).1,0) else (zL,3) := by
 by_cases ht : (tkL b).2 = true
 ·rw [if_pos ht]
  obtain ⟨g,w⟩ := tk_only b ht
  generalize (tkL b).1 = l at *
  have e : rdN b 0 0 = (wrB l,0,l.kind) := by
   have h := (rdrN 0).back l.kind (wrB l) (by have := g.1;unfold I64;omega)
   rw [← w]
   exact h
  have hf := fold_back l g.sq [] (usesOf l.kind) { zL with kind := l.kind } (fun h => g.2.2.2.2.2.2.2.2.2.2.2.1 ((uses_nodup l.kind).2.2 h))
  rw [wr_parts l g.1,List.append_nil,uses_set l g.1,g.2.1] at hf
  unfold rdec
  rw [e]
  simp only [reduceIte]
  rw [hf]
  simp only [g.may,and_self,reduceIte]
 ·rw [if_neg ht]
  unfold rdec
  split
  ·rename_i e0
   split
   ·rename_i p hf
    split
    ·rename_i hp
     exfalso
     obtain ⟨l,y⟩ := p
     obtain ⟨hy,hm⟩ := hp
     simp only at hy hm
     subst hy
     obtain ⟨n1,n2,n3⟩ := uses_nodup (rdN b 0 0).2.2
     obtain ⟨i1,i2,i3,_⟩ := fold_only _ _ _ l [] hf (SQ.z _) n1 n2
     have g := (mayL_good l).1 hm
     have i2' : l.kind = (rdN b 0 0).2.2 := i2
     obtain ⟨_,_,w⟩ := (rdrN 0).only (b := b) (e := 0) e0
     rw [← i2',wr_parts l g.1,List.append_nil] at i3
     have hw : wrL l = b := by
      unfold wrL
      rw [i3,i2']
      exact w
     have hb := tk_back l g []
     rw [List.append_nil,hw] at hb
     exact ht (by rw [hb];rfl)
    ·rfl
   ·rfl
  ·rfl
theorem rtakepart_spec (b : Bytes) (hb : b.length ≤ 1000000) (l : Ltr) (hl : l.sum.length = 32) (c : UInt8) (hc : c ∈ ([102,115,118,120,99,97,112,114,109,111,121] : List UInt8)) : ASpec Tryz.prog 22 [bytesA b,.agg (letC l),.int .u8 c.toNat] (.tup [.agg (letC (tkP c l b).1),bytesA (tkP c l b).2.1,.bool (tkP c l b).2.2]) := by
 simp only [List.mem_cons,List.not_mem_nil,or_false] at hc
 rcases hc with rfl|rfl|rfl|rfl|rfl|rfl|rfl|rfl|rfl|rfl|rfl
 ·exact rtakepart_frm b hb l hl
 ·exact rtakepart_slot b hb l hl
 ·exact rtakepart_view b hb l hl
 ·exact rtakepart_value b hb l hl
 ·exact rtakepart_cert b hb l hl
 ·exact rtakepart_vote b hb l hl
 ·exact rtakepart_proof b hb l hl
 ·exact rtakepart_r b hb l hl
 ·exact rtakepart_sum b hb l hl
 ·exact rtakepart_o b hb l hl
 ·exact rtakepart_x b hb l hl
theorem tkP_sum (c : UInt8) (l : Ltr) (b : Bytes) (h : l.sum.length = 32) : (tkP c l b).1.sum.length = 32 := by
 unfold tkP
 (repeat' split) <;> first|exact h|exact tkM_len b
theorem uses_len (n : Int) : (usesOf n).length ≤ 100 := by
 by_cases hk : 1 ≤ n ∧ n ≤ 10
 ·exact (usesOf_some hk).2
 ·rw [usesOf_none hk];exact Nat.zero_le _
theorem rdec_no {b y : Bytes} {z n : Int} (e : rdN b 0 0 = (y,z,n)) (h : ¬ z = 0) : rdec b = (zL,3) := by
 unfold rdec
 rw [e]
 exact if_neg h
theorem rdec_ok {b y r : Bytes} {n : Int} {l : Ltr} (e : rdN b 0 0 = (y,0,n)) (h : (usesOf n).foldl tkStep (some ({ zL with kind := n },y)) = some (l,r)) : rdec b = if r = [] ∧ mayL l = true then (l,0) else (zL,3) := by
 unfold rdec
 rw [e]
 simp only [reduceIte]
 rw [h]
theorem rdec_none {b y : Bytes} {n : Int} (e : rdN b 0 0 = (y,0,n)) (h : (usesOf n).foldl tkStep (some ({ zL with kind := n },y)) = none) : rdec b = (zL,3) := by
 unfold rdec
 rw [e]
 simp only [reduceIte]
 rw [h]
theorem rdec_empty {b y : Bytes} {n : Int} (e : rdN b 0 0 = (y,0,n)) (h : usesOf n = []) : rdec b = (zL,3) := by
 rw [rdec_ok (l := { zL with kind := n }) (r := y) e (by rw [h];rfl),if_neg]
 rintro ⟨_,hm⟩
 exact (usesOf_some ((mayL_good _).1 hm).1).1 h
theorem fold_cut {u : List UInt8} {k : Nat} {s : Option (Ltr × Bytes)} (h : (u.take k).foldl tkStep s = none) : u.foldl tkStep s = none := by
 rw [← List.take_append_drop k u,List.foldl_append,h,step_none]
theorem fold_snoc {u : List UInt8} {k : Nat} {s : Option (Ltr × Bytes)} {x : UInt8} (hx : u[k]? = some x) : (u.take (k + 1)).foldl tkStep s = tkStep ((u.take k).foldl tkStep s) x := by
 rw [List.take_add_one,hx,List.foldl_append]
 rfl
theorem letC_z (n : Int) : letC { zL with kind := n } = [.int .i64 n,.int .i64 0,.int .i64 0,.int .i64 0,.str [],.sl 6 [] .no,.int .i64 0,.int .i64 0,.str [],.sl 3 [] .no,.int .i64 0,.int .i64 0,.bool false,.int .i64 0,.str [],.sl 3 [] .no,.int .u8 0,.int .u8 0,.int .u8 0,.int .u8 0,.int .u8 0,.int .u8 0,.int .u8 0,.int .u8 0,.int .u8 0,.int .u8 0,.int .u8 0,.int .u8 0,.int .u8 0,.int .u8 0,.int .u8 0,.int .u8 0,.int .u8 0,.int .u8 0,.int .u8 0,.int .u8 0,.int .u8 0,.int .u8 0,.int .u8 0,.int .u8 0,.int .u8 0,.int .u8 0,.int .u8 0,.int .u8 0,.int .u8 0,.int .u8 0,.int .u8 0,.int .u8 0,.int .i64 0,.int .i64 0,.int .i64 0,.str [],.str [],.int .i64 0,.int .i64 0,.int .i64 0,.int .i64 0,.int .i64 0,.int .i64 0,.str [],.int .i64 0,.sl 1 [] .no] := rfl
theorem letC_zL : letC zL = [.int .i64 0,.int .i64 0,.int .i64 0,.int .i64 0,.str [],.sl 6 [] .no,.int .i64 0,.int .i64 0,.str [],.sl 3 [] .no,.int .i64 0,.int .i64 0,.bool false,.int .i64 0,.str [],.sl 3 [] .no,.int .u8 0,.int .u8 0,.int .u8 0,.int .u8 0,.int .u8 0,.int .u8 0,.int .u8 0,.int .u8 0,.int .u8 0,.int .u8 0,.int .u8 0,.int .u8 0,.int .u8 0,.int .u8 0,.int .u8 0,.int .u8 0,.int .u8 0,.int .u8 0,.int .u8 0,.int .u8 0,.int .u8 0,.int .u8 0,.int .u8 0,.int .u8 0,.int .u8 0,.int .u8 0,.int .u8 0,.int .u8 0,.int .u8 0,.int .u8 0,.int .u8 0,.int .u8 0,.int .i64 0,.int .i64 0,.int .i64 0,.str [],.str [],.int .i64 0,.int .i64 0,.int .i64 0,.int .i64 0,.int .i64 0,.int .i64 0,.str [],.int .i64 0,.sl 1 [] .no] := rfl
theorem rdec_spec (b : Bytes) (hb : b.length ≤ 1000000) : ASpec Tryz.prog 10 [bytesA b] (.tup [.agg (letC (rdec b).1),.int .i64 (rdec b).2]) := by
 have s1 := rtaken_spec b
 have l1 := rdN_le b 0 0
 obtain ⟨⟨y,z,n⟩,e⟩ : ∃ t,rdN b 0 0 = t := ⟨_,rfl⟩
 rw [e] at s1 l1
 simp only at s1 l1
 have hus := uses27_spec n
 by_cases h1 : z = 0
 ·subst h1
  have hI : I64 n := by
   have := ((rdrN 0).only (b := b) (e := 0) (by rw [e])).2.1
   rw [e] at this
   exact this
  obtain ⟨w1,w2,w3⟩ := uses_nodup n
  by_cases h2 : usesOf n = []
  ·rw [rdec_empty e h2]
   rw [h2] at hus
   simp only
   rw [letC_zL]
   refine ⟨⟨_,Tryz.func10,by kernel_rfl,rfl⟩,Sg Tryz.func10 rfl fun c0 hc0 => ?_⟩;simp only [go_sem,bytesA,Nat.reduceSub]
   refine Ops.pure .free rfl rfl (s1) (by simp only [go_sem,bytesA];(repeat' first|exact .refl _|apply LeR.tup|apply Le.agg|constructor)) rfl rfl ?_
   refine Og Tryz.func10 ?_;simp only [go_sem,bytesA,Nat.reduceAdd,Nat.reduceLeDiff]
   (and_intros <;> try first|rfl|omega|(unfold I64;omega))
   refine Ops.pure .free rfl rfl (hus) (by simp only [go_sem];(repeat' first|exact .refl _|apply LeR.tup|apply Le.agg|constructor)) rfl rfl ?_
   refine Og Tryz.func10 ?_;simp only [go_sem,↓alt_t,↓alts_f,↓gone_ff,Nat.reduceAdd]
   (and_intros <;> try first|rfl|omega|(unfold I64;omega))
   all_goals (repeat' first|exact .refl _|apply LeR.tup|apply Le.agg|constructor)
  ·obtain ⟨c0',u',hu'⟩ := List.exists_cons_of_ne_nil h2
   have hne : decide (usesOf n = []) = false := decide_eq_false h2
   obtain ⟨f,hf⟩ : ∃ f,(usesOf n).foldl tkStep (some ({ zL with kind := n },y)) = f := ⟨_,rfl⟩
   have q0 := fun l r h => rdec_ok (l := l) (r := r) e h
   have q1 := rdec_none e
   have q2 := fun k h => fold_cut (u := usesOf n) (k := k) (s := some ({ zL with kind := n },y)) h
   have q3 := fun k x hx => fold_snoc (u := usesOf n) (k := k) (s := some ({ zL with kind := n },y)) (x := x) hx
   have q4 := fun k l r h => fold_len ((usesOf n).take k) { zL with kind := n } y l r h (SQ.z n)
   have w4 := uses_len n
   clear hu' hf
   generalize rdec b = R at *
   generalize usesOf n = u at *
   refine ⟨⟨_,Tryz.func10,by kernel_rfl,rfl⟩,Sg Tryz.func10 rfl fun c0 hc0 => ?_⟩;simp only [go_sem,bytesA,Nat.reduceSub]
   refine Ops.pure .free rfl rfl (s1) (by simp only [go_sem,bytesA];(repeat' first|exact .refl _|apply LeR.tup|apply Le.agg|constructor)) rfl rfl ?_
   refine Og Tryz.func10 ?_;simp only [go_sem,bytesA,Nat.reduceAdd,Nat.reduceLeDiff]
   (and_intros <;> try first|rfl|omega|(unfold I64;omega))
   refine Ops.pure .free rfl rfl (hus) (by simp only [go_sem];(repeat' first|exact .refl _|apply LeR.tup|apply Le.agg|constructor)) rfl rfl ?_
   refine Og Tryz.func10 ?_;simp only [go_sem,h2,↓alt_f,↓alts_f,↓gone_ff]
   (and_intros <;> try first|rfl|omega|(unfold I64;omega))
   refine Run.weak (Weak.junk [19]) ?_
   simp only [junkAt,Y6,Y7]
   refine Run.weak (Weak.nilC 1 5 6 _ rfl rfl) ?_
   simp only [Y7,Y6]
   refine Run.weak (Weak.nilC 1 9 3 _ rfl rfl) ?_
   simp only [Y7,Y6]
   refine Run.weak (Weak.nilC 1 15 3 _ rfl rfl) ?_
   simp only [Y7,Y6]
   refine Run.weak (Weak.nilC 1 61 1 _ rfl rfl) ?_
   simp only [Y7,Y6]
   refine Run.loopV (α := Nat × Ltr × Bytes) (fun x => x.1 ≤ u.length ∧ (u.take x.1).foldl tkStep (some ({ zL with kind := n },y)) = some (x.2.1,x.2.2)) (fun x => [(0,bytesA x.2.2),(8,.int .i64 x.1)]) 2 (fun x => [(1,.box (letC x.2.1))]) (fun x => u.length - x.1) (0,{ zL with kind := n },y) ⟨Nat.zero_le _,rfl⟩ ?_ ?_
   ·simp only [go_sem,writes,junks,puts,hputs,List.filterMap_cons,List.filterMap_nil,bytesA,letC_z]
    (refine Weak.of (by simp [hc0]) ?_ ?_ <;> (repeat' first|exact .refl _|exact .junk _|exact .nil|exact .nil _|exact .tok _ _ _|rfl|apply WkT.cons|apply WkH.cons|apply LeB.same|apply LeB.box|apply Le1L.cons|apply Le.agg|apply Le.one))
   ·rintro ⟨k,l,r⟩ ⟨hI',hrd⟩ ih
    simp only [writes,junks,puts,hputs,List.filterMap_cons,List.filterMap_nil,Y6,Y7,Yg,Yk,Y5,Y3,Yd] at hI' hrd ih ⊢
    obtain ⟨sq,hkn,hrl⟩ := q4 k l r hrd
    have hl : l.sum.length = 32 := sq.2.2.2.2.2.2.2.2.1
    have xlen := let_len l hl
    have xfull := let_full l hl
    by_cases hk : k < u.length
    ·obtain ⟨x,hx⟩ : ∃ x,u[k]? = some x := ⟨_,List.getElem?_eq_getElem hk⟩
     have hkk : (k : Int) < u.length := by omega
     have hc := rtakepart_spec r (by omega) l hl x (w2 x (List.mem_of_getElem? hx))
     have hsn := q3 k x hx
     rw [hrd] at hsn
     have hms := tkP_sum x l r hl
     have ab := arg3_bel r l x.toNat
     obtain ⟨⟨m,r2,is⟩,em⟩ : ∃ t,tkP x l r = t := ⟨_,rfl⟩
     have hst : tkStep (some (l,r)) x = if is = true then some (m,r2) else none := by
      unfold tkStep
      simp only [em]
     rw [hst] at hsn
     rw [em] at hc hms
     simp only at hc hms
     have xlenm := let_len m hms
     have xfullm := let_full m hms
     have rb := bool_bel (.agg (letC m)) (let_bel m 0) r2 is
     cases is with
     | false =>
      have hR : R = (zL,3) := q1 (q2 (k + 1) (by rw [hsn];rfl))
      rw [hR]
      simp only
      rw [letC_zL]
      refine Rg Tryz.func10 ?_;simp only [go_sem,hx,hkk,bytesA,xfull,xlen,↓alt_t,Nat.reduceAdd]
      (and_intros <;> try first|rfl|omega|(unfold I64;omega))
      refine DOps.pure rfl .free rfl rfl (hc) (by simp only [go_sem,bytesA];(repeat' first|exact .refl _|apply LeR.tup|apply Le.agg|constructor)) ab rb ?_
      refine Dg Tryz.func10 rfl ?_;simp only [go_sem,bytesA,xlenm,↓alt_t,Nat.reduceAdd]
      (and_intros <;> try first|rfl|omega|(unfold I64;omega))
      all_goals (first|rfl|(repeat' first|exact .refl _|apply LeR.tup|apply Le.agg|constructor))
     | true =>
      refine Rg Tryz.func10 ?_;simp only [go_sem,hx,hkk,bytesA,xfull,xlen,↓alt_t,Nat.reduceAdd]
      (and_intros <;> try first|rfl|omega|(unfold I64;omega))
      refine DOps.pure rfl .free rfl rfl (hc) (by simp only [go_sem,bytesA];(repeat' first|exact .refl _|apply LeR.tup|apply Le.agg|constructor)) ab rb ?_
      refine Dg Tryz.func10 rfl ?_;simp only [go_sem,bytesA,xlen,xfullm,xlenm,↓alt_f,Nat.reduceAdd]
      (and_intros <;> try first|rfl|omega|(unfold I64;omega))
      all_goals try omega
      refine ih (k + 1,m,r2) _ ⟨by dsimp only;omega,hsn⟩ (by dsimp only;omega) ?_
      have hd : (letC l).drop 62 = [] := List.drop_of_length_le (Nat.le_of_eq xlen)
      simp only [Int.natCast_add,Int.natCast_one,Yd,bytesA,hd]
      (refine Weak.of (by simp [hc0]) ?_ ?_ <;> (repeat' first|exact .refl _|exact .junk _|exact .nil|exact .nil _|exact .tok _ _ _|rfl|apply WkT.cons|apply WkH.cons|apply LeB.same|apply LeB.box|apply Le1L.cons|apply Le.agg|apply Le.one))
      all_goals exact let_bel m _
    ·obtain rfl : k = u.length := by omega
     have hkk : ¬ (u.length : Int) < u.length := by omega
     rw [List.take_length] at hrd
     have hR := q0 l r hrd
     have hI2 : I64 l.kind := by rw [hkn];exact hI
     have hm := rmay27_spec l (sq.ty hI2) sq.sz
     have ab := arg_bel l 0
     by_cases hr : r = []
     ·have hp : ¬ (0 : Int) < r.length := by rw [hr];decide
      cases em : mayL l with
      | true =>
       rw [em] at hm
       rw [if_pos ⟨hr,em⟩] at hR
       rw [hR]
       simp only
       refine Rg Tryz.func10 ?_;simp only [go_sem,hkk,hp,bytesA,xfull,xlen,↓alt_f,↓alts_f,↓gone_ff,Nat.reduceAdd]
       refine Ops.pure (Wanted.test 3 false false rfl) rfl rfl (hm) (by simp only [go_sem];(repeat' first|exact .refl _|apply LeR.tup|apply Le.agg|constructor)) ab rfl ?_
       refine Og Tryz.func10 ?_;simp only [go_sem,xfull,xlen,↓alt_f,↓alts_f,↓gone_ff,Nat.reduceAdd]
       (and_intros <;> try first|rfl|omega|(unfold I64;omega))
       all_goals (first|rfl|(repeat' first|exact .refl _|apply LeR.tup|apply Le.agg|constructor))
      | false =>
       rw [em] at hm
       rw [if_neg (by rw [em];exact fun h => absurd h.2 Bool.false_ne_true)] at hR
       rw [hR]
       simp only
       rw [letC_zL]
       refine Rg Tryz.func10 ?_;simp only [go_sem,hkk,hp,bytesA,xfull,xlen,↓alt_f,↓alts_f,↓gone_ff,Nat.reduceAdd]
       refine Ops.pure (Wanted.test 3 false false rfl) rfl rfl (hm) (by simp only [go_sem];(repeat' first|exact .refl _|apply LeR.tup|apply Le.agg|constructor)) ab rfl ?_
       refine Og Tryz.func10 ?_;simp only [go_sem,↓alt_t,↓alts_f,↓gone_ff,Nat.reduceAdd]
       (and_intros <;> try first|rfl|omega|(unfold I64;omega))
       all_goals (first|rfl|(repeat' first|exact .refl _|apply LeR.tup|apply Le.agg|constructor))
     ·have hp : (0 : Int) < r.length := by have := List.length_pos_iff.2 hr;omega
      rw [if_neg (fun h => hr h.1)] at hR
      rw [hR]
      simp only
      rw [letC_zL]
      refine Rg Tryz.func10 ?_;simp only [go_sem,hkk,hp,bytesA,↓alt_t,↓alt_f,↓alts_t,↓gone_ft,Nat.reduceAdd]
      (and_intros <;> try first|rfl|omega|(unfold I64;omega))
      all_goals (first|rfl|(repeat' first|exact .refl _|apply LeR.tup|apply Le.agg|constructor))
 ·rw [rdec_no e h1]
  simp only
  rw [letC_zL]
  refine ⟨⟨_,Tryz.func10,by kernel_rfl,rfl⟩,Sg Tryz.func10 rfl fun c0 hc0 => ?_⟩;simp only [go_sem,bytesA,Nat.reduceSub]
  refine Ops.pure .free rfl rfl (s1) (by simp only [go_sem,bytesA];(repeat' first|exact .refl _|apply LeR.tup|apply Le.agg|constructor)) rfl rfl ?_
  refine Og Tryz.func10 ?_;simp only [go_sem,bytesA,h1,Nat.reduceAdd,Nat.reduceLeDiff]
  (and_intros <;> try first|rfl|omega|(unfold I64;omega))
  refine Ops.pure .free rfl rfl (hus) (by simp only [go_sem];(repeat' first|exact .refl _|apply LeR.tup|apply Le.agg|constructor)) rfl rfl ?_
  refine Og Tryz.func10 ?_;simp only [go_sem,↓alt_t,↓alts_t,↓gone_ft,Nat.reduceAdd]
  (and_intros <;> try first|rfl|omega|(unfold I64;omega))
  all_goals (repeat' first|exact .refl _|apply LeR.tup|apply Le.agg|constructor)
theorem rints1_own (b : Bytes) (n : Int) (hb : b.length ≤ 900000) (hn : I64 n) : OSpec Tryz.prog 17 [bytesA b,.sl 1 [[.int .i64 n]] .no] 1 ((b ++ encN (zig n)).map byteC) := by
 have hp := rint_spec b n (by omega) hn
 refine ⟨⟨_,Tryz.func17,by kernel_rfl,rfl⟩,Sg Tryz.func17 rfl fun c0 hc0 => ?_⟩;simp only [go_sem,bytesA,Nat.reduceAdd,Nat.reduceSub]
 refine Run.unloop ?_
 refine Rg Tryz.func17 ?_;simp only [go_sem,Int.natCast_one,↓alt_t,Int.reduceLT,Int.reduceLE,Nat.reduceAdd,Nat.reduceLT]
 (and_intros <;> try first|rfl|omega|(unfold I64;omega))
 refine Ops.own .free rfl rfl (hp) (by simp only [go_sem,bytesA];(repeat' first|exact .refl _|apply LeR.tup|apply Le.agg|constructor)) rfl ?_
 refine Og Tryz.func17 ?_;simp only [go_sem]
 (and_intros <;> try first|rfl|omega|(unfold I64;omega))
 refine Run.again ?_
 refine Rg Tryz.func17 ?_;simp only [go_sem,Int.natCast_one,Int.reduceAdd,↓alt_f,Int.reduceLT]
 exact ⟨_,rfl,by simp⟩
theorem rpart_f_own (b : Bytes) (l : Ltr) (hb : b.length ≤ 30000) (h : smL l) : OSpec Tryz.prog 19 [bytesA b,.agg (letC l),.int .u8 102] 1 ((b ++ encN (zig l.frm)).map byteC) := by
 have y1 := let_1 l
 have y2 := let_2 l
 have xlen := let_len l h.2.2.2.2.2.2.2.2.2.2.2.2.2.1
 have hi := rints1_own b l.frm (by omega) (by obtain ⟨h1,h2,_⟩ := h;first|exact h1|exact h2)
 generalize letC l = cs at *
 refine ⟨⟨_,Tryz.func19,by kernel_rfl,rfl⟩,Sg Tryz.func19 rfl fun c0 hc0 => ?_⟩;simp only [go_sem,y1,xlen,bytesA,↓alt_t,Nat.reduceAdd,Nat.reduceLeDiff,Nat.reduceMul,Nat.reduceBEq,Nat.reduceLT,Nat.reduceSub]
 (and_intros <;> try first|rfl|omega|(unfold I64;omega))
 refine Ops.own .free rfl rfl (hi) (by simp only [go_sem,bytesA];(repeat' first|exact .refl _|apply LeR.tup|apply Le.agg|constructor)) rfl ?_
 refine Og Tryz.func19 ?_;simp only [go_sem,Nat.reduceAdd]
 (and_intros <;> try first|rfl|omega|(unfold I64;omega))
 exact ⟨_,rfl,by simp⟩
theorem rpart_s_own (b : Bytes) (l : Ltr) (hb : b.length ≤ 30000) (h : smL l) : OSpec Tryz.prog 19 [bytesA b,.agg (letC l),.int .u8 115] 1 ((b ++ encN (zig l.slot)).map byteC) := by
 have y1 := let_1 l
 have y2 := let_2 l
 have xlen := let_len l h.2.2.2.2.2.2.2.2.2.2.2.2.2.1
 have hi := rints1_own b l.slot (by omega) (by obtain ⟨h1,h2,_⟩ := h;first|exact h1|exact h2)
 generalize letC l = cs at *
 refine ⟨⟨_,Tryz.func19,by kernel_rfl,rfl⟩,Sg Tryz.func19 rfl fun c0 hc0 => ?_⟩;simp only [go_sem,y2,xlen,bytesA,↓alt_t,↓alt_f,Int.reduceEq,Nat.reduceAdd,Nat.reduceLeDiff,Nat.reduceMul,Nat.reduceBEq,Nat.reduceLT,Nat.reduceSub]
 (and_intros <;> try first|rfl|omega|(unfold I64;omega))
 refine Ops.own .free rfl rfl (hi) (by simp only [go_sem,bytesA];(repeat' first|exact .refl _|apply LeR.tup|apply Le.agg|constructor)) rfl ?_
 refine Og Tryz.func19 ?_;simp only [go_sem,Nat.reduceAdd]
 (and_intros <;> try first|rfl|omega|(unfold I64;omega))
 exact ⟨_,rfl,by simp⟩
theorem rpart_m (b : Bytes) (l : Ltr) (n : Nat) (hn : n = b.length) (hb : b.length ≤ 30000) (hl : l.sum.length = 32) : ACall Tryz.prog 19 [.sl 1 (b.map byteC) (.own 0),.agg (letC l),.int .u8 109] [.tok 1 n] fun r _ => LeR r (bytesA (b ++ l.sum)) := by
 subst hn
 have y16 := let_16 l hl
 have xlen := let_len l hl
 have hs : (sumC l.sum).length = 32 := by rw [sumC_len,hl]
 have htk : (sumC l.sum).take 32 = sumC l.sum := List.take_of_length_le (by omega)
 have hpl : (sumC l.sum).all AV.plain = true := by simp [sumC,AV.plain]
 have hm : l.sum.map byteC = (sumC l.sum).map fun x => [x] := by simp [sumC,byteC]
 generalize letC l = cs at *
 refine ACall.of Tryz.func19 rfl fun c1 hc1 => ?_;simp only [Nat.reduceAdd,Nat.reduceSub,go_sem];refine Run.god tab_ok follows_ok Tryz.func19 36 ?_;simp only [go_sem,y16,xlen,hs,↓alt_t,↓alt_f,Int.reduceEq,Nat.reduceAdd,Nat.reduceLeDiff]
 refine Run.weak (Weak.freeze 8 2 _ rfl rfl) ?_
 refine Rg Tryz.func19 ?_;simp only [go_sem,hs,htk,hpl,Nat.reduceLeDiff]
 (and_intros <;> try first|rfl|omega|(unfold I64;omega))
 rw [show bytesA (b ++ l.sum) = .sl 1 (b.map byteC ++ (sumC l.sum).map fun x => [x]) .no by unfold bytesA;rw [List.map_append,hm]]
 (repeat' first|exact .refl _|apply LeR.tup|apply Le.agg|constructor)
theorem renc27_7 (l : Ltr) (ht : TyL l) (hz : SzL l) (hg : Good l) (hs : smL l) (h7 : l.kind = 7) : ASpec Tryz.prog 7 [.agg (letC l)] (.tup [bytesA (wrL l),.int .i64 0]) := by
 have hl : l.sum.length = 32 := ht.2.2.2.2.2.2.2.2.1
 have hm := rmay27_spec l ht hz
 rw [hg.may] at hm
 have hus := uses27_spec l.kind
 rw [usesOf_7 h7] at hus
 have hi := rints1_own [] l.kind (by simp) ht.1
 rw [List.nil_append] at hi
 have hn := enc9 _ ht.1
 have hnf := enc9 _ ht.2.1
 have hns := enc9 _ ht.2.2.1
 have pf := rpart_f_own (encN (zig l.kind)) l (by omega) hs
 have ps := rpart_s_own (encN (zig l.kind) ++ encN (zig l.frm)) l (by rw [List.length_append];omega) hs
 have pm := rpart_m (encN (zig l.kind) ++ encN (zig l.frm) ++ encN (zig l.slot)) l _ rfl (by simp only [List.length_append];omega) hl
 have hw : wrL l = encN (zig l.kind) ++ encN (zig l.frm) ++ encN (zig l.slot) ++ l.sum := by rw [wrL,wrB_7 l h7];simp
 rw [hw]
 have ab := arg_bel l 0
 have ab3 : ∀ (x : Bytes) (c : Int),belL 0 [bytesA x,.agg (letC l),.int .u8 c] = true := fun x c => by
  show (true && (AV.bel 0 (.agg (letC l)) && true)) = true
  rw [Bool.and_true,Bool.true_and]
  exact let_bel l 0
 have hbel : AV.bel 0 (.agg (letC l)) = true := let_bel l 0
 have e102 : ((102 : UInt8).toNat : Int) = 102 := rfl
 have e115 : ((115 : UInt8).toNat : Int) = 115 := rfl
 have e109 : ((109 : UInt8).toNat : Int) = 109 := rfl
 have hb1 := ab3 (encN (zig l.kind)) 102
 have hb2 := ab3 (encN (zig l.kind) ++ encN (zig l.frm)) 115
 have y0 := let_0 l
 have xfull := let_full l hl
 have xlen := let_len l hl
 generalize letC l = cs at *
 refine ⟨⟨_,Tryz.func7,by kernel_rfl,rfl⟩,Sg Tryz.func7 rfl fun c0 hc0 => ?_⟩;simp only [go_sem,xfull,xlen,Nat.reduceSub]
 refine Ops.pure .free rfl rfl (hm) (by simp only [go_sem];(repeat' first|exact .refl _|apply LeR.tup|apply Le.agg|constructor)) ab rfl ?_
 refine Og Tryz.func7 ?_;simp only [go_sem,xlen,y0,↓alt_f,Nat.reduceAdd,Nat.reduceLeDiff,Nat.reduceMul,Nat.reduceBEq,Nat.reduceLT]
 (and_intros <;> try first|rfl|omega|(unfold I64;omega))
 refine Ops.own .free rfl rfl (hi) (by simp only [go_sem,bytesA];(repeat' first|exact .refl _|apply LeR.tup|apply Le.agg|constructor)) rfl ?_
 refine Og Tryz.func7 ?_;simp only [go_sem,xlen,y0,Nat.reduceAdd,Nat.reduceLeDiff]
 (and_intros <;> try first|rfl|omega|(unfold I64;omega))
 refine Ops.pure .free rfl rfl (hus) (by simp only [go_sem];(repeat' first|exact .refl _|apply LeR.tup|apply Le.agg|constructor)) rfl rfl ?_
 refine Og Tryz.func7 ?_;simp only [go_sem]
 (and_intros <;> try first|rfl|omega|(unfold I64;omega))
 refine Run.unloop ?_
 refine Rg Tryz.func7 ?_;simp only [go_sem,xfull,xlen,e102,Int.cast_ofNat_Int,↓alt_t,Int.reduceLT,Int.reduceLE,Nat.reduceAdd]
 (and_intros <;> try first|rfl|omega|(unfold I64;omega))
 refine DOps.own rfl .free rfl rfl (pf) (by simp only [go_sem,bytesA];(repeat' first|exact .refl _|apply LeR.tup|apply Le.agg|constructor)) hb1 rfl ?_
 refine Dg Tryz.func7 rfl ?_;simp only [go_sem,Nat.reduceAdd]
 (and_intros <;> try first|rfl|omega|(unfold I64;omega))
 refine Run.again ?_
 refine Rg Tryz.func7 ?_;simp only [go_sem,xfull,xlen,e115,Int.cast_ofNat_Int,Int.reduceAdd,Int.reduceToNat,↓alt_t,Int.reduceLT,Int.reduceLE,Nat.reduceAdd]
 (and_intros <;> try first|rfl|omega|(unfold I64;omega))
 refine DOps.own rfl .free rfl rfl (ps) (by simp only [go_sem,bytesA];(repeat' first|exact .refl _|apply LeR.tup|apply Le.agg|constructor)) hb2 rfl ?_
 refine Dg Tryz.func7 rfl ?_;simp only [go_sem,Nat.reduceAdd]
 (and_intros <;> try first|rfl|omega|(unfold I64;omega))
 refine Run.again ?_
 refine Rg Tryz.func7 ?_;simp only [go_sem,xfull,xlen,e109,Int.cast_ofNat_Int,Int.reduceAdd,Int.reduceToNat,↓alt_t,Int.reduceLT,Int.reduceLE,Nat.reduceAdd]
 (and_intros <;> try first|rfl|omega|(unfold I64;omega))
 refine DOps.lentT rfl .free rfl rfl pf.fn (i := 4) rfl (.inr ⟨_,_,rfl⟩) pm rfl (by simp only [go_sem];exact OneL.cons (.own 1 _) (OneL.cons (.le (Le.refl _) hbel) (OneL.cons (.le (Le.refl _) rfl) .nil))) ?_
 refine Dg Tryz.func7 rfl ?_;simp only [go_sem,Nat.reduceAdd]
 (and_intros <;> try first|rfl|omega|(unfold I64;omega))
 refine Run.again ?_
 refine Rg Tryz.func7 ?_;simp only [go_sem,Int.cast_ofNat_Int,Int.reduceAdd,↓alt_f,Int.reduceLT,Nat.reduceAdd]
 (and_intros <;> try first|rfl|omega|(unfold I64;omega))
 all_goals (repeat' first|exact .refl _|apply LeR.tup|apply Le.agg|constructor)
theorem AskL.of_few {l : Ltr} (h : WideL l) (hf : fewL l = true) : AskL l := ⟨h.sum,by have := few_names hf;omega,few_sm hf h.ty⟩
theorem AskL.of_good {l : Ltr} (h : Good l) (hw : (wrL l).length ≤ 15000) : AskL l := ⟨h.ty.2.2.2.2.2.2.2.2.1,by have := h.names;omega,fun _ => h.sm hw⟩
theorem AskL.good {l : Ltr} (h : AskL l) (hg : Good l) : smL l := h.sm hg.sh
theorem enc27_ok (l : Ltr) (h : AskL l) (hg : Good l) : ASpec Tryz.prog 6 [.agg (letC l)] (.tup [bytesA (wrL l),.int .i64 0]) := by
 have hm := may27_spec l h
 rw [hg.may] at hm
 have hw := wr_spec l hg.1 (h.good hg)
 have ab := arg_bel l 0
 have xfull := let_full l h.sum
 have xlen := let_len l h.sum
 generalize letC l = cs at *
 refine ⟨⟨_,Tryz.func6,by kernel_rfl,rfl⟩,Sg Tryz.func6 rfl fun c0 hc0 => ?_⟩;simp only [go_sem,xfull,xlen,Nat.reduceSub]
 refine Ops.pure .free rfl rfl (hm) (by simp only [go_sem];(repeat' first|exact .refl _|apply LeR.tup|apply Le.agg|constructor)) ab rfl ?_
 refine Og Tryz.func6 ?_;simp only [go_sem,xfull,xlen,↓alt_f]
 refine Ops.pure .free rfl rfl (hw) (by simp only [go_sem];(repeat' first|exact .refl _|apply LeR.tup|apply Le.agg|constructor)) ab rfl ?_
 refine Og Tryz.func6 ?_;simp only [go_sem]
 (and_intros <;> try first|rfl|omega|(unfold I64;omega))
 (repeat' first|exact .refl _|apply LeR.tup|apply Le.agg|constructor)
theorem enc27_no (l : Ltr) (h : AskL l) (hg : ¬ Good l) : ASpec Tryz.prog 6 [.agg (letC l)] (.tup [.nils,.int .i64 1]) := by
 have hm := may27_spec l h
 rw [not_may hg] at hm
 have ab := arg_bel l 0
 have xfull := let_full l h.sum
 have xlen := let_len l h.sum
 generalize letC l = cs at *
 refine ⟨⟨_,Tryz.func6,by kernel_rfl,rfl⟩,Sg Tryz.func6 rfl fun c0 hc0 => ?_⟩;simp only [go_sem,xfull,xlen,Nat.reduceSub]
 refine Ops.pure .free rfl rfl (hm) (by simp only [go_sem];(repeat' first|exact .refl _|apply LeR.tup|apply Le.agg|constructor)) ab rfl ?_
 refine Og Tryz.func6 ?_;simp only [go_sem,↓alt_t]
 (and_intros <;> try first|rfl|omega|(unfold I64;omega))
 (repeat' first|exact .refl _|apply LeR.tup|apply Le.agg|constructor)
theorem dec27_ok (b : Bytes) (hb : b.length ≤ 1000000) (ha : AskL (tkL b).1) (hg : (tkL b).2 = true) : ASpec Tryz.prog 9 [bytesA b] (.tup [.agg (letC (tkL b).1),.int .i64 0]) := by
 obtain ⟨g,w⟩ := tk_only b hg
 have ht := tk_spec b (by omega)
 rw [hg] at ht
 have hm := may27_spec (tkL b).1 ha
 rw [g.may] at hm
 have ab := arg_bel (tkL b).1 0
 have rb : AV.bel 0 (.tup [.agg (letC (tkL b).1),.bool true]) = true := by
  show (AV.bel 0 (.agg (letC (tkL b).1)) && true) = true
  rw [Bool.and_true]
  exact let_bel _ 0
 have xfull := let_full (tkL b).1 (tk_sum b)
 have xlen := let_len (tkL b).1 (tk_sum b)
 generalize letC (tkL b).1 = cs at *
 refine ⟨⟨_,Tryz.func9,by kernel_rfl,rfl⟩,Sg Tryz.func9 rfl fun c0 hc0 => ?_⟩;simp only [go_sem,bytesA,Nat.reduceSub]
 refine Ops.pure .free rfl rfl (ht) (by simp only [go_sem,bytesA];(repeat' first|exact .refl _|apply LeR.tup|apply Le.agg|constructor)) rfl rb ?_
 refine Og Tryz.func9 ?_;simp only [go_sem,xfull,xlen,↓alts_f,↓gone_ff,Nat.reduceAdd]
 (and_intros <;> try first|rfl|omega|(unfold I64;omega))
 refine Ops.pure (Wanted.test 2 false false rfl) rfl rfl (hm) (by simp only [go_sem];(repeat' first|exact .refl _|apply LeR.tup|apply Le.agg|constructor)) ab rfl ?_
 refine Og Tryz.func9 ?_;simp only [go_sem,xfull,xlen,↓alt_f,↓alts_f,↓gone_ff,Nat.reduceAdd]
 (and_intros <;> try first|rfl|omega|(unfold I64;omega))
 all_goals (repeat' first|exact .refl _|apply LeR.tup|apply Le.agg|constructor)
theorem dec27_no (b : Bytes) (hb : b.length ≤ 1000000) (hg : (tkL b).2 = false) : ASpec Tryz.prog 9 [bytesA b] (.tup [.agg (letC zL),.int .i64 3]) := by
 have ht := tk_spec b (by omega)
 rw [hg] at ht
 have rb : AV.bel 0 (.tup [.agg (letC (tkL b).1),.bool false]) = true := by
  show (AV.bel 0 (.agg (letC (tkL b).1)) && true) = true
  rw [Bool.and_true]
  exact let_bel _ 0
 have xfull := let_full (tkL b).1 (tk_sum b)
 have xlen := let_len (tkL b).1 (tk_sum b)
 generalize letC (tkL b).1 = cs at *
 have hz := zL_le
 refine ⟨⟨_,Tryz.func9,by kernel_rfl,rfl⟩,Sg Tryz.func9 rfl fun c0 hc0 => ?_⟩;simp only [go_sem,bytesA,Nat.reduceSub]
 refine Ops.pure .free rfl rfl (ht) (by simp only [go_sem,bytesA];(repeat' first|exact .refl _|apply LeR.tup|apply Le.agg|constructor)) rfl rb ?_
 refine Og Tryz.func9 ?_;simp only [go_sem,xlen,↓alt_t,↓alts_t,↓gone_ft,Nat.reduceAdd]
 (and_intros <;> try first|rfl|omega|(unfold I64;omega))
 all_goals (first|(refine LeR.tup (LeL.cons (Le.agg ?_) (LeL.cons (Le.refl _) LeL.nil));exact hz)|skip)
def kL (k f s v : Int) : Ltr := { zL with kind := k,frm := f,slot := s,view := v }
theorem kL_le (k f s v : Int) : Le1L ([.int .i64 k,.int .i64 f,.int .i64 s,.int .i64 v,.str [],.nils] ++ (accC zA ++ (.nils :: (rpZ ++ (sumC zM ++ (ordC zO ++ [.int .i64 0,.int .i64 0,.int .i64 0,.str [],.int .i64 0,.nils])))))) (letC (kL k f s v)) := by
 (repeat' (first|exact Le1L.nil|exact Le1.refl _|exact Le1.nil _|apply Le1L.cons|exact le1l_refl _))
theorem kL_ty {k f s v : Int} (hk : I64 k) (hf : I64 f) (hs : I64 s) (hv : I64 v) : TyL (kL k f s v) := by
 have hz : I64 0 := zI
 exact ⟨hk,hf,hs,hv,fun r hr => absurd hr (by simp [kL,zL]),⟨hz,hz⟩,fun r hr => absurd hr (by simp [kL,zL]),⟨hz,hz,hz,fun r hr => absurd hr (by simp [kL,zL])⟩,rfl,⟨hz,hz,hz,hz,hz,hz⟩,⟨hz,hz,hz,hz⟩⟩
theorem kL_ask {k f s v : Int} (hk : I64 k) (hf : I64 f) (hs : I64 s) (hv : I64 v) : AskL (kL k f s v) := ⟨rfl,by show 0 ≤ 100000000;omega,fun h => few_sm (by rfl) (kL_ty hk hf hs hv) h⟩
theorem i64_lit (n : Int) (h : -9223372036854775808 ≤ n ∧ n ≤ 9223372036854775807) : I64 n := h
def b0 : Bytes := [1,20,1,4,1,10]
theorem live_b : bytesOf [byteC 1,byteC 20,byteC 1,byteC 4,byteC 1,byteC 10] = [1,20,1,4,1,10] := bytesOf_map b0
theorem live_tk : tkL b0 = (kL 10 2 5 0,true) := by kernel_rfl
theorem live_good : Good (kL 10 2 5 0) ∧ wrL (kL 10 2 5 0) = b0 := by
 have := tk_only b0 (by rw [live_tk])
 rw [live_tk] at this
 exact this
theorem live_bad : ¬ Good (kL 10 0 0 1) := fun h => by
 have := h.2.1
 rw [useL_10 _ rfl] at this
 exact absurd (congrArg Ltr.view this) (by decide)
theorem alive27_spec : ASpec Tryz.prog 5 [] (.bool true) := by
 have hi : ∀ n : Int,-9223372036854775808 ≤ n ∧ n ≤ 9223372036854775807 → I64 n := i64_lit
 obtain ⟨g,w⟩ := live_good
 have a0 : AskL (kL 10 2 5 0) := kL_ask (hi _ (by omega)) (hi _ (by omega)) (hi _ (by omega)) (hi _ (by omega))
 have a1 : AskL (kL 10 0 0 1) := kL_ask (hi _ (by omega)) (hi _ (by omega)) (hi _ (by omega)) (hi _ (by omega))
 have e0 := enc27_ok _ a0 g
 have e1 := enc27_no _ a1 live_bad
 have d0 := dec27_ok b0 (by decide) (by rw [live_tk];exact a0) (by rw [live_tk])
 have s0 := same27_spec (kL 10 2 5 0) (kL 10 2 5 0) rfl rfl (fun r hr => by
   rcases List.mem_append.1 hr with hr|hr
   ·exact absurd hr (by simp [kL,zL])
   ·rw [List.mem_singleton] at hr;subst hr;exact Nat.zero_le _) (Nat.zero_le _) (Nat.zero_le _) (Nat.zero_le _) (Nat.zero_le _)
 rw [decide_eq_true rfl] at s0
 rw [w] at e0
 rw [live_tk] at d0
 have z0 := kL_le 10 2 5 0
 have z1 := kL_le 10 0 0 1
 have ab := arg_bel (kL 10 2 5 0) 0
 have ab1 := arg_bel (kL 10 0 0 1) 0
 have ab2 := arg2_bel (kL 10 2 5 0) (kL 10 2 5 0) 0
 have rb : AV.bel 0 (.tup [.agg (letC (kL 10 2 5 0)),.int .i64 0]) = true := by
  show (AV.bel 0 (.agg (letC (kL 10 2 5 0))) && true) = true
  rw [Bool.and_true]
  exact let_bel _ 0
 have xfull := let_full (kL 10 2 5 0) rfl
 have xlen := let_len (kL 10 2 5 0) rfl
 simp only at d0
 generalize letC (kL 10 2 5 0) = cs at *
 generalize letC (kL 10 0 0 1) = cs1 at *
 refine ⟨⟨_,Tryz.func5,by kernel_rfl,rfl⟩,ACall.of Tryz.func5 rfl fun c0 hc0 => ?_⟩;simp only [Tryz.ntmps5,Y9,Nat.reduceSub,Ym,Yn,Y3];refine Rg Tryz.func5 ?_;simp only [go_sem,Nat.reduceAdd,Nat.reduceLeDiff]
 refine Ops.pure .free rfl rfl e0 (LeL.cons (Le.agg z0) LeL.nil) ab rfl ?_
 refine Og Tryz.func5 ?_;simp only [go_sem,bytesA]
 (and_intros <;> try first|rfl|omega|(unfold I64;omega))
 refine Ops.pure .free rfl rfl d0 (by simp only [go_sem,bytesA];(repeat' first|exact .refl _|apply LeR.tup|apply Le.agg|constructor)) rfl rb ?_
 refine Og Tryz.func5 ?_;simp only [go_sem,xlen,Nat.reduceAdd,Nat.reduceLeDiff]
 (and_intros <;> try first|rfl|omega|(unfold I64;omega))
 refine Ops.pure .free rfl rfl e1 (LeL.cons (Le.agg z1) LeL.nil) ab1 rfl ?_
 refine Og Tryz.func5 ?_;simp only [go_sem,xfull,xlen,b0,live_b,↓alts_t,↓gone_tt,Nat.reduceAdd]
 (and_intros <;> try first|rfl|omega|(unfold I64;omega))
 refine Ops.pure (Wanted.test 11 true true rfl) rfl rfl s0 (by simp only [go_sem];exact LeL.cons (Le.agg z0) (LeL.cons (Le.refl _) LeL.nil)) ab2 rfl ?_
 refine Og Tryz.func5 ?_;simp only [go_sem,↓alts_t,↓gone_tt]
 (and_intros <;> try first|rfl|omega|(unfold I64;omega))
 all_goals (repeat' first|exact .refl _|apply LeR.tup|apply Le.agg|constructor)
theorem list32 : ∀ s : Bytes,s.length = 32 → ∃ b0 b1 b2 b3 b4 b5 b6 b7 b8 b9 b10 b11 b12 b13 b14 b15 b16 b17 b18 b19 b20 b21 b22 b23 b24 b25 b26 b27 b28 b29 b30 b31 : UInt8,s = [b0,b1,b2,b3,b4,b5,b6,b7,b8,b9,b10,b11,b12,b13,b14,b15,b16,b17,b18,b19,b20,b21,b22,b23,b24,b25,b26,b27,b28,b29,b30,b31]
 | [b0,b1,b2,b3,b4,b5,b6,b7,b8,b9,b10,b11,b12,b13,b14,b15,b16,b17,b18,b19,b20,b21,b22,b23,b24,b25,b26,b27,b28,b29,b30,b31],_ => ⟨b0,b1,b2,b3,b4,b5,b6,b7,b8,b9,b10,b11,b12,b13,b14,b15,b16,b17,b18,b19,b20,b21,b22,b23,b24,b25,b26,b27,b28,b29,b30,b31,rfl⟩
theorem plain27_spec (l : Ltr) (hl : l.sum.length = 32) : ASpec Tryz.prog 8 [.agg (letC l)] (.agg (letC l)) := by
 obtain ⟨k,f,s,v,x,c,⟨a1,a2,a3⟩,p,⟨r1,r2,r3,r4,r5,r6⟩,m,⟨o1,o2,o3,o4,o5,o6,o7,o8⟩,⟨y1,y2,y3,y4,y5,y6⟩⟩ := l
 obtain ⟨b0,b1,b2,b3,b4,b5,b6,b7,b8,b9,b10,b11,b12,b13,b14,b15,b16,b17,b18,b19,b20,b21,b22,b23,b24,b25,b26,b27,b28,b29,b30,b31,rfl⟩ := list32 m hl
 refine ⟨⟨_,Tryz.func8,by kernel_rfl,rfl⟩,ACall.of Tryz.func8 rfl fun c0 hc0 => ?_⟩;simp only [Nat.reduceSub,go_sem];refine Run.god tab_ok follows_ok Tryz.func8 3 ?_;simp only [go_sem,letC,letT,accC,rpC,ordC,rplC,sumC,rpsA,votesA,textsA]
 refine Run.god tab_ok follows_ok Tryz.func8 1 ?_;simp only [go_sem,Nat.reduceAdd,Nat.reduceLeDiff]
 (and_intros <;> try first|rfl|omega|(unfold I64;omega))
 refine Run.god tab_ok follows_ok Tryz.func8 2 ?_;simp only [go_sem,Nat.reduceAdd,Nat.reduceLeDiff]
 refine Run.god tab_ok follows_ok Tryz.func8 2 ?_;simp only [go_sem,Nat.reduceAdd,Nat.reduceLeDiff]
 refine Run.god tab_ok follows_ok Tryz.func8 2 ?_;simp only [go_sem,Nat.reduceAdd,Nat.reduceLeDiff]
 refine Rg Tryz.func8 ?_;simp only [go_sem,Nat.reduceAdd]
 (and_intros <;> try first|rfl|omega|(unfold I64;omega))
 all_goals (repeat' first|exact .refl _|apply LeR.tup|apply Le.agg|constructor)
theorem votes27_spec (l : List Acc) (hl : wideVs l) : ASpec Tryz.prog 15 [votesA l] (.int .i64 (vsum l 0)) := by
 obtain ⟨h1,h2⟩ := hl
 refine ⟨⟨_,Tryz.func15,by kernel_rfl,rfl⟩,Sg Tryz.func15 rfl fun c0 hc0 => ?_⟩;simp only [go_sem,votesA,Nat.reduceSub]
 refine Run.loopV (α := Nat × Int) (fun x => x.1 ≤ l.length ∧ 0 ≤ x.2 ∧ x.2 ≤ 562949953421312 ∧ vsum l 0 = vsum (l.drop x.1) x.2) (fun x => [(3,.int .i64 x.2),(4,.int .i64 x.1)]) 0 (fun _ => []) (fun x => l.length - x.1) (0,0) ⟨Nat.zero_le _,by dsimp only;omega,by dsimp only;omega,rfl⟩ ?_ ?_
 ·simp only [go_sem,writes,junks,puts,hputs,List.filterMap_cons,List.filterMap_nil]
  (refine Weak.of (by simp [hc0]) ?_ ?_ <;> (repeat' first|exact .refl _|exact .junk _|exact .nil|exact .nil _|exact .tok _ _ _|rfl|apply WkT.cons|apply WkH.cons|apply LeB.same|apply LeB.box|apply Le1L.cons|apply Le.agg|apply Le.one))
 ·rintro ⟨k,n⟩ ⟨hI,hn0,hn1,hrd⟩ ih
  simp only [writes,junks,puts,hputs,List.filterMap_cons,List.filterMap_nil,Y6,Y7,Yk,Y5,Y3,Yd] at hI hn0 hn1 hrd ih ⊢
  by_cases hk : k < l.length
  ·obtain ⟨x,hx⟩ : ∃ x,l[k]? = some x := ⟨_,List.getElem?_eq_getElem hk⟩
   have hkk : (k : Int) < l.length := by omega
   have hxl := (h1 x (List.mem_of_getElem? hx)).2.2
   rw [drop_atK hx] at hrd
   by_cases hn : n ≤ 6100
   ·rw [vsum,if_pos hn] at hrd
    refine Rg Tryz.func15 ?_;simp only [go_sem,hx,hkk,hn,accC,List.getElem?_map,↓alt_t,↓alts_t,↓gone_tt,Nat.reduceLT,reduceCtorEq]
    (and_intros <;> try first|rfl|omega|(unfold I64;omega))
    refine ih (k + 1,n + x.value.length + 20) _ ⟨by dsimp only;omega,by dsimp only;omega,by dsimp only;omega,hrd⟩ (by dsimp only;omega) ?_
    simp only [Int.natCast_add,Int.natCast_one]
    (refine Weak.of (by simp [hc0]) ?_ ?_ <;> (repeat' first|exact .refl _|exact .junk _|exact .nil|exact .nil _|exact .tok _ _ _|rfl|apply WkT.cons|apply WkH.cons|apply LeB.same|apply LeB.box|apply Le1L.cons|apply Le.agg|apply Le.one))
   ·rw [vsum,if_neg hn] at hrd
    refine Rg Tryz.func15 ?_;simp only [go_sem,hkk,hn,↓alt_f,↓alts_t,↓gone_tt]
    rw [hrd]
    (repeat' first|exact .refl _|apply LeR.tup|apply Le.agg|constructor)
  ·obtain rfl : k = l.length := by omega
   have hkk : ¬ (l.length : Int) < l.length := by omega
   rw [List.drop_length,vsum] at hrd
   refine Rg Tryz.func15 ?_;simp only [go_sem,hkk,↓alt_f,↓alts_f,↓gone_tf]
   rw [hrd]
   (repeat' first|exact .refl _|apply LeR.tup|apply Le.agg|constructor)
theorem vsum_wide {l : List Acc} (h : wideVs l) : 0 ≤ vsum l 0 ∧ vsum l 0 ≤ 281474976716776 := ⟨vsum_ge l 0,by have := vsum_lt 281474976710656 l 0 (fun a ha => (h.1 a ha).2.2) (by omega);omega⟩
theorem few27_spec (l : Ltr) (h : WideL l) : ASpec Tryz.prog 4 [.agg (letC l)] (.bool (fewL l)) := by
 have hl := h.sum
 have x0 := let_0 l
 have x4 := let_4 l
 have x5 := let_5 l
 have x8 := let_8 l
 have x9 := let_9 l
 have x10 := let_10 l
 have x14 : ((letC l).drop 14).take 1 = [.str l.r.value] := rfl
 have x15 : ((letC l).drop 15).take 1 = [votesA l.r.proof] := rfl
 have x48 := let_48 l hl
 have x51 : ((letC l).drop 51).take 1 = [.str l.o.s] := by
  rw [show 51 = 48 + 3 from rfl,← List.drop_drop,← List.take_append_drop 8 ((letC l).drop 48),x48]
  rfl
 have x52 : ((letC l).drop 52).take 1 = [.str l.o.t] := by
  rw [show 52 = 48 + 4 from rfl,← List.drop_drop,← List.take_append_drop 8 ((letC l).drop 48),x48]
  rfl
 have x56 := let_56 l hl
 have x59 : ((letC l).drop 59).take 1 = [.str l.x.s] := by
  rw [show 59 = 56 + 3 from rfl,← List.drop_drop,← List.take_append_drop 6 ((letC l).drop 56),x56]
  rfl
 have x61 : ((letC l).drop 61).take 1 = [textsA l.x.l] := by
  rw [show 61 = 56 + 5 from rfl,← List.drop_drop,← List.take_append_drop 6 ((letC l).drop 56),x56]
  rfl
 have xlen := let_len l hl
 have hbel : ∀ n,belL n (letC l) = true := (Pln.cons (fun _ => rfl) (fun _ => rfl) (fun _ => rfl) (Pln.let_ l)).1
 have v1 := votes27_spec l.proof h.proof
 have v2 := votes27_spec l.r.proof h.r.2.2.2.2
 obtain ⟨b1,b2⟩ := vsum_wide h.proof
 obtain ⟨b3,b4⟩ := vsum_wide h.r.2.2.2.2
 have w1 := h.value
 have w2 := h.vote.2.2
 have w3 := h.r.2.2.2.1
 have w4 := h.o.2.2.2.2.2.2.1
 have w5 := h.o.2.2.2.2.2.2.2
 have w6 := h.x.2.2.2.2.1
 have w7 := h.cert.2
 have w8 := h.x.2.2.2.2.2.2
 obtain ⟨n0,hn0⟩ : ∃ n0 : Int,(l.value.length : Int) + l.vote.value.length + l.r.value.length + l.o.s.length + l.o.t.length + l.x.s.length + vsum l.proof 0 + vsum l.r.proof 0 = n0 := ⟨_,rfl⟩
 have hf : fewL l = decide (nsum l.x.l (csum l.cert n0) ≤ 12200) := by unfold fewL fewN;rw [hn0]
 rw [hf]
 clear hf
 generalize hcs : letC l = cs at *
 refine ⟨⟨_,Tryz.func4,by kernel_rfl,rfl⟩,Sg Tryz.func4 rfl fun c0 hc0 => ?_⟩;simp only [go_sem,x4,x8,x9,x14,x51,x52,x59,xlen,Nat.reduceAdd,Nat.reduceLeDiff,Nat.reduceSub]
 (and_intros <;> try first|rfl|omega|(unfold I64;omega))
 refine DOps.pure rfl .free rfl rfl (v1) (by simp only [go_sem,votesA];(repeat' first|exact .refl _|apply LeR.tup|apply Le.agg|constructor)) rfl rfl ?_
 refine Dg Tryz.func4 rfl ?_;simp only [go_sem,x15,xlen,Nat.reduceAdd,Nat.reduceLeDiff]
 (and_intros <;> try first|rfl|omega|(unfold I64;omega))
 refine DOps.pure rfl .free rfl rfl (v2) (by simp only [go_sem,votesA];(repeat' first|exact .refl _|apply LeR.tup|apply Le.agg|constructor)) rfl rfl ?_
 refine Dg Tryz.func4 rfl ?_;simp only [go_sem,hn0,Nat.reduceAdd]
 (and_intros <;> try first|rfl|omega|(unfold I64;omega))
 refine Run.loopV (α := Nat × Int) (fun x => x.1 ≤ l.cert.length ∧ 0 ≤ x.2 ∧ x.2 ≤ 4503599627370496 ∧ csum l.cert n0 = csum (l.cert.drop x.1) x.2) (fun x => [(3,.int .i64 x.2),(4,.int .i64 x.1)]) 1 (fun _ => []) (fun x => l.cert.length - x.1) (0,n0) ⟨Nat.zero_le _,by dsimp only;omega,by dsimp only;omega,rfl⟩ ?_ ?_
 ·simp only [go_sem,writes,junks,puts,hputs,List.filterMap_cons,List.filterMap_nil]
  (refine Weak.of (by simp [hc0]) ?_ ?_ <;> (repeat' first|exact .refl _|exact .junk _|exact .nil|exact .nil _|exact .tok _ _ _|rfl|apply WkT.cons|apply WkH.cons|apply LeB.same|apply LeB.box|apply Le1L.cons|apply Le.agg|apply Le.one))
  all_goals exact hbel _
 rintro ⟨k,n⟩ ⟨hI,hm0,hm1,hrd⟩ ih
 simp only [writes,junks,puts,hputs,List.filterMap_cons,List.filterMap_nil,Y6,Y7,Yg,Yj,Y5,Y3,Yd] at hI hm0 hm1 hrd ih ⊢
 have w9 := h.x.2.2.2.2.2.1
 by_cases hk : k < l.cert.length
 ·obtain ⟨x,hx⟩ : ∃ x,l.cert[k]? = some x := ⟨_,List.getElem?_eq_getElem hk⟩
  have hkk : (k : Int) < l.cert.length := by omega
  have hxw := h.cert.1 x (List.mem_of_getElem? hx)
  have hxl := hxw.2.2.2.1
  rw [drop_atK hx] at hrd
  by_cases hn : n ≤ 12200
  ·rw [csum,if_pos hn] at hrd
   have v3 := votes27_spec x.proof hxw.2.2.2.2
   obtain ⟨b5,b6⟩ := vsum_wide hxw.2.2.2.2
   refine Rg Tryz.func4 ?_;simp only [go_sem,hx,hkk,hn,rpsA,rpC,List.getElem?_map,x5,xlen,↓alt_t,↓alts_t,↓gone_tt,Nat.reduceAdd,Nat.reduceLeDiff,Nat.reduceLT,reduceCtorEq]
   (and_intros <;> try first|rfl|omega|(unfold I64;omega))
   refine DOps.pure rfl .free rfl rfl (v3) (by simp only [go_sem,votesA];(repeat' first|exact .refl _|apply LeR.tup|apply Le.agg|constructor)) rfl rfl ?_
   refine Dg Tryz.func4 rfl ?_;simp only [go_sem,Nat.reduceAdd]
   (and_intros <;> try first|rfl|omega|(unfold I64;omega))
   refine ih (k + 1,n + x.value.length + vsum x.proof 0 + 20) _ ⟨by dsimp only;omega,by dsimp only;omega,by dsimp only;omega,hrd⟩ (by dsimp only;omega) ?_
   simp only [Int.natCast_add,Int.natCast_one]
   (refine Weak.of (by simp [hc0]) ?_ ?_ <;> (repeat' first|exact .refl _|exact .junk _|exact .nil|exact .nil _|exact .tok _ _ _|rfl|apply WkT.cons|apply WkH.cons|apply LeB.same|apply LeB.box|apply Le1L.cons|apply Le.agg|apply Le.one))
   all_goals exact hbel _
  ·rw [csum,if_neg hn] at hrd
   rw [hrd]
   refine Rg Tryz.func4 ?_;simp only [go_sem,hkk,hn,rpsA,x5,xlen,↓alt_f,↓alts_t,↓gone_tt,Nat.reduceAdd,Nat.reduceLeDiff]
   refine Run.loopV (α := Nat × Int) (fun x => x.1 ≤ l.x.l.length ∧ 0 ≤ x.2 ∧ x.2 ≤ 4503599627370496 ∧ nsum l.x.l n = nsum (l.x.l.drop x.1) x.2) (fun x => [(3,.int .i64 x.2),(5,.int .i64 x.1)]) 1 (fun _ => []) (fun x => l.x.l.length - x.1) (0,n) ⟨Nat.zero_le _,by dsimp only;omega,by dsimp only;omega,rfl⟩ ?_ ?_
   ·simp only [go_sem,writes,junks,puts,hputs,List.filterMap_cons,List.filterMap_nil]
    (refine Weak.of (by simp [hc0]) ?_ ?_ <;> (repeat' first|exact .refl _|exact .junk _|exact .nil|exact .nil _|exact .tok _ _ _|rfl|apply WkT.cons|apply WkH.cons|apply LeB.same|apply LeB.box|apply Le1L.cons|apply Le.agg|apply Le.one))
    all_goals exact hbel _
   rintro ⟨k',n'⟩ ⟨hI',hm0',hm1',hrd'⟩ ih'
   simp only [writes,junks,puts,hputs,List.filterMap_cons,List.filterMap_nil,Y6,Y7,Yg,Yk,Y5,Y3,Yd] at hI' hm0' hm1' hrd' ih' ⊢
   by_cases hk' : k' < l.x.l.length
   ·obtain ⟨y,hy⟩ : ∃ y,l.x.l[k']? = some y := ⟨_,List.getElem?_eq_getElem hk'⟩
    have hkk' : (k' : Int) < l.x.l.length := by omega
    have hyl := w9 y (List.mem_of_getElem? hy)
    rw [drop_atK hy] at hrd'
    by_cases hn' : n' ≤ 12200
    ·rw [nsum,if_pos hn'] at hrd'
     refine Rg Tryz.func4 ?_;simp only [go_sem,hy,hkk',hn',textsA,textC,List.getElem?_map,x61,xlen,↓alt_t,↓alts_t,↓gone_tt,Nat.reduceAdd,Nat.reduceLT]
     (and_intros <;> try first|rfl|omega|(unfold I64;omega))
     refine ih' (k' + 1,n' + y.length + 9) _ ⟨by dsimp only;omega,by dsimp only;omega,by dsimp only;omega,hrd'⟩ (by dsimp only;omega) ?_
     simp only [Int.natCast_add,Int.natCast_one]
     (refine Weak.of (by simp [hc0]) ?_ ?_ <;> (repeat' first|exact .refl _|exact .junk _|exact .nil|exact .nil _|exact .tok _ _ _|rfl|apply WkT.cons|apply WkH.cons|apply LeB.same|apply LeB.box|apply Le1L.cons|apply Le.agg|apply Le.one))
     all_goals exact hbel _
    ·rw [nsum,if_neg hn'] at hrd'
     refine Rg Tryz.func4 ?_;simp only [go_sem,hkk',hn',textsA,x61,xlen,↓alt_f,↓alts_t,↓gone_tt,Nat.reduceAdd]
     rw [hrd',decide_eq_false hn']
     (repeat' first|exact .refl _|apply LeR.tup|apply Le.agg|constructor)
   ·obtain rfl : k' = l.x.l.length := by omega
    have hkk' : ¬ (l.x.l.length : Int) < l.x.l.length := by omega
    rw [List.drop_length,nsum] at hrd'
    refine Rg Tryz.func4 ?_;simp only [go_sem,hkk',textsA,x61,xlen,↓alt_f,↓alts_f,↓gone_tf,Nat.reduceAdd]
    rw [hrd']
    (repeat' first|exact .refl _|apply LeR.tup|apply Le.agg|constructor)
 ·obtain rfl : k = l.cert.length := by omega
  have hkk : ¬ (l.cert.length : Int) < l.cert.length := by omega
  rw [List.drop_length,csum] at hrd
  rw [hrd]
  refine Rg Tryz.func4 ?_;simp only [go_sem,hkk,rpsA,x5,xlen,↓alt_f,↓alts_f,↓gone_tf,Nat.reduceAdd,Nat.reduceLeDiff]
  refine Run.loopV (α := Nat × Int) (fun x => x.1 ≤ l.x.l.length ∧ 0 ≤ x.2 ∧ x.2 ≤ 4503599627370496 ∧ nsum l.x.l n = nsum (l.x.l.drop x.1) x.2) (fun x => [(3,.int .i64 x.2),(5,.int .i64 x.1)]) 1 (fun _ => []) (fun x => l.x.l.length - x.1) (0,n) ⟨Nat.zero_le _,by dsimp only;omega,by dsimp only;omega,rfl⟩ ?_ ?_
  ·simp only [go_sem,writes,junks,puts,hputs,List.filterMap_cons,List.filterMap_nil]
   (refine Weak.of (by simp [hc0]) ?_ ?_ <;> (repeat' first|exact .refl _|exact .junk _|exact .nil|exact .nil _|exact .tok _ _ _|rfl|apply WkT.cons|apply WkH.cons|apply LeB.same|apply LeB.box|apply Le1L.cons|apply Le.agg|apply Le.one))
   all_goals exact hbel _
  rintro ⟨k',n'⟩ ⟨hI',hm0',hm1',hrd'⟩ ih'
  simp only [writes,junks,puts,hputs,List.filterMap_cons,List.filterMap_nil,Y6,Y7,Yg,Yk,Y5,Y3,Yd] at hI' hm0' hm1' hrd' ih' ⊢
  by_cases hk' : k' < l.x.l.length
  ·obtain ⟨y,hy⟩ : ∃ y,l.x.l[k']? = some y := ⟨_,List.getElem?_eq_getElem hk'⟩
   have hkk' : (k' : Int) < l.x.l.length := by omega
   have hyl := w9 y (List.mem_of_getElem? hy)
   rw [drop_atK hy] at hrd'
   by_cases hn' : n' ≤ 12200
   ·rw [nsum,if_pos hn'] at hrd'
    refine Rg Tryz.func4 ?_;simp only [go_sem,hy,hkk',hn',textsA,textC,List.getElem?_map,x61,xlen,↓alt_t,↓alts_t,↓gone_tt,Nat.reduceAdd,Nat.reduceLT]
    (and_intros <;> try first|rfl|omega|(unfold I64;omega))
    refine ih' (k' + 1,n' + y.length + 9) _ ⟨by dsimp only;omega,by dsimp only;omega,by dsimp only;omega,hrd'⟩ (by dsimp only;omega) ?_
    simp only [Int.natCast_add,Int.natCast_one]
    (refine Weak.of (by simp [hc0]) ?_ ?_ <;> (repeat' first|exact .refl _|exact .junk _|exact .nil|exact .nil _|exact .tok _ _ _|rfl|apply WkT.cons|apply WkH.cons|apply LeB.same|apply LeB.box|apply Le1L.cons|apply Le.agg|apply Le.one))
    all_goals exact hbel _
   ·rw [nsum,if_neg hn'] at hrd'
    refine Rg Tryz.func4 ?_;simp only [go_sem,hkk',hn',textsA,x61,xlen,↓alt_f,↓alts_t,↓gone_tt,Nat.reduceAdd]
    rw [hrd',decide_eq_false hn']
    (repeat' first|exact .refl _|apply LeR.tup|apply Le.agg|constructor)
  ·obtain rfl : k' = l.x.l.length := by omega
   have hkk' : ¬ (l.x.l.length : Int) < l.x.l.length := by omega
   rw [List.drop_length,nsum] at hrd'
   refine Rg Tryz.func4 ?_;simp only [go_sem,hkk',textsA,x61,xlen,↓alt_f,↓alts_f,↓gone_tf,Nat.reduceAdd]
   rw [hrd']
   (repeat' first|exact .refl _|apply LeR.tup|apply Le.agg|constructor)
def frz (w : World) (b o : Nat) : Prop := ∃ vs e f v,w.heap[b]? = some (.cells vs e f) ∧ f.1 ≤ o ∧ o < f.2 ∧ vs[o]? = some v ∧ ∀ n,v ≠ .int .u8 n
def Cx.top (w : World) : Cx := ⟨fun _ => none,[],w,frz w⟩
theorem Cx.top_rel (w : World) : RelH (Cx.top w) :=
 ⟨fun i j x y b h => by simp [Cx.top] at h,fun i x b h => by simp [Cx.top] at h,fun i x h => by simp [Cx.top] at h,
  fun b o h => by
  obtain ⟨vs,e,f,v,h1,_⟩ := h
  exact ⟨(Array.getElem?_eq_some_iff.1 h1).1,fun i x h => by simp [Cx.top] at h⟩,
  fun b vs e f hh o v h1 h2 hx hv => Classical.byContradiction fun hn => hx ⟨vs,e,f,v,hh,h1,h2,hv,fun n hv' => hn ⟨n,hv'⟩⟩⟩
theorem Cx.top_im {w : World} {b o : Nat} (h : b < w.heap.size) (hf : w.frozen? ⟨b,o,none⟩ = false) : (Cx.top w).im b o :=
 ⟨h,fun hx => by
  obtain ⟨vs,e,f,v,h1,h2,h3,_⟩ := hx
  unfold World.frozen? at hf
  simp only [h1] at hf
  simp at hf
  exact absurd (hf h2) (by omega),fun i x h => by simp [Cx.top] at h⟩
theorem TRel.nil {c : Cx} : TRel c #[] [] := ⟨rfl,fun i v x h => by simp at h⟩
theorem TRel.cons {c : Cx} {v : Value} {x : AV} {vs : List Value} {xs : List AV} (h : RV c v x) (t : TRel c vs.toArray xs) : TRel c (v :: vs).toArray (x :: xs) := by
 refine ⟨by have := t.1;simpa using this,fun i u y hu hy => ?_⟩
 cases i with
 | zero => simp at hu hy;subst hu hy;exact h
 | succ i => exact t.2 i u y (by simpa using hu) (by simpa using hy)
theorem law_top {P : Program} {f : FuncId} {args : List AV} {v : Bool} (h : ASpec P f args (.bool v)) (w : World) (vs : Array Value) (ht : TRel (Cx.top w) vs args) : Calls P f vs w fun e w' => e = .returned (.bool v) ∧ Below w.heap.size w w' := by
 refine (h.run (Cx.top w) vs rfl (Cx.top_rel w) ht).mono ?_
 rintro e w' ⟨u,ρ',r,h',rfl,g1,g2,g3,hle⟩
 have hv := hle.rv g3
 cases hv
 refine ⟨rfl,g2.os,g2.tape,g2.output,g2.size,fun b hb => (g2.fr b hb ?_).1⟩
 rintro ⟨i,x,hx,_⟩;simp [Cx.top] at hx
end Go.Proofs.YtkamcoechjdgpaaGreat
namespace Go.Proofs.YtkamcoechjdgpaaGreat
open Go.ChangeShapes Go.WideShapes Go.ChangeAt Go.RowKit Go.Deep
/-! ### out of an argument's reading -/
def InReach {H : Type} (P : Program) (t : TypeId) (d : DataW H) : Prop := ∀ n ∈ d.weights P t,n ≤ reachBytes
theorem inReach_all {H : Type} {P : Program} {e : TypeId} {d : DataW H} : ∀ {ds : List (DataW H)},d ∈ ds → (∀ n ∈ DataW.weightsAll P e ds,n ≤ reachBytes) → InReach P e d
 | d0 :: ds,h,hr => by
  rcases List.mem_cons.1 h with rfl|h
  ·exact fun n hn => hr n (by simp only [DataW.weightsAll,List.mem_append];exact Or.inl hn)
  ·exact inReach_all h fun n hn => hr n (by simp only [DataW.weightsAll,List.mem_append];exact Or.inr hn)
theorem inReach_slice {H : Type} {P : Program} {t e : TypeId} {els sp : List (DataW H)} (ht : P.underlying t = some (.slice e)) (h : InReach P t (.slice els sp)) :
  (els.length + sp.length) * P.bytesOf e ≤ reachBytes ∧ ∀ d ∈ els,InReach P e d := by
 unfold InReach at h
 simp only [DataW.weights,ht,List.mem_cons,List.mem_append] at h
 exact ⟨h _ (Or.inl rfl),fun d hd => inReach_all hd fun n hn => h n (Or.inr (Or.inl hn))⟩
section
variable {P : Program}
theorem i64_lim {n : Int} (h : (Lit.int .i64 n).wf = true) : -9223372036854775808 ≤ n ∧ n ≤ 9223372036854775807 := by
 simp [Lit.wf,IntKind.min,IntKind.max,IntKind.signed,IntKind.bits] at h
 omega
end
end Go.Proofs.YtkamcoechjdgpaaGreat
namespace Go.Proofs.YtkamcoechjdgpaaGreat
open Go.ChangeShapes Go.WideShapes Go.ChangeAt Go.RowKit Go.Deep
structure Agree (Z : Nat → Prop) (w w' : World) : Prop where
 os : w'.os = w.os
 tape : w'.tape = w.tape
 output : w'.output = w.output
 size : w.heap.size ≤ w'.heap.size
 block : ∀ k,k < w.heap.size → Z k → w'.heap[k]? = w.heap[k]?
section
variable {Z Z' : Nat → Prop} {a b c w w' : World}
end
structure ZRep (α : Type) where
 at_ : (Nat → Prop) → World → List Value → α → Prop
 mono : ∀ {Z Z' : Nat → Prop} {w cs a},(∀ k,Z k → Z' k) → at_ Z w cs a → at_ Z' w cs a
 stable : ∀ {Z w w' cs a},Agree Z w w' → at_ Z w cs a → at_ Z w' cs a
 narrow : ∀ {Z w cs a},at_ Z w cs a → at_ (fun k => Z k ∧ k < w.heap.size) w cs a
def SlZ {α : Type} (R : ZRep α) (k : Nat) (Z : Nat → Prop) (w : World) (A : Option Addr) (l : List α) : Prop :=
 l ≠ [] → ∃ b o,A = some ⟨b,o,none⟩ ∧ Z b ∧ b < w.heap.size ∧ ∀ (j : Nat) a,l[j]? = some a → ∃ cs,cs.length = k ∧ R.at_ Z w cs a ∧ ∀ i u,cs[i]? = some u → w.cell? ⟨b,o + j * k + i,none⟩ = some u
section
variable {α : Type} {R : ZRep α} {k : Nat} {Z Z' : Nat → Prop} {w w' : World} {A : Option Addr} {l : List α}
end
section
variable {α : Type} {p : List Value → α → Prop} {k B : Nat} {Z : Nat → Prop} {w w' : World} {A : Option Addr} {l : List α}
end
end Go.Proofs.YtkamcoechjdgpaaGreat
namespace Go.Proofs.YtkamcoechjdgpaaGreat
open Go.ChangeShapes Go.WideShapes Go.ChangeAt Go.RowKit Go.Deep
theorem inReach_each {H : Type} {P : Program} : ∀ {ts : List TypeId} {ds : List (DataW H)} {i : Nat} {t : TypeId} {d : DataW H},ts[i]? = some t → ds[i]? = some d → (∀ n ∈ DataW.weightsEach P ts ds,n ≤ reachBytes) → InReach P t d
 | t0 :: ts,d0 :: ds,0,t,d,ht,hd,h => by
  simp at ht hd
  subst ht hd
  exact fun n hn => h n (by simp only [DataW.weightsEach,List.mem_append];exact Or.inl hn)
 | t0 :: ts,d0 :: ds,i + 1,t,d,ht,hd,h => inReach_each (ts := ts) (ds := ds) (i := i) (by simpa using ht) (by simpa using hd) fun n hn => h n (by simp only [DataW.weightsEach,List.mem_append];exact Or.inr hn)
 | [],_,_,_,_,ht,_,_ => by simp at ht
 | _ :: _,[],_,_,_,_,hd,_ => by simp at hd
section
variable {P : Program} {H : Type} {enc : TypeId × Value → H} {w : World} {base : Nat} {sp : Nat → Bool} {hd : Bool} {t : TypeId}
end
end Go.Proofs.YtkamcoechjdgpaaGreat
namespace Go.Proofs.YtkamcoechjdgpaaGreat
open Go.ChangeShapes Go.WideShapes Go.ChangeAt Go.RowKit Go.Deep
structure RdAt (w : World) (cs : List Value) (cl : List AV) : Prop where
 len : cl.length = cs.length
 pl : ∀ (i : Nat) a,cl[i]? = some a → a.plain = true
 rv : ∀ (i : Nat) v a,cs[i]? = some v → cl[i]? = some a → RV (Cx.top w) v a
def Reads (P : Program) (e : TypeId) (E : List AV → Prop) : Prop :=
 ∀ {H : Type} (enc : TypeId × Value → H) (w : World) (base : Nat) (sp : Nat → Bool) (hd : Bool) (n : Nat) (cs : List Value) (x : DataW H × List MemPlace),DataW.trod enc P w base sp hd n e cs = some x → InReach P e x.1 → w.noneFrozen x.2 → ∃ cl,RdAt w cs cl ∧ E cl
theorem Reads.mono {P : Program} {e : TypeId} {E E' : List AV → Prop} (h : Reads P e E) (hE : ∀ cl,E cl → E' cl) : Reads P e E' := fun enc w base sp hd n cs x h1 h2 h3 => by
 obtain ⟨cl,g1,g2⟩ := h enc w base sp hd n cs x h1 h2 h3
 exact ⟨cl,g1,hE cl g2⟩
theorem nfSub {w : World} {p q : List MemPlace} (h : w.noneFrozen p) (hs : ∀ x ∈ q,x ∈ p) : w.noneFrozen q := fun b o hm => h b o (hs _ hm)
theorem RdAt.nil {w : World} : RdAt w [] [] := ⟨rfl,fun i a h => by simp at h,fun i v a h => by simp at h⟩
theorem RdAt.one {w : World} {v : Value} {a : AV} (hp : a.plain = true) (h : RV (Cx.top w) v a) : RdAt w [v] [a] := by
 refine ⟨rfl,fun i b hb => ?_,fun i u b hu hb => ?_⟩
 ·cases i with
  | zero => simp at hb;subst hb;exact hp
  | succ i => simp at hb
 ·cases i with
  | zero => simp at hu hb;subst hu hb;exact h
  | succ i => simp at hu
theorem RdAt.app {w : World} {c1 c2 : List Value} {a1 a2 : List AV} (h1 : RdAt w c1 a1) (h2 : RdAt w c2 a2) : RdAt w (c1 ++ c2) (a1 ++ a2) := by
 refine ⟨by simp [h1.len,h2.len],fun i a ha => ?_,fun i v a hv ha => ?_⟩
 ·rw [List.getElem?_append] at ha
  split at ha
  ·exact h1.pl i a ha
  ·exact h2.pl _ a ha
 ·rw [List.getElem?_append] at ha hv
  rw [h1.len] at ha
  split at ha
  ·rename_i hl;rw [if_pos hl] at hv;exact h1.rv i v a hv ha
  ·rename_i hl;rw [if_neg hl] at hv;exact h2.rv _ v a hv ha
section
variable {P : Program}
theorem reads_int {e : TypeId} {k : IntKind} (he : P.underlying e = some (.int k)) : Reads P e fun cl => ∃ n,cl = [.int k n] ∧ (Lit.int k n).wf = true := fun _ _ _ _ _ _ _ _ h hr _ => by
 obtain ⟨n,rfl,_,hw⟩ := DataW.trod_int he h
 exact ⟨_,RdAt.one rfl (.int k n),n,rfl,hw⟩
theorem reads_bool {e : TypeId} (he : P.underlying e = some .bool) : Reads P e fun cl => ∃ b,cl = [.bool b] := fun _ _ _ _ _ _ _ _ h hr _ => by
 obtain ⟨b,rfl,_⟩ := DataW.trod_bool he h
 exact ⟨_,RdAt.one rfl (.bool b),b,rfl⟩
theorem reads_str {e : TypeId} (he : P.underlying e = some .string) : Reads P e fun cl => ∃ s : Bytes,cl = [.str s] ∧ s.length ≤ reachBytes := fun _ _ _ _ _ _ _ _ h hr _ => by
 obtain ⟨s,rfl,rfl,hs⟩ := DataW.trod_string he h
 exact ⟨_,RdAt.one rfl (.str s _ rfl),s.data.toList,rfl,hr _ (by simp [DataW.weights])⟩
theorem wf64 {n : Int} (h : (Lit.int .i64 n).wf = true) : I64 n := by
 have := i64_lim h
 unfold I64
 omega
theorem reads_byte {e : TypeId} (he : P.underlying e = some (.int .u8)) : Reads P e fun cl => ∃ c,cl = byteC c := fun _ _ _ _ _ _ _ _ h hr _ => by
 obtain ⟨n,rfl,_,hw⟩ := DataW.trod_int he h
 simp [Lit.wf,IntKind.min,IntKind.max,IntKind.signed,IntKind.bits] at hw
 obtain ⟨m,rfl⟩ := Int.eq_ofNat_of_zero_le hw.1
 have hm : m < 256 := by omega
 refine ⟨_,RdAt.one rfl (.int .u8 m),UInt8.ofNat m,?_⟩
 simp [byteC,Nat.mod_eq_of_lt hm]
theorem reads_slice {E : List AV → Prop} {t e : TypeId} {k bytes : Nat} (ht : P.underlying t = some (.slice e)) (hk : P.cellsOf e = k) (hby : P.bytesOf e = bytes) (hk0 : 0 < k) (hR : Reads P e E) :
  Reads P t fun cl => ∃ l,cl = [.sl k l .no] ∧ (∀ x ∈ l,E x) ∧ l.length * bytes ≤ reachBytes := fun enc w base sp hd n cs x h hr hz => by
 subst hk
 rcases open_slice ht h with ⟨rfl,_⟩|⟨ad,len,cap,m,n',D,Pl,rfl,_,hlc,hcm,hm,rfl,hi⟩
 ·refine ⟨_,RdAt.one rfl (.sl (P.cellsOf e) [] .no none 0 0 0 0 (fun _ _ => undef) rfl (Nat.le_refl _) (Nat.zero_le _) (fun h => absurd rfl h) (fun j e h => by simp at h) (fun j e i a h => by simp at h) (fun j e i a h => by simp at h) trivial),[],rfl,by simp,by simp⟩
 ·have hlm : len ≤ m := by rw [hm];split <;> omega
  obtain ⟨hw,hel⟩ := inReach_slice ht hr
  rw [hby] at hw
  simp only [Yo,List.length_range] at hw
  have hex : ∀ i,i < len → ∃ a,∃ cs',w.cells? base (ad.add (i * P.cellsOf e)) (P.cellsOf e) = some cs' ∧ RdAt w cs' a ∧ E a := fun i hl => by
   obtain ⟨cs',hc,ht'⟩ := hi i (by omega)
   obtain ⟨a,ha,hE⟩ := hR enc w base sp hd n' cs' _ ht' (hel _ (List.mem_map.2 ⟨i,List.mem_range.2 hl,rfl⟩)) (nfSub hz fun y hy => List.mem_append_right _ (List.mem_flatMap.2 ⟨i,List.mem_range.2 (by omega),hy⟩))
   exact ⟨a,cs',hc,ha,hE⟩
  have hlist : ∀ m',m' ≤ len → ∃ l : List (List AV),l.length = m' ∧ ∀ i a,l[i]? = some a → ∃ cs',w.cells? base (ad.add (i * P.cellsOf e)) (P.cellsOf e) = some cs' ∧ RdAt w cs' a ∧ E a := by
   intro m'
   induction m' with
   | zero => exact fun _ => ⟨[],rfl,fun i a h => by simp at h⟩
   | succ q ih =>
    intro hq
    obtain ⟨l,hl,hg⟩ := ih (by omega)
    obtain ⟨a,ha⟩ := hex q (by omega)
    refine ⟨l ++ [a],by simp [hl],fun i b hb => ?_⟩
    rw [List.getElem?_append] at hb
    split at hb
    ·exact hg i b hb
    ·rename_i hge
     have : i = q := by
      have := (List.getElem?_eq_some_iff.1 hb).1
      simp at this
      omega
     subst this
     simp [hl] at hb
     subst hb
     exact ha
  obtain ⟨l,hl,hg⟩ := hlist len (Nat.le_refl _)
  have hmem : ∀ x ∈ l,E x := fun x hx => by
   obtain ⟨i,hi⟩ := List.mem_iff_getElem?.1 hx
   obtain ⟨_,_,_,h⟩ := hg i x hi
   exact h
  obtain ⟨b,o,sp'⟩ := ad
  have hsp0 : l ≠ [] → sp' = none := fun hne => by
   obtain ⟨a0,ha0⟩ : ∃ a,l[0]? = some a := ⟨l[0]'(List.length_pos_iff.2 hne),List.getElem?_eq_getElem _⟩
   obtain ⟨cs0,hc0,_,_⟩ := hg 0 a0 ha0
   obtain ⟨_,hl0,hat0⟩ := World.cells?_some hc0
   have h00 := hat0 0 hk0
   have hsome : cs0[0]? = some (cs0[0]'(by omega)) := List.getElem?_eq_getElem _
   rw [hsome] at h00
   simp only [Nat.zero_mul,Addr.add,Ys] at h00
   unfold World.cell? at h00
   split at h00
   ·cases sp' with
    | none => rfl
    | some q => simp at h00
   ·cases h00
  have hadd : ∀ o i,(Addr.mk b o none).add i = ⟨b,o + i,none⟩ := fun o i => by
   unfold Addr.add;split
   ·rename_i h;subst h;rfl
   ·rfl
  have hcell : ∀ (j : Nat) a,l[j]? = some a → ∀ (i : Nat) x,a[i]? = some x → ∃ v,sp' = none ∧ b < w.heap.size ∧ w.cell? ⟨b,o + j * P.cellsOf e + i,none⟩ = some v ∧ RV (Cx.top w) v x ∧ x.plain = true ∧ a.length = P.cellsOf e := fun j a hj i x hx => by
   obtain ⟨cs',hc',hr',_⟩ := hg j a hj
   obtain ⟨_,hl',hat'⟩ := World.cells?_some hc'
   have hal : a.length = P.cellsOf e := by rw [hr'.len,hl']
   have hi' : i < P.cellsOf e := by rw [← hal];exact (List.getElem?_eq_some_iff.1 hx).1
   have hv : cs'[i]? = some (cs'[i]'(by omega)) := List.getElem?_eq_getElem _
   have hat := hat' i hi'
   rw [hv] at hat
   have hsp : sp' = none := hsp0 (fun h => by rw [h] at hj;simp at hj)
   subst hsp
   have hblt := World.block_lt_of_cell? w _ hat
   refine ⟨_,rfl,?_,?_,hr'.rv i _ x hv hx,hr'.pl i x hx,hal⟩
   ·rw [hadd,hadd] at hblt
    exact hblt
   ·rw [hadd,hadd] at hat
    exact hat
  have hzr : ∀ q,q < m * P.cellsOf e → w.frozen? ⟨b,o + q,none⟩ = false := fun q hq => hz b (o + q) (List.mem_append_left _ (MemPlace.mem_row.2 ⟨q,hq,rfl⟩))
  refine ⟨_,RdAt.one rfl (RV.sl (P.cellsOf e) l .no (some ⟨b,o,sp'⟩) len cap b o (fun j i => (w.cell? ⟨b,o + j * P.cellsOf e + i,none⟩).getD undef) hl hlc hcm ?_ ?_ ?_ ?_ trivial),l,rfl,hmem,by rw [hl];exact Nat.le_trans (Nat.mul_le_mul_right _ (Nat.le_add_right _ _)) hw⟩
  ·intro hne
   obtain ⟨a0,ha0⟩ : ∃ a,l[0]? = some a := ⟨l[0]'(List.length_pos_iff.2 hne),List.getElem?_eq_getElem _⟩
   obtain ⟨cs0,hc0,hr0,_⟩ := hg 0 a0 ha0
   obtain ⟨_,hl0,_⟩ := World.cells?_some hc0
   obtain ⟨x0,hx0⟩ : ∃ x,a0[0]? = some x := ⟨a0[0]'(by rw [hr0.len,hl0];exact hk0),List.getElem?_eq_getElem _⟩
   obtain ⟨_,rfl,_⟩ := hcell 0 a0 ha0 0 x0 hx0
   rfl
  ·intro j a hj
   obtain ⟨cs',hc',hr',_⟩ := hg j a hj
   obtain ⟨_,hl',_⟩ := World.cells?_some hc'
   rw [hr'.len,hl']
  ·intro j a i x hj hx
   obtain ⟨v,_,h1,h2,h3,h4,h5⟩ := hcell j a hj i x hx
   have hji : j * P.cellsOf e + i < m * P.cellsOf e := by
    have hj' : j < m := by have := (List.getElem?_eq_some_iff.1 hj).1;omega
    have hi' : i < P.cellsOf e := by rw [← h5];exact (List.getElem?_eq_some_iff.1 hx).1
    have := Nat.mul_le_mul_right (P.cellsOf e) (show j + 1 ≤ m by omega)
    rw [Nat.succ_mul] at this
    omega
   have hf := hzr _ hji
   rw [← Nat.add_assoc] at hf
   exact ⟨h4,Cx.top_im h1 hf,by show w.cell? _ = _;rw [h2];rfl⟩
  ·intro j a i x hj hx
   obtain ⟨v,_,h1,h2,h3,h4,_⟩ := hcell j a hj i x hx
   rw [h2]
   exact h3
def Fits (P : Program) : List Field → Nat → List (Nat × (List AV → Prop)) → Prop
 | [],_,[] => True
 | f :: fs,o,(k,E) :: Es => f.offset = o ∧ P.cellsOf f.type = k ∧ Reads P f.type E ∧ Fits P fs (o + k) Es
 | _,_,_ => False
def PartsE : List (Nat × (List AV → Prop)) → List AV → Prop
 | [],cl => cl = []
 | (_,E) :: Es,cl => ∃ a b,cl = a ++ b ∧ E a ∧ PartsE Es b
def cellsSum : List (Nat × (List AV → Prop)) → Nat
 | [] => 0
 | (k,_) :: Es => k + cellsSum Es
theorem reads_fields {H : Type} {enc : TypeId × Value → H} {w : World} {base : Nat} {sp : Nat → Bool} {hd : Bool} {n : Nat} {cs : List Value} : ∀ (fs : List Field) (o : Nat) (Es : List (Nat × (List AV → Prop))),Fits P fs o Es →
  (∀ f ∈ fs,∃ x : DataW H × List MemPlace,DataW.trod enc P w base sp hd n f.type ((cs.drop f.offset).take (P.cellsOf f.type)) = some x ∧ InReach P f.type x.1 ∧ w.noneFrozen x.2) →
  ∃ cl,RdAt w ((cs.drop o).take (cellsSum Es)) cl ∧ PartsE Es cl
 | [],o,[],_,_ => ⟨[],by simpa [cellsSum] using RdAt.nil,rfl⟩
 | f :: fs,o,(k,E) :: Es,⟨h1,h2,h3,h4⟩,h => by
  obtain ⟨x,g1,g2,g3⟩ := h f List.mem_cons_self
  obtain ⟨a,r1,e1⟩ := h3 enc w base sp hd n _ x g1 g2 g3
  obtain ⟨b,r2,e2⟩ := reads_fields fs (o + k) Es h4 fun f' hf' => h f' (List.mem_cons_of_mem _ hf')
  refine ⟨a ++ b,?_,a,b,rfl,e1,e2⟩
  rw [h1,h2] at r1
  have e : (cs.drop o).take (cellsSum ((k,E) :: Es)) = (cs.drop o).take k ++ (cs.drop (o + k)).take (cellsSum Es) := by
   rw [cellsSum,List.take_add,List.drop_drop]
  rw [e]
  exact r1.app r2
 | [],_,_ :: _,h,_ => h.elim
 | _ :: _,_,[],h,_ => h.elim
theorem reads_struct {t : TypeId} {fs : Array Field} {Es : List (Nat × (List AV → Prop))} (ht : P.underlying t = some (.struct fs)) (hF : Fits P fs.toList 0 Es) (hc : P.cellsOf t = cellsSum Es) : Reads P t (PartsE Es) := fun enc w base sp hd n cs x h hr hz => by
 obtain ⟨xs,m,_,rfl,hlen,hxl,hg⟩ := DataW.trod_struct ht h
 obtain ⟨cl,h1,h2⟩ := reads_fields (enc := enc) (w := w) (base := base) (sp := sp) (hd := hd) (n := m) (cs := cs) fs.toList 0 Es hF fun f hf => by
  obtain ⟨i,hi⟩ := List.mem_iff_getElem?.1 hf
  rw [Array.getElem?_toList] at hi
  have hil : i < xs.length := by rw [hxl];exact (Array.getElem?_eq_some_iff.1 hi).1
  have h1 := hg i f hi
  rw [List.getElem?_eq_getElem hil] at h1
  refine ⟨xs[i],h1,?_,nfSub hz fun y hy => List.mem_flatMap.2 ⟨xs[i],List.getElem_mem hil,hy⟩⟩
  unfold InReach at hr
  simp only [DataW.weights,ht] at hr
  exact inReach_each (ts := fs.toList.map (·.type)) (ds := xs.map (·.1)) (i := i) (by rw [List.getElem?_map,Array.getElem?_toList,hi];rfl) (by rw [List.getElem?_map,List.getElem?_eq_getElem hil];rfl) hr
 refine ⟨cl,?_,h2⟩
 rw [List.drop_zero,← hc,← hlen,List.take_length] at h1
 exact h1
theorem rd_struct {t : TypeId} {fs : Array Field} {H : Type} {enc : TypeId × Value → H} {w : World} {base base' : Nat} {sp : Nat → Bool} {hd : Bool} {v : Value} {d : DataW H} {p : List MemPlace} {r : Reach} {E : List AV → Prop}
  (ht : P.underlying t = some (.struct fs)) (hR : Reads P t E) (hval : Value.okWide P w r base' t v) (h : DataW.Trod enc P w base sp hd t v d p) (hr : InReach P t d) (hz : w.noneFrozen p) : ∃ cl,RV (Cx.top w) v (.agg cl) ∧ E cl := by
 obtain ⟨f,hf⟩ := h
 obtain ⟨cs,rfl,hsz⟩ := okWide_struct ht hval
 obtain ⟨cl,h1,h2⟩ := hR enc w _ _ _ _ _ _ hf hr hz
 refine ⟨cl,.agg _ _ ?_ (fun i a ha => AV.plain_cell (h1.pl i a ha)) (fun i u a hu ha => h1.rv i u a ?_ ha),h2⟩
 ·have := h1.len
  simpa [Value.cells] using this.symm
 ·simpa [Value.cells] using hu
theorem rd_slice {t e : TypeId} {H : Type} {enc : TypeId × Value → H} {w : World} {base base' : Nat} {sp : Nat → Bool} {hd : Bool} {v : Value} {d : DataW H} {p : List MemPlace} {r : Reach} {E : List AV → Prop}
  (ht : P.underlying t = some (.slice e)) (hR : Reads P t E) (hval : Value.okWide P w r base' t v) (h : DataW.Trod enc P w base sp hd t v d p) (hr : InReach P t d) (hz : w.noneFrozen p) : ∃ a,RV (Cx.top w) v a ∧ E [a] := by
 obtain ⟨f,hf⟩ := h
 obtain ⟨A,n,c,rfl⟩ := okWide_slice ht hval
 obtain ⟨cl,h1,h2⟩ := hR enc w _ _ _ _ _ _ hf hr hz
 have hl : cl.length = 1 := by have := h1.len;simpa [Value.cells] using this
 match cl,hl with
 | [a],_ => exact ⟨a,h1.rv 0 _ a (by simp [Value.cells]) rfl,h2⟩
end
theorem bytes_of {l : List (List AV)} (h : ∀ x ∈ l,∃ c,x = byteC c) : ∃ b : Bytes,l = b.map byteC := by
 induction l with
 | nil => exact ⟨[],rfl⟩
 | cons x l ih =>
  obtain ⟨c,rfl⟩ := h x List.mem_cons_self
  obtain ⟨b,rfl⟩ := ih fun y hy => h y (List.mem_cons_of_mem _ hy)
  exact ⟨c :: b,rfl⟩
theorem list_of {α : Type} {f : α → List AV} {Q : α → Prop} {l : List (List AV)} (h : ∀ x ∈ l,∃ c,x = f c ∧ Q c) : ∃ b : List α,l = b.map f ∧ ∀ c ∈ b,Q c := by
 induction l with
 | nil => exact ⟨[],rfl,by simp⟩
 | cons x l ih =>
  obtain ⟨c,rfl,hc⟩ := h x List.mem_cons_self
  obtain ⟨b,rfl,hb⟩ := ih fun y hy => h y (List.mem_cons_of_mem _ hy)
  exact ⟨c :: b,rfl,by simp;exact ⟨hc,hb⟩⟩
theorem reads_bytes {P : Program} {t e : TypeId} (ht : P.underlying t = some (.slice e)) (he : P.underlying e = some (.int .u8)) (hk : P.cellsOf e = 1) (hby : P.bytesOf e = 1) : Reads P t fun cl => ∃ b : Bytes,cl = [bytesA b] ∧ b.length ≤ reachBytes :=
 Reads.mono (reads_slice ht hk hby (by omega) (reads_byte he)) fun cl => by
  rintro ⟨l,rfl,hl,hn⟩
  obtain ⟨b,rfl⟩ := bytes_of hl
  exact ⟨b,rfl,by simpa using hn⟩
theorem law_lifted_nf {C : Checked} {os : Os} {k : FuncId} {f : Func} {s : ChangeSpec} {H : Type} {enc : TypeId × Value → H} {tb : TypeId}
  (own : ownKnob C.prog.godebug = none) (started : os.Started) (noInit : C.prog.inits.idxOf? k = none) (hfn : C.prog.funcs[k]? = some f)
  (witness : ∃ (w : World) (tape : Tape) (i : Input),w.os = os ∧ (w.forCall tape i).Shaped C.prog ∧ i.vars = [] ∧ Input.okWide C.prog (w.forCall tape i) .any w.heap.size k i ∧
   s.pre6 enc C.prog f [] false (w.forCall tape i).memory i.args ∧ Assume.holds {} C.prog (lone (Frame.enter C.prog k i.args .normal) [] (w.forCall tape i)))
  (hl : laidOutB C.prog = true) (hts : (f.params.toList.all fun t => C.prog.readableRec t && decide (t < C.prog.types.size)) = true)
  (hres : f.resultTypes = #[tb]) (hbool : C.prog.underlying tb = some .bool) (hvars : s.vars = [])
  (hspec : ∀ ds : List (DataW H),ds.length = f.params.toList.length → s.fn H ds = { results := [.lit (.bool true)],args := ds })
  (walk : ∀ (W : World) (base : Nat) (args : Array Value) (ds : List (DataW H)) (p : List MemPlace),
   (∀ (j : Nat) t v,f.params[j]? = some t → args[j]? = some v → Value.okWide C.prog W .any base t v) →
   (∀ (j : Nat) t d,f.params[j]? = some t → ds[j]? = some d → InReach C.prog t d) →
   DataW.TrodAll enc C.prog W 0 (fun _ => true) true f.params.toList args.toList ds p → (∀ x ∈ p,x.block < W.heap.size) → W.noneFrozen p →
   Calls C.prog k args W fun e W' => e = .returned (.bool true) ∧ Below W.heap.size W W') :
  ReturnsInHanded {} C os k .any (s.pre6 enc C.prog f [] false) (s.post enc C.prog f false true false false) := by
 refine returnsInHanded_of_change_sized (C := C) own started noInit hfn witness ?_
 intro W base args ds gs before hval hW _ hsz _
 have hW' := hW
 have hlt : ∀ x ∈ before,x.block < W.heap.size := fun x hx => by simpa using hW.lt x hx
 obtain ⟨p,q,hA,hV,rfl,hfz,hnd⟩ := hW
 rw [hvars] at hV
 obtain ⟨rfl,rfl⟩ := trodVars_none hV
 rw [List.append_nil] at hlt hfz
 have hlen := trodAll_length _ _ _ _ hA
 have hs := hspec ds hlen
 have hin : ∀ (j : Nat) t d,f.params[j]? = some t → ds[j]? = some d → InReach C.prog t d := fun j t d ht hd n hn => by
  have hj : j < f.params.toList.length := by
   have := (Array.getElem?_eq_some_iff.1 ht).1
   simpa using this
  have := List.all_eq_true.1 hsz n (DataW.weights_mem_each (j := j) (t := t) (d := d) (by rw [List.getElem?_append_left hj];simpa using ht) (by rw [List.append_nil];exact hd) n hn)
  simpa using this
 refine (walk W base args ds p hval hin hA hlt hfz).mono fun e W' ⟨he,hb⟩ => ⟨_,he,ds,[],p ++ [],[],p,[],hW',?_,?_,?_,hb.frame _,fun h => by cases h⟩
 ·simp only [Yd,hs,hres]
  exact trodAll_mk1 (shut_bool hbool true)
 ·simp only [Yd,hs]
  exact trodAll_below hl hb _ _ _ _ hts hA hlt
 ·rw [hvars]
  simp only [Yd,hs]
  exact (rfl : ([] : List MemPlace) = [])
end Go.Proofs.YtkamcoechjdgpaaGreat
namespace Go.Proofs.YtkamcoechjdgpaaGreat
open Go.ChangeShapes Go.WideShapes Go.ChangeAt Go.RowKit Go.Deep
theorem reads_array {P : Program} {E : List AV → Prop} {t e : TypeId} {k m : Nat} (ht : P.underlying t = some (.array m e)) (hk : P.cellsOf e = k) (hc : P.cellsOf t = m * k) (hR : Reads P e E) :
  Reads P t fun cl => ∃ cls : List (List AV),cl = cls.flatten ∧ cls.length = m ∧ ∀ x ∈ cls,E x := fun enc w base sp hd n cs x h hr hz => by
 obtain ⟨xs,q,_,rfl,hlen,hxl,hg⟩ := DataW.trod_array ht h
 unfold InReach at hr
 simp only [DataW.weights,ht] at hr
 have key : ∀ j,j ≤ m → ∃ cls : List (List AV),cls.length = j ∧ RdAt w (cs.take (j * k)) cls.flatten ∧ ∀ x ∈ cls,E x := by
  intro j
  induction j with
  | zero => exact fun _ => ⟨[],rfl,by simpa using RdAt.nil,by simp⟩
  | succ j ih =>
   intro hj
   obtain ⟨cls,h1,h2,h3⟩ := ih (by omega)
   have hjl : j < xs.length := by omega
   have h4 := hg j (by omega)
   rw [List.getElem?_eq_getElem hjl,hk] at h4
   obtain ⟨a,r1,e1⟩ := hR enc w base sp hd q _ _ h4 (inReach_all (List.mem_map.2 ⟨xs[j],List.getElem_mem hjl,rfl⟩) hr) (nfSub hz fun y hy => List.mem_flatMap.2 ⟨xs[j],List.getElem_mem hjl,hy⟩)
   refine ⟨cls ++ [a],by simp [h1],?_,fun x hx => ?_⟩
   ·have : cs.take ((j + 1) * k) = cs.take (j * k) ++ (cs.drop (j * k)).take k := by rw [Nat.succ_mul,List.take_add]
    rw [this,List.flatten_append]
    simpa using h2.app r1
   ·rcases List.mem_append.1 hx with hx|hx
    ·exact h3 x hx
    ·simp at hx;subst hx;exact e1
 obtain ⟨cls,h1,h2,h3⟩ := key m (Nat.le_refl _)
 refine ⟨cls.flatten,?_,cls,rfl,h1,h3⟩
 rw [← hc,← hlen,List.take_length] at h2
 exact h2
def intE (cl : List AV) : Prop := ∃ n,cl = [.int .i64 n] ∧ (Lit.int .i64 n).wf = true
def strE (cl : List AV) : Prop := ∃ s : Bytes,cl = [.str s] ∧ s.length ≤ reachBytes
def boolE (cl : List AV) : Prop := ∃ b,cl = [.bool b]
theorem reads_acc : Reads Tryz.prog 24 fun cl => ∃ a : Acc,cl = accC a ∧ wideA a :=
 Reads.mono (reads_struct (Es := [(1,intE),(1,intE),(1,strE)]) Tryz.underlying24
  ⟨rfl,by kernel_rfl,reads_int Tryz.underlying3,rfl,by kernel_rfl,reads_int Tryz.underlying3,rfl,by kernel_rfl,reads_str Tryz.underlying9,trivial⟩ (by kernel_rfl)) fun cl => by
  rintro ⟨_,_,rfl,⟨a,rfl,ha⟩,_,_,rfl,⟨b,rfl,hb⟩,_,_,rfl,⟨s,rfl,hs⟩,rfl⟩
  unfold reachBytes at hs
  exact ⟨⟨a,b,s⟩,rfl,wf64 ha,wf64 hb,by show s.length ≤ _;omega⟩
theorem reads_votes : Reads Tryz.prog 25 fun cl => ∃ l : List Acc,cl = [votesA l] ∧ wideVs l :=
 Reads.mono (reads_slice Tryz.underlying25 (k := 3) (bytes := 32) (by kernel_rfl) (by kernel_rfl) (by omega) reads_acc) fun cl => by
  rintro ⟨l,rfl,hl,hn⟩
  obtain ⟨b,rfl,hb⟩ := list_of hl
  unfold reachBytes at hn
  rw [List.length_map] at hn
  exact ⟨b,rfl,hb,by omega⟩
theorem reads_rp : Reads Tryz.prog 27 fun cl => ∃ r : Rp,cl = rpC r ∧ wideRp r :=
 Reads.mono (reads_struct (Es := [(1,intE),(1,intE),(1,boolE),(1,intE),(1,strE),(1,fun cl => ∃ l : List Acc,cl = [votesA l] ∧ wideVs l)]) Tryz.underlying27
  ⟨rfl,by kernel_rfl,reads_int Tryz.underlying3,rfl,by kernel_rfl,reads_int Tryz.underlying3,rfl,by kernel_rfl,reads_bool Tryz.underlying4,rfl,by kernel_rfl,reads_int Tryz.underlying3,rfl,by kernel_rfl,reads_str Tryz.underlying9,rfl,by kernel_rfl,reads_votes,trivial⟩ (by kernel_rfl)) fun cl => by
  rintro ⟨_,_,rfl,⟨a,rfl,ha⟩,_,_,rfl,⟨b,rfl,hb⟩,_,_,rfl,⟨h,rfl⟩,_,_,rfl,⟨c,rfl,hc⟩,_,_,rfl,⟨s,rfl,hs⟩,_,_,rfl,⟨l,rfl,hl⟩,rfl⟩
  unfold reachBytes at hs
  exact ⟨⟨a,b,h,c,s,l⟩,rfl,wf64 ha,wf64 hb,wf64 hc,by show s.length ≤ _;omega,hl⟩
theorem reads_rps : Reads Tryz.prog 22 fun cl => ∃ l : List Rp,cl = [rpsA l] ∧ wideRps l :=
 Reads.mono (reads_slice Tryz.underlying22 (k := 6) (bytes := 72) (by kernel_rfl) (by kernel_rfl) (by omega) reads_rp) fun cl => by
  rintro ⟨l,rfl,hl,hn⟩
  obtain ⟨b,rfl,hb⟩ := list_of hl
  unfold reachBytes at hn
  rw [List.length_map] at hn
  exact ⟨b,rfl,hb,by omega⟩
def ordE (cl : List AV) : Prop := ∃ o : Ord,cl = ordC o ∧ wideOr o
def rplE (cl : List AV) : Prop := ∃ r : Rpl,cl = rplC r ∧ wideR r
def sumE (cl : List AV) : Prop := ∃ s : Bytes,cl = sumC s ∧ s.length = 32
theorem reads_texts : Reads Tryz.prog 32 fun cl => ∃ l : List Bytes,cl = [textsA l] ∧ (∀ t ∈ l,t.length ≤ reachBytes) ∧ l.length * 16 ≤ reachBytes :=
 Reads.mono (reads_slice Tryz.underlying32 (k := 1) (bytes := 16) (by kernel_rfl) (by kernel_rfl) (by omega) (reads_str Tryz.underlying9)) fun cl => by
  rintro ⟨l,rfl,hl,hn⟩
  obtain ⟨b,rfl,hb⟩ := list_of (f := textC) (Q := fun s : Bytes => s.length ≤ reachBytes) hl
  exact ⟨b,rfl,hb,by simpa using hn⟩
theorem reads_ord : Reads Tryz.prog 30 ordE :=
 Reads.mono (reads_struct (Es := [(1,intE),(1,intE),(1,intE),(1,strE),(1,strE),(1,intE),(1,intE),(1,intE)]) Tryz.underlying30
  ⟨rfl,by kernel_rfl,reads_int Tryz.underlying3,rfl,by kernel_rfl,reads_int Tryz.underlying3,rfl,by kernel_rfl,reads_int Tryz.underlying3,rfl,by kernel_rfl,reads_str Tryz.underlying9,rfl,by kernel_rfl,reads_str Tryz.underlying9,rfl,by kernel_rfl,reads_int Tryz.underlying3,rfl,by kernel_rfl,reads_int Tryz.underlying3,rfl,by kernel_rfl,reads_int Tryz.underlying3,trivial⟩ (by kernel_rfl)) fun cl => by
  rintro ⟨_,_,rfl,⟨a,rfl,ha⟩,_,_,rfl,⟨b,rfl,hb⟩,_,_,rfl,⟨k,rfl,hk⟩,_,_,rfl,⟨s,rfl,hs⟩,_,_,rfl,⟨t,rfl,ht⟩,_,_,rfl,⟨x,rfl,hx⟩,_,_,rfl,⟨y,rfl,hy⟩,_,_,rfl,⟨z,rfl,hz⟩,rfl⟩
  unfold reachBytes at hs ht
  exact ⟨⟨a,b,k,s,t,x,y,z⟩,rfl,wf64 ha,wf64 hb,wf64 hk,wf64 hx,wf64 hy,wf64 hz,by show s.length ≤ _;omega,by show t.length ≤ _;omega⟩
theorem reads_rpl : Reads Tryz.prog 34 rplE :=
 Reads.mono (reads_struct (Es := [(1,intE),(1,intE),(1,intE),(1,strE),(1,intE),(1,fun cl => ∃ l : List Bytes,cl = [textsA l] ∧ (∀ t ∈ l,t.length ≤ reachBytes) ∧ l.length * 16 ≤ reachBytes)]) Tryz.underlying34
  ⟨rfl,by kernel_rfl,reads_int Tryz.underlying3,rfl,by kernel_rfl,reads_int Tryz.underlying3,rfl,by kernel_rfl,reads_int Tryz.underlying31,rfl,by kernel_rfl,reads_str Tryz.underlying9,rfl,by kernel_rfl,reads_int Tryz.underlying3,rfl,by kernel_rfl,reads_texts,trivial⟩ (by kernel_rfl)) fun cl => by
  rintro ⟨_,_,rfl,⟨a,rfl,ha⟩,_,_,rfl,⟨b,rfl,hb⟩,_,_,rfl,⟨e,rfl,he⟩,_,_,rfl,⟨s,rfl,hs⟩,_,_,rfl,⟨x,rfl,hx⟩,_,_,rfl,⟨l,rfl,hl,hn⟩,rfl⟩
  unfold reachBytes at hs hl hn
  exact ⟨⟨a,b,e,s,x,l⟩,rfl,wf64 ha,wf64 hb,wf64 he,wf64 hx,by show s.length ≤ _;omega,fun t ht => by have := hl t ht;omega,by show l.length ≤ _;omega⟩
theorem reads_bytes' : Reads Tryz.prog 37 fun cl => ∃ b : Bytes,cl = [bytesA b] ∧ b.length ≤ reachBytes := reads_bytes Tryz.underlying37 Tryz.underlying5 (by kernel_rfl) (by kernel_rfl)
theorem sum_of : ∀ cls : List (List AV),(∀ x ∈ cls,∃ c,x = byteC c) → ∃ s : Bytes,cls.flatten = sumC s ∧ s.length = cls.length
 | [],_ => ⟨[],rfl,rfl⟩
 | x :: cls,h => by
  obtain ⟨c,rfl⟩ := h x List.mem_cons_self
  obtain ⟨s,h1,h2⟩ := sum_of cls fun y hy => h y (List.mem_cons_of_mem _ hy)
  exact ⟨c :: s,by rw [List.flatten_cons,h1];rfl,by simp [h2]⟩
theorem reads_hash : Reads Tryz.prog 28 sumE :=
 Reads.mono (reads_array Tryz.underlying28 (k := 1) (m := 32) (by kernel_rfl) (by kernel_rfl) (reads_byte Tryz.underlying5)) fun cl => by
  rintro ⟨cls,rfl,h1,h2⟩
  obtain ⟨s,e1,e2⟩ := sum_of cls h2
  exact ⟨s,e1,by omega⟩
theorem reads_letter : Reads Tryz.prog 36 fun cl => ∃ l : Ltr,cl = letC l ∧ WideL l :=
 Reads.mono (reads_struct (Es := [(1,intE),(1,intE),(1,intE),(1,intE),(1,strE),(1,fun cl => ∃ l : List Rp,cl = [rpsA l] ∧ wideRps l),(3,fun cl => ∃ a : Acc,cl = accC a ∧ wideA a),(1,fun cl => ∃ l : List Acc,cl = [votesA l] ∧ wideVs l),(6,fun cl => ∃ r : Rp,cl = rpC r ∧ wideRp r),(32,sumE),(8,ordE),(6,rplE)]) Tryz.underlying36
  ⟨rfl,by kernel_rfl,reads_int Tryz.underlying3,rfl,by kernel_rfl,reads_int Tryz.underlying3,rfl,by kernel_rfl,reads_int Tryz.underlying3,rfl,by kernel_rfl,reads_int Tryz.underlying3,rfl,by kernel_rfl,reads_str Tryz.underlying9,
   rfl,by kernel_rfl,reads_rps,rfl,by kernel_rfl,reads_acc,rfl,by kernel_rfl,reads_votes,rfl,by kernel_rfl,reads_rp,rfl,by kernel_rfl,reads_hash,rfl,by kernel_rfl,reads_ord,rfl,by kernel_rfl,reads_rpl,trivial⟩ (by kernel_rfl)) fun cl => by
  rintro ⟨_,_,rfl,⟨k,rfl,hk⟩,_,_,rfl,⟨f,rfl,hf⟩,_,_,rfl,⟨s,rfl,hs⟩,_,_,rfl,⟨v,rfl,hv⟩,_,_,rfl,⟨x,rfl,hx⟩,_,_,rfl,⟨c,rfl,hc⟩,_,_,rfl,⟨a,rfl,ha⟩,_,_,rfl,⟨p,rfl,hp⟩,_,_,rfl,⟨r,rfl,hr⟩,_,_,rfl,⟨m,rfl,hm⟩,_,_,rfl,⟨o,rfl,ho⟩,_,_,rfl,⟨y,rfl,hy⟩,rfl⟩
  unfold reachBytes at hx
  refine ⟨⟨k,f,s,v,x,c,a,p,r,m,o,y⟩,?_,⟨wf64 hk,wf64 hf,wf64 hs,wf64 hv,by show x.length ≤ _;omega,hc,ha,hp,hr,hm,ho,hy⟩⟩
  simp [letC,letT]
end Go.Proofs.YtkamcoechjdgpaaGreat
