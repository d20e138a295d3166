/-
  Several texts in one: Bn, Bk, Bh, Bi, Bo, Bp.
-/
import Derived.Test.YtkamcoechjdgpaaGreatQb
import Derived.Lib.SlBytesConst
namespace Go.Proofs.YtkamcoechjdgpaaGreat
open Go.RowKit
mutual
def AV.unr (js : List Nat) : AV → AV
 | .ptr i o => .ptr (js.getD i 0) o
 | .eptr i k j o => .eptr (js.getD i 0) k j o
 | .msl i k o n cap => .msl (js.getD i 0) k o n cap
 | .sl k l _ => .sl k l .no
 | .agg cs => .agg (unrL js cs)
 | .tup vs => .tup (unrL js vs)
 | .psl k l => .psl k (unrLL js l)
 | .rptr cs => .rptr (unrL js cs)
 | .fn f a b => .fn f (unrL js a) (unrL js b)
 | .iface t v => .iface t (v.unr js)
 | v => v
def unrL (js : List Nat) : List AV → List AV
 | [] => []
 | a :: l => a.unr js :: unrL js l
def unrLL (js : List Nat) : List (List AV) → List (List AV)
 | [] => []
 | a :: l => unrL js a :: unrLL js l
end
mutual
def AV.inn (n : Nat) : AV → Bool
 | .ptr i _ => decide (i < n)
 | .eptr i _ _ _ => decide (i < n)
 | .msl i _ _ _ _ => decide (i < n)
 | .msu _ _ _ => false
 | .mp _ => false
 | .agg cs => innL n cs
 | .tup vs => innL n vs
 | .psl _ l => innLL n l
 | .rptr cs => innL n cs
 | .fn _ a b => innL n a && innL n b
 | .iface _ v => v.inn n
 | .cnd _ _ => false
 | _ => true
def innL (n : Nat) : List AV → Bool
 | [] => true
 | a :: l => a.inn n && innL n l
def innLL (n : Nat) : List (List AV) → Bool
 | [] => true
 | a :: l => innL n a && innLL n l
end
theorem unrL_get (js : List Nat) : ∀ (l : List AV) (i : Nat),(unrL js l)[i]? = (l[i]?).map (AV.unr js)
 | [],i => by simp [unrL]
 | a :: l,i => by
  cases i with
  | zero => simp [unrL]
  | succ i => simpa [unrL] using unrL_get js l i
theorem unrLL_get (js : List Nat) : ∀ (l : List (List AV)) (i : Nat),(unrLL js l)[i]? = (l[i]?).map (unrL js)
 | [],i => by simp [unrLL]
 | a :: l,i => by
  cases i with
  | zero => simp [unrLL]
  | succ i => simpa [unrLL] using unrLL_get js l i
theorem unrL_len (js : List Nat) : ∀ l : List AV,(unrL js l).length = l.length
 | [] => rfl
 | a :: l => by simp [unrL,unrL_len js l]
theorem unrLL_len (js : List Nat) : ∀ l : List (List AV),(unrLL js l).length = l.length
 | [] => rfl
 | a :: l => by simp [unrLL,unrLL_len js l]
theorem innL_get {n : Nat} : ∀ {l : List AV},innL n l = true → ∀ (i : Nat) a,l[i]? = some a → a.inn n = true
 | [],_,i,a,h => by simp at h
 | b :: l,h,i,a,ha => by
  simp only [innL,Bool.and_eq_true] at h
  cases i with
  | zero => simp at ha;subst ha;exact h.1
  | succ i => exact innL_get h.2 i a (by simpa using ha)
theorem innLL_get {n : Nat} : ∀ {l : List (List AV)},innLL n l = true → ∀ (i : Nat) a,l[i]? = some a → innL n a = true
 | [],_,i,a,h => by simp at h
 | b :: l,h,i,a,ha => by
  simp only [innLL,Bool.and_eq_true] at h
  cases i with
  | zero => simp at ha;subst ha;exact h.1
  | succ i => exact innLL_get h.2 i a (by simpa using ha)
theorem AV.unr_cell (js : List Nat) (a : AV) : (a.unr js).cell = a.cell := by cases a <;> rfl
theorem AV.unr_plain {a : AV} (h : a.plain = true) (js : List Nat) : a.unr js = a := by
 cases a with
 | sl k l t => cases t with|no => rfl|own i => cases h
 | _ => first|rfl|cases h
theorem AV.plain_inn {a : AV} (h : a.plain = true) (n : Nat) : a.inn n = true := by
 cases a with
 | sl k l t => rfl
 | _ => first|rfl|cases h
theorem RV.unr {c c' : Cx} {js : List Nat} {n : Nat} (hkn : ∀ i,i < n → c'.known (js.getD i 0) ∧ c'.ρ (js.getD i 0) = c.ρ i ∧ ∀ x,c'.h[js.getD i 0]? = some x → x.istok = false) (him : ∀ b o,c.im b o → c'.im b o ∧ c'.w.cell? ⟨b,o,none⟩ = c.w.cell? ⟨b,o,none⟩) {v : Value} {a : AV} (h : RV c v a) (ha : a.inn n = true) : RV c' v (a.unr js) := by
 induction h with
 | int k n => exact .int k n
 | bool b => exact .bool b
 | str s l h => exact .str s l h
 | nilp => exact .nilp
 | ptr i o b hk hb ht =>
  obtain ⟨g1,g2,g3⟩ := hkn i (by simpa [AV.inn] using ha)
  exact .ptr _ o b g1 (g2.trans hb) g3
 | rptr cs b o vs hc _ ih =>
  simp only [AV.inn] at ha
  refine .rptr _ b o vs (fun i a hi => ?_) (fun i a hi => ?_)
  ·rw [unrL_get,Option.map_eq_some_iff] at hi
   obtain ⟨a0,ha0,rfl⟩ := hi
   obtain ⟨h1,h2,h3⟩ := hc i a0 ha0
   exact ⟨by rw [AV.unr_cell];exact h1,(him _ _ h2).1,(him _ _ h2).2.trans h3⟩
  ·rw [unrL_get,Option.map_eq_some_iff] at hi
   obtain ⟨a0,ha0,rfl⟩ := hi
   exact ih i a0 ha0 (innL_get ha i a0 ha0)
 | sl k l t A m cap b o vs hn hcap hm hA hk hc _ ht ih =>
  refine .sl k l .no A m cap b o vs hn hcap hm hA hk (fun j e i a he hi => ?_) (fun j e i a he hi => ?_) trivial
  ·obtain ⟨h1,h2,h3⟩ := hc j e i a he hi
   exact ⟨h1,(him _ _ h2).1,(him _ _ h2).2.trans h3⟩
  ·have hp := (hc j e i a he hi).1
   have := ih j e i a he hi (AV.plain_inn hp n)
   rwa [AV.unr_plain hp] at this
 | psl k l A m cap b o vs hn hcap hm hA hk hc _ ih =>
  simp only [AV.inn] at ha
  refine .psl k _ A m cap b o vs (by rw [unrLL_len];exact hn) hcap hm (fun h => hA (by rintro rfl;exact h rfl)) (fun j e he => ?_) (fun j e i a he hi => ?_) (fun j e i a he hi => ?_)
  ·rw [unrLL_get,Option.map_eq_some_iff] at he
   obtain ⟨e0,he0,rfl⟩ := he
   rw [unrL_len];exact hk j e0 he0
  ·rw [unrLL_get,Option.map_eq_some_iff] at he
   obtain ⟨e0,he0,rfl⟩ := he
   rw [unrL_get,Option.map_eq_some_iff] at hi
   obtain ⟨a0,ha0,rfl⟩ := hi
   obtain ⟨h1,h2,h3⟩ := hc j e0 i a0 he0 ha0
   exact ⟨by rw [AV.unr_cell];exact h1,(him _ _ h2).1,(him _ _ h2).2.trans h3⟩
  ·rw [unrLL_get,Option.map_eq_some_iff] at he
   obtain ⟨e0,he0,rfl⟩ := he
   rw [unrL_get,Option.map_eq_some_iff] at hi
   obtain ⟨a0,ha0,rfl⟩ := hi
   exact ih j e0 i a0 he0 ha0 (innL_get (innLL_get ha j e0 he0) i a0 ha0)
 | nils => exact .nils
 | agg vs cs hs hc _ ih =>
  simp only [AV.inn] at ha
  refine .agg vs _ (by rw [unrL_len];exact hs) (fun i a hi => ?_) fun i v a hv hi => ?_
  ·rw [unrL_get,Option.map_eq_some_iff] at hi
   obtain ⟨a0,ha0,rfl⟩ := hi
   rw [AV.unr_cell];exact hc i a0 ha0
  ·rw [unrL_get,Option.map_eq_some_iff] at hi
   obtain ⟨a0,ha0,rfl⟩ := hi
   exact ih i v a0 hv ha0 (innL_get ha i a0 ha0)
 | tup vs cs hs _ ih =>
  simp only [AV.inn] at ha
  refine .tup vs _ (by rw [unrL_len];exact hs) fun i v a hv hi => ?_
  rw [unrL_get,Option.map_eq_some_iff] at hi
  obtain ⟨a0,ha0,rfl⟩ := hi
  exact ih i v a0 hv ha0 (innL_get ha i a0 ha0)
 | fn f v1 v2 a1 a2 h1 h2 _ _ r1 r2 =>
  simp only [AV.inn,Bool.and_eq_true] at ha
  refine .fn f v1 v2 _ _ (by rw [unrL_len];exact h1) (by rw [unrL_len];exact h2) (fun i v a hv hi => ?_) (fun i v a hv hi => ?_)
  ·rw [unrL_get,Option.map_eq_some_iff] at hi
   obtain ⟨a0,ha0,rfl⟩ := hi
   exact r1 i v a0 hv ha0 (innL_get ha.1 i a0 ha0)
  ·rw [unrL_get,Option.map_eq_some_iff] at hi
   obtain ⟨a0,ha0,rfl⟩ := hi
   exact r2 i v a0 hv ha0 (innL_get ha.2 i a0 ha0)
 | nilf => exact .nilf
 | iface t v a _ ih => simp only [AV.inn] at ha;exact .iface t v _ (ih ha)
 | nilI => exact .nilI
 | mp i b hk hb ht => cases ha
 | nilm => exact .nilm
 | msl i k o m cap b o' hk hb ht h1 h2 h3 =>
  obtain ⟨g1,g2,g3⟩ := hkn i (by simpa [AV.inn] using ha)
  exact .msl _ k o m cap b o' g1 (g2.trans hb) g3 h1 h2 h3
 | msu i k m cap b hk hb ht h1 h2 h3 => cases ha
 | eptr i k j o b hk hb ht =>
  obtain ⟨g1,g2,g3⟩ := hkn i (by simpa [AV.inn] using ha)
  exact .eptr _ k j o b g1 (g2.trans hb) g3
 | cnd g v a _ ih => cases ha
 | junk v => exact .junk v
section
variable {c : Cx} {js : List Nat}
theorem ACall.lendP {P : Program} {f : FuncId} {args args' : List AV} {h : List ABlk} {R : AV → List ABlk → Prop} {js : List Nat} {XS YS : List ABlk} {res : AV} (hj : js.Nodup) (hXS : js.map (fun i => (h[i]?).getD .dead) = XS) (hX : ∀ i ∈ js,∃ x,h[i]? = some x ∧ LentB x) (hY : ∀ y ∈ YS,LentB y) (hlen : YS.length = js.length)
  (hin : amongL js args' = true) (hle : LeL (renL js args') args) (H : BSpec P f args XS YS res) (hres : res.inn js.length = true) (hR : R (res.unr js) (putBack h js YS)) : ACall P f args' h R := by
 intro c vs hch hc ht
 subst hch
 have hrel := Cx.lend_rel hc hj hX
 refine (H.run (c.lend js) vs hXS hrel (hle.rel (renL_rel hX ht hin))).mono ?_
 rintro e w' ⟨v,ρ',r,h',rfl,g1,g2,g3,hle,hwk⟩
 have hil : ∀ i ∈ js,i < c.h.length := fun i hi => by obtain ⟨x,hx,_⟩ := hX i hi;exact (List.getElem?_eq_some_iff.1 hx).1
 have hmut : ∀ b,(c.lend js).mutb b → ∃ i ∈ js,c.ρ i = some b := by
  rintro b ⟨q,x,hx,_,hb⟩
  obtain ⟨i,h1,h2,h3,h4⟩ := Cx.lend_get hX hx
  exact ⟨i,List.mem_of_getElem? h1,h4.symm.trans hb⟩
 have hsz : c.w.heap.size ≤ w'.heap.size := g2.size
 have hold : ∀ b,b < c.w.heap.size → (∀ i ∈ js,c.ρ i ≠ some b) → w'.heap[b]? = c.w.heap[b]? := fun b hb h1 => (g2.fr b hb fun hm => by obtain ⟨i,hi,e⟩ := hmut b hm;exact h1 i hi e).1
 have hget : ∀ (q : Nat) x,(putBack c.h js YS)[q]? = some x → (∃ p,js[p]? = some q ∧ YS[p]? = some x) ∨ (q ∉ js ∧ c.h[q]? = some x) := fun q x hx => by
  by_cases hq : q ∈ js
  ·obtain ⟨p,hp⟩ := List.getElem?_of_mem hq
   have hpl : p < YS.length := by rw [hlen];exact (List.getElem?_eq_some_iff.1 hp).1
   have e := putBack_in js YS c.h hj hp (List.getElem?_eq_getElem hpl) (hil q hq)
   rw [hx] at e
   exact .inl ⟨p,hp,by rw [List.getElem?_eq_getElem hpl];exact e.symm⟩
  ·rw [putBack_out js YS c.h hq] at hx
   exact .inr ⟨hq,hx⟩
 have hoth : ∀ (q : Nat) x b,q ∉ js → c.h[q]? = some x → x.live = true → c.ρ q = some b → ∀ i ∈ js,c.ρ i ≠ some b := fun q x b h1 hx hl hb i hi e => by
  obtain ⟨y,hy,hyl⟩ := hX i hi
  have := hc.inj q i x y b hx hy hl hyl.live hb e
  subst this
  exact h1 hi
 have hnx : ∀ b o,c.X b o → ∀ i ∈ js,c.ρ i ≠ some b := fun b o hX' i hi e => by
  obtain ⟨y,hy,hyl⟩ := hX i hi
  exact (hc.xs b o hX').2 i _ hy hyl.live e
 have him0 : ∀ b o,c.im b o → ∀ i ∈ js,c.ρ i ≠ some b := fun b o h i hi e => by
  obtain ⟨y,hy,hyl⟩ := hX i hi
  exact hyl.fix o (h.2.2 i _ hy e)
 -- the callee's blocks lie where the caller's lie
 have hsame : ∀ (p q : Nat) y,js[p]? = some q → YS[p]? = some y → ρ' p = c.ρ q ∧ ∃ z,h'[p]? = some z ∧ LeB 0 z y := fun p q y hp hy => by
  obtain ⟨x,hx,hxl⟩ := hX q (List.mem_of_getElem? hp)
  have h0 : (c.lend js).h[p]? = some x := by simp [Cx.lend,hp,hx]
  obtain ⟨z,hz,hzl⟩ := hwk.get p y hy
  obtain ⟨y',k1,k2,k3,k4⟩ := g2.id p x h0 hxl.free
  exact ⟨(k3 hxl.tok).2.trans (by simp [Cx.lend,hp]),z,hz,hzl⟩
 have hdead : ∀ (q : Nat) x b o,(putBack c.h js YS)[q]? = some x → c.ρ q = some b → ((∃ i ∈ js,c.ρ i = some b) ∨ c.im b o) → q ∉ js → x.fix o := fun q x b o hx hb hcase hq => by
  rcases hget q x hx with ⟨p,hp,_⟩|⟨h1,hx'⟩
  ·exact absurd (List.mem_of_getElem? hp) hq
  ·by_cases hl : x.live = true
   ·rcases hcase with ⟨i,hi,h⟩|h
    ·exact absurd h (hoth q x b h1 hx' hl hb i hi)
    ·exact h.2.2 q x hx' hb
   ·cases x <;> first|exact absurd rfl hl|trivial
 have hev : Ev c ⟨c.ρ,putBack c.h js YS,w',c.X⟩ := by
  refine ⟨g2.os,g2.tape,g2.output,hsz,rfl,fun b o h => ⟨⟨Nat.lt_of_lt_of_le h.1 hsz,h.2.1,fun q x hx hb => ?_⟩,cell_of_block (hold b h.1 (him0 b o h))⟩,fun b hb hm => ⟨hold b hb (fun i hi e => ?_),?_⟩,by rw [putBack_len];exact Nat.le_refl _,fun q x hx hf => ?_,g2.keep,Uw.back (fun _ _ h => h.1) (fun b o hx hb => ⟨hb,fun hm => hm.2.1 hx,hnx b o hx⟩) (fun b hb x hx => by
   by_cases e : ∃ i ∈ js,c.ρ i = some b
   ·obtain ⟨i,hi,e⟩ := e
    obtain ⟨y,hy,hyl⟩ := hX i hi
    obtain ⟨vs,t,hh⟩ := hyl.cells (hc.blk i _ hy) e
    obtain ⟨vs',q1,_⟩ := g2.keep b vs t (0,0) hh
    rw [q1] at hx;cases hx;exact .inr (OkObj.cells _ _)
   ·exact .inl (by rw [← hold b hb fun i hi h => e ⟨i,hi,h⟩];exact hx)) g2.uw⟩
  ·by_cases hq : q ∈ js
   ·exact absurd hb (him0 b o h q hq)
   ·exact hdead q x b o hx hb (.inr h) hq
  ·obtain ⟨y,hy,hyl⟩ := hX i hi
   exact hm ⟨i,_,hy,hyl.live,e⟩
  ·rintro ⟨q,x,hx,hl,hb⟩
   rcases hget q x hx with ⟨p,hp,_⟩|⟨_,hx'⟩
   ·obtain ⟨y,hy,hyl⟩ := hX q (List.mem_of_getElem? hp)
    exact hm ⟨q,y,hy,hyl.live,hb⟩
   ·exact hm ⟨q,x,hx',hl,hb⟩
  ·by_cases hq : q ∈ js
   ·obtain ⟨p,hp⟩ := List.getElem?_of_mem hq
    have hpl : p < YS.length := by rw [hlen];exact (List.getElem?_eq_some_iff.1 hp).1
    have hyb := hY _ (List.getElem_mem hpl)
    exact ⟨YS[p],putBack_in js YS c.h hj hp (List.getElem?_eq_getElem hpl) (hil q hq),hyb.free,fun _ => ⟨hyb.tok,rfl⟩,fun k n' e => absurd e (hyb.notok k n')⟩
   ·refine ⟨x,by show (putBack c.h js YS)[q]? = _;rw [putBack_out js YS c.h hq];exact hx,hf,fun ht => ⟨ht,rfl⟩,fun k n e => ⟨n,e,.inr ⟨rfl,rfl,fun b hb => ?_⟩⟩⟩
    exact hold b (hc.here q x b hx hb) (hoth q x b hq hx (by rw [e];rfl) hb)
 have him' : ∀ b o,(Cx.mk ρ' h' w' (c.lend js).X).im b o → (Cx.mk c.ρ (putBack c.h js YS) w' c.X).im b o := fun b o h => by
  have hx2 : ¬ (b < c.w.heap.size ∧ ¬ c.im b o ∧ ∀ i ∈ js,c.ρ i ≠ some b) := h.2.1
  refine ⟨h.1,fun hX' => hx2 ⟨(hc.xs b o hX').1,fun hm => hm.2.1 hX',hnx b o hX'⟩,fun q x hx hb => ?_⟩
  rcases hget q x hx with ⟨p,hp,hy⟩|⟨hq,hx'⟩
  ·obtain ⟨k1,z,k2,k3⟩ := hsame p q x hp hy
   have := h.2.2 p z k2 (k1.trans hb)
   exact (k3.same_kind.2.2.2.1 o).2 this
  ·refine hdead q x b o hx hb ?_ hq
   have hql : q < c.h.length := (List.getElem?_eq_some_iff.1 hx').1
   have hlt := hc.here q _ b hx' hb
   by_cases e1 : ∃ i ∈ js,c.ρ i = some b
   ·exact .inl e1
   ·exact .inr (Classical.byContradiction fun hn => hx2 ⟨hlt,hn,fun i hi e => e1 ⟨i,hi,e⟩⟩)
 have hxf : ∀ {v : Value} {a : AV},RV ⟨ρ',h',w',(c.lend js).X⟩ v a → a.bel 0 = true → RV ⟨c.ρ,putBack c.h js YS,w',c.X⟩ v a := fun h ha =>
  h.xfer (n := 0) (fun b o h => ⟨him' b o h,rfl⟩) (fun i hi => absurd hi (Nat.not_lt_zero i)) (fun i b hi => absurd hi (Nat.not_lt_zero i)) ha
 have hkn : ∀ i,i < js.length → (Cx.mk c.ρ (putBack c.h js YS) w' c.X).known (js.getD i 0) ∧ c.ρ (js.getD i 0) = ρ' i ∧ ∀ x,(putBack c.h js YS)[js.getD i 0]? = some x → x.istok = false := fun i hi => by
  have hjs : js[i]? = some (js.getD i 0) := by rw [List.getD_eq_getElem?_getD,List.getElem?_eq_getElem hi];rfl
  have hyi : i < YS.length := by omega
  have hys : YS[i]? = some YS[i] := List.getElem?_eq_getElem hyi
  have hb := putBack_in js YS c.h hj hjs hys (hil _ (List.mem_of_getElem? hjs))
  have hyb := hY _ (List.getElem_mem hyi)
  exact ⟨⟨_,hb,hyb.free⟩,(hsame i _ _ hjs hys).1.symm,fun x hx => by rw [hb] at hx;cases hx;exact hyb.tok⟩
 refine ⟨v,c.ρ,res.unr js,putBack c.h js YS,rfl,?_,hev,(hle.rv g3).unr hkn (fun b o h => ⟨him' b o h,rfl⟩) hres,hR⟩
 refine ⟨fun q r x y b hx hy lx ly hb hb' => ?_,fun q x b hx hb => ?_,fun q x hx => ?_,fun b o hX' => ⟨Nat.lt_of_lt_of_le (hc.xs b o hX').1 hsz,fun q x hx hl hb => ?_⟩,hev.uw hc.uw⟩
 ·have key : ∀ (q : Nat) x,(putBack c.h js YS)[q]? = some x → x.live = true → ∃ y,c.h[q]? = some y ∧ y.live = true := fun q x hx hl => by
   rcases hget q x hx with ⟨p,hp,_⟩|⟨_,hx'⟩
   ·obtain ⟨y,hy,hyl⟩ := hX q (List.mem_of_getElem? hp)
    exact ⟨y,hy,hyl.live⟩
   ·exact ⟨x,hx',hl⟩
  obtain ⟨x',hx',lx'⟩ := key q x hx lx
  obtain ⟨y',hy',ly'⟩ := key r y hy ly
  exact hc.inj q r x' y' b hx' hy' lx' ly' hb hb'
 ·have hql : q < c.h.length := by have := (List.getElem?_eq_some_iff.1 hx).1;simpa [putBack_len] using this
  exact Nat.lt_of_lt_of_le (hc.here q _ b (List.getElem?_eq_getElem hql) hb) hsz
 ·rcases hget q x hx with ⟨p,hp,hy⟩|⟨h1,hx'⟩
  ·obtain ⟨k1,z,k2,k3⟩ := hsame p q x hp hy
   have hb := k3.blk (g1.blk p z k2)
   rcases hY x (List.mem_of_getElem? hy) with ⟨cs,rfl,hcs⟩|⟨k,L,rfl,hL⟩
   ·obtain ⟨b,us,e,q1,q2,q3,q4⟩ := hb
    exact ⟨b,us,e,k1.symm.trans q1,q2,q3,fun m a ha => by
     obtain ⟨z1,u,z2,z3⟩ := q4 m a ha
     exact ⟨z1,u,z2,hxf z3 (belL_get hcs m a ha)⟩⟩
   ·obtain ⟨b,us,e,q1,q2,q3,q4⟩ := hb
    exact ⟨b,us,e,k1.symm.trans q1,q2,q3,fun j x m a hx ha => by
     obtain ⟨u,z2,z3⟩ := q4 j x m a hx ha
     exact ⟨u,z2,hxf z3 (belL_get (belLL_get hL j x hx) m a ha)⟩⟩
  ·exact (hc.blk q x hx').mono hev rfl fun b hl hb => hold b (hc.here q x b hx' hb) (hoth q x b h1 hx' hl hb)
 ·rcases hget q x hx with ⟨p,hp,_⟩|⟨_,hx'⟩
  ·obtain ⟨y,hy,hyl⟩ := hX q (List.mem_of_getElem? hp)
   exact (hc.xs b o hX').2 q y hy hyl.live hb
  ·exact (hc.xs b o hX').2 q x hx' hl hb
end
theorem putBack_same : ∀ {js : List Nat} {XS : List ABlk} {h : List ABlk},LentAll h js XS → putBack h js XS = h
 | [],XS,h,_ => by simp [putBack]
 | i :: js,XS,h,hX => by
  obtain ⟨h1,h2⟩ := hX
  obtain ⟨x,hx,hl⟩ := h2 i List.mem_cons_self
  rw [List.map_cons,hx] at h1
  subst h1
  rw [putBack]
  have e : h.set i ((some x).getD .dead) = h := by
   apply List.ext_getElem?
   intro q
   rw [List.getElem?_set]
   by_cases hq : i = q
   ·subst hq
    obtain ⟨g1,g2⟩ := List.getElem?_eq_some_iff.1 hx
    simp [g1,g2]
   ·rw [if_neg hq]
  rw [e]
  exact putBack_same ⟨rfl,fun j hj => h2 j (List.mem_cons_of_mem _ hj)⟩
section
variable {P : Program} {f : FuncId} {c0 : Cx} {R : AV → List ABlk → Prop} {ops : Array Oper} {n sl : Nat} {o : Oper} {rest : List Oper} {fp : List (List Nat × List Nat)} {k : List Item} {s : AState}
theorem Ops.callP (hw : Wanted ops s.t o.guard true) {x : Operand} {as : Array Operand} {ts : Array TypeId} (hop : o.op = .call { callee := .value x,args := as,argTypes := ts }) {g : FuncId} {fi ca : List AV} (hx : aev s.t x = .fn (.func g) fi ca)
  {js : List Nat} {args : List AV} {XS : List ABlk} {res : AV} (hj : js.Nodup) (hX : LentAll s.h js XS) (hY : ∀ y ∈ XS,LentB y) (hlen : XS.length = js.length) (hin : amongL js (fi ++ as.toList.map (aev s.t) ++ ca) = true) (hle : LeL (renL js (fi ++ as.toList.map (aev s.t) ++ ca)) args) (H : BSpec P g args XS XS res) (hres : res.inn js.length = true)
  (h : Ops P f c0 R ops (n + 1) rest k ⟨aput s.t o.dst (res.unr js),s.h⟩) : Ops P f c0 R ops n (o :: rest) k s :=
 Ops.call hw hop hx H.fn (ACall.lendP hj hX.1 hX.2 hY hlen hin hle H hres (by rw [putBack_same hX];exact h))
theorem DOps.callP (ho : ops[n]? = some o) (hw : Wanted ops s.t o.guard true) {x : Operand} {as : Array Operand} {ts : Array TypeId} (hop : o.op = .call { callee := .value x,args := as,argTypes := ts }) {g : FuncId} {fi ca : List AV} (hx : aev s.t x = .fn (.func g) fi ca)
  {js : List Nat} {args : List AV} {XS : List ABlk} {res : AV} (hj : js.Nodup) (hX : LentAll s.h js XS) (hY : ∀ y ∈ XS,LentB y) (hlen : XS.length = js.length) (hin : amongL js (fi ++ as.toList.map (aev s.t) ++ ca) = true) (hle : LeL (renL js (fi ++ as.toList.map (aev s.t) ++ ca)) args) (H : BSpec P g args XS XS res) (hres : res.inn js.length = true)
  (h : DOps P f c0 R ops (n + 1) (sl + 1) rest (fp ++ [(js,[])]) k ⟨aput s.t o.dst (res.unr js),s.h⟩) : DOps P f c0 R ops n sl (o :: rest) fp k s :=
 DOps.cons (e := ⟨res.unr js,[],js⟩) (sl' := sl + 1) (StepOk.call ho hw hop hx H.fn _ fun h' hh => ACall.lendP hj (hX.congr hh).1 (hX.congr hh).2 hY hlen hin hle H hres ⟨rfl,by rw [putBack_same (hX.congr hh)];rfl⟩) h
end
def junkAt : List Nat → List AV → List AV
 | [],t => t
 | j :: js,t => junkAt js (t.set j .junk)
theorem TRel.junk {c : Cx} {vs : Array Value} {t : List AV} (h : TRel c vs t) (j : Nat) : TRel c vs (t.set j .junk) := by
 refine ⟨by simp [h.1],fun m v a hv ha => ?_⟩
 by_cases hm : j = m
 ·subst hm
  rw [List.getElem?_set] at ha
  simp only [Ys] at ha
  split at ha
  ·cases ha;exact .junk v
  ·cases ha
 ·rw [List.getElem?_set_ne hm] at ha
  exact h.2 m v a hv ha
theorem TRel.junkAt {c : Cx} {vs : Array Value} : ∀ (js : List Nat) {t : List AV},TRel c vs t → TRel c vs (junkAt js t)
 | [],_,h => h
 | j :: js,_,h => TRel.junkAt js (h.junk j)
theorem Weak.junk {P : Program} {c0 : Cx} {s : AState} (js : List Nat) : Weak P c0 s ⟨junkAt js s.t,s.h⟩ := ⟨fun ρ _ _ h1 h2 h3 => ⟨ρ,h1,h2,h3.junkAt js⟩⟩
theorem cut_at {P G : Prop} (k : P → G) (c : P) : G := k c
section
variable {P : Program} {f : FuncId} {c0 : Cx} {R : AV → List ABlk → Prop} {ops : Array Oper} {m : Nat} {o1 o2 : Oper} {rest : List Oper} {k : List Item} {s : AState}
end
theorem Ops.junk {P : Program} {f : FuncId} {c0 : Cx} {R : AV → List ABlk → Prop} {k : List Item} {s : AState} {ops : Array Oper} {n : Nat} {rest : List Oper} (js : List Nat) (h : Ops P f c0 R ops n rest k ⟨junkAt js s.t,s.h⟩) : Ops P f c0 R ops n rest k s :=
 ⟨fun hd ρ w a g1 g2 g3 g4 => h.h hd ρ w a g1 g2 (g3.junkAt js) g4⟩
theorem Ops.buildZ {P : Program} {f : FuncId} {c0 : Cx} {R : AV → List ABlk → Prop} {k : List Item} {s : AState} {ops : Array Oper} {m : Nat} {o : Oper} {rest : List Oper} {T : TabT} (hT : TabOk P T) {e : Nat} {ti ei : TI} (hw : Wanted ops s.t o.guard true) (ho : o.op = .build e #[]) (hti : T e = some ti) {n : Nat} (hs : ti.sort = .arr n) (he : T ti.elem = some ei) (h : Ops P f c0 R ops (m + 1) rest k ⟨aput s.t o.dst (.agg ti.zero),s.h⟩) : Ops P f c0 R ops m (o :: rest) k s := by
 refine ⟨fun hdr ρ w a g1 g2 g3 g4 => ?_⟩
 obtain ⟨ho',hd'⟩ := range'_cons hdr
 rw [List.length_cons,List.range'_succ]
 obtain ⟨dst,op,ty,pos,after,guard⟩ := o
 simp only at ho
 subst ho
 have ht := hT _ _ hti
 obtain ⟨d,hd,hso⟩ := ht.desc
 unfold sortOk at hso
 rw [hs] at hso
 subst hso
 obtain ⟨it,z,hi1,hi2,hi3,hi4,hi5,hi6⟩ := ht.info
 obtain ⟨ie,z',he1,_⟩ := (hT _ _ he).info
 have hb : P.built e [] = some z.cells := by
  unfold Program.built
  simp only [hi1,hd,hi4,he1]
  rfl
 have hrun : (Instr.build e #[]).run P w = .ok (.agg z.cells) w := run_build w e #[] z.cells hb
 have hv : RV ⟨ρ,s.h,w,c0.X⟩ (.agg z.cells) (.agg ti.zero) := by
  refine .agg z.cells ti.zero hi5 (fun j x hx => ?_) (fun j v x hv hx => (hi6 j v x hv hx).2 _)
  have hj : j < z.cells.size := by rw [hi5];exact (List.getElem?_eq_some_iff.1 hx).1
  exact AV.plain_cell (hi6 j z.cells[j] x (Array.getElem?_eq_getElem hj) hx).1
 exact (h.h hd' ρ w _ g1 g2 (g3.put dst hv) (by cases dst <;> exact g4)).step fun bb cs _ => step_value (P := P) ho' (hw.ok g3) (by simp [execOp,Sem.run_bind,hrun]) (.inl rfl)
section
variable {P : Program} {f : FuncId}
def LentT (x : ABlk) : Prop := (∃ k L,x = .rows k L ∧ belLL 0 L = true) ∨ ∃ k n,x = .tok k n
theorem LentT.cells {c : Cx} {i b : Nat} {x : ABlk} (h : LentT x) (hb : BlkOk c i x) (e : c.ρ i = some b) : ∃ vs t,c.w.heap[b]? = some (.cells vs t (0,0)) := by
 rcases h with ⟨k,L,rfl,_⟩|⟨k,n,rfl⟩
 ·obtain ⟨b',vs,t,q1,q2,_⟩ := hb
  rw [e] at q1;cases q1
  exact ⟨vs,t,q2⟩
 ·exact hb b e
theorem LentT.live {x : ABlk} (h : LentT x) : x.live = true := by rcases h with ⟨k,L,rfl,_⟩|⟨k,n,rfl⟩ <;> rfl
theorem LentT.free {x : ABlk} (h : LentT x) : x.isfree = false := by rcases h with ⟨k,L,rfl,_⟩|⟨k,n,rfl⟩ <;> rfl
section
variable {c : Cx} {i : Nat} {X0 : ABlk}
theorem Cx.one_relT (hc : RelH c) (hi : c.h[i]? = some X0) (hX : LentT X0) : RelH (c.one i) := by
 refine ⟨fun q r x y b hx hy _ _ hb hb' => ?_,fun q x b hx hb => ?_,fun q x hx => ?_,fun b o h => ⟨h.1,fun q x hx _ hb => ?_⟩,hc.uw.sub fun b o hx hb => ⟨hb,fun hm => hm.2.1 hx,(hc.xs b o hx).2 i _ hi hX.live⟩⟩
 ·obtain ⟨rfl,_⟩ := Cx.one_get hi q x hx
  obtain ⟨rfl,_⟩ := Cx.one_get hi r y hy
  rfl
 ·obtain ⟨rfl,rfl⟩ := Cx.one_get hi q x hx
  exact hc.here i _ b hi (by simpa [Cx.one] using hb)
 ·obtain ⟨rfl,rfl⟩ := Cx.one_get hi q x hx
  have hb := hc.blk i _ hi
  rcases hX with ⟨k,L,rfl,hL⟩|⟨k,n,rfl⟩
  ·obtain ⟨b,vs,e,h1,h2,h3,h4⟩ := hb
   exact ⟨b,vs,e,by simpa [Cx.one] using h1,h2,h3,fun q x m a hx ha => by
    obtain ⟨v,g1,g2⟩ := h4 q x m a hx ha
    exact ⟨v,g1,Cx.one_xfer hi g2 (belL_get (belLL_get hL q x hx) m a ha)⟩⟩
  ·intro b h
   exact hb b (by simpa [Cx.one] using h)
 ·obtain ⟨rfl,rfl⟩ := Cx.one_get hi q x hx
  exact h.2.2 (by simpa [Cx.one] using hb)
theorem OneA.rvT (hi : c.h[i]? = some X0) (hX : LentT X0) {a b : AV} (h : OneA i a b) {v : Value} (hv : RV c v a) : RV (c.one i) v b := by
 have h0 : (c.one i).h[0]? = some X0 := by simp [Cx.one,hi]
 have hkn : (c.one i).known 0 := ⟨X0,h0,hX.free⟩
 cases h with
 | le h hb => exact Cx.one_xfer hi (h.rv hv) hb
 | msu k n =>
  cases hv with
  | msu _ _ _ cap b hk hb ht h1 h2 h3 =>
   refine .msu 0 k n cap b hkn (by simpa [Cx.one] using hb) (fun x hx => ?_) h1 h2 h3
   rw [h0] at hx
   cases hx
   exact ht _ hi
 | own k l =>
  cases hv with
  | sl _ _ _ A n cap b o vs hn hcap hm hA hk hc hr ht =>
   refine .sl k l _ A n cap b o vs hn hcap hm hA hk (fun j e m a he ha => ?_) (fun j e m a he ha => Cx.one_xfer hi (hr j e m a he ha) (AV.plain_bel (hc j e m a he ha).1 0)) ⟨hkn,fun k' n' e => ?_⟩
   ·obtain ⟨g1,g2,g3⟩ := hc j e m a he ha
    exact ⟨g1,Cx.one_im hi g2,g3⟩
   ·rw [h0] at e
    cases e
    obtain ⟨_,g⟩ := ht
    obtain ⟨q1,q2,q3⟩ := g _ _ hi
    refine ⟨q1,q2,fun e => ?_⟩
    rcases q3 e with q|⟨b,vs,e',w1,w2,w3,w4⟩
    ·exact .inl q
    ·exact .inr ⟨b,vs,e',by simpa [Cx.one] using w1,w2,w3,w4⟩
theorem OneL.relT (hi : c.h[i]? = some X0) (hX : LentT X0) {as bs : List AV} (h : OneL i as bs) : ∀ {vs : Array Value},TRel c vs as → TRel (c.one i) vs bs := by
 have len : ∀ {as bs},OneL i as bs → as.length = bs.length := by
  intro as bs h
  induction h with
  | nil => rfl
  | cons _ _ ih => simp [ih]
 have get : ∀ {as bs},OneL i as bs → ∀ (j : Nat) b,bs[j]? = some b → ∃ a,as[j]? = some a ∧ OneA i a b := by
  intro as bs h
  induction h with
  | nil => intro j b h;simp at h
  | cons h _ ih =>
   intro j b hb
   cases j with
   | zero => simp at hb;subst hb;exact ⟨_,rfl,h⟩
   | succ j => obtain ⟨a,h1,h2⟩ := ih j b (by simpa using hb);exact ⟨a,by simpa using h1,h2⟩
 intro vs hv
 refine ⟨by rw [hv.1,len h],fun j v b hv' hb => ?_⟩
 obtain ⟨a,h1,h2⟩ := get h j b hb
 exact h2.rvT hi hX (hv.2 j v a hv' h1)
end
theorem ACall.oneT {args args' : List AV} {h : List ABlk} {R : AV → List ABlk → Prop} {i : Nat} {X0 : ABlk} {res : AV} (hi : h[i]? = some X0) (hX : LentT X0)
  (H : ACall P f args [X0] fun r _ => LeR r res) (hres : res.bel 0 = true) (harg : OneL i args' args) (hR : R res (h.set i .dead)) : ACall P f args' h R := by
 intro c vs hch hc ht
 subst hch
 have hrel := Cx.one_relT hc hi hX
 refine (H (c.one i) vs (by simp [Cx.one,hi]) hrel (harg.relT hi hX ht)).mono ?_
 rintro e w' ⟨v,ρ',r,h',rfl,g1,g2,g3,hle⟩
 have hil : i < c.h.length := (List.getElem?_eq_some_iff.1 hi).1
 have hmut : ∀ b,(c.one i).mutb b → c.ρ i = some b := by
  rintro b ⟨q,x,hx,_,hb⟩
  obtain ⟨rfl,rfl⟩ := Cx.one_get hi q x hx
  simpa [Cx.one] using hb
 have hsz : c.w.heap.size ≤ w'.heap.size := g2.size
 have hold : ∀ b,b < c.w.heap.size → c.ρ i ≠ some b → w'.heap[b]? = c.w.heap[b]? := fun b hb h1 => (g2.fr b hb fun hm => h1 (hmut b hm)).1
 have hget : ∀ (q : Nat) x,(c.h.set i .dead)[q]? = some x → (q = i ∧ x = .dead) ∨ (q ≠ i ∧ c.h[q]? = some x) := fun q x hx => by
  by_cases hq : q = i
  ·subst hq
   rw [List.getElem?_set_self hil] at hx
   exact .inl ⟨rfl,(Option.some.inj hx).symm⟩
  ·rw [List.getElem?_set_ne (Ne.symm hq)] at hx
   exact .inr ⟨hq,hx⟩
 have hoth : ∀ (q : Nat) x b,q ≠ i → c.h[q]? = some x → x.live = true → c.ρ q = some b → c.ρ i ≠ some b := fun q x b h1 hx hl hb e => h1 (hc.inj q i x _ b hx hi hl hX.live hb e)
 have hnx : ∀ b o,c.X b o → c.ρ i ≠ some b := fun b o hX' e => (hc.xs b o hX').2 i _ hi hX.live e
 have hdead : ∀ (q : Nat) x b o,(c.h.set i .dead)[q]? = some x → c.ρ q = some b → (c.ρ i = some b ∨ c.im b o) → x.fix o := fun q x b o hx hb hcase => by
  rcases hget q x hx with ⟨_,rfl⟩|⟨h1,hx'⟩
  ·trivial
  ·by_cases hl : x.live = true
   ·rcases hcase with h|h
    ·exact absurd h (hoth q x b h1 hx' hl hb)
    ·exact h.2.2 q x hx' hb
   ·cases x <;> first|exact absurd rfl hl|trivial
 have hev : Ev c ⟨c.ρ,c.h.set i .dead,w',c.X⟩ := by
  refine ⟨g2.os,g2.tape,g2.output,hsz,rfl,fun b o h => ⟨⟨Nat.lt_of_lt_of_le h.1 hsz,h.2.1,fun q x hx hb => hdead q x b o hx hb (.inr h)⟩,(g2.im b o (Cx.one_im hi h)).2⟩,fun b hb hm => ⟨hold b hb (fun e => hm ⟨i,_,hi,hX.live,e⟩),?_⟩,by simp,fun q x hx hf => ?_,g2.keep,Uw.back (fun _ _ h => h.1) (fun b o hx hb => ⟨hb,fun hm => hm.2.1 hx,hnx b o hx⟩) (fun b hb x hx => by
   by_cases e : c.ρ i = some b
   ·obtain ⟨vs,t,hh⟩ := hX.cells (hc.blk i _ hi) e
    obtain ⟨vs',q1,_⟩ := g2.keep b vs t (0,0) hh
    rw [q1] at hx;cases hx;exact .inr (OkObj.cells _ _)
   ·exact .inl (by rw [← hold b hb e];exact hx)) g2.uw⟩
  ·rintro ⟨q,x,hx,hl,hb⟩
   rcases hget q x hx with ⟨_,rfl⟩|⟨_,hx'⟩
   ·cases hl
   ·exact hm ⟨q,x,hx',hl,hb⟩
  ·by_cases hq : q = i
   ·subst hq
    rw [hi] at hx
    cases hx
    exact ⟨.dead,List.getElem?_set_self hil,rfl,fun ht => ⟨rfl,rfl⟩,fun k n e => by cases e⟩
   ·refine ⟨x,by rw [List.getElem?_set_ne (Ne.symm hq)];exact hx,hf,fun ht => ⟨ht,rfl⟩,fun k n e => ⟨n,e,.inr ⟨rfl,rfl,fun b hb => ?_⟩⟩⟩
    exact hold b (hc.here q x b hx hb) (hoth q x b hq hx (by rw [e];rfl) hb)
 refine ⟨v,c.ρ,res,c.h.set i .dead,rfl,?_,hev,?_,hR⟩
 ·refine ⟨fun q r x y b hx hy lx ly hb hb' => ?_,fun q x b hx hb => ?_,fun q x hx => ?_,fun b o hX' => ⟨Nat.lt_of_lt_of_le (hc.xs b o hX').1 hsz,fun q x hx hl hb => ?_⟩,hev.uw hc.uw⟩
  ·rcases hget q x hx with ⟨_,rfl⟩|⟨_,hx'⟩
   ·cases lx
   ·rcases hget r y hy with ⟨_,rfl⟩|⟨_,hy'⟩
    ·cases ly
    ·exact hc.inj q r x y b hx' hy' lx ly hb hb'
  ·have hql : q < c.h.length := by have := (List.getElem?_eq_some_iff.1 hx).1;simpa using this
   exact Nat.lt_of_lt_of_le (hc.here q _ b (List.getElem?_eq_getElem hql) hb) hsz
  ·rcases hget q x hx with ⟨_,rfl⟩|⟨h1,hx'⟩
   ·trivial
   ·exact (hc.blk q x hx').mono hev rfl fun b hl hb => hold b (hc.here q x b hx' hb) (hoth q x b h1 hx' hl hb)
  ·rcases hget q x hx with ⟨_,rfl⟩|⟨_,hx'⟩
   ·cases hl
   ·exact (hc.xs b o hX').2 q x hx' hl hb
 ·refine RV.xfer (c := ⟨ρ',h',w',(c.one i).X⟩) (c2 := ⟨c.ρ,c.h.set i .dead,w',c.X⟩) (n := 0) (fun b o h => ⟨⟨h.1,?_,fun q x hx hb => ?_⟩,rfl⟩) (fun i hi => absurd hi (Nat.not_lt_zero i)) (fun i b hi => absurd hi (Nat.not_lt_zero i)) (hle.rv g3) hres
  ·intro hX'
   have h2 := (hc.xs b o hX').1
   have hx2 : ¬ (b < c.w.heap.size ∧ ¬ c.im b o ∧ c.ρ i ≠ some b) := by have := h.2.1;rw [g2.x] at this;exact this
   exact hx2 ⟨h2,fun hm => hm.2.1 hX',hnx b o hX'⟩
  ·have hx2 : ¬ (b < c.w.heap.size ∧ ¬ c.im b o ∧ c.ρ i ≠ some b) := by have := h.2.1;rw [g2.x] at this;exact this
   refine hdead q x b o hx hb ?_
   have hql : q < c.h.length := by have := (List.getElem?_eq_some_iff.1 hx).1;simpa using this
   have hlt := hc.here q _ b (List.getElem?_eq_getElem hql) hb
   by_cases e1 : c.ρ i = some b
   ·exact .inl e1
   ·exact .inr (Classical.byContradiction fun hn => hx2 ⟨hlt,hn,e1⟩)
end
section
variable {P : Program} {f : FuncId} {c0 : Cx} {R : AV → List ABlk → Prop} {ops : Array Oper} {n sl : Nat} {o : Oper} {rest : List Oper} {fp : List (List Nat × List Nat)} {k : List Item} {s : AState}
theorem DOps.lentT (ho : ops[n]? = some o) (hw : Wanted ops s.t o.guard true) {x : Operand} {as : Array Operand} {ts : Array TypeId} (hop : o.op = .call { callee := .value x,args := as,argTypes := ts })
  {g : FuncId} {fi ca : List AV} (hx : aev s.t x = .fn (.func g) fi ca) (hg : Callable P g) {args : List AV} {i : Nat} {X0 : ABlk} {res : AV} (hi : s.h[i]? = some X0) (hX : LentT X0) (H : ACall P g args [X0] fun r _ => LeR r res) (hres : res.bel 0 = true)
  (harg : OneL i (fi ++ as.toList.map (aev s.t) ++ ca) args) (h : DOps P f c0 R ops (n + 1) (sl + 1) rest (fp ++ [([i],[i])]) k ⟨aput s.t o.dst res,s.h.set i .dead⟩) : DOps P f c0 R ops n sl (o :: rest) fp k s :=
 DOps.cons (e := ⟨res,[(i,.dead)],[i]⟩) (StepOk.call ho hw hop hx hg _ fun h' hh => ACall.oneT (by rw [hh i (by simp)];exact hi) hX H hres harg ⟨rfl,rfl⟩) h
end
end Go.Proofs.YtkamcoechjdgpaaGreat
