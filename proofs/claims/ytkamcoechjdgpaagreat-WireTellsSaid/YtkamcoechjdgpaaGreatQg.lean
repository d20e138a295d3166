/-
  Several texts in one: Ke, Kf, Hd, Iv, He, It, Iu, Hf, Hi, Hj, Hk, Hl, Ha.
-/
import Derived.Test.YtkamcoechjdgpaaGreatQf
import Derived.Test.YtkamcoechjdgpaaGreatQc
import Derived.Test.YtkamcoechjdgpaaGreatQd
set_option maxRecDepth 20000
set_option maxHeartbeats 8000000
namespace Go.Proofs.YtkamcoechjdgpaaGreat
open Go.RowKit
def vsum : List Acc → Int → Int
 | [],n => n
 | a :: l,n => if n ≤ 6100 then vsum l (n + a.value.length + 20) else n
def csum : List Rp → Int → Int
 | [],n => n
 | r :: l,n => if n ≤ 12200 then csum l (n + r.value.length + vsum r.proof 0 + 20) else n
def nsum : List Bytes → Int → Int
 | [],n => n
 | t :: l,n => if n ≤ 12200 then nsum l (n + t.length + 9) else n
def fewN (l : Ltr) : Int := nsum l.x.l (csum l.cert (l.value.length + l.vote.value.length + l.r.value.length + l.o.s.length + l.o.t.length + l.x.s.length + vsum l.proof 0 + vsum l.r.proof 0))
def fewL (l : Ltr) : Bool := decide (fewN l ≤ 12200)
theorem vsum_ge : ∀ (l : List Acc) (n : Int),n ≤ vsum l n
 | [],n => Int.le_refl _
 | a :: l,n => by
  rw [vsum]
  split
  ·have := vsum_ge l (n + a.value.length + 20);omega
  ·omega
theorem csum_ge : ∀ (l : List Rp) (n : Int),n ≤ csum l n
 | [],n => Int.le_refl _
 | a :: l,n => by
  rw [csum]
  have := vsum_ge a.proof 0
  split
  ·have := csum_ge l (n + a.value.length + vsum a.proof 0 + 20);omega
  ·omega
theorem nsum_ge : ∀ (l : List Bytes) (n : Int),n ≤ nsum l n
 | [],n => Int.le_refl _
 | a :: l,n => by
  rw [nsum]
  split
  ·have := nsum_ge l (n + a.length + 9);omega
  ·omega
theorem vsum_lt (m : Nat) : ∀ (l : List Acc) (n : Int),(∀ a ∈ l,a.value.length ≤ m) → n ≤ 6120 + m → vsum l n ≤ 6120 + m
 | [],n,_,h => h
 | a :: l,n,hl,h => by
  rw [vsum]
  have := hl a List.mem_cons_self
  split
  ·exact vsum_lt m l _ (fun x hx => hl x (List.mem_cons_of_mem _ hx)) (by omega)
  ·exact h
theorem totA_cons (a : Acc) (l : List Acc) : totA (a :: l) = a.value.length + 27 + totA l := by simp [totA]
theorem totRs_cons (a : Rp) (l : List Rp) : totRs (a :: l) = totR a + totRs l := by simp [totRs]
theorem vsum_tot : ∀ (l : List Acc) (n : Int),vsum l n ≤ 6100 → n + totA l ≤ vsum l n + 7 * l.length
 | [],n,h => by simp [totA,vsum]
 | a :: l,n,h => by
  rw [vsum] at h ⊢
  split at h
  ·rename_i h1
   rw [if_pos h1]
   have := vsum_tot l _ h
   rw [totA_cons,List.length_cons]
   omega
  ·omega
theorem nsum_tot : ∀ (l : List Bytes) (n : Int),nsum l n ≤ 12200 → n + tot l ≤ nsum l n
 | [],n,h => by simp [tot,nsum]
 | a :: l,n,h => by
  rw [nsum] at h ⊢
  split at h
  ·rename_i h1
   rw [if_pos h1]
   have := nsum_tot l _ h
   rw [tot_cons]
   omega
  ·omega
theorem totA_le (k : Nat) : ∀ l : List Acc,(∀ a ∈ l,a.value.length ≤ k) → totA l ≤ (k + 27) * l.length
 | [],_ => by simp [totA]
 | x :: l,h => by
  have := totA_le k l fun s hs => h s (List.mem_cons_of_mem _ hs)
  have h0 := h x List.mem_cons_self
  rw [totA_cons,List.length_cons,Nat.mul_succ]
  omega
def ShV (l : List Acc) : Prop := l.length ≤ 30 ∧ ∀ a ∈ l,a.value.length ≤ 6000
theorem ShV.tot {l : List Acc} (h : ShV l) : totA l ≤ 180810 := by
 have := totA_le 6000 l h.2
 have := h.1
 omega
def ShR (r : Rp) : Prop := r.value.length ≤ 6000 ∧ ShV r.proof
theorem csum_tot : ∀ (l : List Rp) (n : Int),(∀ r ∈ l,ShR r) → 0 ≤ n → csum l n ≤ 12200 → ∃ k : Nat,n + totRs l ≤ csum l n + 250 * l.length + 174750 * k ∧ n + 6121 * k ≤ csum l n
 | [],n,_,_,h => ⟨0,by simp [totRs,csum],by simp [csum]⟩
 | r :: l,n,hl,hn,h => by
  rw [csum] at h ⊢
  split at h
  ·rename_i h1
   rw [if_pos h1]
   have hv := vsum_ge r.proof 0
   obtain ⟨k,h2,h3⟩ := csum_tot l _ (fun x hx => hl x (List.mem_cons_of_mem _ hx)) (by omega) h
   obtain ⟨g1,g2⟩ := hl r List.mem_cons_self
   rw [totRs_cons,List.length_cons,totR]
   by_cases hb : vsum r.proof 0 ≤ 6100
   ·have := vsum_tot r.proof 0 hb
    have := g2.1
    exact ⟨k,by omega,by omega⟩
   ·have := g2.tot
    exact ⟨k + 1,by omega,by omega⟩
  ·omega
def ShL (l : Ltr) : Prop := l.value.length ≤ 6000 ∧ l.cert.length ≤ 30 ∧ (∀ r ∈ l.cert,ShR r) ∧ l.vote.value.length ≤ 6000 ∧ ShV l.proof ∧ ShR l.r ∧ l.x.s.length ≤ 1000
def TyL (l : Ltr) : Prop := I64 l.kind ∧ I64 l.frm ∧ I64 l.slot ∧ I64 l.view ∧ (∀ r ∈ l.cert,I64 r.by_ ∧ I64 r.for_ ∧ I64 r.view ∧ ∀ a ∈ r.proof,I64 a.by_ ∧ I64 a.view) ∧ (I64 l.vote.by_ ∧ I64 l.vote.view) ∧ (∀ a ∈ l.proof,I64 a.by_ ∧ I64 a.view) ∧ (I64 l.r.by_ ∧ I64 l.r.for_ ∧ I64 l.r.view ∧ ∀ a ∈ l.r.proof,I64 a.by_ ∧ I64 a.view) ∧ l.sum.length = 32 ∧ (I64 l.o.a ∧ I64 l.o.b ∧ I64 l.o.kind ∧ I64 l.o.x ∧ I64 l.o.y ∧ I64 l.o.z) ∧ (I64 l.x.a ∧ I64 l.x.b ∧ I64 l.x.e ∧ I64 l.x.x)
theorem few_parts {l : Ltr} (h : fewL l = true) : (l.value.length : Int) + l.vote.value.length + l.r.value.length + l.o.s.length + l.o.t.length + l.x.s.length + vsum l.proof 0 + vsum l.r.proof 0 ≤ 12200 ∧ csum l.cert (l.value.length + l.vote.value.length + l.r.value.length + l.o.s.length + l.o.t.length + l.x.s.length + vsum l.proof 0 + vsum l.r.proof 0) ≤ 12200 ∧ (tot l.x.l : Int) ≤ 12200 := by
 have h : fewN l ≤ 12200 := of_decide_eq_true h
 unfold fewN at h
 have h1 := nsum_ge l.x.l (csum l.cert (l.value.length + l.vote.value.length + l.r.value.length + l.o.s.length + l.o.t.length + l.x.s.length + vsum l.proof 0 + vsum l.r.proof 0))
 have h2 := csum_ge l.cert (l.value.length + l.vote.value.length + l.r.value.length + l.o.s.length + l.o.t.length + l.x.s.length + vsum l.proof 0 + vsum l.r.proof 0)
 have h3 := nsum_tot l.x.l _ h
 have h4 := vsum_ge l.proof 0
 have h5 := vsum_ge l.r.proof 0
 refine ⟨by omega,by omega,by omega⟩
theorem few_names {l : Ltr} (h : fewL l = true) : l.x.l.length ≤ 12200 := by
 have := (few_parts h).2.2
 have := tot_length l.x.l
 omega
theorem csum_len : ∀ (l : List Rp) (n : Int),csum l n ≤ 12200 → n + 20 * l.length ≤ csum l n
 | [],n,h => by simp [csum]
 | r :: l,n,h => by
  rw [csum] at h ⊢
  have := vsum_ge r.proof 0
  split at h
  ·rename_i h1
   rw [if_pos h1]
   have := csum_len l _ h
   rw [List.length_cons]
   omega
  ·omega
theorem few_cert {l : Ltr} (h : fewL l = true) : l.cert.length ≤ 12200 := by
 have h1 := csum_len l.cert _ (few_parts h).2.1
 have := (few_parts h).2.1
 have := vsum_ge l.proof 0
 have := vsum_ge l.r.proof 0
 omega
theorem few_sm {l : Ltr} (h : fewL l = true) (ht : TyL l) (hs : ShL l) : smL l := by
 obtain ⟨f1,f2,f3⟩ := few_parts h
 have h4 := vsum_ge l.proof 0
 have h5 := vsum_ge l.r.proof 0
 obtain ⟨s1,s2,s3,s4,s5,s6,s7⟩ := hs
 obtain ⟨_,t1,t2,t3,t4,t5,t6,t7,t8,t9,t10⟩ := ht
 obtain ⟨k,c1,c2⟩ := csum_tot l.cert _ s3 (by omega) f2
 have hv := s5.tot
 have hr := s6.2.tot
 have smV : ∀ p : List Acc,ShV p → (∀ a ∈ p,I64 a.by_ ∧ I64 a.view) → ∀ a ∈ p,smA a := fun p h1 h2 a ha => ⟨(h2 a ha).1,(h2 a ha).2,by have := h1.2 a ha;omega⟩
 refine ⟨t1,t2,t3,s1,fun r hr => ?_,s2,by omega,⟨t5.1,t5.2,by omega⟩,smV _ s5 t6,s5.1,by omega,⟨t7.1,t7.2.1,t7.2.2.1,by have := s6.1;omega,smV _ s6.2 t7.2.2.2,s6.2.1⟩,by have := s6.1;simp only [totR];omega,t8,⟨t9.1,t9.2.1,t9.2.2.1,t9.2.2.2.1,t9.2.2.2.2.1,t9.2.2.2.2.2,by omega,by omega⟩,⟨t10.1,t10.2.1,t10.2.2.1,t10.2.2.2,by omega,by omega⟩,by omega,by omega,by omega⟩
 obtain ⟨q1,q2,q3,q4⟩ := t4 r hr
 obtain ⟨g1,g2⟩ := s3 r hr
 exact ⟨q1,q2,q3,by omega,smV _ g2 q4,g2.1⟩
theorem encN_pos (n : Nat) : 1 ≤ (encN n).length := by rw [encN_length];omega
theorem encT_ge (s : Bytes) : s.length + 1 ≤ (encT s).length := by
 rw [encT,List.length_append]
 have := encN_pos s.length
 omega
theorem totA_w : ∀ l : List Acc,totA l ≤ 9 * ((l.map voteB).flatten).length
 | [] => by simp [totA]
 | a :: l => by
  have := totA_w l
  have h1 := encN_pos (zig a.by_)
  have h2 := encN_pos (zig a.view)
  have h3 := encT_ge a.value
  rw [totA_cons,List.map_cons,List.flatten_cons,List.length_append,voteB,List.length_append,List.length_append]
  omega
theorem totA_wV (l : List Acc) : totA l ≤ 9 * (votesB l).length := by
 have := totA_w l
 rw [votesB,List.length_append]
 omega
theorem totR_w (r : Rp) : totR r ≤ 12 * (reportB r).length := by
 have := totA_wV r.proof
 have h1 := encN_pos (zig r.by_)
 have h2 := encN_pos (zig r.for_)
 have h3 := encN_pos (zig (if r.has then 1 else 0))
 have h4 := encN_pos (zig r.view)
 have h5 := encT_ge r.value
 rw [totR,reportB]
 simp only [List.length_append]
 omega
theorem totRs_w : ∀ l : List Rp,totRs l ≤ 12 * ((l.map reportB).flatten).length
 | [] => by simp [totRs]
 | a :: l => by
  have := totRs_w l
  have := totR_w a
  rw [totRs_cons,List.map_cons,List.flatten_cons,List.length_append]
  omega
theorem tot_w (l : List Bytes) : tot l ≤ (encRow l).length + 8 * l.length := by
 induction l with
 | nil => simp [tot]
 | cons x l ih =>
  have := encT_ge x
  rw [tot_cons,encRow_cons,List.length_append,List.length_cons]
  omega
theorem SA.sm {a : Acc} (h : SA a) : smA a := ⟨h.1,h.2.1,by have := h.2.2;omega⟩
theorem SV.sm {l : List Acc} (h : SV l) : ∀ a ∈ l,smA a := fun a ha => (h.2 a ha).sm
theorem SR.sm {r : Rp} (h : SR r) : smRp r := ⟨h.1,h.2.1,h.2.2.1,by have := h.2.2.2.1;omega,h.2.2.2.2.sm,h.2.2.2.2.1⟩
theorem SV.tot {l : List Acc} (h : SV l) : totA l ≤ 180810 := ShV.tot ⟨h.1,fun a ha => (h.2 a ha).2.2⟩
theorem SR.tot {r : Rp} (h : SR r) : totR r ≤ 186870 := by
 have := h.2.2.2.2.tot
 have := h.2.2.2.1
 rw [totR]
 omega
theorem Good.sm {l : Ltr} (h : Good l) (hw : (wrL l).length ≤ 15000) : smL l := by
 have hg := h
 obtain ⟨hk,hu,t1,t2,t3,t4,t5,t6,t7,t8,t9,t10,t11,t12⟩ := h
 have hc : totRs l.cert ≤ 200000 := by
  by_cases k1 : l.kind = 1
  ·rw [wrL,wrB_1 l k1] at hw
   have := totRs_w l.cert
   simp only [List.length_append,rpsB] at hw
   omega
  ·have : l.cert = [] := by
    have hc' : l.kind = 2 ∨ l.kind = 3 ∨ l.kind = 4 ∨ l.kind = 5 ∨ l.kind = 6 ∨ l.kind = 7 ∨ l.kind = 8 ∨ l.kind = 9 ∨ l.kind = 10 := by omega
    rcases hc' with e|e|e|e|e|e|e|e|e
    ·rw [useL_2 l e] at hu;exact (congrArg Ltr.cert hu).symm
    ·rw [useL_3 l e] at hu;exact (congrArg Ltr.cert hu).symm
    ·rw [useL_4 l e] at hu;exact (congrArg Ltr.cert hu).symm
    ·rw [useL_5 l e] at hu;exact (congrArg Ltr.cert hu).symm
    ·rw [useL_6 l e] at hu;exact (congrArg Ltr.cert hu).symm
    ·rw [useL_7 l e] at hu;exact (congrArg Ltr.cert hu).symm
    ·rw [useL_8 l e] at hu;exact (congrArg Ltr.cert hu).symm
    ·rw [useL_9 l e] at hu;exact (congrArg Ltr.cert hu).symm
    ·rw [useL_10 l e] at hu;exact (congrArg Ltr.cert hu).symm
   rw [this];simp [totRs]
 have hn : tot l.x.l ≤ 20000 := by
  by_cases k1 : l.kind = 9
  ·rw [wrL,wrB_9 l k1] at hw
   have := tot_w l.x.l
   have := t12.2.2.2.2.2.1
   simp only [List.length_append,putR,encL_row] at hw
   omega
  ·have : l.x = zX := by
    have hc' : l.kind = 1 ∨ l.kind = 2 ∨ l.kind = 3 ∨ l.kind = 4 ∨ l.kind = 5 ∨ l.kind = 6 ∨ l.kind = 7 ∨ l.kind = 8 ∨ l.kind = 10 := by omega
    rcases hc' with e|e|e|e|e|e|e|e|e
    ·rw [useL_1 l e] at hu;exact (congrArg Ltr.x hu).symm
    ·rw [useL_2 l e] at hu;exact (congrArg Ltr.x hu).symm
    ·rw [useL_3 l e] at hu;exact (congrArg Ltr.x hu).symm
    ·rw [useL_4 l e] at hu;exact (congrArg Ltr.x hu).symm
    ·rw [useL_5 l e] at hu;exact (congrArg Ltr.x hu).symm
    ·rw [useL_6 l e] at hu;exact (congrArg Ltr.x hu).symm
    ·rw [useL_7 l e] at hu;exact (congrArg Ltr.x hu).symm
    ·rw [useL_8 l e] at hu;exact (congrArg Ltr.x hu).symm
    ·rw [useL_10 l e] at hu;exact (congrArg Ltr.x hu).symm
   rw [this];decide
 exact ⟨t1,t2,t3,t4,fun r hr => (t5.2 r hr).sm,t5.1,hc,t6.sm,t7.sm,t7.1,by have := t7.tot;omega,t8.sm,by have := t8.tot;omega,t9,t11,⟨t12.1,t12.2.1,t12.e,t12.2.2.1,by have := t12.2.2.2.2.1;omega,by omega⟩,by have := t12.2.2.2.2.1;omega,hn,by have := t6.2.2;omega⟩
theorem Good.names {l : Ltr} (h : Good l) : l.x.l.length ≤ 200 := h.2.2.2.2.2.2.2.2.2.2.2.2.2.2.2.2.2.2.1
theorem Good.ty {l : Ltr} (h : Good l) : TyL l := by
 obtain ⟨hk,hu,t1,t2,t3,t4,t5,t6,t7,t8,t9,t10,t11,t12⟩ := h
 have hV : ∀ p : List Acc,SV p → ∀ a ∈ p,I64 a.by_ ∧ I64 a.view := fun p hp a ha => ⟨(hp.2 a ha).1,(hp.2 a ha).2.1⟩
 have hR : ∀ r : Rp,SR r → I64 r.by_ ∧ I64 r.for_ ∧ I64 r.view ∧ ∀ a ∈ r.proof,I64 a.by_ ∧ I64 a.view := fun r hr => ⟨hr.1,hr.2.1,hr.2.2.1,hV _ hr.2.2.2.2⟩
 exact ⟨by unfold I64;omega,t1,t2,t3,fun r hr => hR r (t5.2 r hr),⟨t6.1,t6.2.1⟩,hV _ t7,hR _ t8,t9,⟨t11.1,t11.2.1,t11.2.2.1,t11.2.2.2.1,t11.2.2.2.2.1,t11.2.2.2.2.2.1⟩,t12.1,t12.2.1,t12.e,t12.2.2.1⟩
theorem Good.sh {l : Ltr} (h : Good l) : ShL l := by
 obtain ⟨hk,hu,t1,t2,t3,t4,t5,t6,t7,t8,t9,t10,t11,t12⟩ := h
 have hV : ∀ p : List Acc,SV p → ShV p := fun p hp => ⟨hp.1,fun a ha => (hp.2 a ha).2.2⟩
 have hR : ∀ r : Rp,SR r → ShR r := fun r hr => ⟨hr.2.2.2.1,hV _ hr.2.2.2.2⟩
 exact ⟨t4,t5.1,fun r hr => hR r (t5.2 r hr),t6.2.2,hV _ t7,hR _ t8,t12.2.2.2.2.1⟩
def wideA (a : Acc) : Prop := I64 a.by_ ∧ I64 a.view ∧ a.value.length ≤ 281474976710656
def wideVs (l : List Acc) : Prop := (∀ a ∈ l,wideA a) ∧ l.length ≤ 281474976710656
def wideRp (r : Rp) : Prop := I64 r.by_ ∧ I64 r.for_ ∧ I64 r.view ∧ r.value.length ≤ 281474976710656 ∧ wideVs r.proof
def wideRps (l : List Rp) : Prop := (∀ a ∈ l,wideRp a) ∧ l.length ≤ 281474976710656
def wideOr (o : Ord) : Prop := I64 o.a ∧ I64 o.b ∧ I64 o.kind ∧ I64 o.x ∧ I64 o.y ∧ I64 o.z ∧ o.s.length ≤ 281474976710656 ∧ o.t.length ≤ 281474976710656
structure WideL (l : Ltr) : Prop where
 kind : I64 l.kind
 frm : I64 l.frm
 slot : I64 l.slot
 view : I64 l.view
 value : l.value.length ≤ 281474976710656
 cert : wideRps l.cert
 vote : wideA l.vote
 proof : wideVs l.proof
 r : wideRp l.r
 sum : l.sum.length = 32
 o : wideOr l.o
 x : wideR l.x
theorem wideVs.ty {l : List Acc} (h : wideVs l) : ∀ a ∈ l,I64 a.by_ ∧ I64 a.view := fun a ha => ⟨(h.1 a ha).1,(h.1 a ha).2.1⟩
theorem WideL.ty {l : Ltr} (h : WideL l) : TyL l := by
 refine ⟨h.kind,h.frm,h.slot,h.view,fun r hr => ?_,⟨h.vote.1,h.vote.2.1⟩,h.proof.ty,⟨h.r.1,h.r.2.1,h.r.2.2.1,h.r.2.2.2.2.ty⟩,h.sum,⟨h.o.1,h.o.2.1,h.o.2.2.1,h.o.2.2.2.1,h.o.2.2.2.2.1,h.o.2.2.2.2.2.1⟩,⟨h.x.1,h.x.2.1,h.x.2.2.1,h.x.2.2.2.1⟩⟩
 have := h.cert.1 r hr
 exact ⟨this.1,this.2.1,this.2.2.1,this.2.2.2.2.ty⟩
theorem WideL.proofs {l : Ltr} (h : WideL l) : ∀ r ∈ l.cert ++ [l.r],r.proof.length ≤ 281474976710656 := by
 intro r hr
 rcases List.mem_append.1 hr with hr|hr
 ·exact (h.cert.1 r hr).2.2.2.2.2
 ·simp only [List.mem_singleton] at hr
  subst hr
  exact h.r.2.2.2.2.2
theorem in27_spec (s : Bytes) (c : UInt8) (n : Int) (hn : n = c.toNat) (hs : s.length ≤ 1000) : ASpec Tryz.prog 62 [.str s,.int .u8 n] (.bool (s.contains c)) := by
 subst hn
 refine ⟨⟨_,Tryz.func62,by kernel_rfl,rfl⟩,Sg Tryz.func62 rfl fun c0 hc0 => ?_⟩;simp only [go_sem,Nat.reduceAdd,Nat.reduceSub]
 refine Run.loopV (α := Nat) (fun k => k ≤ s.length ∧ s.contains c = (s.drop k).contains c) (fun k => [(5,.int .i64 k)]) 0 (fun _ => []) (fun k => s.length - k) 0 ⟨Nat.zero_le _,rfl⟩ ?_ ?_
 ·simp only [go_sem,writes,junks,puts,hputs,List.filterMap_cons,List.filterMap_nil]
  (refine Weak.of (by simp [hc0]) ?_ ?_ <;> (repeat' first|exact .refl _|exact .junk _|exact .nil|exact .nil _|exact .tok _ _ _|rfl|apply WkT.cons|apply WkH.cons|apply LeB.same|apply LeB.box|apply Le1L.cons|apply Le.agg|apply Le.one))
 ·rintro k ⟨hI,hk2⟩ ih
  simp only [writes,junks,puts,hputs,List.filterMap_cons,List.filterMap_nil,Y6,Y7,Yk,Y5,Y3,Yd] at ih ⊢
  by_cases hk : k < s.length
  ·obtain ⟨x,hx⟩ : ∃ x,s[k]? = some x := ⟨_,List.getElem?_eq_getElem hk⟩
   have hkk : (k : Int) < s.length := by omega
   have hd : s.drop k = x :: s.drop (k + 1) := by
    obtain ⟨hk',rfl⟩ := List.getElem?_eq_some_iff.1 hx
    exact List.drop_eq_getElem_cons hk'
   rw [hd] at hk2
   by_cases hxc : (x.toNat : Int) = c.toNat
   ·have hxc' : x = c := UInt8.toNat_inj.1 (by omega)
    subst hxc'
    refine Rg Tryz.func62 ?_;simp only [go_sem,hx,hkk,↓alt_t]
    rw [hk2,List.contains_cons]
    simp only [BEq.rfl,Bool.true_or]
    (and_intros <;> try first|rfl|omega|(unfold I64;omega))
    (repeat' first|exact .refl _|apply LeR.tup|apply Le.agg|constructor)
   ·have hxc' : (c == x) = false := by
     rw [beq_eq_false_iff_ne];intro h;exact hxc (by rw [h])
    rw [List.contains_cons,hxc',Bool.false_or] at hk2
    refine Rg Tryz.func62 ?_;simp only [go_sem,hx,hkk,hxc,↓alt_t,↓alt_f]
    (and_intros <;> try first|rfl|omega|(unfold I64;omega))
    refine ih (k + 1) _ ⟨by omega,hk2⟩ (by omega) ?_
    simp only [Int.natCast_add,Int.natCast_one]
    (refine Weak.of (by simp [hc0]) ?_ ?_ <;> (repeat' first|exact .refl _|exact .junk _|exact .nil|exact .nil _|exact .tok _ _ _|rfl|apply WkT.cons|apply WkH.cons|apply LeB.same|apply LeB.box|apply Le1L.cons|apply Le.agg|apply Le.one))
  ·obtain rfl : k = s.length := by omega
   have hkk : ¬ (s.length : Int) < s.length := by omega
   rw [List.drop_length] at hk2
   refine Rg Tryz.func62 ?_;simp only [go_sem,hkk,↓alt_f]
   rw [hk2]
   (repeat' first|exact .refl _|apply LeR.tup|apply Le.agg|constructor)
def usesOf (k : Int) : Bytes :=
 if k = 1 then [102,115,118,120,99] else
 if k = 2 then [115,97] else
 if k = 3 then [102,115,112] else
 if k = 4 then [115,114] else
 if k = 5 then [102,115,120] else
 if k = 6 then [102,118] else
 if k = 7 then [102,115,109] else
 if k = 8 then [111] else
 if k = 9 then [102,121] else
 if k = 10 then [102,115] else
 []
theorem uses27_spec (k : Int) : ASpec Tryz.prog 18 [.int .i64 k] (.str (usesOf k)) := by
 unfold usesOf
 by_cases h1 : k = 1
 ·rw [if_pos h1]
  refine ⟨⟨_,Tryz.func18,by kernel_rfl,rfl⟩,Sg Tryz.func18 rfl fun c0 hc0 => ?_⟩;simp only [go_sem,h1,↓alt_t,Nat.reduceAdd,Nat.reduceSub]
  (repeat' first|exact .refl _|apply LeR.tup|apply Le.agg|constructor)
 rw [if_neg h1]
 by_cases h2 : k = 2
 ·rw [if_pos h2]
  refine ⟨⟨_,Tryz.func18,by kernel_rfl,rfl⟩,Sg Tryz.func18 rfl fun c0 hc0 => ?_⟩;simp only [go_sem,h2,↓alt_t,↓alt_f,Int.reduceEq,Nat.reduceAdd,Nat.reduceSub]
  (repeat' first|exact .refl _|apply LeR.tup|apply Le.agg|constructor)
 rw [if_neg h2]
 by_cases h3 : k = 3
 ·rw [if_pos h3]
  refine ⟨⟨_,Tryz.func18,by kernel_rfl,rfl⟩,Sg Tryz.func18 rfl fun c0 hc0 => ?_⟩;simp only [go_sem,h3,↓alt_t,↓alt_f,Int.reduceEq,Nat.reduceAdd,Nat.reduceSub]
  (repeat' first|exact .refl _|apply LeR.tup|apply Le.agg|constructor)
 rw [if_neg h3]
 by_cases h4 : k = 4
 ·rw [if_pos h4]
  refine ⟨⟨_,Tryz.func18,by kernel_rfl,rfl⟩,Sg Tryz.func18 rfl fun c0 hc0 => ?_⟩;simp only [go_sem,h4,↓alt_t,↓alt_f,Int.reduceEq,Nat.reduceAdd,Nat.reduceSub]
  (repeat' first|exact .refl _|apply LeR.tup|apply Le.agg|constructor)
 rw [if_neg h4]
 by_cases h5 : k = 5
 ·rw [if_pos h5]
  refine ⟨⟨_,Tryz.func18,by kernel_rfl,rfl⟩,Sg Tryz.func18 rfl fun c0 hc0 => ?_⟩;simp only [go_sem,h5,↓alt_t,↓alt_f,Int.reduceEq,Nat.reduceAdd,Nat.reduceSub]
  (repeat' first|exact .refl _|apply LeR.tup|apply Le.agg|constructor)
 rw [if_neg h5]
 by_cases h6 : k = 6
 ·rw [if_pos h6]
  refine ⟨⟨_,Tryz.func18,by kernel_rfl,rfl⟩,Sg Tryz.func18 rfl fun c0 hc0 => ?_⟩;simp only [go_sem,h6,↓alt_t,↓alt_f,Int.reduceEq,Nat.reduceAdd,Nat.reduceSub]
  (repeat' first|exact .refl _|apply LeR.tup|apply Le.agg|constructor)
 rw [if_neg h6]
 by_cases h7 : k = 7
 ·rw [if_pos h7]
  refine ⟨⟨_,Tryz.func18,by kernel_rfl,rfl⟩,Sg Tryz.func18 rfl fun c0 hc0 => ?_⟩;simp only [go_sem,h7,↓alt_t,↓alt_f,Int.reduceEq,Nat.reduceAdd,Nat.reduceSub]
  (repeat' first|exact .refl _|apply LeR.tup|apply Le.agg|constructor)
 rw [if_neg h7]
 by_cases h8 : k = 8
 ·rw [if_pos h8]
  refine ⟨⟨_,Tryz.func18,by kernel_rfl,rfl⟩,Sg Tryz.func18 rfl fun c0 hc0 => ?_⟩;simp only [go_sem,h8,↓alt_t,↓alt_f,Int.reduceEq,Nat.reduceAdd,Nat.reduceSub]
  (repeat' first|exact .refl _|apply LeR.tup|apply Le.agg|constructor)
 rw [if_neg h8]
 by_cases h9 : k = 9
 ·rw [if_pos h9]
  refine ⟨⟨_,Tryz.func18,by kernel_rfl,rfl⟩,Sg Tryz.func18 rfl fun c0 hc0 => ?_⟩;simp only [go_sem,h9,↓alt_t,↓alt_f,Int.reduceEq,Nat.reduceAdd,Nat.reduceSub]
  (repeat' first|exact .refl _|apply LeR.tup|apply Le.agg|constructor)
 rw [if_neg h9]
 by_cases h10 : k = 10
 ·rw [if_pos h10]
  refine ⟨⟨_,Tryz.func18,by kernel_rfl,rfl⟩,Sg Tryz.func18 rfl fun c0 hc0 => ?_⟩;simp only [go_sem,h10,↓alt_t,↓alt_f,Int.reduceEq,Nat.reduceAdd,Nat.reduceSub]
  (repeat' first|exact .refl _|apply LeR.tup|apply Le.agg|constructor)
 rw [if_neg h10]
 refine ⟨⟨_,Tryz.func18,by kernel_rfl,rfl⟩,Sg Tryz.func18 rfl fun c0 hc0 => ?_⟩;simp only [go_sem,h1,h2,h3,h4,h5,h6,h7,h8,h9,h10,↓alt_f,Nat.reduceAdd,Nat.reduceSub]
 (repeat' first|exact .refl _|apply LeR.tup|apply Le.agg|constructor)
theorem rshort27_spec (l : List Acc) (hl : l.length ≤ 281474976710656) : ASpec Tryz.prog 29 [votesA l] (.bool (shortV l)) := by
 refine ⟨⟨_,Tryz.func29,by kernel_rfl,rfl⟩,Sg Tryz.func29 rfl fun c0 hc0 => ?_⟩;simp only [go_sem,votesA,Nat.reduceAdd,Nat.reduceSub]
 refine Run.loopV (α := Nat) (fun k => k ≤ l.length ∧ ∀ j y,j < k → l[j]? = some y → longV y = false) (fun k => [(3,.int .i64 k)]) 0 (fun _ => []) (fun k => l.length - k) 0 ⟨Nat.zero_le _,fun j y h => absurd h (Nat.not_lt_zero j)⟩ ?_ ?_
 ·simp only [go_sem,writes,junks,puts,hputs,List.filterMap_cons,List.filterMap_nil]
  (refine Weak.of (by simp [hc0]) ?_ ?_ <;> (repeat' first|exact .refl _|exact .junk _|exact .nil|exact .nil _|exact .tok _ _ _|rfl|apply WkT.cons|apply WkH.cons|apply LeB.same|apply LeB.box|apply Le1L.cons|apply Le.agg|apply Le.one))
 rintro k ⟨hI,hq⟩ ih
 simp only [writes,junks,puts,hputs,List.filterMap_cons,List.filterMap_nil,Y6,Y7,Yk,Y5,Y3,Yd] at ih ⊢
 by_cases hk : k < l.length
 ·obtain ⟨x,hx⟩ : ∃ x,l[k]? = some x := ⟨_,List.getElem?_eq_getElem hk⟩
  have hkk : (k : Int) < l.length := by omega
  by_cases hp : (6000 : Int) < x.value.length
  ·refine Rg Tryz.func29 ?_;simp only [go_sem,hx,hkk,hp,accC,List.getElem?_map,↓alt_t,Nat.reduceLT,reduceCtorEq]
   have e : l.any longV = true := by
    rw [List.any_eq_true]
    exact ⟨x,List.mem_of_getElem? hx,by unfold longV;exact decide_eq_true hp⟩
   rw [show shortV l = false by unfold shortV;rw [e];simp]
   (and_intros <;> try first|rfl|omega|(unfold I64;omega))
   (repeat' first|exact .refl _|apply LeR.tup|apply Le.agg|constructor)
  ·refine Rg Tryz.func29 ?_;simp only [go_sem,hx,hkk,hp,accC,List.getElem?_map,↓alt_t,↓alt_f,Nat.reduceLT,reduceCtorEq]
   (and_intros <;> try first|rfl|omega|(unfold I64;omega))
   refine ih (k + 1) _ ⟨by omega,fun j y hj hy => ?_⟩ (by omega) ?_
   ·rcases Nat.lt_or_ge j k with h|h
    ·exact hq j y h hy
    ·obtain rfl : j = k := by omega
     rw [hx] at hy;cases hy;unfold longV;exact decide_eq_false hp
   ·simp only [Int.natCast_add,Int.natCast_one]
    (refine Weak.of (by simp [hc0]) ?_ ?_ <;> (repeat' first|exact .refl _|exact .junk _|exact .nil|exact .nil _|exact .tok _ _ _|rfl|apply WkT.cons|apply WkH.cons|apply LeB.same|apply LeB.box|apply Le1L.cons|apply Le.agg|apply Le.one))
 ·have hkk : ¬ (k : Int) < l.length := by omega
  have e : l.any longV = false := by
   rw [List.any_eq_false]
   intro y hy
   obtain ⟨j,hj⟩ := List.mem_iff_getElem?.1 hy
   rw [hq j y (by have := (List.getElem?_eq_some_iff.1 hj).1;omega) hj]
   decide
  refine Rg Tryz.func29 ?_;simp only [go_sem,hkk,↓alt_f]
  rw [show shortV l = decide ((l.length : Int) ≤ 30) by unfold shortV;rw [e];simp;omega]
  (repeat' first|exact .refl _|apply LeR.tup|apply Le.agg|constructor)
theorem rreported27_spec (r : Rp) (hl : r.proof.length ≤ 281474976710656) : ASpec Tryz.prog 30 [encRp r] (.bool (!longR r)) := by
 have hs := rshort27_spec r.proof hl
 by_cases h : (r.value.length : Int) ≤ 6000
 ·have e : (!longR r) = shortV r.proof := by unfold longR;rw [decide_eq_false (by omega)];simp
  rw [e]
  refine ⟨⟨_,Tryz.func30,by kernel_rfl,rfl⟩,Sg Tryz.func30 rfl fun c0 hc0 => ?_⟩;simp only [go_sem,encRp,rpC,votesA,h,↓alts_t,↓gone_tt,Nat.reduceAdd,Nat.reduceLeDiff,Nat.reduceSub]
  (and_intros <;> try first|rfl|omega|(unfold I64;omega))
  refine Ops.pure (Wanted.test 4 true true rfl) rfl rfl (hs) (by simp only [go_sem,votesA];(repeat' first|exact .refl _|apply LeR.tup|apply Le.agg|constructor)) rfl rfl ?_
  refine Og Tryz.func30 ?_;simp only [go_sem]
  (repeat' first|exact .refl _|apply LeR.tup|apply Le.agg|constructor)
 ·have e : (!longR r) = false := by unfold longR;rw [decide_eq_true (by omega)];simp
  rw [e]
  refine ⟨⟨_,Tryz.func30,by kernel_rfl,rfl⟩,Sg Tryz.func30 rfl fun c0 hc0 => ?_⟩;simp only [go_sem,encRp,rpC,votesA,h,↓alts_f,↓gone_tf,Nat.reduceAdd,Nat.reduceLeDiff,Nat.reduceSub]
  (and_intros <;> try first|rfl|omega|(unfold I64;omega))
  (repeat' first|exact .refl _|apply LeR.tup|apply Le.agg|constructor)
theorem rreplied27_spec (x : Rpl) (hl : x.l.length ≤ 281474976710656) : ASpec Tryz.prog 32 [encR x] (.bool (shortX x)) := by
 refine ⟨⟨_,Tryz.func32,by kernel_rfl,rfl⟩,Sg Tryz.func32 rfl fun c0 hc0 => ?_⟩;simp only [go_sem,encR,textsA,Nat.reduceAdd,Nat.reduceSub]
 refine Run.loopV (α := Nat) (fun k => k ≤ x.l.length ∧ ∀ j y,j < k → x.l[j]? = some y → longTx y = false) (fun k => [(3,.int .i64 k)]) 1 (fun _ => []) (fun k => x.l.length - k) 0 ⟨Nat.zero_le _,fun j y h => absurd h (Nat.not_lt_zero j)⟩ ?_ ?_
 ·simp only [go_sem,writes,junks,puts,hputs,List.filterMap_cons,List.filterMap_nil]
  (refine Weak.of (by simp [hc0]) ?_ ?_ <;> (repeat' first|exact .refl _|exact .junk _|exact .nil|exact .nil _|exact .tok _ _ _|rfl|apply WkT.cons|apply WkH.cons|apply LeB.same|apply LeB.box|apply Le1L.cons|apply Le.agg|apply Le.one))
 rintro k ⟨hI,hq⟩ ih
 simp only [writes,junks,puts,hputs,List.filterMap_cons,List.filterMap_nil,Y6,Y7,Yg,Yk,Y5,Y3,Yd] at ih ⊢
 by_cases hk : k < x.l.length
 ·obtain ⟨t,hx⟩ : ∃ t,x.l[k]? = some t := ⟨_,List.getElem?_eq_getElem hk⟩
  have hkk : (k : Int) < x.l.length := by omega
  by_cases hp : (1000 : Int) < t.length
  ·refine Rg Tryz.func32 ?_;simp only [go_sem,hx,hkk,hp,textC,List.getElem?_map,↓alt_t,Nat.reduceAdd,Nat.reduceLT]
   have e : x.l.any longTx = true := by
    rw [List.any_eq_true]
    exact ⟨t,List.mem_of_getElem? hx,by unfold longTx;exact decide_eq_true hp⟩
   rw [show shortX x = false by unfold shortX;rw [e];simp]
   (and_intros <;> try first|rfl|omega|(unfold I64;omega))
   (repeat' first|exact .refl _|apply LeR.tup|apply Le.agg|constructor)
  ·refine Rg Tryz.func32 ?_;simp only [go_sem,hx,hkk,hp,textC,List.getElem?_map,↓alt_t,↓alt_f,Nat.reduceAdd,Nat.reduceLT]
   (and_intros <;> try first|rfl|omega|(unfold I64;omega))
   refine ih (k + 1) _ ⟨by omega,fun j y hj hy => ?_⟩ (by omega) ?_
   ·rcases Nat.lt_or_ge j k with h|h
    ·exact hq j y h hy
    ·obtain rfl : j = k := by omega
     rw [hx] at hy;cases hy;unfold longTx;exact decide_eq_false hp
   ·simp only [Int.natCast_add,Int.natCast_one]
    (refine Weak.of (by simp [hc0]) ?_ ?_ <;> (repeat' first|exact .refl _|exact .junk _|exact .nil|exact .nil _|exact .tok _ _ _|rfl|apply WkT.cons|apply WkH.cons|apply LeB.same|apply LeB.box|apply Le1L.cons|apply Le.agg|apply Le.one))
 ·have hkk : ¬ (k : Int) < x.l.length := by omega
  have e : x.l.any longTx = false := by
   rw [List.any_eq_false]
   intro y hy
   obtain ⟨j,hj⟩ := List.mem_iff_getElem?.1 hy
   rw [hq j y (by have := (List.getElem?_eq_some_iff.1 hj).1;omega) hj]
   decide
  have e2 : shortX x = (decide ((x.s.length : Int) ≤ 1000) && decide ((x.l.length : Int) ≤ 200) && decide (0 ≤ x.e) && decide (x.e ≤ 16)) := by
   unfold shortX
   rw [e,show decide (x.s.length ≤ 1000) = decide ((x.s.length : Int) ≤ 1000) from dec_eq (by omega),show decide (x.l.length ≤ 200) = decide ((x.l.length : Int) ≤ 200) from dec_eq (by omega)]
   rfl
  rw [e2]
  by_cases g1 : (x.s.length : Int) ≤ 1000
  ·by_cases g2 : (x.l.length : Int) ≤ 200
   ·by_cases g3 : 0 ≤ x.e
    ·refine Rg Tryz.func32 ?_;simp only [go_sem,hkk,g1,g2,g3,↓alt_f,↓alts_t,↓gone_tt,Nat.reduceAdd,Nat.reduceLeDiff]
     (and_intros <;> try first|rfl|omega|(unfold I64;omega))
     (repeat' first|exact .refl _|apply LeR.tup|apply Le.agg|constructor)
    ·refine Rg Tryz.func32 ?_;simp only [go_sem,hkk,g1,g2,g3,↓alt_f,↓alts_t,↓alts_f,↓gone_tt,↓gone_tf,Nat.reduceAdd,Nat.reduceLeDiff]
     (and_intros <;> try first|rfl|omega|(unfold I64;omega))
     (repeat' first|exact .refl _|apply LeR.tup|apply Le.agg|constructor)
   ·refine Rg Tryz.func32 ?_;simp only [go_sem,hkk,g1,g2,↓alt_f,↓alts_t,↓alts_f,↓gone_tt,↓gone_tf,Nat.reduceAdd,Nat.reduceLeDiff]
    (and_intros <;> try first|rfl|omega|(unfold I64;omega))
    (repeat' first|exact .refl _|apply LeR.tup|apply Le.agg|constructor)
  ·refine Rg Tryz.func32 ?_;simp only [go_sem,hkk,g1,↓alt_f,↓alts_f,↓gone_tf,Nat.reduceAdd,Nat.reduceLeDiff]
   (and_intros <;> try first|rfl|omega|(unfold I64;omega))
   (repeat' first|exact .refl _|apply LeR.tup|apply Le.agg|constructor)
theorem rsame18_spec (l m : List Acc) (hl : l.length ≤ 281474976710656) : ASpec Tryz.prog 34 [votesA l,votesA m] (.bool (decide (l = m))) := by
 by_cases hlm : l.length = m.length
 ·have hlm' : (l.length : Int) = m.length := by omega
  refine ⟨⟨_,Tryz.func34,by kernel_rfl,rfl⟩,Sg Tryz.func34 rfl fun c0 hc0 => ?_⟩;simp only [go_sem,votesA,hlm',↓alt_f,Nat.reduceAdd,Nat.reduceSub]
  refine Run.loopV (α := Nat) (fun k => k ≤ m.length ∧ decide (l = m) = decide (l.drop k = m.drop k)) (fun k => [(5,.int .i64 k)]) 0 (fun _ => []) (fun k => m.length - k) 0 ⟨Nat.zero_le _,rfl⟩ ?_ ?_
  ·simp only [go_sem,writes,junks,puts,hputs,List.filterMap_cons,List.filterMap_nil]
   (refine Weak.of (by simp [hc0]) ?_ ?_ <;> (repeat' first|exact .refl _|exact .junk _|exact .nil|exact .nil _|exact .tok _ _ _|rfl|apply WkT.cons|apply WkH.cons|apply LeB.same|apply LeB.box|apply Le1L.cons|apply Le.agg|apply Le.one))
  ·rintro k ⟨hI,hrd⟩ ih
   simp only [writes,junks,puts,hputs,List.filterMap_cons,List.filterMap_nil,Y6,Y7,Yk,Y5,Y3,Yd] at ih ⊢
   by_cases hk : k < m.length
   ·obtain ⟨x,hx⟩ : ∃ x,l[k]? = some x := ⟨_,List.getElem?_eq_getElem (by omega)⟩
    obtain ⟨y,hy⟩ : ∃ y,m[k]? = some y := ⟨_,List.getElem?_eq_getElem hk⟩
    have hkk : (k : Int) < m.length := by omega
    rw [dec_eq (drop_eqW hx hy)] at hrd
    have hd := acc_eq x y
    by_cases h1 : x.by_ = y.by_
    ·by_cases h2 : x.view = y.view
     ·by_cases h3 : x.value = y.value
      ·have e : x = y := hd.2 ⟨h1,h2,h3⟩
       refine Rg Tryz.func34 ?_;simp only [go_sem,hx,hy,hkk,hlm',h1,h2,h3,accC,List.getElem?_map,↓alt_t,↓alt_f,Nat.reduceAdd,Nat.reduceLT]
       (and_intros <;> try first|rfl|omega|(unfold I64;omega))
       refine ih (k + 1) _ ⟨by omega,?_⟩ (by omega) ?_
       ·rw [hrd];simp [e]
       ·simp only [Int.natCast_add,Int.natCast_one]
        (refine Weak.of (by simp [hc0]) ?_ ?_ <;> (repeat' first|exact .refl _|exact .junk _|exact .nil|exact .nil _|exact .tok _ _ _|rfl|apply WkT.cons|apply WkH.cons|apply LeB.same|apply LeB.box|apply Le1L.cons|apply Le.agg|apply Le.one))
      ·have e : ¬ x = y := fun e => h3 (hd.1 e).2.2
       refine Rg Tryz.func34 ?_;simp only [go_sem,hx,hy,hkk,hlm',h1,h2,h3,accC,List.getElem?_map,↓alt_t,Nat.reduceAdd,Nat.reduceLT]
       (and_intros <;> try first|rfl|omega|(unfold I64;omega))
       rw [hrd,decide_eq_false (fun h => e h.1)]
       (repeat' first|exact .refl _|apply LeR.tup|apply Le.agg|constructor)
     ·have e : ¬ x = y := fun e => h2 (hd.1 e).2.1
      refine Rg Tryz.func34 ?_;simp only [go_sem,hx,hy,hkk,hlm',h1,h2,accC,List.getElem?_map,↓alt_t,Nat.reduceAdd,Nat.reduceLT]
      (and_intros <;> try first|rfl|omega|(unfold I64;omega))
      rw [hrd,decide_eq_false (fun h => e h.1)]
      (repeat' first|exact .refl _|apply LeR.tup|apply Le.agg|constructor)
    ·have e : ¬ x = y := fun e => h1 (hd.1 e).1
     refine Rg Tryz.func34 ?_;simp only [go_sem,hx,hy,hkk,hlm',h1,accC,List.getElem?_map,↓alt_t,Nat.reduceAdd,Nat.reduceLT]
     (and_intros <;> try first|rfl|omega|(unfold I64;omega))
     rw [hrd,decide_eq_false (fun h => e h.1)]
     (repeat' first|exact .refl _|apply LeR.tup|apply Le.agg|constructor)
   ·obtain rfl : k = m.length := by omega
    have hkk : ¬ (m.length : Int) < m.length := by omega
    refine Rg Tryz.func34 ?_;simp only [go_sem,hkk,hlm',↓alt_f]
    rw [hrd,decide_eq_true (by rw [List.drop_length,← hlm,List.drop_length])]
    (repeat' first|exact .refl _|apply LeR.tup|apply Le.agg|constructor)
 ·have hlm' : ¬ (l.length : Int) = m.length := by omega
  have e : ¬ l = m := fun h => hlm (by rw [h])
  refine ⟨⟨_,Tryz.func34,by kernel_rfl,rfl⟩,Sg Tryz.func34 rfl fun c0 hc0 => ?_⟩;simp only [go_sem,votesA,hlm',↓alt_t,Nat.reduceAdd,Nat.reduceSub]
  rw [decide_eq_false e]
  (repeat' first|exact .refl _|apply LeR.tup|apply Le.agg|constructor)
theorem rone_spec (r q : Rp) (hl : r.proof.length ≤ 281474976710656) : ASpec Tryz.prog 35 [encRp r,encRp q] (.bool (decide (r = q))) := by
 obtain ⟨b,f,h,v,x,p⟩ := r
 obtain ⟨b',f',h',v',x',p'⟩ := q
 have hs := rsame18_spec p p' hl
 refine ⟨⟨_,Tryz.func35,by kernel_rfl,rfl⟩,ACall.of Tryz.func35 rfl fun c0 hc0 => ?_⟩;simp only [Nat.reduceAdd,Nat.reduceSub,go_sem];refine Rg Tryz.func35 ?_;simp (config := { maxSteps := 2000000 }) +contextual only [go_sem,encRp,rpC,votesA,Rp.mk.injEq,beq_iff_eq,beq_eq_false_iff_ne,ne_eq,↓alts_t,↓alts_f,↓gone_tt,↓gone_tf,Nat.reduceAdd,Nat.reduceLeDiff]
 (repeat' (first|(intro _)|(apply And.intro)))
 all_goals try (first|rfl|(repeat' first|exact .refl _|exact .nil|exact .nil _|exact .tok _ _ _|apply LeR.tup|apply LeL.cons|apply Le1L.cons|apply Le.agg|apply Le.one|apply LeR.one))
 refine Ops.pure (Wanted.test 33 true true rfl) rfl rfl (hs) (by simp only [go_sem,votesA];(repeat' first|exact .refl _|apply LeR.tup|apply Le.agg|constructor)) rfl rfl ?_
 refine Og Tryz.func35 ?_;simp only [go_sem]
 (repeat' first|exact .refl _|apply LeR.tup|apply Le.agg|constructor)
theorem rsame20_spec (l m : List Rp) (hl : ∀ r ∈ l,r.proof.length ≤ 281474976710656) (hll : l.length ≤ 281474976710656) : ASpec Tryz.prog 33 [rpsA l,rpsA m] (.bool (decide (l = m))) := by
 by_cases hlm : l.length = m.length
 ·have hlm' : (l.length : Int) = m.length := by omega
  refine ⟨⟨_,Tryz.func33,by kernel_rfl,rfl⟩,Sg Tryz.func33 rfl fun c0 hc0 => ?_⟩;simp only [go_sem,rpsA,hlm',↓alt_f,Nat.reduceAdd,Nat.reduceSub]
  refine Run.loopV (α := Nat) (fun k => k ≤ m.length ∧ decide (l = m) = decide (l.drop k = m.drop k)) (fun k => [(5,.int .i64 k)]) 0 (fun _ => []) (fun k => m.length - k) 0 ⟨Nat.zero_le _,rfl⟩ ?_ ?_
  ·simp only [go_sem,writes,junks,puts,hputs,List.filterMap_cons,List.filterMap_nil]
   (refine Weak.of (by simp [hc0]) ?_ ?_ <;> (repeat' first|exact .refl _|exact .junk _|exact .nil|exact .nil _|exact .tok _ _ _|rfl|apply WkT.cons|apply WkH.cons|apply LeB.same|apply LeB.box|apply Le1L.cons|apply Le.agg|apply Le.one))
  ·rintro k ⟨hI,hrd⟩ ih
   simp only [writes,junks,puts,hputs,List.filterMap_cons,List.filterMap_nil,Y6,Y7,Yk,Y5,Y3,Yd] at ih ⊢
   by_cases hk : k < m.length
   ·obtain ⟨x,hx⟩ : ∃ x,l[k]? = some x := ⟨_,List.getElem?_eq_getElem (by omega)⟩
    obtain ⟨y,hy⟩ : ∃ y,m[k]? = some y := ⟨_,List.getElem?_eq_getElem hk⟩
    have hkk : (k : Int) < m.length := by omega
    rw [dec_eq (drop_eqW hx hy)] at hrd
    have hs := rone_spec x y (hl x (List.mem_of_getElem? hx))
    by_cases h1 : x = y
    ·rw [decide_eq_true h1] at hs
     refine Rg Tryz.func33 ?_;simp only [go_sem,hx,hy,hkk,hlm',rpC,List.getElem?_map,↓alt_t,Nat.reduceAdd,Nat.reduceLT]
     (and_intros <;> try first|rfl|omega|(unfold I64;omega))
     refine DOps.pure rfl .free rfl rfl (hs) (by simp only [go_sem,encRp,rpC];(repeat' first|exact .refl _|apply LeR.tup|apply Le.agg|constructor)) rfl rfl ?_
     refine Dg Tryz.func33 rfl ?_;simp only [go_sem,↓alt_f]
     (and_intros <;> try first|rfl|omega|(unfold I64;omega))
     refine ih (k + 1) _ ⟨by omega,?_⟩ (by omega) ?_
     ·rw [hrd];simp [h1]
     ·simp only [Int.natCast_add,Int.natCast_one]
      (refine Weak.of (by simp [hc0]) ?_ ?_ <;> (repeat' first|exact .refl _|exact .junk _|exact .nil|exact .nil _|exact .tok _ _ _|rfl|apply WkT.cons|apply WkH.cons|apply LeB.same|apply LeB.box|apply Le1L.cons|apply Le.agg|apply Le.one))
    ·rw [decide_eq_false h1] at hs
     refine Rg Tryz.func33 ?_;simp only [go_sem,hx,hy,hkk,hlm',rpC,List.getElem?_map,↓alt_t,Nat.reduceAdd,Nat.reduceLT]
     (and_intros <;> try first|rfl|omega|(unfold I64;omega))
     refine DOps.pure rfl .free rfl rfl (hs) (by simp only [go_sem,encRp,rpC];(repeat' first|exact .refl _|apply LeR.tup|apply Le.agg|constructor)) rfl rfl ?_
     refine Dg Tryz.func33 rfl ?_;simp only [go_sem,↓alt_t]
     rw [hrd,decide_eq_false (fun h => h1 h.1)]
     (and_intros <;> try first|rfl|omega|(unfold I64;omega))
     (repeat' first|exact .refl _|apply LeR.tup|apply Le.agg|constructor)
   ·obtain rfl : k = m.length := by omega
    have hkk : ¬ (m.length : Int) < m.length := by omega
    refine Rg Tryz.func33 ?_;simp only [go_sem,hkk,hlm',↓alt_f]
    rw [hrd,decide_eq_true (by rw [List.drop_length,← hlm,List.drop_length])]
    (repeat' first|exact .refl _|apply LeR.tup|apply Le.agg|constructor)
 ·have hlm' : ¬ (l.length : Int) = m.length := by omega
  have e : ¬ l = m := fun h => hlm (by rw [h])
  refine ⟨⟨_,Tryz.func33,by kernel_rfl,rfl⟩,Sg Tryz.func33 rfl fun c0 hc0 => ?_⟩;simp only [go_sem,rpsA,hlm',↓alt_t,Nat.reduceAdd,Nat.reduceSub]
  rw [decide_eq_false e]
  (repeat' first|exact .refl _|apply LeR.tup|apply Le.agg|constructor)
theorem Ltr.eq2 {l m : Ltr} (h1 : l.kind = m.kind) (h2 : l.frm = m.frm) (h3 : l.slot = m.slot) (h4 : l.view = m.view) (h5 : l.value = m.value) (h6 : l.vote = m.vote) (h7 : l.sum = m.sum) (h8 : l.o = m.o) : decide (l = m) = (decide (l.cert = m.cert) && decide (l.proof = m.proof) && decide (l.r = m.r) && decide (l.x = m.x)) := by
 obtain ⟨⟩ := l
 obtain ⟨⟩ := m
 simp only at *
 subst h1 h2 h3 h4 h5 h6 h7 h8
 simp only [Ltr.mk.injEq,Yt]
 simp only [Bool.decide_and,Bool.and_assoc]
theorem rsame27_spec (l m : Ltr) (hl : l.sum.length = 32) (hm : m.sum.length = 32) (hc : ∀ r ∈ l.cert ++ [l.r],r.proof.length ≤ 281474976710656) (hcl : l.cert.length ≤ 140737488355328) (hp : l.proof.length ≤ 281474976710656) (hx : l.x.l.length ≤ 281474976710656) : ASpec Tryz.prog 13 [.agg (letC l),.agg (letC m)] (.bool (decide (l = m))) := by
 have x16 := let_16 l hl
 have x48 := let_48 l hl
 have x56 := let_56 l hl
 have xlen := let_len l hl
 have y16 := let_16 m hm
 have y48 := let_48 m hm
 have y56 := let_56 m hm
 have ylen := let_len m hm
 have hV := accV_eq l.vote m.vote
 have hO := ordV_eq l.o m.o
 have hS := sumV_eq l.sum m.sum hl hm
 have s1 := rsame20_spec l.cert m.cert (fun r hr => hc r (List.mem_append_left _ hr)) (by omega)
 have s2 := rsame18_spec l.proof m.proof hp
 have s3 := rone_spec l.r m.r (hc l.r (by simp))
 have s4 := rsame12_spec l.x m.x hx
 by_cases h1 : l.kind = m.kind
 case neg =>
  rw [Ltr.ne fun e => h1 e.1]
  refine ⟨⟨_,Tryz.func13,by kernel_rfl,rfl⟩,Sg Tryz.func13 rfl fun c0 hc0 => ?_⟩;simp only [go_sem,let_0,xlen,ylen,h1,↓alts_f,↓gone_tf,Nat.reduceLeDiff,Nat.reduceAdd,Nat.reduceSub]
  (and_intros <;> try first|rfl|omega|(unfold I64;omega))
  all_goals (repeat' first|exact .refl _|apply LeR.tup|apply Le.agg|constructor)
 by_cases h2 : l.frm = m.frm
 case neg =>
  rw [Ltr.ne fun e => h2 e.2.1]
  refine ⟨⟨_,Tryz.func13,by kernel_rfl,rfl⟩,Sg Tryz.func13 rfl fun c0 hc0 => ?_⟩;simp only [go_sem,let_0,let_1,xlen,ylen,h1,h2,↓alts_t,↓alts_f,↓gone_tt,↓gone_tf,Nat.reduceAdd,Nat.reduceLeDiff,Nat.reduceSub]
  (and_intros <;> try first|rfl|omega|(unfold I64;omega))
  all_goals (repeat' first|exact .refl _|apply LeR.tup|apply Le.agg|constructor)
 by_cases h3 : l.slot = m.slot
 case neg =>
  rw [Ltr.ne fun e => h3 e.2.2.1]
  refine ⟨⟨_,Tryz.func13,by kernel_rfl,rfl⟩,Sg Tryz.func13 rfl fun c0 hc0 => ?_⟩;simp only [go_sem,let_0,let_1,let_2,xlen,ylen,h1,h2,h3,↓alts_t,↓alts_f,↓gone_tt,↓gone_tf,Nat.reduceAdd,Nat.reduceLeDiff,Nat.reduceSub]
  (and_intros <;> try first|rfl|omega|(unfold I64;omega))
  all_goals (repeat' first|exact .refl _|apply LeR.tup|apply Le.agg|constructor)
 by_cases h4 : l.view = m.view
 case neg =>
  rw [Ltr.ne fun e => h4 e.2.2.2.1]
  refine ⟨⟨_,Tryz.func13,by kernel_rfl,rfl⟩,Sg Tryz.func13 rfl fun c0 hc0 => ?_⟩;simp only [go_sem,let_0,let_1,let_2,let_3,xlen,ylen,h1,h2,h3,h4,↓alts_t,↓alts_f,↓gone_tt,↓gone_tf,Nat.reduceAdd,Nat.reduceLeDiff,Nat.reduceSub]
  (and_intros <;> try first|rfl|omega|(unfold I64;omega))
  all_goals (repeat' first|exact .refl _|apply LeR.tup|apply Le.agg|constructor)
 by_cases h5 : l.value = m.value
 case neg =>
  rw [Ltr.ne fun e => h5 e.2.2.2.2.1]
  refine ⟨⟨_,Tryz.func13,by kernel_rfl,rfl⟩,Sg Tryz.func13 rfl fun c0 hc0 => ?_⟩;simp only [go_sem,let_0,let_1,let_2,let_3,let_4,xlen,ylen,h1,h2,h3,h4,h5,↓alts_t,↓alts_f,↓gone_tt,↓gone_tf,Nat.reduceAdd,Nat.reduceLeDiff,Nat.reduceSub]
  (and_intros <;> try first|rfl|omega|(unfold I64;omega))
  all_goals (repeat' first|exact .refl _|apply LeR.tup|apply Le.agg|constructor)
 by_cases h6 : l.vote = m.vote
 case neg =>
  rw [Ltr.ne fun e => h6 e.2.2.2.2.2.1]
  refine ⟨⟨_,Tryz.func13,by kernel_rfl,rfl⟩,Sg Tryz.func13 rfl fun c0 hc0 => ?_⟩;simp only [go_sem,let_0,let_1,let_2,let_3,let_4,let_6,xlen,ylen,hV,h1,h2,h3,h4,h5,h6,↓alts_t,↓alts_f,↓gone_tt,↓gone_tf,Nat.reduceAdd,Nat.reduceLeDiff,Nat.reduceSub]
  (and_intros <;> try first|rfl|omega|(unfold I64;omega))
  all_goals (repeat' first|exact .refl _|apply LeR.tup|apply Le.agg|constructor)
 rw [h6] at hV
 by_cases h7 : l.sum = m.sum
 case neg =>
  rw [Ltr.ne fun e => h7 e.2.2.2.2.2.2.1]
  refine ⟨⟨_,Tryz.func13,by kernel_rfl,rfl⟩,Sg Tryz.func13 rfl fun c0 hc0 => ?_⟩;simp only [go_sem,let_0,let_1,let_2,let_3,let_4,let_6,x16,y16,xlen,ylen,hV,hS,h1,h2,h3,h4,h5,h6,h7,↓alts_t,↓alts_f,↓gone_tt,↓gone_tf,Nat.reduceAdd,Nat.reduceLeDiff,Nat.reduceSub]
  (and_intros <;> try first|rfl|omega|(unfold I64;omega))
  all_goals (repeat' first|exact .refl _|apply LeR.tup|apply Le.agg|constructor)
 rw [h7] at hS
 by_cases h8 : l.o = m.o
 case neg =>
  rw [Ltr.ne fun e => h8 e.2.2.2.2.2.2.2.1]
  refine ⟨⟨_,Tryz.func13,by kernel_rfl,rfl⟩,Sg Tryz.func13 rfl fun c0 hc0 => ?_⟩;simp only [go_sem,let_0,let_1,let_2,let_3,let_4,let_6,x16,x48,y16,y48,xlen,ylen,hV,hO,hS,h1,h2,h3,h4,h5,h6,h7,h8,↓alts_t,↓alts_f,↓gone_tt,↓gone_tf,Nat.reduceAdd,Nat.reduceLeDiff,Nat.reduceSub]
  (and_intros <;> try first|rfl|omega|(unfold I64;omega))
  all_goals (repeat' first|exact .refl _|apply LeR.tup|apply Le.agg|constructor)
 rw [h8] at hO
 rw [Ltr.eq2 h1 h2 h3 h4 h5 h6 h7 h8]
 refine ⟨⟨_,Tryz.func13,by kernel_rfl,rfl⟩,Sg Tryz.func13 rfl fun c0 hc0 => ?_⟩;simp only [go_sem,let_0,let_1,let_2,let_3,let_4,let_5,let_6,x16,x48,y16,y48,xlen,ylen,hV,hO,hS,h1,h2,h3,h4,h5,h6,h7,h8,↓alts_t,↓gone_tt,Nat.reduceAdd,Nat.reduceLeDiff,Nat.reduceSub]
 (and_intros <;> try first|rfl|omega|(unfold I64;omega))
 by_cases k1 : l.cert = m.cert
 case neg =>
  rw [decide_eq_false k1] at s1 ⊢
  refine Ops.pure (Wanted.test 1 true true rfl) rfl rfl (s1) (by simp only [go_sem,rpsA];(repeat' first|exact .refl _|apply LeR.tup|apply Le.agg|constructor)) rfl rfl ?_
  refine Og Tryz.func13 ?_;simp only [go_sem,↓alts_f,↓gone_tf]
  (and_intros <;> try first|rfl|omega|(unfold I64;omega))
  all_goals (repeat' first|exact .refl _|apply LeR.tup|apply Le.agg|constructor)
 rw [decide_eq_true k1] at s1 ⊢
 refine Ops.pure (Wanted.test 1 true true rfl) rfl rfl (s1) (by simp only [go_sem,rpsA];(repeat' first|exact .refl _|apply LeR.tup|apply Le.agg|constructor)) rfl rfl ?_
 refine Og Tryz.func13 ?_;simp only [go_sem,let_9,xlen,ylen,↓alts_t,↓gone_tt,Nat.reduceAdd,Nat.reduceLeDiff]
 (and_intros <;> try first|rfl|omega|(unfold I64;omega))
 by_cases k2 : l.proof = m.proof
 case neg =>
  rw [decide_eq_false k2] at s2 ⊢
  refine Ops.pure (Wanted.test 8 true true rfl) rfl rfl (s2) (by simp only [go_sem,votesA];(repeat' first|exact .refl _|apply LeR.tup|apply Le.agg|constructor)) rfl rfl ?_
  refine Og Tryz.func13 ?_;simp only [go_sem,↓alts_f,↓gone_tf]
  (and_intros <;> try first|rfl|omega|(unfold I64;omega))
  all_goals (repeat' first|exact .refl _|apply LeR.tup|apply Le.agg|constructor)
 rw [decide_eq_true k2] at s2 ⊢
 refine Ops.pure (Wanted.test 8 true true rfl) rfl rfl (s2) (by simp only [go_sem,votesA];(repeat' first|exact .refl _|apply LeR.tup|apply Le.agg|constructor)) rfl rfl ?_
 refine Og Tryz.func13 ?_;simp only [go_sem,let_10,xlen,ylen,↓alts_t,↓gone_tt,Nat.reduceAdd,Nat.reduceLeDiff]
 (and_intros <;> try first|rfl|omega|(unfold I64;omega))
 by_cases k3 : l.r = m.r
 case neg =>
  rw [decide_eq_false k3] at s3 ⊢
  refine Ops.pure (Wanted.test 15 true true rfl) rfl rfl (s3) (by simp only [go_sem,encRp,rpC,votesA];(repeat' first|exact .refl _|apply LeR.tup|apply Le.agg|constructor)) rfl rfl ?_
  refine Og Tryz.func13 ?_;simp only [go_sem,↓alts_f,↓gone_tf]
  (and_intros <;> try first|rfl|omega|(unfold I64;omega))
  all_goals (repeat' first|exact .refl _|apply LeR.tup|apply Le.agg|constructor)
 rw [decide_eq_true k3] at s3 ⊢
 refine Ops.pure (Wanted.test 15 true true rfl) rfl rfl (s3) (by simp only [go_sem,encRp,rpC,votesA];(repeat' first|exact .refl _|apply LeR.tup|apply Le.agg|constructor)) rfl rfl ?_
 refine Og Tryz.func13 ?_;simp only [go_sem,x56,y56,xlen,ylen,↓alts_t,↓gone_tt,Nat.reduceAdd]
 (and_intros <;> try first|rfl|omega|(unfold I64;omega))
 refine Ops.pure (Wanted.test 22 true true rfl) rfl rfl (s4) (by simp only [go_sem,encR,rplC,textsA];(repeat' first|exact .refl _|apply LeR.tup|apply Le.agg|constructor)) rfl rfl ?_
 refine Og Tryz.func13 ?_;simp only [go_sem]
 (and_intros <;> try first|rfl|omega|(unfold I64;omega))
 all_goals (repeat' first|exact .refl _|apply LeR.tup|apply Le.agg|constructor)
def zR : Rp := ⟨0,0,false,0,[],[]⟩
def emptyB (u : Bytes) (l : Ltr) : Bool := (u.contains 102 || decide (l.frm = 0)) && ((u.contains 115 || decide (l.slot = 0)) && ((u.contains 118 || decide (l.view = 0)) && ((u.contains 120 || decide (l.value = [])) && ((u.contains 99 || decide (l.cert = [])) && ((u.contains 97 || decide (l.vote = zA)) && ((u.contains 112 || decide (l.proof = [])) && ((u.contains 114 || decide (l.r = zR)) && ((u.contains 109 || decide (l.sum = zM)) && ((u.contains 111 || decide (l.o = zO)) && ((u.contains 121 || decide (l.x = zX))))))))))))
theorem rempty27_spec (l : Ltr) (u : Bytes) (hu : u.length ≤ 100) (hl : l.sum.length = 32) (hp : l.r.proof.length ≤ 281474976710656) (hx : l.x.l.length ≤ 281474976710656) : ASpec Tryz.prog 28 [.agg (letC l),.str u] (.bool (emptyB u l)) := by
 have x1 := let_1 l
 have x2 := let_2 l
 have x3 := let_3 l
 have x4 := let_4 l
 have x5 := let_5 l
 have x6 := let_6 l
 have x9 := let_9 l
 have x10 := let_10 l
 have x16 := let_16 l hl
 have x48 := let_48 l hl
 have x56 := let_56 l hl
 have xlen := let_len l hl
 have hV : aeqs [.int .i64,.int .i64,.str] (accC l.vote) [.int .i64 0,.int .i64 0,.str []] = some (decide (l.vote = zA)) := accV_eq l.vote zA
 have hO : aeqs [.int .i64,.int .i64,.int .i64,.str,.str,.int .i64,.int .i64,.int .i64] (ordC l.o) [.int .i64 0,.int .i64 0,.int .i64 0,.str [],.str [],.int .i64 0,.int .i64 0,.int .i64 0] = some (decide (l.o = zO)) := ordV_eq l.o zO
 have hS : aeqs [.int .u8,.int .u8,.int .u8,.int .u8,.int .u8,.int .u8,.int .u8,.int .u8,.int .u8,.int .u8,.int .u8,.int .u8,.int .u8,.int .u8,.int .u8,.int .u8,.int .u8,.int .u8,.int .u8,.int .u8,.int .u8,.int .u8,.int .u8,.int .u8,.int .u8,.int .u8,.int .u8,.int .u8,.int .u8,.int .u8,.int .u8,.int .u8] (sumC l.sum) [.int .u8 0,.int .u8 0,.int .u8 0,.int .u8 0,.int .u8 0,.int .u8 0,.int .u8 0,.int .u8 0,.int .u8 0,.int .u8 0,.int .u8 0,.int .u8 0,.int .u8 0,.int .u8 0,.int .u8 0,.int .u8 0,.int .u8 0,.int .u8 0,.int .u8 0,.int .u8 0,.int .u8 0,.int .u8 0,.int .u8 0,.int .u8 0,.int .u8 0,.int .u8 0,.int .u8 0,.int .u8 0,.int .u8 0,.int .u8 0,.int .u8 0,.int .u8 0] = some (decide (l.sum = zM)) := sumV_eq l.sum zM hl rfl
 have hR := rone_spec l.r zR hp
 have hX := rsame12_spec l.x zX hx
 have hcl : l.cert = [] ↔ (l.cert.length : Int) = 0 := by cases l.cert <;> simp;omega
 have hpl : l.proof = [] ↔ (l.proof.length : Int) = 0 := by cases l.proof <;> simp;omega
 have i_f := in27_spec u 102 _ rfl (by omega)
 have i_s := in27_spec u 115 _ rfl (by omega)
 have i_v := in27_spec u 118 _ rfl (by omega)
 have i_x := in27_spec u 120 _ rfl (by omega)
 have i_c := in27_spec u 99 _ rfl (by omega)
 have i_a := in27_spec u 97 _ rfl (by omega)
 have i_p := in27_spec u 112 _ rfl (by omega)
 have i_r := in27_spec u 114 _ rfl (by omega)
 have i_m := in27_spec u 109 _ rfl (by omega)
 have i_o := in27_spec u 111 _ rfl (by omega)
 have i_y := in27_spec u 121 _ rfl (by omega)
 unfold emptyB
 generalize hcs : letC l = cs at *
 refine ⟨⟨_,Tryz.func28,by kernel_rfl,rfl⟩,Sg Tryz.func28 rfl fun c0 hc0 => ?_⟩;simp only [go_sem,Nat.reduceAdd,Nat.reduceSub]
 refine cut_at (P := ?F1) ?kF ?cF
 case kF =>
  intro tF
  refine cut_at (P := ?P0) ?k0 ?c0
  case k0 =>
   cases hi : u.contains 102 with
   | true =>
    rw [Bool.true_or,Bool.true_and]
    intro common
    have hj := i_f
    rw [hi] at hj
    refine Ops.pure .free rfl rfl (hj) (by simp only [go_sem];(repeat' first|exact .refl _|apply LeR.tup|apply Le.agg|constructor)) rfl rfl ?_
    refine Og Tryz.func28 ?_;simp only [go_sem,↓alts_t,↓gone_tt,↓gone_ft,Nat.reduceAdd]
    refine Ops.junk [7,8,9,10,11,12,13] ?_
    simp only [junkAt,Y6,Y7]
    exact common
   | false =>
    by_cases hz : l.frm = 0
    case pos =>
     rw [Bool.false_or,decide_eq_true hz,Bool.true_and]
     intro common
     have hj := i_f
     rw [hi] at hj
     refine Ops.pure .free rfl rfl (hj) (by simp only [go_sem];(repeat' first|exact .refl _|apply LeR.tup|apply Le.agg|constructor)) rfl rfl ?_
     refine Og Tryz.func28 ?_;simp only [go_sem,hz,x1,xlen,↓alts_t,↓alts_f,↓gone_tt,↓gone_ff,Nat.reduceAdd,Nat.reduceLeDiff]
     refine Ops.junk [7,8,9,10,11,12,13] ?_
     simp only [junkAt,Y6,Y7]
     exact common
    case neg =>
     rw [Bool.false_or,decide_eq_false hz,Bool.false_and]
     intro _
     have hj := i_f
     rw [hi] at hj
     refine Ops.pure .free rfl rfl (hj) (by simp only [go_sem];(repeat' first|exact .refl _|apply LeR.tup|apply Le.agg|constructor)) rfl rfl ?_
     refine Og Tryz.func28 ?_;simp only [go_sem,hz,x1,xlen,↓alts_f,↓gone_tf,↓gone_ff,Nat.reduceAdd,Nat.reduceLeDiff]
     refine Ops.junk [7,8,9,10,11,12,13,14,15,16,17,18,19,20,21,22,23,24,25,26,27,28,29,30,31,32,33,34,35,36,37,38,39,40] ?_
     simp only [junkAt,Y6,Y7]
     exact tF
  case c0 =>
   refine cut_at (P := ?P1) ?k1 ?c1
   case k1 =>
    cases hi : u.contains 115 with
    | true =>
     rw [Bool.true_or,Bool.true_and]
     intro common
     have hj := i_s
     rw [hi] at hj
     refine Ops.pure (Wanted.test 7 true true rfl) rfl rfl (hj) (by simp only [go_sem];(repeat' first|exact .refl _|apply LeR.tup|apply Le.agg|constructor)) rfl rfl ?_
     refine Og Tryz.func28 ?_;simp only [go_sem,↓alts_t,↓gone_tt,↓gone_ft,Nat.reduceAdd]
     refine Ops.junk [7,8,9,10,11,12,13,14,15,16,17,18,19,20,21,22] ?_
     simp only [junkAt,Y6,Y7]
     exact common
    | false =>
     by_cases hz : l.slot = 0
     case pos =>
      rw [Bool.false_or,decide_eq_true hz,Bool.true_and]
      intro common
      have hj := i_s
      rw [hi] at hj
      refine Ops.pure (Wanted.test 7 true true rfl) rfl rfl (hj) (by simp only [go_sem];(repeat' first|exact .refl _|apply LeR.tup|apply Le.agg|constructor)) rfl rfl ?_
      refine Og Tryz.func28 ?_;simp only [go_sem,hz,x2,xlen,↓alts_t,↓alts_f,↓gone_tt,↓gone_ff,Nat.reduceAdd,Nat.reduceLeDiff]
      refine Ops.junk [7,8,9,10,11,12,13,14,15,16,17,18,19,20,21,22] ?_
      simp only [junkAt,Y6,Y7]
      exact common
     case neg =>
      rw [Bool.false_or,decide_eq_false hz,Bool.false_and]
      intro _
      have hj := i_s
      rw [hi] at hj
      refine Ops.pure (Wanted.test 7 true true rfl) rfl rfl (hj) (by simp only [go_sem];(repeat' first|exact .refl _|apply LeR.tup|apply Le.agg|constructor)) rfl rfl ?_
      refine Og Tryz.func28 ?_;simp only [go_sem,hz,x2,xlen,↓alts_t,↓alts_f,↓gone_tt,↓gone_tf,↓gone_ff,Nat.reduceAdd,Nat.reduceLeDiff]
      refine Ops.junk [7,8,9,10,11,12,13,14,15,16,17,18,19,20,21,22,23,24,25,26,27,28,29,30,31,32,33,34,35,36,37,38,39,40] ?_
      simp only [junkAt,Y6,Y7]
      exact tF
   case c1 =>
    refine cut_at (P := ?P2) ?k2 ?c2
    case k2 =>
     cases hi : u.contains 118 with
     | true =>
      rw [Bool.true_or,Bool.true_and]
      intro common
      have hj := i_v
      rw [hi] at hj
      refine Ops.pure (Wanted.test 16 true true rfl) rfl rfl (hj) (by simp only [go_sem];(repeat' first|exact .refl _|apply LeR.tup|apply Le.agg|constructor)) rfl rfl ?_
      refine Og Tryz.func28 ?_;simp only [go_sem,↓alts_t,↓gone_tt,↓gone_ft,Nat.reduceAdd]
      refine Ops.junk [7,8,9,10,11,12,13,14,15,16,17,18,19,20,21,22,23,24,25,26,27,28,29,30,31] ?_
      simp only [junkAt,Y6,Y7]
      exact common
     | false =>
      by_cases hz : l.view = 0
      case pos =>
       rw [Bool.false_or,decide_eq_true hz,Bool.true_and]
       intro common
       have hj := i_v
       rw [hi] at hj
       refine Ops.pure (Wanted.test 16 true true rfl) rfl rfl (hj) (by simp only [go_sem];(repeat' first|exact .refl _|apply LeR.tup|apply Le.agg|constructor)) rfl rfl ?_
       refine Og Tryz.func28 ?_;simp only [go_sem,hz,x3,xlen,↓alts_t,↓alts_f,↓gone_tt,↓gone_ff,Nat.reduceAdd,Nat.reduceLeDiff]
       refine Ops.junk [7,8,9,10,11,12,13,14,15,16,17,18,19,20,21,22,23,24,25,26,27,28,29,30,31] ?_
       simp only [junkAt,Y6,Y7]
       exact common
      case neg =>
       rw [Bool.false_or,decide_eq_false hz,Bool.false_and]
       intro _
       have hj := i_v
       rw [hi] at hj
       refine Ops.pure (Wanted.test 16 true true rfl) rfl rfl (hj) (by simp only [go_sem];(repeat' first|exact .refl _|apply LeR.tup|apply Le.agg|constructor)) rfl rfl ?_
       refine Og Tryz.func28 ?_;simp only [go_sem,hz,x3,xlen,↓alts_t,↓alts_f,↓gone_tt,↓gone_tf,↓gone_ff,Nat.reduceAdd,Nat.reduceLeDiff]
       refine Ops.junk [7,8,9,10,11,12,13,14,15,16,17,18,19,20,21,22,23,24,25,26,27,28,29,30,31,32,33,34,35,36,37,38,39,40] ?_
       simp only [junkAt,Y6,Y7]
       exact tF
    case c2 =>
     refine cut_at (P := ?P3) ?k3 ?c3
     case k3 =>
      cases hi : u.contains 120 with
      | true =>
       rw [Bool.true_or,Bool.true_and]
       intro common
       have hj := i_x
       rw [hi] at hj
       refine Ops.pure (Wanted.test 25 true true rfl) rfl rfl (hj) (by simp only [go_sem];(repeat' first|exact .refl _|apply LeR.tup|apply Le.agg|constructor)) rfl rfl ?_
       refine Og Tryz.func28 ?_;simp only [go_sem,↓alts_t,↓gone_tt,↓gone_ft]
       refine Ops.junk [7,8,9,10,11,12,13,14,15,16,17,18,19,20,21,22,23,24,25,26,27,28,29,30,31,32,33,34,35,36,37,38,39,40] ?_
       simp only [junkAt,Y6,Y7]
       exact common
      | false =>
       by_cases hz : l.value = []
       case pos =>
        rw [Bool.false_or,decide_eq_true hz,Bool.true_and]
        intro common
        have hj := i_x
        rw [hi] at hj
        refine Ops.pure (Wanted.test 25 true true rfl) rfl rfl (hj) (by simp only [go_sem];(repeat' first|exact .refl _|apply LeR.tup|apply Le.agg|constructor)) rfl rfl ?_
        refine Og Tryz.func28 ?_;simp only [go_sem,hz,x4,xlen,↓alts_t,↓alts_f,↓gone_tt,↓gone_ff,Nat.reduceAdd,Nat.reduceLeDiff]
        refine Ops.junk [7,8,9,10,11,12,13,14,15,16,17,18,19,20,21,22,23,24,25,26,27,28,29,30,31,32,33,34,35,36,37,38,39,40] ?_
        simp only [junkAt,Y6,Y7]
        exact common
       case neg =>
        rw [Bool.false_or,decide_eq_false hz,Bool.false_and]
        intro _
        have hj := i_x
        rw [hi] at hj
        refine Ops.pure (Wanted.test 25 true true rfl) rfl rfl (hj) (by simp only [go_sem];(repeat' first|exact .refl _|apply LeR.tup|apply Le.agg|constructor)) rfl rfl ?_
        refine Og Tryz.func28 ?_;simp only [go_sem,hz,x4,xlen,↓alts_t,↓alts_f,↓gone_tt,↓gone_ff,Nat.reduceAdd,Nat.reduceLeDiff]
        refine Ops.junk [7,8,9,10,11,12,13,14,15,16,17,18,19,20,21,22,23,24,25,26,27,28,29,30,31,32,33,34,35,36,37,38,39,40] ?_
        simp only [junkAt,Y6,Y7]
        exact tF
     case c3 =>
      refine cut_at (P := ?Q4) ?l4 ?d4
      case l4 =>
       cases hi : u.contains 99 with
       | true =>
        rw [Bool.true_or,Bool.true_and]
        intro common
        have hj := i_c
        rw [hi] at hj
        refine Ops.pure .free rfl rfl (hj) (by simp only [go_sem];(repeat' first|exact .refl _|apply LeR.tup|apply Le.agg|constructor)) rfl rfl ?_
        refine Og Tryz.func28 ?_;simp only [go_sem,↓alts_t,↓gone_tt,↓gone_ft,Nat.reduceAdd]
        refine Ops.junk [41,42,43,44,45,46,47,48] ?_
        simp only [junkAt,Y6,Y7]
        exact common
       | false =>
        by_cases hz : l.cert = []
        case pos =>
         rw [Bool.false_or,decide_eq_true hz,Bool.true_and]
         intro common
         have hj := i_c
         rw [hi] at hj
         refine Ops.pure .free rfl rfl (hj) (by simp only [go_sem];(repeat' first|exact .refl _|apply LeR.tup|apply Le.agg|constructor)) rfl rfl ?_
         have hz1 : (l.cert.length : Int) = 0 := hcl.1 hz
         refine Og Tryz.func28 ?_;simp only [go_sem,rpsA,hz1,x5,xlen,↓alts_t,↓alts_f,↓gone_tt,↓gone_ff,Nat.reduceAdd,Nat.reduceLeDiff]
         refine Ops.junk [41,42,43,44,45,46,47,48] ?_
         simp only [junkAt,Y6,Y7]
         exact common
        case neg =>
         rw [Bool.false_or,decide_eq_false hz,Bool.false_and]
         intro _
         have hj := i_c
         rw [hi] at hj
         refine Ops.pure .free rfl rfl (hj) (by simp only [go_sem];(repeat' first|exact .refl _|apply LeR.tup|apply Le.agg|constructor)) rfl rfl ?_
         have hz1 : ¬ (l.cert.length : Int) = 0 := fun h => hz (hcl.2 h)
         refine Og Tryz.func28 ?_;simp only [go_sem,rpsA,hz1,x5,xlen,↓alts_t,↓alts_f,↓gone_tt,↓gone_tf,↓gone_ff,Nat.reduceAdd,Nat.reduceLeDiff]
         (and_intros <;> try first|rfl|omega|(unfold I64;omega))
         all_goals (repeat' first|exact .refl _|apply LeR.tup|apply Le.agg|constructor)
      case d4 =>
       refine cut_at (P := ?Q5) ?l5 ?d5
       case l5 =>
        cases hi : u.contains 97 with
        | true =>
         rw [Bool.true_or,Bool.true_and]
         intro common
         have hj := i_a
         rw [hi] at hj
         refine Ops.pure (Wanted.test 8 true true rfl) rfl rfl (hj) (by simp only [go_sem];(repeat' first|exact .refl _|apply LeR.tup|apply Le.agg|constructor)) rfl rfl ?_
         refine Og Tryz.func28 ?_;simp only [go_sem,↓alts_t,↓gone_tt,↓gone_ft,Nat.reduceAdd]
         refine Ops.junk [41,42,43,44,45,46,47,48,49,50,51,52,53,54,55,56,57,58] ?_
         simp only [junkAt,Y6,Y7]
         exact common
        | false =>
         by_cases hz : l.vote = zA
         case pos =>
          rw [Bool.false_or,decide_eq_true hz,Bool.true_and]
          intro common
          have hj := i_a
          rw [hi] at hj
          refine Ops.pure (Wanted.test 8 true true rfl) rfl rfl (hj) (by simp only [go_sem];(repeat' first|exact .refl _|apply LeR.tup|apply Le.agg|constructor)) rfl rfl ?_
          have hw := hV
          rw [decide_eq_true hz] at hw
          refine Og Tryz.func28 ?_;simp only [go_sem,hw,x6,xlen,↓alts_t,↓alts_f,↓gone_tt,↓gone_ff,Nat.reduceAdd,Nat.reduceLeDiff]
          refine Ops.junk [41,42,43,44,45,46,47,48,49,50,51,52,53,54,55,56,57,58] ?_
          simp only [junkAt,Y6,Y7]
          exact common
         case neg =>
          rw [Bool.false_or,decide_eq_false hz,Bool.false_and]
          intro _
          have hj := i_a
          rw [hi] at hj
          refine Ops.pure (Wanted.test 8 true true rfl) rfl rfl (hj) (by simp only [go_sem];(repeat' first|exact .refl _|apply LeR.tup|apply Le.agg|constructor)) rfl rfl ?_
          have hw := hV
          rw [decide_eq_false hz] at hw
          refine Og Tryz.func28 ?_;simp only [go_sem,hw,x6,xlen,↓alts_t,↓alts_f,↓gone_tt,↓gone_tf,↓gone_ff,Nat.reduceAdd,Nat.reduceLeDiff]
          (and_intros <;> try first|rfl|omega|(unfold I64;omega))
          all_goals (repeat' first|exact .refl _|apply LeR.tup|apply Le.agg|constructor)
       case d5 =>
        refine cut_at (P := ?Q6) ?l6 ?d6
        case l6 =>
         cases hi : u.contains 112 with
         | true =>
          rw [Bool.true_or,Bool.true_and]
          intro common
          have hj := i_p
          rw [hi] at hj
          refine Ops.pure (Wanted.test 18 true true rfl) rfl rfl (hj) (by simp only [go_sem];(repeat' first|exact .refl _|apply LeR.tup|apply Le.agg|constructor)) rfl rfl ?_
          refine Og Tryz.func28 ?_;simp only [go_sem,↓alts_t,↓gone_tt,↓gone_ft,Nat.reduceAdd]
          refine Ops.junk [41,42,43,44,45,46,47,48,49,50,51,52,53,54,55,56,57,58,59,60,61,62,63,64,65,66,67,68] ?_
          simp only [junkAt,Y6,Y7]
          exact common
         | false =>
          by_cases hz : l.proof = []
          case pos =>
           rw [Bool.false_or,decide_eq_true hz,Bool.true_and]
           intro common
           have hj := i_p
           rw [hi] at hj
           refine Ops.pure (Wanted.test 18 true true rfl) rfl rfl (hj) (by simp only [go_sem];(repeat' first|exact .refl _|apply LeR.tup|apply Le.agg|constructor)) rfl rfl ?_
           have hz1 : (l.proof.length : Int) = 0 := hpl.1 hz
           refine Og Tryz.func28 ?_;simp only [go_sem,votesA,hz1,x9,xlen,↓alts_t,↓alts_f,↓gone_tt,↓gone_ff,Nat.reduceAdd,Nat.reduceLeDiff]
           refine Ops.junk [41,42,43,44,45,46,47,48,49,50,51,52,53,54,55,56,57,58,59,60,61,62,63,64,65,66,67,68] ?_
           simp only [junkAt,Y6,Y7]
           exact common
          case neg =>
           rw [Bool.false_or,decide_eq_false hz,Bool.false_and]
           intro _
           have hj := i_p
           rw [hi] at hj
           refine Ops.pure (Wanted.test 18 true true rfl) rfl rfl (hj) (by simp only [go_sem];(repeat' first|exact .refl _|apply LeR.tup|apply Le.agg|constructor)) rfl rfl ?_
           have hz1 : ¬ (l.proof.length : Int) = 0 := fun h => hz (hpl.2 h)
           refine Og Tryz.func28 ?_;simp only [go_sem,votesA,hz1,x9,xlen,↓alts_t,↓alts_f,↓gone_tt,↓gone_tf,↓gone_ff,Nat.reduceAdd,Nat.reduceLeDiff]
           (and_intros <;> try first|rfl|omega|(unfold I64;omega))
           all_goals (repeat' first|exact .refl _|apply LeR.tup|apply Le.agg|constructor)
        case d6 =>
         refine cut_at (P := ?R7) ?m7 ?e7
         case m7 =>
          cases hi : u.contains 114 with
          | true =>
           rw [Bool.true_or,Bool.true_and]
           intro common
           have hj := i_r
           rw [hi] at hj
           refine Ops.pure (Wanted.test 4 true true rfl) rfl rfl (hj) (by simp only [go_sem];(repeat' first|exact .refl _|apply LeR.tup|apply Le.agg|constructor)) rfl rfl ?_
           refine Og Tryz.func28 ?_;simp only [go_sem,↓alts_t,↓gone_tt,↓gone_ft,Nat.reduceAdd]
           refine Ops.junk [75,76,77,78,79,80,81,82] ?_
           simp only [junkAt,Y6,Y7]
           exact common
          | false =>
           by_cases hz : l.r = zR
           case pos =>
            rw [Bool.false_or,decide_eq_true hz,Bool.true_and]
            intro common
            have hj := i_r
            rw [hi] at hj
            refine Ops.pure (Wanted.test 4 true true rfl) rfl rfl (hj) (by simp only [go_sem];(repeat' first|exact .refl _|apply LeR.tup|apply Le.agg|constructor)) rfl rfl ?_
            have hw := hR
            rw [decide_eq_true hz] at hw
            refine Og Tryz.func28 ?_;simp only [go_sem,x10,xlen,↓alts_t,↓alts_f,↓gone_tt,↓gone_ff,Nat.reduceAdd,Nat.reduceLeDiff]
            refine Ops.pure (Wanted.test 7 false false rfl) rfl rfl (hw) (by simp only [go_sem,encRp,rpC,zR,votesA];(repeat' first|exact .refl _|apply LeR.tup|apply Le.agg|constructor)) rfl rfl ?_
            refine Og Tryz.func28 ?_;simp only [go_sem,↓alts_t,↓gone_tt,Nat.reduceAdd]
            refine Ops.junk [75,76,77,78,79,80,81,82] ?_
            simp only [junkAt,Y6,Y7]
            exact common
           case neg =>
            rw [Bool.false_or,decide_eq_false hz,Bool.false_and]
            intro _
            have hj := i_r
            rw [hi] at hj
            refine Ops.pure (Wanted.test 4 true true rfl) rfl rfl (hj) (by simp only [go_sem];(repeat' first|exact .refl _|apply LeR.tup|apply Le.agg|constructor)) rfl rfl ?_
            have hw := hR
            rw [decide_eq_false hz] at hw
            refine Og Tryz.func28 ?_;simp only [go_sem,x10,xlen,↓alts_t,↓alts_f,↓gone_tt,↓gone_ff,Nat.reduceAdd,Nat.reduceLeDiff]
            refine Ops.pure (Wanted.test 7 false false rfl) rfl rfl (hw) (by simp only [go_sem,encRp,rpC,zR,votesA];(repeat' first|exact .refl _|apply LeR.tup|apply Le.agg|constructor)) rfl rfl ?_
            refine Og Tryz.func28 ?_;simp only [go_sem,↓alts_t,↓alts_f,↓gone_tt,↓gone_tf]
            (and_intros <;> try first|rfl|omega|(unfold I64;omega))
            all_goals (repeat' first|exact .refl _|apply LeR.tup|apply Le.agg|constructor)
         case e7 =>
          refine cut_at (P := ?R8) ?m8 ?e8
          case m8 =>
           cases hi : u.contains 109 with
           | true =>
            rw [Bool.true_or,Bool.true_and]
            intro common
            have hj := i_m
            rw [hi] at hj
            refine Ops.pure (Wanted.test 14 true true rfl) rfl rfl (hj) (by simp only [go_sem];(repeat' first|exact .refl _|apply LeR.tup|apply Le.agg|constructor)) rfl rfl ?_
            refine Og Tryz.func28 ?_;simp only [go_sem,↓alts_t,↓gone_tt,↓gone_ft,Nat.reduceAdd]
            refine Ops.junk [75,76,77,78,79,80,81,82,83,84,85,86,87,88,89,90,91,92] ?_
            simp only [junkAt,Y6,Y7]
            exact common
           | false =>
            by_cases hz : l.sum = zM
            case pos =>
             rw [Bool.false_or,decide_eq_true hz,Bool.true_and]
             intro common
             have hj := i_m
             rw [hi] at hj
             refine Ops.pure (Wanted.test 14 true true rfl) rfl rfl (hj) (by simp only [go_sem];(repeat' first|exact .refl _|apply LeR.tup|apply Le.agg|constructor)) rfl rfl ?_
             have hw := hS
             rw [decide_eq_true hz] at hw
             refine Og Tryz.func28 ?_;simp only [go_sem,x16,xlen,↓alts_t,↓alts_f,↓gone_tt,↓gone_ff,Nat.reduceAdd,Nat.reduceLeDiff]
             refine Ops.buildZ tab_ok (Wanted.test 17 false false rfl) rfl rfl rfl rfl ?_
             refine Og Tryz.func28 ?_;simp only [go_sem,hw,↓alts_t,↓alts_f,↓gone_tt,↓gone_ff,Nat.reduceAdd]
             refine Ops.junk [75,76,77,78,79,80,81,82,83,84,85,86,87,88,89,90,91,92] ?_
             simp only [junkAt,Y6,Y7]
             exact common
            case neg =>
             rw [Bool.false_or,decide_eq_false hz,Bool.false_and]
             intro _
             have hj := i_m
             rw [hi] at hj
             refine Ops.pure (Wanted.test 14 true true rfl) rfl rfl (hj) (by simp only [go_sem];(repeat' first|exact .refl _|apply LeR.tup|apply Le.agg|constructor)) rfl rfl ?_
             have hw := hS
             rw [decide_eq_false hz] at hw
             refine Og Tryz.func28 ?_;simp only [go_sem,x16,xlen,↓alts_t,↓alts_f,↓gone_tt,↓gone_ff,Nat.reduceAdd,Nat.reduceLeDiff]
             refine Ops.buildZ tab_ok (Wanted.test 17 false false rfl) rfl rfl rfl rfl ?_
             refine Og Tryz.func28 ?_;simp only [go_sem,hw,↓alts_t,↓alts_f,↓gone_tt,↓gone_tf,↓gone_ff]
             (and_intros <;> try first|rfl|omega|(unfold I64;omega))
             all_goals (repeat' first|exact .refl _|apply LeR.tup|apply Le.agg|constructor)
          case e8 =>
           refine cut_at (P := ?R9) ?m9 ?e9
           case m9 =>
            cases hi : u.contains 111 with
            | true =>
             rw [Bool.true_or,Bool.true_and]
             intro common
             have hj := i_o
             rw [hi] at hj
             refine Ops.pure (Wanted.test 24 true true rfl) rfl rfl (hj) (by simp only [go_sem];(repeat' first|exact .refl _|apply LeR.tup|apply Le.agg|constructor)) rfl rfl ?_
             refine Og Tryz.func28 ?_;simp only [go_sem,↓alts_t,↓gone_tt,↓gone_ft,Nat.reduceAdd]
             refine Ops.junk [75,76,77,78,79,80,81,82,83,84,85,86,87,88,89,90,91,92,93,94,95,96,97,98,99,100,101,102] ?_
             simp only [junkAt,Y6,Y7]
             exact common
            | false =>
             by_cases hz : l.o = zO
             case pos =>
              rw [Bool.false_or,decide_eq_true hz,Bool.true_and]
              intro common
              have hj := i_o
              rw [hi] at hj
              refine Ops.pure (Wanted.test 24 true true rfl) rfl rfl (hj) (by simp only [go_sem];(repeat' first|exact .refl _|apply LeR.tup|apply Le.agg|constructor)) rfl rfl ?_
              have hw := hO
              rw [decide_eq_true hz] at hw
              refine Og Tryz.func28 ?_;simp only [go_sem,hw,x48,xlen,↓alts_t,↓alts_f,↓gone_tt,↓gone_ff,Nat.reduceAdd,Nat.reduceLeDiff]
              refine Ops.junk [75,76,77,78,79,80,81,82,83,84,85,86,87,88,89,90,91,92,93,94,95,96,97,98,99,100,101,102] ?_
              simp only [junkAt,Y6,Y7]
              exact common
             case neg =>
              rw [Bool.false_or,decide_eq_false hz,Bool.false_and]
              intro _
              have hj := i_o
              rw [hi] at hj
              refine Ops.pure (Wanted.test 24 true true rfl) rfl rfl (hj) (by simp only [go_sem];(repeat' first|exact .refl _|apply LeR.tup|apply Le.agg|constructor)) rfl rfl ?_
              have hw := hO
              rw [decide_eq_false hz] at hw
              refine Og Tryz.func28 ?_;simp only [go_sem,hw,x48,xlen,↓alts_t,↓alts_f,↓gone_tt,↓gone_tf,↓gone_ff,Nat.reduceAdd,Nat.reduceLeDiff]
              (and_intros <;> try first|rfl|omega|(unfold I64;omega))
              all_goals (repeat' first|exact .refl _|apply LeR.tup|apply Le.agg|constructor)
           case e9 =>
            cases hi : u.contains 121 with
            | true =>
             rw [Bool.true_or]
             have hj := i_y
             rw [hi] at hj
             refine Ops.pure (Wanted.test 34 true true rfl) rfl rfl (hj) (by simp only [go_sem];(repeat' first|exact .refl _|apply LeR.tup|apply Le.agg|constructor)) rfl rfl ?_
             refine Og Tryz.func28 ?_;simp only [go_sem,↓alts_t,↓gone_tt,↓gone_ft]
             (and_intros <;> try first|rfl|omega|(unfold I64;omega))
             all_goals (repeat' first|exact .refl _|apply LeR.tup|apply Le.agg|constructor)
            | false =>
             by_cases hz : l.x = zX
             case pos =>
              rw [Bool.false_or,decide_eq_true hz]
              have hj := i_y
              rw [hi] at hj
              refine Ops.pure (Wanted.test 34 true true rfl) rfl rfl (hj) (by simp only [go_sem];(repeat' first|exact .refl _|apply LeR.tup|apply Le.agg|constructor)) rfl rfl ?_
              have hw := hX
              rw [decide_eq_true hz] at hw
              refine Og Tryz.func28 ?_;simp only [go_sem,x56,xlen,↓alts_t,↓alts_f,↓gone_tt,↓gone_ff,Nat.reduceAdd]
              refine Ops.pure (Wanted.test 37 false false rfl) rfl rfl (hw) (by simp only [go_sem,encR,rplC,zX,textsA];(repeat' first|exact .refl _|apply LeR.tup|apply Le.agg|constructor)) rfl rfl ?_
              refine Og Tryz.func28 ?_;simp only [go_sem,↓alts_t,↓gone_tt]
              (and_intros <;> try first|rfl|omega|(unfold I64;omega))
              all_goals (repeat' first|exact .refl _|apply LeR.tup|apply Le.agg|constructor)
             case neg =>
              rw [Bool.false_or,decide_eq_false hz]
              have hj := i_y
              rw [hi] at hj
              refine Ops.pure (Wanted.test 34 true true rfl) rfl rfl (hj) (by simp only [go_sem];(repeat' first|exact .refl _|apply LeR.tup|apply Le.agg|constructor)) rfl rfl ?_
              have hw := hX
              rw [decide_eq_false hz] at hw
              refine Og Tryz.func28 ?_;simp only [go_sem,x56,xlen,↓alts_t,↓alts_f,↓gone_tt,↓gone_ff,Nat.reduceAdd]
              refine Ops.pure (Wanted.test 37 false false rfl) rfl rfl (hw) (by simp only [go_sem,encR,rplC,zX,textsA];(repeat' first|exact .refl _|apply LeR.tup|apply Le.agg|constructor)) rfl rfl ?_
              refine Og Tryz.func28 ?_;simp only [go_sem,↓alts_t,↓gone_tt]
              (and_intros <;> try first|rfl|omega|(unfold I64;omega))
              all_goals (repeat' first|exact .refl _|apply LeR.tup|apply Le.agg|constructor)
 case cF =>
  refine cut_at (P := ?V4) ?n4 ?b4
  case n4 =>
   cases hi : u.contains 99 with
   | true =>
    intro common
    have hj := i_c
    rw [hi] at hj
    refine Ops.pure .free rfl rfl (hj) (by simp only [go_sem];(repeat' first|exact .refl _|apply LeR.tup|apply Le.agg|constructor)) rfl rfl ?_
    refine Og Tryz.func28 ?_;simp only [go_sem,↓alts_t,↓gone_tt,↓gone_ft,Nat.reduceAdd]
    refine Ops.junk [41,42,43,44,45,46,47,48] ?_
    simp only [junkAt,Y6,Y7]
    exact common
   | false =>
    by_cases hz : l.cert = []
    case pos =>
     intro common
     have hj := i_c
     rw [hi] at hj
     refine Ops.pure .free rfl rfl (hj) (by simp only [go_sem];(repeat' first|exact .refl _|apply LeR.tup|apply Le.agg|constructor)) rfl rfl ?_
     have hz1 : (l.cert.length : Int) = 0 := hcl.1 hz
     refine Og Tryz.func28 ?_;simp only [go_sem,rpsA,hz1,x5,xlen,↓alts_t,↓alts_f,↓gone_tt,↓gone_ff,Nat.reduceAdd,Nat.reduceLeDiff]
     refine Ops.junk [41,42,43,44,45,46,47,48] ?_
     simp only [junkAt,Y6,Y7]
     exact common
    case neg =>
     intro _
     have hj := i_c
     rw [hi] at hj
     refine Ops.pure .free rfl rfl (hj) (by simp only [go_sem];(repeat' first|exact .refl _|apply LeR.tup|apply Le.agg|constructor)) rfl rfl ?_
     have hz1 : ¬ (l.cert.length : Int) = 0 := fun h => hz (hcl.2 h)
     refine Og Tryz.func28 ?_;simp only [go_sem,rpsA,hz1,x5,xlen,↓alts_f,↓gone_tf,↓gone_ff,Nat.reduceAdd,Nat.reduceLeDiff]
     (and_intros <;> try first|rfl|omega|(unfold I64;omega))
     all_goals (repeat' first|exact .refl _|apply LeR.tup|apply Le.agg|constructor)
  case b4 =>
   refine cut_at (P := ?V5) ?n5 ?b5
   case n5 =>
    cases hi : u.contains 97 with
    | true =>
     intro common
     have hj := i_a
     rw [hi] at hj
     refine Ops.pure (Wanted.test 8 true true rfl) rfl rfl (hj) (by simp only [go_sem];(repeat' first|exact .refl _|apply LeR.tup|apply Le.agg|constructor)) rfl rfl ?_
     refine Og Tryz.func28 ?_;simp only [go_sem,↓alts_t,↓gone_tt,↓gone_ft,Nat.reduceAdd]
     refine Ops.junk [41,42,43,44,45,46,47,48,49,50,51,52,53,54,55,56,57,58] ?_
     simp only [junkAt,Y6,Y7]
     exact common
    | false =>
     by_cases hz : l.vote = zA
     case pos =>
      intro common
      have hj := i_a
      rw [hi] at hj
      refine Ops.pure (Wanted.test 8 true true rfl) rfl rfl (hj) (by simp only [go_sem];(repeat' first|exact .refl _|apply LeR.tup|apply Le.agg|constructor)) rfl rfl ?_
      have hw := hV
      rw [decide_eq_true hz] at hw
      refine Og Tryz.func28 ?_;simp only [go_sem,hw,x6,xlen,↓alts_t,↓alts_f,↓gone_tt,↓gone_ff,Nat.reduceAdd,Nat.reduceLeDiff]
      refine Ops.junk [41,42,43,44,45,46,47,48,49,50,51,52,53,54,55,56,57,58] ?_
      simp only [junkAt,Y6,Y7]
      exact common
     case neg =>
      intro _
      have hj := i_a
      rw [hi] at hj
      refine Ops.pure (Wanted.test 8 true true rfl) rfl rfl (hj) (by simp only [go_sem];(repeat' first|exact .refl _|apply LeR.tup|apply Le.agg|constructor)) rfl rfl ?_
      have hw := hV
      rw [decide_eq_false hz] at hw
      refine Og Tryz.func28 ?_;simp only [go_sem,hw,x6,xlen,↓alts_t,↓alts_f,↓gone_tt,↓gone_tf,↓gone_ff,Nat.reduceAdd,Nat.reduceLeDiff]
      (and_intros <;> try first|rfl|omega|(unfold I64;omega))
      all_goals (repeat' first|exact .refl _|apply LeR.tup|apply Le.agg|constructor)
   case b5 =>
    cases hi : u.contains 112 with
    | true =>
     have hj := i_p
     rw [hi] at hj
     refine Ops.pure (Wanted.test 18 true true rfl) rfl rfl (hj) (by simp only [go_sem];(repeat' first|exact .refl _|apply LeR.tup|apply Le.agg|constructor)) rfl rfl ?_
     refine Og Tryz.func28 ?_;simp only [go_sem,↓alts_t,↓alts_f,↓gone_tt,↓gone_tf,↓gone_ft]
     (and_intros <;> try first|rfl|omega|(unfold I64;omega))
     all_goals (repeat' first|exact .refl _|apply LeR.tup|apply Le.agg|constructor)
    | false =>
     by_cases hz : l.proof = []
     case pos =>
      have hj := i_p
      rw [hi] at hj
      refine Ops.pure (Wanted.test 18 true true rfl) rfl rfl (hj) (by simp only [go_sem];(repeat' first|exact .refl _|apply LeR.tup|apply Le.agg|constructor)) rfl rfl ?_
      have hz1 : (l.proof.length : Int) = 0 := hpl.1 hz
      refine Og Tryz.func28 ?_;simp only [go_sem,votesA,hz1,x9,xlen,↓alts_t,↓alts_f,↓gone_tt,↓gone_tf,↓gone_ff,Nat.reduceAdd,Nat.reduceLeDiff]
      (and_intros <;> try first|rfl|omega|(unfold I64;omega))
      all_goals (repeat' first|exact .refl _|apply LeR.tup|apply Le.agg|constructor)
     case neg =>
      have hj := i_p
      rw [hi] at hj
      refine Ops.pure (Wanted.test 18 true true rfl) rfl rfl (hj) (by simp only [go_sem];(repeat' first|exact .refl _|apply LeR.tup|apply Le.agg|constructor)) rfl rfl ?_
      have hz1 : ¬ (l.proof.length : Int) = 0 := fun h => hz (hpl.2 h)
      refine Og Tryz.func28 ?_;simp only [go_sem,votesA,hz1,x9,xlen,↓alts_t,↓alts_f,↓gone_tt,↓gone_tf,↓gone_ff,Nat.reduceAdd,Nat.reduceLeDiff]
      (and_intros <;> try first|rfl|omega|(unfold I64;omega))
      all_goals (repeat' first|exact .refl _|apply LeR.tup|apply Le.agg|constructor)
theorem same27_spec (l m : Ltr) (hl : l.sum.length = 32) (hm : m.sum.length = 32) (hc : ∀ r ∈ l.cert ++ [l.r],r.proof.length ≤ 281474976710656) (hcl : l.cert.length ≤ 1000000) (hcm : m.cert.length ≤ 1000000) (hp : l.proof.length ≤ 281474976710656) (hx : l.x.l.length ≤ 281474976710656) : ASpec Tryz.prog 14 [.agg (letC l),.agg (letC m)] (.bool (decide (l = m))) := by
 have x16 := let_16 l hl
 have x48 := let_48 l hl
 have x56 := let_56 l hl
 have xlen := let_len l hl
 have y16 := let_16 m hm
 have y48 := let_48 m hm
 have y56 := let_56 m hm
 have ylen := let_len m hm
 have hV := accV_eq l.vote m.vote
 have hO := ordV_eq l.o m.o
 have hS := sumV_eq l.sum m.sum hl hm
 have s1 := sameRps_spec (l.cert ++ [l.r]) (m.cert ++ [m.r]) hc (by rw [List.length_append,List.length_singleton];omega)
 have s2 := same18_spec l.proof m.proof hp
 have s3 := same_spec l.x m.x (by omega)
 have k1 := clipR_spec l.cert
 have k2 := clipR_spec m.cert
 by_cases h1 : l.kind = m.kind
 case neg =>
  rw [Ltr.ne fun e => h1 e.1]
  refine ⟨⟨_,Tryz.func14,by kernel_rfl,rfl⟩,Sg Tryz.func14 rfl fun c0 hc0 => ?_⟩;simp only [go_sem,let_0,xlen,ylen,h1,↓alts_f,↓gone_tf,↓gdone_tf,Nat.reduceAdd,Nat.reduceLeDiff,Nat.reduceSub]
  (and_intros <;> try first|rfl|omega|(unfold I64;omega))
  all_goals (repeat' first|exact .refl _|apply LeR.tup|apply Le.agg|constructor)
 by_cases h2 : l.frm = m.frm
 case neg =>
  rw [Ltr.ne fun e => h2 e.2.1]
  refine ⟨⟨_,Tryz.func14,by kernel_rfl,rfl⟩,Sg Tryz.func14 rfl fun c0 hc0 => ?_⟩;simp only [go_sem,let_0,let_1,xlen,ylen,h1,h2,↓alts_t,↓alts_f,↓gone_tt,↓gone_tf,↓gdone_tf,Nat.reduceAdd,Nat.reduceLeDiff,Nat.reduceSub]
  (and_intros <;> try first|rfl|omega|(unfold I64;omega))
  all_goals (repeat' first|exact .refl _|apply LeR.tup|apply Le.agg|constructor)
 by_cases h3 : l.slot = m.slot
 case neg =>
  rw [Ltr.ne fun e => h3 e.2.2.1]
  refine ⟨⟨_,Tryz.func14,by kernel_rfl,rfl⟩,Sg Tryz.func14 rfl fun c0 hc0 => ?_⟩;simp only [go_sem,let_0,let_1,let_2,xlen,ylen,h1,h2,h3,↓alts_t,↓alts_f,↓gone_tt,↓gone_tf,↓gdone_tf,Nat.reduceAdd,Nat.reduceLeDiff,Nat.reduceSub]
  (and_intros <;> try first|rfl|omega|(unfold I64;omega))
  all_goals (repeat' first|exact .refl _|apply LeR.tup|apply Le.agg|constructor)
 by_cases h4 : l.view = m.view
 case neg =>
  rw [Ltr.ne fun e => h4 e.2.2.2.1]
  refine ⟨⟨_,Tryz.func14,by kernel_rfl,rfl⟩,Sg Tryz.func14 rfl fun c0 hc0 => ?_⟩;simp only [go_sem,let_0,let_1,let_2,let_3,xlen,ylen,h1,h2,h3,h4,↓alts_t,↓alts_f,↓gone_tt,↓gone_tf,↓gdone_tf,Nat.reduceAdd,Nat.reduceLeDiff,Nat.reduceSub]
  (and_intros <;> try first|rfl|omega|(unfold I64;omega))
  all_goals (repeat' first|exact .refl _|apply LeR.tup|apply Le.agg|constructor)
 by_cases h5 : l.value = m.value
 case neg =>
  rw [Ltr.ne fun e => h5 e.2.2.2.2.1]
  refine ⟨⟨_,Tryz.func14,by kernel_rfl,rfl⟩,Sg Tryz.func14 rfl fun c0 hc0 => ?_⟩;simp only [go_sem,let_0,let_1,let_2,let_3,let_4,xlen,ylen,h1,h2,h3,h4,h5,↓alts_t,↓alts_f,↓gone_tt,↓gone_tf,↓gdone_tf,Nat.reduceAdd,Nat.reduceLeDiff,Nat.reduceSub]
  (and_intros <;> try first|rfl|omega|(unfold I64;omega))
  all_goals (repeat' first|exact .refl _|apply LeR.tup|apply Le.agg|constructor)
 by_cases h6 : l.vote = m.vote
 case neg =>
  rw [Ltr.ne fun e => h6 e.2.2.2.2.2.1]
  refine ⟨⟨_,Tryz.func14,by kernel_rfl,rfl⟩,Sg Tryz.func14 rfl fun c0 hc0 => ?_⟩;simp only [go_sem,let_0,let_1,let_2,let_3,let_4,let_6,xlen,ylen,hV,h1,h2,h3,h4,h5,h6,↓alts_t,↓alts_f,↓gone_tt,↓gone_tf,↓gdone_tf,Nat.reduceAdd,Nat.reduceLeDiff,Nat.reduceSub]
  (and_intros <;> try first|rfl|omega|(unfold I64;omega))
  all_goals (repeat' first|exact .refl _|apply LeR.tup|apply Le.agg|constructor)
 rw [h6] at hV
 by_cases h7 : l.sum = m.sum
 case neg =>
  rw [Ltr.ne fun e => h7 e.2.2.2.2.2.2.1]
  refine ⟨⟨_,Tryz.func14,by kernel_rfl,rfl⟩,Sg Tryz.func14 rfl fun c0 hc0 => ?_⟩;simp only [go_sem,let_0,let_1,let_2,let_3,let_4,let_6,x16,y16,xlen,ylen,hV,hS,h1,h2,h3,h4,h5,h6,h7,↓alts_t,↓alts_f,↓gone_tt,↓gone_tf,↓gdone_tf,Nat.reduceAdd,Nat.reduceLeDiff,Nat.reduceSub]
  (and_intros <;> try first|rfl|omega|(unfold I64;omega))
  all_goals (repeat' first|exact .refl _|apply LeR.tup|apply Le.agg|constructor)
 rw [h7] at hS
 by_cases h8 : l.o = m.o
 case neg =>
  rw [Ltr.ne fun e => h8 e.2.2.2.2.2.2.2.1]
  refine ⟨⟨_,Tryz.func14,by kernel_rfl,rfl⟩,Sg Tryz.func14 rfl fun c0 hc0 => ?_⟩;simp only [go_sem,let_0,let_1,let_2,let_3,let_4,let_6,x16,x48,y16,y48,xlen,ylen,hV,hO,hS,h1,h2,h3,h4,h5,h6,h7,h8,↓alts_t,↓alts_f,↓gone_tt,↓gdone_tf,Nat.reduceAdd,Nat.reduceLeDiff,Nat.reduceSub]
  (and_intros <;> try first|rfl|omega|(unfold I64;omega))
  all_goals (repeat' first|exact .refl _|apply LeR.tup|apply Le.agg|constructor)
 rw [h8] at hO
 refine ⟨⟨_,Tryz.func14,by kernel_rfl,rfl⟩,Sg Tryz.func14 rfl fun c0 hc0 => ?_⟩;simp only [go_sem,let_0,let_1,let_2,let_3,let_4,let_5,let_6,x16,x48,y16,y48,xlen,ylen,hV,hO,hS,h1,h2,h3,h4,h5,h6,h7,h8,↓alts_t,↓gone_tt,↓gdone_tt,Nat.reduceAdd,Nat.reduceLeDiff,Nat.reduceSub]
 (and_intros <;> try first|rfl|omega|(unfold I64;omega))
 refine DOps.own rfl (Wanted.test 1 true true rfl) rfl rfl (k1) (by simp only [go_sem,rpsA];(repeat' first|exact .refl _|apply LeR.tup|apply Le.agg|constructor)) rfl rfl ?_
 refine Dg Tryz.func14 rfl ?_;simp only [go_sem,let_5,let_10,xlen,ylen,rpsA,votesA,rpC,↓alts_t,↓gdone_tt,Nat.reduceAdd,Nat.reduceLeDiff,Nat.reduceMul,Nat.reduceBEq,Nat.reduceLT]
 (and_intros <;> try first|rfl|omega|(unfold I64;omega))
 refine DOps.own rfl (Wanted.test 1 true true rfl) rfl rfl (k2) (by simp only [go_sem,rpsA];(repeat' first|exact .refl _|apply LeR.tup|apply Le.agg|constructor)) rfl rfl ?_
 refine Dg Tryz.func14 rfl ?_;simp only [go_sem,let_10,ylen,votesA,rpC,↓alts_t,↓gdone_tt,Nat.reduceAdd,Nat.reduceLeDiff,Nat.reduceMul,Nat.reduceBEq,Nat.reduceLT]
 (and_intros <;> try first|rfl|omega|(unfold I64;omega))
 by_cases h9 : l.cert ++ [l.r] = m.cert ++ [m.r]
 case neg =>
  rw [Ltr.ne fun e => h9 e.2.2.2.2.2.2.2.2.1]
  rw [decide_eq_false h9] at s1
  refine DOps.pure rfl (Wanted.test 1 true true rfl) rfl rfl (s1) (by simp only [go_sem,rpsA,List.map_append];(repeat' first|exact .refl _|apply LeR.tup|apply Le.agg|constructor)) rfl rfl ?_
  refine Dg Tryz.func14 rfl ?_;simp only [go_sem,↓alts_f,↓gdone_tf,Nat.reduceAdd]
  (and_intros <;> try first|rfl|omega|(unfold I64;omega))
  all_goals (repeat' first|exact .refl _|apply LeR.tup|apply Le.agg|constructor)
 rw [decide_eq_true h9] at s1
 refine DOps.pure rfl (Wanted.test 1 true true rfl) rfl rfl (s1) (by simp only [go_sem,rpsA,List.map_append];(repeat' first|exact .refl _|apply LeR.tup|apply Le.agg|constructor)) rfl rfl ?_
 refine Dg Tryz.func14 rfl ?_;simp only [go_sem,let_9,xlen,ylen,votesA,↓alts_t,↓gdone_tt,Nat.reduceAdd,Nat.reduceLeDiff]
 (and_intros <;> try first|rfl|omega|(unfold I64;omega))
 by_cases h10 : l.proof = m.proof
 case neg =>
  rw [Ltr.ne fun e => h10 e.2.2.2.2.2.2.2.2.2.1]
  rw [decide_eq_false h10] at s2
  refine DOps.pure rfl (Wanted.test 18 true true rfl) rfl rfl (s2) (by simp only [go_sem,votesA];(repeat' first|exact .refl _|apply LeR.tup|apply Le.agg|constructor)) rfl rfl ?_
  refine Dg Tryz.func14 rfl ?_;simp only [go_sem,↓alts_f,↓gdone_tf,Nat.reduceAdd]
  (and_intros <;> try first|rfl|omega|(unfold I64;omega))
  all_goals (repeat' first|exact .refl _|apply LeR.tup|apply Le.agg|constructor)
 rw [decide_eq_true h10] at s2
 rw [Ltr.eq h1 h2 h3 h4 h5 h6 h7 h8 h9 h10]
 refine DOps.pure rfl (Wanted.test 18 true true rfl) rfl rfl (s2) (by simp only [go_sem,votesA];(repeat' first|exact .refl _|apply LeR.tup|apply Le.agg|constructor)) rfl rfl ?_
 refine Dg Tryz.func14 rfl ?_;simp only [go_sem,x56,y56,xlen,ylen,rplC,↓alts_t,↓gdone_tt,Nat.reduceAdd]
 (and_intros <;> try first|rfl|omega|(unfold I64;omega))
 refine DOps.pure rfl (Wanted.test 25 true true rfl) rfl rfl (s3) (by simp only [go_sem,encR,textsA];(repeat' first|exact .refl _|apply LeR.tup|apply Le.agg|constructor)) rfl rfl ?_
 refine Dg Tryz.func14 rfl ?_;simp only [go_sem,Nat.reduceAdd]
 (and_intros <;> try first|rfl|omega|(unfold I64;omega))
 all_goals (repeat' first|exact .refl _|apply LeR.tup|apply Le.agg|constructor)
theorem wrL_le {l : Ltr} (h : smL l) (hk : 1 ≤ l.kind ∧ l.kind ≤ 10) : (wrL l).length ≤ 900000 := by
 obtain ⟨h1,h2,h3,h4,h5,h6,h7,h8,h9,h10,h11,h12,h13,h14,h15,h16,h17,h18,h19⟩ := h
 have e0 := enc9 l.kind (by unfold I64;omega)
 have e1 := enc9 _ h1
 have e2 := enc9 _ h2
 have e3 := enc9 _ h3
 have e4 := encT_le l.value (by omega)
 have e5 := enc9 l.cert.length (by unfold I64;omega)
 have e6 := rpsB_take l.cert h5
 have e7 : (rpsB l.cert).length = (encN (zig l.cert.length)).length + ((l.cert.map reportB).flatten).length := by unfold rpsB;simp only [List.length_append]
 have e8 := voteB_le l.vote h8
 have e9 := votesB_le l.proof h9 h10
 have e10 := reportB_le l.r h12
 have e11 := encZs_le [l.o.a,l.o.b,l.o.kind,l.o.x,l.o.y,l.o.z] (by simp;exact ⟨h15.1,h15.2.1,h15.2.2.1,h15.2.2.2.1,h15.2.2.2.2.1,h15.2.2.2.2.2.1⟩)
 have e12 := encT_le l.o.s (by have := h15.2.2.2.2.2.2.1;omega)
 have e13 := encT_le l.o.t (by have := h15.2.2.2.2.2.2.2;omega)
 have e14 := encZs_le [l.x.a,l.x.b,l.x.e,l.x.x] (by simp;exact ⟨h16.1,h16.2.1,h16.2.2.1,h16.2.2.2.1⟩)
 have e15 := encT_le l.x.s (by omega)
 have e16 := encRow_le l.x.l (by omega)
 have e17 := encN_le l.x.l.length (by have := tot_length l.x.l;omega)
 have g1 := h15.2.2.2.2.2.2.1
 have g2 := h15.2.2.2.2.2.2.2
 simp only [Ya,Y9,Nat.reduceAdd,Nat.reduceMul] at e11 e14
 unfold wrL wrB
 repeat' split
 all_goals (simp only [List.length_append,putO,putR,encL_row];omega)
theorem Good.short {l : Ltr} (h : Good l) : shortX l.x = true ∧ shortV l.proof = true ∧ l.cert.any longR = false ∧ longR l.r = false := by
 obtain ⟨hk,hu,t1,t2,t3,t4,t5,t6,t7,t8,t9,t10,t11,t12⟩ := h
 have hV : ∀ p : List Acc,SV p → shortV p = true := fun p hp => by
  unfold shortV
  rw [decide_eq_true hp.1,Bool.true_and,Bool.not_eq_true',List.any_eq_false]
  intro a ha
  have := (hp.2 a ha).2.2
  unfold longV
  simp only [decide_eq_true_eq]
  omega
 have hR : ∀ r : Rp,SR r → longR r = false := fun r hr => by
  unfold longR
  rw [hV _ hr.2.2.2.2]
  have := hr.2.2.2.1
  simp;omega
 refine ⟨?_,hV _ t7,?_,hR _ t8⟩
 ·obtain ⟨_,_,_,k1,k2,k3,k4⟩ := t12
  have e : l.x.l.any longTx = false := by
   rw [List.any_eq_false]
   intro a ha
   have := k4 a ha
   unfold longTx
   simp only [decide_eq_true_eq]
   omega
  unfold shortX
  rw [e]
  simp;omega
 ·rw [List.any_eq_false]
  intro r hr
  rw [hR r (t5.2 r hr)]
  decide
theorem Good.kind8 {l : Ltr} (h : Good l) (hk : l.kind = 8) : mayO l.o = true := by
 obtain ⟨_,_,_,_,_,_,_,_,_,_,_,h8,_,_⟩ := h
 exact h8 hk
theorem sh_of {l : Ltr} (h1 : l.value.length ≤ 6000) (h2 : l.cert.length ≤ 30) (h3 : l.vote.value.length ≤ 6000) (h4 : shortV l.proof = true) (h5 : l.cert.any longR = false) (h6 : longR l.r = false) (h7 : shortX l.x = true) : ShL l := by
 have hV : ∀ p : List Acc,shortV p = true → ShV p := fun p hp => by
  simp only [shortV,Bool.and_eq_true,decide_eq_true_eq,Bool.not_eq_true',List.any_eq_false,longV] at hp
  exact ⟨hp.1,fun a ha => by have := hp.2 a ha;omega⟩
 have hR : ∀ r : Rp,longR r = false → ShR r := fun r hr => by
  simp only [longR,Bool.or_eq_false_iff,decide_eq_false_iff_not,Bool.not_eq_false'] at hr
  exact ⟨by omega,hV _ hr.2⟩
 refine ⟨h1,h2,fun r hr => hR r ?_,h3,hV _ h4,hR _ h6,?_⟩
 ·rw [List.any_eq_false] at h5
  have := h5 r hr
  simpa using this
 ·simp only [shortX,Bool.and_eq_true,decide_eq_true_eq] at h7
  omega
theorem may27_k1 (l : Ltr) (hl : l.sum.length = 32) (h : l.kind < 1) : ASpec Tryz.prog 11 [.agg (letC l)] (.bool false) := by
 have x0 := let_0 l
 have x4 := let_4 l
 have x5 := let_5 l
 have x8 := let_8 l
 have x9 := let_9 l
 have x10 := let_10 l
 have x48 := let_48 l hl
 have x56 := let_56 l hl
 have xlen := let_len l hl
 have xfull := let_full l hl
 refine ⟨⟨_,Tryz.func11,by kernel_rfl,rfl⟩,Sg Tryz.func11 rfl fun c0 hc0 => ?_⟩;simp only [go_sem,x0,xlen,h,↓alt_t,↓alts_t,↓gone_ft,Nat.reduceLeDiff,Nat.reduceAdd,Nat.reduceSub]
 (and_intros <;> try first|rfl|omega|(unfold I64;omega))
 (repeat' first|exact .refl _|apply LeR.tup|apply Le.agg|constructor)
theorem may27_k2 (l : Ltr) (hl : l.sum.length = 32) (h0 : ¬ l.kind < 1) (h : 10 < l.kind) : ASpec Tryz.prog 11 [.agg (letC l)] (.bool false) := by
 have x0 := let_0 l
 have x4 := let_4 l
 have x5 := let_5 l
 have x8 := let_8 l
 have x9 := let_9 l
 have x10 := let_10 l
 have x48 := let_48 l hl
 have x56 := let_56 l hl
 have xlen := let_len l hl
 have xfull := let_full l hl
 refine ⟨⟨_,Tryz.func11,by kernel_rfl,rfl⟩,Sg Tryz.func11 rfl fun c0 hc0 => ?_⟩;simp only [go_sem,x0,xlen,h0,h,↓alt_t,↓alts_t,↓alts_f,↓gone_ft,↓gone_ff,Nat.reduceLeDiff,Nat.reduceAdd,Nat.reduceSub]
 (and_intros <;> try first|rfl|omega|(unfold I64;omega))
 (repeat' first|exact .refl _|apply LeR.tup|apply Le.agg|constructor)
theorem may27_k8 (l : Ltr) (hl : l.sum.length = 32) (h : l.kind = 8) (ho : mayO l.o = false) : ASpec Tryz.prog 11 [.agg (letC l)] (.bool false) := by
 have x0 := let_0 l
 have x4 := let_4 l
 have x5 := let_5 l
 have x8 := let_8 l
 have x9 := let_9 l
 have x10 := let_10 l
 have x48 := let_48 l hl
 have x56 := let_56 l hl
 have xlen := let_len l hl
 have xfull := let_full l hl
 have hm := may_spec l.o
 rw [ho] at hm
 refine ⟨⟨_,Tryz.func11,by kernel_rfl,rfl⟩,Sg Tryz.func11 rfl fun c0 hc0 => ?_⟩;simp only [go_sem,x0,x48,xlen,h,↓alts_t,↓alts_f,↓gone_tt,↓gone_ff,Int.reduceLT,Nat.reduceAdd,Nat.reduceLeDiff,Nat.reduceSub]
 (and_intros <;> try first|rfl|omega|(unfold I64;omega))
 refine Ops.pure (Wanted.test 12 true true rfl) rfl rfl (hm) (by simp only [go_sem,encO,ordC];(repeat' first|exact .refl _|apply LeR.tup|apply Le.agg|constructor)) rfl rfl ?_
 refine Og Tryz.func11 ?_;simp only [go_sem,↓alt_t,↓alts_t,↓alts_f,↓gone_tt,↓gone_ft,↓gone_ff]
 (and_intros <;> try first|rfl|omega|(unfold I64;omega))
 (repeat' first|exact .refl _|apply LeR.tup|apply Le.agg|constructor)
theorem may27_x_8 (l : Ltr) (hl : l.sum.length = 32) (hk : l.kind = 8) (ho : mayO l.o = true) (hx : l.x.l.length ≤ 100000000) (hsx : shortX l.x = false) : ASpec Tryz.prog 11 [.agg (letC l)] (.bool false) := by
 have x0 := let_0 l
 have x4 := let_4 l
 have x5 := let_5 l
 have x8 := let_8 l
 have x9 := let_9 l
 have x10 := let_10 l
 have x48 := let_48 l hl
 have x56 := let_56 l hl
 have xlen := let_len l hl
 have xfull := let_full l hl
 have hxs := shortX_spec l.x hx
 rw [hsx] at hxs
 have hm := may_spec l.o
 rw [ho] at hm
 refine ⟨⟨_,Tryz.func11,by kernel_rfl,rfl⟩,Sg Tryz.func11 rfl fun c0 hc0 => ?_⟩;simp only [go_sem,x0,x48,xlen,hk,↓alts_t,↓alts_f,↓gone_tt,↓gone_ff,Int.reduceLT,Nat.reduceAdd,Nat.reduceLeDiff,Nat.reduceSub]
 (and_intros <;> try first|rfl|omega|(unfold I64;omega))
 refine Ops.pure (Wanted.test 12 true true rfl) rfl rfl (hm) (by simp only [go_sem,encO,ordC];(repeat' first|exact .refl _|apply LeR.tup|apply Le.agg|constructor)) rfl rfl ?_
 refine Og Tryz.func11 ?_;simp only [go_sem,x56,xlen,↓alts_t,↓alts_f,↓gone_tt,↓gone_ff,Nat.reduceAdd]
 (and_intros <;> try first|rfl|omega|(unfold I64;omega))
 refine Ops.pure (Wanted.test 19 false false rfl) rfl rfl (hxs) (by simp only [go_sem,encR,rplC,textsA];(repeat' first|exact .refl _|apply LeR.tup|apply Le.agg|constructor)) rfl rfl ?_
 refine Og Tryz.func11 ?_;simp only [go_sem,↓alt_t,↓alts_f,↓gone_ff]
 (and_intros <;> try first|rfl|omega|(unfold I64;omega))
 (repeat' first|exact .refl _|apply LeR.tup|apply Le.agg|constructor)
theorem may27_x (l : Ltr) (hl : l.sum.length = 32) (hk1 : ¬ l.kind < 1) (hk2 : ¬ 10 < l.kind) (hk8 : ¬ l.kind = 8) (hx : l.x.l.length ≤ 100000000) (hsx : shortX l.x = false) : ASpec Tryz.prog 11 [.agg (letC l)] (.bool false) := by
 have x0 := let_0 l
 have x4 := let_4 l
 have x5 := let_5 l
 have x8 := let_8 l
 have x9 := let_9 l
 have x10 := let_10 l
 have x48 := let_48 l hl
 have x56 := let_56 l hl
 have xlen := let_len l hl
 have xfull := let_full l hl
 have hxs := shortX_spec l.x hx
 rw [hsx] at hxs
 refine ⟨⟨_,Tryz.func11,by kernel_rfl,rfl⟩,Sg Tryz.func11 rfl fun c0 hc0 => ?_⟩;simp only [go_sem,x0,x56,xlen,hk1,hk2,hk8,↓alts_f,↓gone_tf,↓gone_ff,Nat.reduceAdd,Nat.reduceLeDiff,Nat.reduceSub]
 (and_intros <;> try first|rfl|omega|(unfold I64;omega))
 refine Ops.pure (Wanted.test 19 false false rfl) rfl rfl (hxs) (by simp only [go_sem,encR,rplC,textsA];(repeat' first|exact .refl _|apply LeR.tup|apply Le.agg|constructor)) rfl rfl ?_
 refine Og Tryz.func11 ?_;simp only [go_sem,↓alt_t,↓alts_f,↓gone_ff]
 (and_intros <;> try first|rfl|omega|(unfold I64;omega))
 (repeat' first|exact .refl _|apply LeR.tup|apply Le.agg|constructor)
theorem may27_v_8 (l : Ltr) (hl : l.sum.length = 32) (hk : l.kind = 8) (ho : mayO l.o = true) (hx : l.x.l.length ≤ 100000000) (hsx : shortX l.x = true) (h1 : (6000 : Int) < l.value.length) : ASpec Tryz.prog 11 [.agg (letC l)] (.bool false) := by
 have x0 := let_0 l
 have x4 := let_4 l
 have x5 := let_5 l
 have x8 := let_8 l
 have x9 := let_9 l
 have x10 := let_10 l
 have x48 := let_48 l hl
 have x56 := let_56 l hl
 have xlen := let_len l hl
 have xfull := let_full l hl
 have hxs := shortX_spec l.x hx
 rw [hsx] at hxs
 have hm := may_spec l.o
 rw [ho] at hm
 refine ⟨⟨_,Tryz.func11,by kernel_rfl,rfl⟩,Sg Tryz.func11 rfl fun c0 hc0 => ?_⟩;simp only [go_sem,x0,x48,xlen,hk,↓alts_t,↓alts_f,↓gone_tt,↓gone_ff,Int.reduceLT,Nat.reduceAdd,Nat.reduceLeDiff,Nat.reduceSub]
 (and_intros <;> try first|rfl|omega|(unfold I64;omega))
 refine Ops.pure (Wanted.test 12 true true rfl) rfl rfl (hm) (by simp only [go_sem,encO,ordC];(repeat' first|exact .refl _|apply LeR.tup|apply Le.agg|constructor)) rfl rfl ?_
 refine Og Tryz.func11 ?_;simp only [go_sem,x56,xlen,↓alts_t,↓alts_f,↓gone_tt,↓gone_ff,Nat.reduceAdd]
 (and_intros <;> try first|rfl|omega|(unfold I64;omega))
 refine Ops.pure (Wanted.test 19 false false rfl) rfl rfl (hxs) (by simp only [go_sem,encR,rplC,textsA];(repeat' first|exact .refl _|apply LeR.tup|apply Le.agg|constructor)) rfl rfl ?_
 refine Og Tryz.func11 ?_;simp only [go_sem,h1,x4,xlen,↓alt_t,↓alt_f,↓alts_t,↓alts_f,↓gone_ft,↓gone_ff,Nat.reduceAdd,Nat.reduceLeDiff]
 (and_intros <;> try first|rfl|omega|(unfold I64;omega))
 (repeat' first|exact .refl _|apply LeR.tup|apply Le.agg|constructor)
theorem may27_v (l : Ltr) (hl : l.sum.length = 32) (hk1 : ¬ l.kind < 1) (hk2 : ¬ 10 < l.kind) (hk8 : ¬ l.kind = 8) (hx : l.x.l.length ≤ 100000000) (hsx : shortX l.x = true) (h1 : (6000 : Int) < l.value.length) : ASpec Tryz.prog 11 [.agg (letC l)] (.bool false) := by
 have x0 := let_0 l
 have x4 := let_4 l
 have x5 := let_5 l
 have x8 := let_8 l
 have x9 := let_9 l
 have x10 := let_10 l
 have x48 := let_48 l hl
 have x56 := let_56 l hl
 have xlen := let_len l hl
 have xfull := let_full l hl
 have hxs := shortX_spec l.x hx
 rw [hsx] at hxs
 refine ⟨⟨_,Tryz.func11,by kernel_rfl,rfl⟩,Sg Tryz.func11 rfl fun c0 hc0 => ?_⟩;simp only [go_sem,x0,x56,xlen,hk1,hk2,hk8,↓alts_f,↓gone_tf,↓gone_ff,Nat.reduceAdd,Nat.reduceLeDiff,Nat.reduceSub]
 (and_intros <;> try first|rfl|omega|(unfold I64;omega))
 refine Ops.pure (Wanted.test 19 false false rfl) rfl rfl (hxs) (by simp only [go_sem,encR,rplC,textsA];(repeat' first|exact .refl _|apply LeR.tup|apply Le.agg|constructor)) rfl rfl ?_
 refine Og Tryz.func11 ?_;simp only [go_sem,h1,x4,xlen,↓alt_t,↓alt_f,↓alts_t,↓alts_f,↓gone_ft,↓gone_ff,Nat.reduceAdd,Nat.reduceLeDiff]
 (and_intros <;> try first|rfl|omega|(unfold I64;omega))
 (repeat' first|exact .refl _|apply LeR.tup|apply Le.agg|constructor)
theorem may27_c_8 (l : Ltr) (hl : l.sum.length = 32) (hk : l.kind = 8) (ho : mayO l.o = true) (hx : l.x.l.length ≤ 100000000) (hsx : shortX l.x = true) (h1 : ¬ (6000 : Int) < l.value.length) (h2 : (30 : Int) < l.cert.length) : ASpec Tryz.prog 11 [.agg (letC l)] (.bool false) := by
 have x0 := let_0 l
 have x4 := let_4 l
 have x5 := let_5 l
 have x8 := let_8 l
 have x9 := let_9 l
 have x10 := let_10 l
 have x48 := let_48 l hl
 have x56 := let_56 l hl
 have xlen := let_len l hl
 have xfull := let_full l hl
 have hxs := shortX_spec l.x hx
 rw [hsx] at hxs
 have hm := may_spec l.o
 rw [ho] at hm
 refine ⟨⟨_,Tryz.func11,by kernel_rfl,rfl⟩,Sg Tryz.func11 rfl fun c0 hc0 => ?_⟩;simp only [go_sem,x0,x48,xlen,hk,↓alts_t,↓alts_f,↓gone_tt,↓gone_ff,Int.reduceLT,Nat.reduceAdd,Nat.reduceLeDiff,Nat.reduceSub]
 (and_intros <;> try first|rfl|omega|(unfold I64;omega))
 refine Ops.pure (Wanted.test 12 true true rfl) rfl rfl (hm) (by simp only [go_sem,encO,ordC];(repeat' first|exact .refl _|apply LeR.tup|apply Le.agg|constructor)) rfl rfl ?_
 refine Og Tryz.func11 ?_;simp only [go_sem,x56,xlen,↓alts_t,↓alts_f,↓gone_tt,↓gone_ff,Nat.reduceAdd]
 (and_intros <;> try first|rfl|omega|(unfold I64;omega))
 refine Ops.pure (Wanted.test 19 false false rfl) rfl rfl (hxs) (by simp only [go_sem,encR,rplC,textsA];(repeat' first|exact .refl _|apply LeR.tup|apply Le.agg|constructor)) rfl rfl ?_
 refine Og Tryz.func11 ?_;simp only [go_sem,h1,h2,rpsA,x4,x5,xlen,↓alt_t,↓alt_f,↓alts_t,↓alts_f,↓gone_ft,↓gone_ff,Nat.reduceAdd,Nat.reduceLeDiff]
 (and_intros <;> try first|rfl|omega|(unfold I64;omega))
 (repeat' first|exact .refl _|apply LeR.tup|apply Le.agg|constructor)
theorem may27_c (l : Ltr) (hl : l.sum.length = 32) (hk1 : ¬ l.kind < 1) (hk2 : ¬ 10 < l.kind) (hk8 : ¬ l.kind = 8) (hx : l.x.l.length ≤ 100000000) (hsx : shortX l.x = true) (h1 : ¬ (6000 : Int) < l.value.length) (h2 : (30 : Int) < l.cert.length) : ASpec Tryz.prog 11 [.agg (letC l)] (.bool false) := by
 have x0 := let_0 l
 have x4 := let_4 l
 have x5 := let_5 l
 have x8 := let_8 l
 have x9 := let_9 l
 have x10 := let_10 l
 have x48 := let_48 l hl
 have x56 := let_56 l hl
 have xlen := let_len l hl
 have xfull := let_full l hl
 have hxs := shortX_spec l.x hx
 rw [hsx] at hxs
 refine ⟨⟨_,Tryz.func11,by kernel_rfl,rfl⟩,Sg Tryz.func11 rfl fun c0 hc0 => ?_⟩;simp only [go_sem,x0,x56,xlen,hk1,hk2,hk8,↓alts_f,↓gone_tf,↓gone_ff,Nat.reduceAdd,Nat.reduceLeDiff,Nat.reduceSub]
 (and_intros <;> try first|rfl|omega|(unfold I64;omega))
 refine Ops.pure (Wanted.test 19 false false rfl) rfl rfl (hxs) (by simp only [go_sem,encR,rplC,textsA];(repeat' first|exact .refl _|apply LeR.tup|apply Le.agg|constructor)) rfl rfl ?_
 refine Og Tryz.func11 ?_;simp only [go_sem,h1,h2,rpsA,x4,x5,xlen,↓alt_t,↓alt_f,↓alts_t,↓alts_f,↓gone_ft,↓gone_ff,Nat.reduceAdd,Nat.reduceLeDiff]
 (and_intros <;> try first|rfl|omega|(unfold I64;omega))
 (repeat' first|exact .refl _|apply LeR.tup|apply Le.agg|constructor)
theorem may27_a_8 (l : Ltr) (hl : l.sum.length = 32) (hk : l.kind = 8) (ho : mayO l.o = true) (hx : l.x.l.length ≤ 100000000) (hsx : shortX l.x = true) (h1 : ¬ (6000 : Int) < l.value.length) (h2 : ¬ (30 : Int) < l.cert.length) (h3 : (6000 : Int) < l.vote.value.length) : ASpec Tryz.prog 11 [.agg (letC l)] (.bool false) := by
 have x0 := let_0 l
 have x4 := let_4 l
 have x5 := let_5 l
 have x8 := let_8 l
 have x9 := let_9 l
 have x10 := let_10 l
 have x48 := let_48 l hl
 have x56 := let_56 l hl
 have xlen := let_len l hl
 have xfull := let_full l hl
 have hxs := shortX_spec l.x hx
 rw [hsx] at hxs
 have hm := may_spec l.o
 rw [ho] at hm
 refine ⟨⟨_,Tryz.func11,by kernel_rfl,rfl⟩,Sg Tryz.func11 rfl fun c0 hc0 => ?_⟩;simp only [go_sem,x0,x48,xlen,hk,↓alts_t,↓alts_f,↓gone_tt,↓gone_ff,Int.reduceLT,Nat.reduceAdd,Nat.reduceLeDiff,Nat.reduceSub]
 (and_intros <;> try first|rfl|omega|(unfold I64;omega))
 refine Ops.pure (Wanted.test 12 true true rfl) rfl rfl (hm) (by simp only [go_sem,encO,ordC];(repeat' first|exact .refl _|apply LeR.tup|apply Le.agg|constructor)) rfl rfl ?_
 refine Og Tryz.func11 ?_;simp only [go_sem,x56,xlen,↓alts_t,↓alts_f,↓gone_tt,↓gone_ff,Nat.reduceAdd]
 (and_intros <;> try first|rfl|omega|(unfold I64;omega))
 refine Ops.pure (Wanted.test 19 false false rfl) rfl rfl (hxs) (by simp only [go_sem,encR,rplC,textsA];(repeat' first|exact .refl _|apply LeR.tup|apply Le.agg|constructor)) rfl rfl ?_
 refine Og Tryz.func11 ?_;simp only [go_sem,h1,h2,h3,rpsA,x4,x5,x8,xlen,↓alt_t,↓alt_f,↓alts_t,↓alts_f,↓gone_ft,↓gone_ff,Nat.reduceAdd,Nat.reduceLeDiff]
 (and_intros <;> try first|rfl|omega|(unfold I64;omega))
 (repeat' first|exact .refl _|apply LeR.tup|apply Le.agg|constructor)
theorem may27_a (l : Ltr) (hl : l.sum.length = 32) (hk1 : ¬ l.kind < 1) (hk2 : ¬ 10 < l.kind) (hk8 : ¬ l.kind = 8) (hx : l.x.l.length ≤ 100000000) (hsx : shortX l.x = true) (h1 : ¬ (6000 : Int) < l.value.length) (h2 : ¬ (30 : Int) < l.cert.length) (h3 : (6000 : Int) < l.vote.value.length) : ASpec Tryz.prog 11 [.agg (letC l)] (.bool false) := by
 have x0 := let_0 l
 have x4 := let_4 l
 have x5 := let_5 l
 have x8 := let_8 l
 have x9 := let_9 l
 have x10 := let_10 l
 have x48 := let_48 l hl
 have x56 := let_56 l hl
 have xlen := let_len l hl
 have xfull := let_full l hl
 have hxs := shortX_spec l.x hx
 rw [hsx] at hxs
 refine ⟨⟨_,Tryz.func11,by kernel_rfl,rfl⟩,Sg Tryz.func11 rfl fun c0 hc0 => ?_⟩;simp only [go_sem,x0,x56,xlen,hk1,hk2,hk8,↓alts_f,↓gone_tf,↓gone_ff,Nat.reduceAdd,Nat.reduceLeDiff,Nat.reduceSub]
 (and_intros <;> try first|rfl|omega|(unfold I64;omega))
 refine Ops.pure (Wanted.test 19 false false rfl) rfl rfl (hxs) (by simp only [go_sem,encR,rplC,textsA];(repeat' first|exact .refl _|apply LeR.tup|apply Le.agg|constructor)) rfl rfl ?_
 refine Og Tryz.func11 ?_;simp only [go_sem,h1,h2,h3,rpsA,x4,x5,x8,xlen,↓alt_t,↓alt_f,↓alts_t,↓alts_f,↓gone_ft,↓gone_ff,Nat.reduceAdd,Nat.reduceLeDiff]
 (and_intros <;> try first|rfl|omega|(unfold I64;omega))
 (repeat' first|exact .refl _|apply LeR.tup|apply Le.agg|constructor)
theorem may27_p_8 (l : Ltr) (hl : l.sum.length = 32) (hk : l.kind = 8) (ho : mayO l.o = true) (hx : l.x.l.length ≤ 100000000) (hsx : shortX l.x = true) (h1 : ¬ (6000 : Int) < l.value.length) (h2 : ¬ (30 : Int) < l.cert.length) (h3 : ¬ (6000 : Int) < l.vote.value.length) (hsv : shortV l.proof = false) : ASpec Tryz.prog 11 [.agg (letC l)] (.bool false) := by
 have x0 := let_0 l
 have x4 := let_4 l
 have x5 := let_5 l
 have x8 := let_8 l
 have x9 := let_9 l
 have x10 := let_10 l
 have x48 := let_48 l hl
 have x56 := let_56 l hl
 have xlen := let_len l hl
 have xfull := let_full l hl
 have hxs := shortX_spec l.x hx
 rw [hsx] at hxs
 have hv := shortV_spec l.proof
 rw [hsv] at hv
 have hm := may_spec l.o
 rw [ho] at hm
 refine ⟨⟨_,Tryz.func11,by kernel_rfl,rfl⟩,Sg Tryz.func11 rfl fun c0 hc0 => ?_⟩;simp only [go_sem,x0,x48,xlen,hk,↓alts_t,↓alts_f,↓gone_tt,↓gone_ff,Int.reduceLT,Nat.reduceAdd,Nat.reduceLeDiff,Nat.reduceSub]
 (and_intros <;> try first|rfl|omega|(unfold I64;omega))
 refine Ops.pure (Wanted.test 12 true true rfl) rfl rfl (hm) (by simp only [go_sem,encO,ordC];(repeat' first|exact .refl _|apply LeR.tup|apply Le.agg|constructor)) rfl rfl ?_
 refine Og Tryz.func11 ?_;simp only [go_sem,x56,xlen,↓alts_t,↓alts_f,↓gone_tt,↓gone_ff,Nat.reduceAdd]
 (and_intros <;> try first|rfl|omega|(unfold I64;omega))
 refine Ops.pure (Wanted.test 19 false false rfl) rfl rfl (hxs) (by simp only [go_sem,encR,rplC,textsA];(repeat' first|exact .refl _|apply LeR.tup|apply Le.agg|constructor)) rfl rfl ?_
 refine Og Tryz.func11 ?_;simp only [go_sem,h1,h2,h3,rpsA,x4,x5,x8,x9,xlen,↓alt_f,↓alts_f,↓gone_ff,Nat.reduceAdd,Nat.reduceLeDiff]
 (and_intros <;> try first|rfl|omega|(unfold I64;omega))
 refine Ops.pure (Wanted.test 17 false false rfl) rfl rfl (hv) (by simp only [go_sem,votesA];(repeat' first|exact .refl _|apply LeR.tup|apply Le.agg|constructor)) rfl rfl ?_
 refine Og Tryz.func11 ?_;simp only [go_sem,↓alt_t,↓alts_f,↓gone_ff]
 (and_intros <;> try first|rfl|omega|(unfold I64;omega))
 (repeat' first|exact .refl _|apply LeR.tup|apply Le.agg|constructor)
theorem may27_p (l : Ltr) (hl : l.sum.length = 32) (hk1 : ¬ l.kind < 1) (hk2 : ¬ 10 < l.kind) (hk8 : ¬ l.kind = 8) (hx : l.x.l.length ≤ 100000000) (hsx : shortX l.x = true) (h1 : ¬ (6000 : Int) < l.value.length) (h2 : ¬ (30 : Int) < l.cert.length) (h3 : ¬ (6000 : Int) < l.vote.value.length) (hsv : shortV l.proof = false) : ASpec Tryz.prog 11 [.agg (letC l)] (.bool false) := by
 have x0 := let_0 l
 have x4 := let_4 l
 have x5 := let_5 l
 have x8 := let_8 l
 have x9 := let_9 l
 have x10 := let_10 l
 have x48 := let_48 l hl
 have x56 := let_56 l hl
 have xlen := let_len l hl
 have xfull := let_full l hl
 have hxs := shortX_spec l.x hx
 rw [hsx] at hxs
 have hv := shortV_spec l.proof
 rw [hsv] at hv
 refine ⟨⟨_,Tryz.func11,by kernel_rfl,rfl⟩,Sg Tryz.func11 rfl fun c0 hc0 => ?_⟩;simp only [go_sem,x0,x56,xlen,hk1,hk2,hk8,↓alts_f,↓gone_tf,↓gone_ff,Nat.reduceAdd,Nat.reduceLeDiff,Nat.reduceSub]
 (and_intros <;> try first|rfl|omega|(unfold I64;omega))
 refine Ops.pure (Wanted.test 19 false false rfl) rfl rfl (hxs) (by simp only [go_sem,encR,rplC,textsA];(repeat' first|exact .refl _|apply LeR.tup|apply Le.agg|constructor)) rfl rfl ?_
 refine Og Tryz.func11 ?_;simp only [go_sem,h1,h2,h3,rpsA,x4,x5,x8,x9,xlen,↓alt_f,↓alts_f,↓gone_ff,Nat.reduceAdd,Nat.reduceLeDiff]
 (and_intros <;> try first|rfl|omega|(unfold I64;omega))
 refine Ops.pure (Wanted.test 17 false false rfl) rfl rfl (hv) (by simp only [go_sem,votesA];(repeat' first|exact .refl _|apply LeR.tup|apply Le.agg|constructor)) rfl rfl ?_
 refine Og Tryz.func11 ?_;simp only [go_sem,↓alt_t,↓alts_f,↓gone_ff]
 (and_intros <;> try first|rfl|omega|(unfold I64;omega))
 (repeat' first|exact .refl _|apply LeR.tup|apply Le.agg|constructor)
theorem may27_cl_8 (l : Ltr) (hl : l.sum.length = 32) (hk : l.kind = 8) (ho : mayO l.o = true) (hx : l.x.l.length ≤ 100000000) (hsx : shortX l.x = true) (h1 : ¬ (6000 : Int) < l.value.length) (h2 : ¬ (30 : Int) < l.cert.length) (h3 : ¬ (6000 : Int) < l.vote.value.length) (hsv : shortV l.proof = true) (hcl : l.cert.any longR = true) : ASpec Tryz.prog 11 [.agg (letC l)] (.bool false) := by
 have x0 := let_0 l
 have x4 := let_4 l
 have x5 := let_5 l
 have x8 := let_8 l
 have x9 := let_9 l
 have x10 := let_10 l
 have x48 := let_48 l hl
 have x56 := let_56 l hl
 have xlen := let_len l hl
 have xfull := let_full l hl
 have hxs := shortX_spec l.x hx
 rw [hsx] at hxs
 have hv := shortV_spec l.proof
 rw [hsv] at hv
 have hc := contains_reports l.cert (by omega)
 rw [hcl] at hc
 have hm := may_spec l.o
 rw [ho] at hm
 refine ⟨⟨_,Tryz.func11,by kernel_rfl,rfl⟩,Sg Tryz.func11 rfl fun c0 hc0 => ?_⟩;simp only [go_sem,x0,x48,xlen,hk,↓alts_t,↓alts_f,↓gone_tt,↓gone_ff,Int.reduceLT,Nat.reduceAdd,Nat.reduceLeDiff,Nat.reduceSub]
 (and_intros <;> try first|rfl|omega|(unfold I64;omega))
 refine Ops.pure (Wanted.test 12 true true rfl) rfl rfl (hm) (by simp only [go_sem,encO,ordC];(repeat' first|exact .refl _|apply LeR.tup|apply Le.agg|constructor)) rfl rfl ?_
 refine Og Tryz.func11 ?_;simp only [go_sem,x56,xlen,↓alts_t,↓alts_f,↓gone_tt,↓gone_ff,Nat.reduceAdd]
 (and_intros <;> try first|rfl|omega|(unfold I64;omega))
 refine Ops.pure (Wanted.test 19 false false rfl) rfl rfl (hxs) (by simp only [go_sem,encR,rplC,textsA];(repeat' first|exact .refl _|apply LeR.tup|apply Le.agg|constructor)) rfl rfl ?_
 refine Og Tryz.func11 ?_;simp only [go_sem,h1,h2,h3,rpsA,x4,x5,x8,x9,xlen,↓alt_f,↓alts_f,↓gone_ff,Nat.reduceAdd,Nat.reduceLeDiff]
 (and_intros <;> try first|rfl|omega|(unfold I64;omega))
 refine Ops.pure (Wanted.test 17 false false rfl) rfl rfl (hv) (by simp only [go_sem,votesA];(repeat' first|exact .refl _|apply LeR.tup|apply Le.agg|constructor)) rfl rfl ?_
 refine Og Tryz.func11 ?_;simp only [go_sem,x5,xlen,↓alt_f,↓alts_f,↓gone_ff,Nat.reduceAdd,Nat.reduceLeDiff]
 (and_intros <;> try first|rfl|omega|(unfold I64;omega))
 refine Ops.pure .free rfl rfl (hc) (by simp only [go_sem,rpsA];(repeat' first|exact .refl _|apply LeR.tup|apply Le.agg|constructor)) rfl rfl ?_
 refine Og Tryz.func11 ?_;simp only [go_sem,↓alt_t,↓alts_t,↓gone_ft]
 (and_intros <;> try first|rfl|omega|(unfold I64;omega))
 (repeat' first|exact .refl _|apply LeR.tup|apply Le.agg|constructor)
theorem may27_cl (l : Ltr) (hl : l.sum.length = 32) (hk1 : ¬ l.kind < 1) (hk2 : ¬ 10 < l.kind) (hk8 : ¬ l.kind = 8) (hx : l.x.l.length ≤ 100000000) (hsx : shortX l.x = true) (h1 : ¬ (6000 : Int) < l.value.length) (h2 : ¬ (30 : Int) < l.cert.length) (h3 : ¬ (6000 : Int) < l.vote.value.length) (hsv : shortV l.proof = true) (hcl : l.cert.any longR = true) : ASpec Tryz.prog 11 [.agg (letC l)] (.bool false) := by
 have x0 := let_0 l
 have x4 := let_4 l
 have x5 := let_5 l
 have x8 := let_8 l
 have x9 := let_9 l
 have x10 := let_10 l
 have x48 := let_48 l hl
 have x56 := let_56 l hl
 have xlen := let_len l hl
 have xfull := let_full l hl
 have hxs := shortX_spec l.x hx
 rw [hsx] at hxs
 have hv := shortV_spec l.proof
 rw [hsv] at hv
 have hc := contains_reports l.cert (by omega)
 rw [hcl] at hc
 refine ⟨⟨_,Tryz.func11,by kernel_rfl,rfl⟩,Sg Tryz.func11 rfl fun c0 hc0 => ?_⟩;simp only [go_sem,x0,x56,xlen,hk1,hk2,hk8,↓alts_f,↓gone_tf,↓gone_ff,Nat.reduceAdd,Nat.reduceLeDiff,Nat.reduceSub]
 (and_intros <;> try first|rfl|omega|(unfold I64;omega))
 refine Ops.pure (Wanted.test 19 false false rfl) rfl rfl (hxs) (by simp only [go_sem,encR,rplC,textsA];(repeat' first|exact .refl _|apply LeR.tup|apply Le.agg|constructor)) rfl rfl ?_
 refine Og Tryz.func11 ?_;simp only [go_sem,h1,h2,h3,rpsA,x4,x5,x8,x9,xlen,↓alt_f,↓alts_f,↓gone_ff,Nat.reduceAdd,Nat.reduceLeDiff]
 (and_intros <;> try first|rfl|omega|(unfold I64;omega))
 refine Ops.pure (Wanted.test 17 false false rfl) rfl rfl (hv) (by simp only [go_sem,votesA];(repeat' first|exact .refl _|apply LeR.tup|apply Le.agg|constructor)) rfl rfl ?_
 refine Og Tryz.func11 ?_;simp only [go_sem,x5,xlen,↓alt_f,↓alts_f,↓gone_ff,Nat.reduceAdd,Nat.reduceLeDiff]
 (and_intros <;> try first|rfl|omega|(unfold I64;omega))
 refine Ops.pure .free rfl rfl (hc) (by simp only [go_sem,rpsA];(repeat' first|exact .refl _|apply LeR.tup|apply Le.agg|constructor)) rfl rfl ?_
 refine Og Tryz.func11 ?_;simp only [go_sem,↓alt_t,↓alts_t,↓gone_ft]
 (and_intros <;> try first|rfl|omega|(unfold I64;omega))
 (repeat' first|exact .refl _|apply LeR.tup|apply Le.agg|constructor)
theorem may27_r_8 (l : Ltr) (hl : l.sum.length = 32) (hk : l.kind = 8) (ho : mayO l.o = true) (hx : l.x.l.length ≤ 100000000) (hsx : shortX l.x = true) (h1 : ¬ (6000 : Int) < l.value.length) (h2 : ¬ (30 : Int) < l.cert.length) (h3 : ¬ (6000 : Int) < l.vote.value.length) (hsv : shortV l.proof = true) (hcl : l.cert.any longR = false) (hrl : longR l.r = true) : ASpec Tryz.prog 11 [.agg (letC l)] (.bool false) := by
 have x0 := let_0 l
 have x4 := let_4 l
 have x5 := let_5 l
 have x8 := let_8 l
 have x9 := let_9 l
 have x10 := let_10 l
 have x48 := let_48 l hl
 have x56 := let_56 l hl
 have xlen := let_len l hl
 have xfull := let_full l hl
 have hxs := shortX_spec l.x hx
 rw [hsx] at hxs
 have hv := shortV_spec l.proof
 rw [hsv] at hv
 have hc := contains_reports l.cert (by omega)
 rw [hcl] at hc
 have hr := longR_spec l.r
 rw [hrl] at hr
 have hm := may_spec l.o
 rw [ho] at hm
 refine ⟨⟨_,Tryz.func11,by kernel_rfl,rfl⟩,Sg Tryz.func11 rfl fun c0 hc0 => ?_⟩;simp only [go_sem,x0,x48,xlen,hk,↓alts_t,↓alts_f,↓gone_tt,↓gone_ff,Int.reduceLT,Nat.reduceAdd,Nat.reduceLeDiff,Nat.reduceSub]
 (and_intros <;> try first|rfl|omega|(unfold I64;omega))
 refine Ops.pure (Wanted.test 12 true true rfl) rfl rfl (hm) (by simp only [go_sem,encO,ordC];(repeat' first|exact .refl _|apply LeR.tup|apply Le.agg|constructor)) rfl rfl ?_
 refine Og Tryz.func11 ?_;simp only [go_sem,x56,xlen,↓alts_t,↓alts_f,↓gone_tt,↓gone_ff,Nat.reduceAdd]
 (and_intros <;> try first|rfl|omega|(unfold I64;omega))
 refine Ops.pure (Wanted.test 19 false false rfl) rfl rfl (hxs) (by simp only [go_sem,encR,rplC,textsA];(repeat' first|exact .refl _|apply LeR.tup|apply Le.agg|constructor)) rfl rfl ?_
 refine Og Tryz.func11 ?_;simp only [go_sem,h1,h2,h3,rpsA,x4,x5,x8,x9,xlen,↓alt_f,↓alts_f,↓gone_ff,Nat.reduceAdd,Nat.reduceLeDiff]
 (and_intros <;> try first|rfl|omega|(unfold I64;omega))
 refine Ops.pure (Wanted.test 17 false false rfl) rfl rfl (hv) (by simp only [go_sem,votesA];(repeat' first|exact .refl _|apply LeR.tup|apply Le.agg|constructor)) rfl rfl ?_
 refine Og Tryz.func11 ?_;simp only [go_sem,x5,xlen,↓alt_f,↓alts_f,↓gone_ff,Nat.reduceAdd,Nat.reduceLeDiff]
 (and_intros <;> try first|rfl|omega|(unfold I64;omega))
 refine Ops.pure .free rfl rfl (hc) (by simp only [go_sem,rpsA];(repeat' first|exact .refl _|apply LeR.tup|apply Le.agg|constructor)) rfl rfl ?_
 refine Og Tryz.func11 ?_;simp only [go_sem,x10,xlen,↓alts_f,↓gone_ff,Nat.reduceAdd,Nat.reduceLeDiff]
 (and_intros <;> try first|rfl|omega|(unfold I64;omega))
 refine Ops.pure (Wanted.test 4 false false rfl) rfl rfl (hr) (by simp only [go_sem,encRp,rpC];(repeat' first|exact .refl _|apply LeR.tup|apply Le.agg|constructor)) rfl rfl ?_
 refine Og Tryz.func11 ?_;simp only [go_sem,↓alt_t]
 (and_intros <;> try first|rfl|omega|(unfold I64;omega))
 (repeat' first|exact .refl _|apply LeR.tup|apply Le.agg|constructor)
theorem may27_r (l : Ltr) (hl : l.sum.length = 32) (hk1 : ¬ l.kind < 1) (hk2 : ¬ 10 < l.kind) (hk8 : ¬ l.kind = 8) (hx : l.x.l.length ≤ 100000000) (hsx : shortX l.x = true) (h1 : ¬ (6000 : Int) < l.value.length) (h2 : ¬ (30 : Int) < l.cert.length) (h3 : ¬ (6000 : Int) < l.vote.value.length) (hsv : shortV l.proof = true) (hcl : l.cert.any longR = false) (hrl : longR l.r = true) : ASpec Tryz.prog 11 [.agg (letC l)] (.bool false) := by
 have x0 := let_0 l
 have x4 := let_4 l
 have x5 := let_5 l
 have x8 := let_8 l
 have x9 := let_9 l
 have x10 := let_10 l
 have x48 := let_48 l hl
 have x56 := let_56 l hl
 have xlen := let_len l hl
 have xfull := let_full l hl
 have hxs := shortX_spec l.x hx
 rw [hsx] at hxs
 have hv := shortV_spec l.proof
 rw [hsv] at hv
 have hc := contains_reports l.cert (by omega)
 rw [hcl] at hc
 have hr := longR_spec l.r
 rw [hrl] at hr
 refine ⟨⟨_,Tryz.func11,by kernel_rfl,rfl⟩,Sg Tryz.func11 rfl fun c0 hc0 => ?_⟩;simp only [go_sem,x0,x56,xlen,hk1,hk2,hk8,↓alts_f,↓gone_tf,↓gone_ff,Nat.reduceAdd,Nat.reduceLeDiff,Nat.reduceSub]
 (and_intros <;> try first|rfl|omega|(unfold I64;omega))
 refine Ops.pure (Wanted.test 19 false false rfl) rfl rfl (hxs) (by simp only [go_sem,encR,rplC,textsA];(repeat' first|exact .refl _|apply LeR.tup|apply Le.agg|constructor)) rfl rfl ?_
 refine Og Tryz.func11 ?_;simp only [go_sem,h1,h2,h3,rpsA,x4,x5,x8,x9,xlen,↓alt_f,↓alts_f,↓gone_ff,Nat.reduceAdd,Nat.reduceLeDiff]
 (and_intros <;> try first|rfl|omega|(unfold I64;omega))
 refine Ops.pure (Wanted.test 17 false false rfl) rfl rfl (hv) (by simp only [go_sem,votesA];(repeat' first|exact .refl _|apply LeR.tup|apply Le.agg|constructor)) rfl rfl ?_
 refine Og Tryz.func11 ?_;simp only [go_sem,x5,xlen,↓alt_f,↓alts_f,↓gone_ff,Nat.reduceAdd,Nat.reduceLeDiff]
 (and_intros <;> try first|rfl|omega|(unfold I64;omega))
 refine Ops.pure .free rfl rfl (hc) (by simp only [go_sem,rpsA];(repeat' first|exact .refl _|apply LeR.tup|apply Le.agg|constructor)) rfl rfl ?_
 refine Og Tryz.func11 ?_;simp only [go_sem,x10,xlen,↓alts_f,↓gone_ff,Nat.reduceAdd,Nat.reduceLeDiff]
 (and_intros <;> try first|rfl|omega|(unfold I64;omega))
 refine Ops.pure (Wanted.test 4 false false rfl) rfl rfl (hr) (by simp only [go_sem,encRp,rpC];(repeat' first|exact .refl _|apply LeR.tup|apply Le.agg|constructor)) rfl rfl ?_
 refine Og Tryz.func11 ?_;simp only [go_sem,↓alt_t]
 (and_intros <;> try first|rfl|omega|(unfold I64;omega))
 (repeat' first|exact .refl _|apply LeR.tup|apply Le.agg|constructor)
theorem tk_sum (b : Bytes) : (tkL b).1.sum.length = 32 := by
 unfold tkL
 by_cases e0 : (rdN b 0 0).2.1 = 0
 ·rw [if_pos e0]
  by_cases n1 : (rdN b 0 0).2.2 = 1
  ·rw [if_pos n1];rfl
  rw [if_neg n1]
  by_cases n2 : (rdN b 0 0).2.2 = 2
  ·rw [if_pos n2];rfl
  rw [if_neg n2]
  by_cases n3 : (rdN b 0 0).2.2 = 3
  ·rw [if_pos n3];rfl
  rw [if_neg n3]
  by_cases n4 : (rdN b 0 0).2.2 = 4
  ·rw [if_pos n4];rfl
  rw [if_neg n4]
  by_cases n5 : (rdN b 0 0).2.2 = 5
  ·rw [if_pos n5];rfl
  rw [if_neg n5]
  by_cases n6 : (rdN b 0 0).2.2 = 6
  ·rw [if_pos n6];rfl
  rw [if_neg n6]
  by_cases n7 : (rdN b 0 0).2.2 = 7
  ·rw [if_pos n7];exact rdM_32 _ _ zM rfl
  rw [if_neg n7]
  by_cases n8 : (rdN b 0 0).2.2 = 8
  ·rw [if_pos n8];rfl
  rw [if_neg n8]
  by_cases n9 : (rdN b 0 0).2.2 = 9
  ·rw [if_pos n9];rfl
  rw [if_neg n9]
  by_cases n10 : (rdN b 0 0).2.2 = 10
  ·rw [if_pos n10];rfl
  rw [if_neg n10]
  rfl
 ·rw [if_neg e0];rfl
theorem let_bel (l : Ltr) (n : Nat) : belL n (letC l) = true := (Pln.cons (fun _ => rfl) (fun _ => rfl) (fun _ => rfl) (Pln.let_ l)).1 n
theorem arg_bel (l : Ltr) (n : Nat) : belL n [.agg (letC l)] = true := by
 show (AV.bel n (.agg (letC l)) && true) = true
 rw [Bool.and_true]
 exact let_bel l n
theorem arg2_bel (l m : Ltr) (n : Nat) : belL n [.agg (letC l),.agg (letC m)] = true := by
 show (AV.bel n (.agg (letC l)) && belL n [.agg (letC m)]) = true
 rw [arg_bel m n,Bool.and_true]
 exact let_bel l n
theorem may27_ok_8 (l : Ltr) (hl : l.sum.length = 32) (hkk : l.kind = 8) (ho : mayO l.o = true) (hx : l.x.l.length ≤ 100000000) (hsx : shortX l.x = true) (h1 : ¬ (6000 : Int) < l.value.length) (h2 : ¬ (30 : Int) < l.cert.length) (h3 : ¬ (6000 : Int) < l.vote.value.length) (hsv : shortV l.proof = true) (hcl : l.cert.any longR = false) (hrl : longR l.r = false) (hs : smL l) (hk : 1 ≤ l.kind ∧ l.kind ≤ 10) : ASpec Tryz.prog 11 [.agg (letC l)] (.bool (mayL l)) := by
 have x0 := let_0 l
 have x4 := let_4 l
 have x5 := let_5 l
 have x8 := let_8 l
 have x9 := let_9 l
 have x10 := let_10 l
 have x48 := let_48 l hl
 have x56 := let_56 l hl
 have xlen := let_len l hl
 have xfull := let_full l hl
 have hxs := shortX_spec l.x hx
 rw [hsx] at hxs
 have hv := shortV_spec l.proof
 rw [hsv] at hv
 have hc := contains_reports l.cert (by omega)
 rw [hcl] at hc
 have hr := longR_spec l.r
 rw [hrl] at hr
 have hw := wr_spec l hk hs
 have hwl := wrL_le hs hk
 have ht := tk_spec (wrL l) (by omega)
 have bsum := tk_sum (wrL l)
 obtain ⟨⟨bl,ok⟩,hbl⟩ : ∃ t,tkL (wrL l) = t := ⟨_,rfl⟩
 have hml : mayL l = decide ((bl,ok) = (l,true)) := by unfold mayL;rw [hbl]
 have hgood := tk_only (wrL l)
 rw [hbl] at ht bsum hgood
 rw [hml]
 simp only at ht bsum hgood
 have blen := let_len bl bsum
 have bfull := let_full bl bsum
 have ab := arg_bel l 0
 have ab2 := arg2_bel bl l 0
 have rb : AV.bel 0 (.tup [.agg (letC bl),.bool ok]) = true := by
  show (AV.bel 0 (.agg (letC bl)) && true) = true
  rw [Bool.and_true]
  exact let_bel bl 0
 have hm := may_spec l.o
 rw [ho] at hm
 refine ⟨⟨_,Tryz.func11,by kernel_rfl,rfl⟩,Sg Tryz.func11 rfl fun c0 hc0 => ?_⟩;simp only [go_sem,x0,x48,xlen,hkk,↓alts_t,↓alts_f,↓gone_tt,↓gone_ff,Int.reduceLT,Nat.reduceAdd,Nat.reduceLeDiff,Nat.reduceSub]
 (and_intros <;> try first|rfl|omega|(unfold I64;omega))
 refine Ops.pure (Wanted.test 12 true true rfl) rfl rfl (hm) (by simp only [go_sem,encO,ordC];(repeat' first|exact .refl _|apply LeR.tup|apply Le.agg|constructor)) rfl rfl ?_
 refine Og Tryz.func11 ?_;simp only [go_sem,x56,xlen,↓alts_t,↓alts_f,↓gone_tt,↓gone_ff,Nat.reduceAdd]
 (and_intros <;> try first|rfl|omega|(unfold I64;omega))
 refine Ops.pure (Wanted.test 19 false false rfl) rfl rfl (hxs) (by simp only [go_sem,encR,rplC,textsA];(repeat' first|exact .refl _|apply LeR.tup|apply Le.agg|constructor)) rfl rfl ?_
 refine Og Tryz.func11 ?_;simp only [go_sem,h1,h2,h3,rpsA,x4,x5,x8,x9,xlen,↓alt_f,↓alts_f,↓gone_ff,Nat.reduceAdd,Nat.reduceLeDiff]
 (and_intros <;> try first|rfl|omega|(unfold I64;omega))
 refine Ops.pure (Wanted.test 17 false false rfl) rfl rfl (hv) (by simp only [go_sem,votesA];(repeat' first|exact .refl _|apply LeR.tup|apply Le.agg|constructor)) rfl rfl ?_
 refine Og Tryz.func11 ?_;simp only [go_sem,x5,xlen,↓alt_f,↓alts_f,↓gone_ff,Nat.reduceAdd,Nat.reduceLeDiff]
 (and_intros <;> try first|rfl|omega|(unfold I64;omega))
 refine Ops.pure .free rfl rfl (hc) (by simp only [go_sem,rpsA];(repeat' first|exact .refl _|apply LeR.tup|apply Le.agg|constructor)) rfl rfl ?_
 refine Og Tryz.func11 ?_;simp only [go_sem,x10,xlen,↓alts_f,↓gone_ff,Nat.reduceAdd,Nat.reduceLeDiff]
 (and_intros <;> try first|rfl|omega|(unfold I64;omega))
 refine Ops.pure (Wanted.test 4 false false rfl) rfl rfl (hr) (by simp only [go_sem,encRp,rpC];(repeat' first|exact .refl _|apply LeR.tup|apply Le.agg|constructor)) rfl rfl ?_
 refine Og Tryz.func11 ?_;simp only [go_sem,xlen,xfull,↓alt_f]
 (and_intros <;> try first|rfl|omega|(unfold I64;omega))
 refine Ops.pure .free rfl rfl (hw) (by simp only [go_sem];(repeat' first|exact .refl _|apply LeR.tup|apply Le.agg|constructor)) ab rfl ?_
 refine Og Tryz.func11 ?_;simp only [go_sem,Nat.reduceAdd]
 (and_intros <;> try first|rfl|omega|(unfold I64;omega))
 refine Ops.pure .free rfl rfl (ht) (by simp only [go_sem];(repeat' first|exact .refl _|apply LeR.tup|apply Le.agg|constructor)) rfl rb ?_
 cases ok with
 | false =>
  rw [show decide ((bl,false) = (l,true)) = false by simp]
  refine Og Tryz.func11 ?_;simp only [go_sem,blen,↓alts_f,↓gone_tf,Nat.reduceAdd]
  (and_intros <;> try first|rfl|omega|(unfold I64;omega))
  (repeat' first|exact .refl _|apply LeR.tup|apply Le.agg|constructor)
 | true =>
  have hg := (hgood rfl).1
  have hsm := same27_spec bl l bsum hl (fun r hr => by
   rcases List.mem_append.1 hr with hr|hr
   ·have := (hg.sh.2.2.1 r hr).2.1;omega
   ·rw [List.mem_singleton] at hr;subst hr;have := hg.sh.2.2.2.2.2.1.2.1;omega) (by have := hg.sh.2.1;omega) (by omega) (by have := hg.sh.2.2.2.2.1.1;omega) (by have := hg.names;omega)
  rw [show decide ((bl,true) = (l,true)) = decide (bl = l) by simp]
  refine Og Tryz.func11 ?_;simp only [go_sem,xlen,xfull,blen,bfull,↓alts_t,↓gone_tt,Nat.reduceAdd]
  (and_intros <;> try first|rfl|omega|(unfold I64;omega))
  refine Ops.pure (Wanted.test 1 true true rfl) rfl rfl (hsm) (by simp only [go_sem];(repeat' first|exact .refl _|apply LeR.tup|apply Le.agg|constructor)) ab2 rfl ?_
  refine Og Tryz.func11 ?_;simp only [go_sem]
  (and_intros <;> try first|rfl|omega|(unfold I64;omega))
  (repeat' first|exact .refl _|apply LeR.tup|apply Le.agg|constructor)
theorem may27_ok (l : Ltr) (hl : l.sum.length = 32) (hk1 : ¬ l.kind < 1) (hk2 : ¬ 10 < l.kind) (hk8 : ¬ l.kind = 8) (hx : l.x.l.length ≤ 100000000) (hsx : shortX l.x = true) (h1 : ¬ (6000 : Int) < l.value.length) (h2 : ¬ (30 : Int) < l.cert.length) (h3 : ¬ (6000 : Int) < l.vote.value.length) (hsv : shortV l.proof = true) (hcl : l.cert.any longR = false) (hrl : longR l.r = false) (hs : smL l) (hk : 1 ≤ l.kind ∧ l.kind ≤ 10) : ASpec Tryz.prog 11 [.agg (letC l)] (.bool (mayL l)) := by
 have x0 := let_0 l
 have x4 := let_4 l
 have x5 := let_5 l
 have x8 := let_8 l
 have x9 := let_9 l
 have x10 := let_10 l
 have x48 := let_48 l hl
 have x56 := let_56 l hl
 have xlen := let_len l hl
 have xfull := let_full l hl
 have hxs := shortX_spec l.x hx
 rw [hsx] at hxs
 have hv := shortV_spec l.proof
 rw [hsv] at hv
 have hc := contains_reports l.cert (by omega)
 rw [hcl] at hc
 have hr := longR_spec l.r
 rw [hrl] at hr
 have hw := wr_spec l hk hs
 have hwl := wrL_le hs hk
 have ht := tk_spec (wrL l) (by omega)
 have bsum := tk_sum (wrL l)
 obtain ⟨⟨bl,ok⟩,hbl⟩ : ∃ t,tkL (wrL l) = t := ⟨_,rfl⟩
 have hml : mayL l = decide ((bl,ok) = (l,true)) := by unfold mayL;rw [hbl]
 have hgood := tk_only (wrL l)
 rw [hbl] at ht bsum hgood
 rw [hml]
 simp only at ht bsum hgood
 have blen := let_len bl bsum
 have bfull := let_full bl bsum
 have ab := arg_bel l 0
 have ab2 := arg2_bel bl l 0
 have rb : AV.bel 0 (.tup [.agg (letC bl),.bool ok]) = true := by
  show (AV.bel 0 (.agg (letC bl)) && true) = true
  rw [Bool.and_true]
  exact let_bel bl 0
 refine ⟨⟨_,Tryz.func11,by kernel_rfl,rfl⟩,Sg Tryz.func11 rfl fun c0 hc0 => ?_⟩;simp only [go_sem,x0,x56,xlen,hk1,hk2,hk8,↓alts_f,↓gone_tf,↓gone_ff,Nat.reduceAdd,Nat.reduceLeDiff,Nat.reduceSub]
 (and_intros <;> try first|rfl|omega|(unfold I64;omega))
 refine Ops.pure (Wanted.test 19 false false rfl) rfl rfl (hxs) (by simp only [go_sem,encR,rplC,textsA];(repeat' first|exact .refl _|apply LeR.tup|apply Le.agg|constructor)) rfl rfl ?_
 refine Og Tryz.func11 ?_;simp only [go_sem,h1,h2,h3,rpsA,x4,x5,x8,x9,xlen,↓alt_f,↓alts_f,↓gone_ff,Nat.reduceAdd,Nat.reduceLeDiff]
 (and_intros <;> try first|rfl|omega|(unfold I64;omega))
 refine Ops.pure (Wanted.test 17 false false rfl) rfl rfl (hv) (by simp only [go_sem,votesA];(repeat' first|exact .refl _|apply LeR.tup|apply Le.agg|constructor)) rfl rfl ?_
 refine Og Tryz.func11 ?_;simp only [go_sem,x5,xlen,↓alt_f,↓alts_f,↓gone_ff,Nat.reduceAdd,Nat.reduceLeDiff]
 (and_intros <;> try first|rfl|omega|(unfold I64;omega))
 refine Ops.pure .free rfl rfl (hc) (by simp only [go_sem,rpsA];(repeat' first|exact .refl _|apply LeR.tup|apply Le.agg|constructor)) rfl rfl ?_
 refine Og Tryz.func11 ?_;simp only [go_sem,x10,xlen,↓alts_f,↓gone_ff,Nat.reduceAdd,Nat.reduceLeDiff]
 (and_intros <;> try first|rfl|omega|(unfold I64;omega))
 refine Ops.pure (Wanted.test 4 false false rfl) rfl rfl (hr) (by simp only [go_sem,encRp,rpC];(repeat' first|exact .refl _|apply LeR.tup|apply Le.agg|constructor)) rfl rfl ?_
 refine Og Tryz.func11 ?_;simp only [go_sem,xlen,xfull,↓alt_f]
 (and_intros <;> try first|rfl|omega|(unfold I64;omega))
 refine Ops.pure .free rfl rfl (hw) (by simp only [go_sem];(repeat' first|exact .refl _|apply LeR.tup|apply Le.agg|constructor)) ab rfl ?_
 refine Og Tryz.func11 ?_;simp only [go_sem,Nat.reduceAdd]
 (and_intros <;> try first|rfl|omega|(unfold I64;omega))
 refine Ops.pure .free rfl rfl (ht) (by simp only [go_sem];(repeat' first|exact .refl _|apply LeR.tup|apply Le.agg|constructor)) rfl rb ?_
 cases ok with
 | false =>
  rw [show decide ((bl,false) = (l,true)) = false by simp]
  refine Og Tryz.func11 ?_;simp only [go_sem,blen,↓alts_f,↓gone_tf,Nat.reduceAdd]
  (and_intros <;> try first|rfl|omega|(unfold I64;omega))
  (repeat' first|exact .refl _|apply LeR.tup|apply Le.agg|constructor)
 | true =>
  have hg := (hgood rfl).1
  have hsm := same27_spec bl l bsum hl (fun r hr => by
   rcases List.mem_append.1 hr with hr|hr
   ·have := (hg.sh.2.2.1 r hr).2.1;omega
   ·rw [List.mem_singleton] at hr;subst hr;have := hg.sh.2.2.2.2.2.1.2.1;omega) (by have := hg.sh.2.1;omega) (by omega) (by have := hg.sh.2.2.2.2.1.1;omega) (by have := hg.names;omega)
  rw [show decide ((bl,true) = (l,true)) = decide (bl = l) by simp]
  refine Og Tryz.func11 ?_;simp only [go_sem,xlen,xfull,blen,bfull,↓alts_t,↓gone_tt,Nat.reduceAdd]
  (and_intros <;> try first|rfl|omega|(unfold I64;omega))
  refine Ops.pure (Wanted.test 1 true true rfl) rfl rfl (hsm) (by simp only [go_sem];(repeat' first|exact .refl _|apply LeR.tup|apply Le.agg|constructor)) ab2 rfl ?_
  refine Og Tryz.func11 ?_;simp only [go_sem]
  (and_intros <;> try first|rfl|omega|(unfold I64;omega))
  (repeat' first|exact .refl _|apply LeR.tup|apply Le.agg|constructor)
structure AskL (l : Ltr) : Prop where
 sum : l.sum.length = 32
 names : l.x.l.length ≤ 100000000
 sm : ShL l → smL l
theorem may27_spec (l : Ltr) (h : AskL l) : ASpec Tryz.prog 11 [.agg (letC l)] (.bool (mayL l)) := by
 obtain ⟨hl,hx,hs⟩ := h
 have no : ∀ {P : Prop},¬ P → (Good l → P) → mayL l = false := fun h1 h2 => not_may fun g => h1 (h2 g)
 by_cases k1 : l.kind < 1
 ·rw [no (P := ¬ l.kind < 1) (fun h => h k1) fun g => by have := g.1;omega];exact may27_k1 l hl k1
 by_cases k2 : 10 < l.kind
 ·rw [no (P := ¬ 10 < l.kind) (fun h => h k2) fun g => by have := g.1;omega];exact may27_k2 l hl k1 k2
 have hk : 1 ≤ l.kind ∧ l.kind ≤ 10 := by omega
 by_cases k8 : l.kind = 8
 ·cases ho : mayO l.o with
  | false => rw [no (P := mayO l.o = true) (by rw [ho];decide) fun g => g.kind8 k8];exact may27_k8 l hl k8 ho
  | true =>
   cases e0 : shortX l.x with
   | false => rw [no (P := shortX l.x = true) (by rw [e0];decide) fun g => g.short.1];exact may27_x_8 l hl k8 ho hx e0
   | true =>
    by_cases e1 : (6000 : Int) < l.value.length
    ·rw [no (P := ¬ (6000 : Int) < l.value.length) (fun h => h e1) fun g => by have := g.sh.1;omega];exact may27_v_8 l hl k8 ho hx e0 e1
    by_cases e2 : (30 : Int) < l.cert.length
    ·rw [no (P := ¬ (30 : Int) < l.cert.length) (fun h => h e2) fun g => by have := g.sh.2.1;omega];exact may27_c_8 l hl k8 ho hx e0 e1 e2
    by_cases e3 : (6000 : Int) < l.vote.value.length
    ·rw [no (P := ¬ (6000 : Int) < l.vote.value.length) (fun h => h e3) fun g => by have := g.sh.2.2.2.1;omega];exact may27_a_8 l hl k8 ho hx e0 e1 e2 e3
    cases e4 : shortV l.proof with
    | false => rw [no (P := shortV l.proof = true) (by rw [e4];decide) fun g => g.short.2.1];exact may27_p_8 l hl k8 ho hx e0 e1 e2 e3 e4
    | true =>
     cases e5 : l.cert.any longR with
     | true => rw [no (P := l.cert.any longR = false) (by rw [e5];decide) fun g => g.short.2.2.1];exact may27_cl_8 l hl k8 ho hx e0 e1 e2 e3 e4 e5
     | false =>
      cases e6 : longR l.r with
      | true => rw [no (P := longR l.r = false) (by rw [e6];decide) fun g => g.short.2.2.2];exact may27_r_8 l hl k8 ho hx e0 e1 e2 e3 e4 e5 e6
      | false =>
       exact may27_ok_8 l hl k8 ho hx e0 e1 e2 e3 e4 e5 e6 (hs (sh_of (by omega) (by omega) (by omega) e4 e5 e6 e0)) hk
 ·skip
  cases e0 : shortX l.x with
  | false => rw [no (P := shortX l.x = true) (by rw [e0];decide) fun g => g.short.1];exact may27_x l hl k1 k2 k8 hx e0
  | true =>
   by_cases e1 : (6000 : Int) < l.value.length
   ·rw [no (P := ¬ (6000 : Int) < l.value.length) (fun h => h e1) fun g => by have := g.sh.1;omega];exact may27_v l hl k1 k2 k8 hx e0 e1
   by_cases e2 : (30 : Int) < l.cert.length
   ·rw [no (P := ¬ (30 : Int) < l.cert.length) (fun h => h e2) fun g => by have := g.sh.2.1;omega];exact may27_c l hl k1 k2 k8 hx e0 e1 e2
   by_cases e3 : (6000 : Int) < l.vote.value.length
   ·rw [no (P := ¬ (6000 : Int) < l.vote.value.length) (fun h => h e3) fun g => by have := g.sh.2.2.2.1;omega];exact may27_a l hl k1 k2 k8 hx e0 e1 e2 e3
   cases e4 : shortV l.proof with
   | false => rw [no (P := shortV l.proof = true) (by rw [e4];decide) fun g => g.short.2.1];exact may27_p l hl k1 k2 k8 hx e0 e1 e2 e3 e4
   | true =>
    cases e5 : l.cert.any longR with
    | true => rw [no (P := l.cert.any longR = false) (by rw [e5];decide) fun g => g.short.2.2.1];exact may27_cl l hl k1 k2 k8 hx e0 e1 e2 e3 e4 e5
    | false =>
     cases e6 : longR l.r with
     | true => rw [no (P := longR l.r = false) (by rw [e6];decide) fun g => g.short.2.2.2];exact may27_r l hl k1 k2 k8 hx e0 e1 e2 e3 e4 e5 e6
     | false =>
      exact may27_ok l hl k1 k2 k8 hx e0 e1 e2 e3 e4 e5 e6 (hs (sh_of (by omega) (by omega) (by omega) e4 e5 e6 e0)) hk
structure SzL (l : Ltr) : Prop where
 proofs : ∀ r ∈ l.cert ++ [l.r],r.proof.length ≤ 281474976710656
 cert : l.cert.length ≤ 281474976710656
 proof : l.proof.length ≤ 281474976710656
 names : l.x.l.length ≤ 281474976710656
theorem WideL.sz {l : Ltr} (h : WideL l) : SzL l := ⟨h.proofs,h.cert.2,h.proof.2,by have := h.x.2.2.2.2.2.2;omega⟩
theorem Good.sz {l : Ltr} (g : Good l) : SzL l := ⟨fun r hr => by
 rcases List.mem_append.1 hr with hr|hr
 ·have := (g.sh.2.2.1 r hr).2.1;omega
 ·rw [List.mem_singleton] at hr;subst hr;have := g.sh.2.2.2.2.2.1.2.1;omega,by have := g.sh.2.1;omega,by have := g.sh.2.2.2.2.1.1;omega,by have := g.names;omega⟩
theorem usesOf_none {k : Int} (h : ¬ (1 ≤ k ∧ k ≤ 10)) : usesOf k = [] := by
 unfold usesOf
 rw [if_neg (by omega),if_neg (by omega),if_neg (by omega),if_neg (by omega),if_neg (by omega),if_neg (by omega),if_neg (by omega),if_neg (by omega),if_neg (by omega),if_neg (by omega)]
theorem usesOf_1 {k : Int} (h : k = 1) : usesOf k = [102,115,118,120,99] := by
 unfold usesOf
 rw [if_pos h]
theorem usesOf_2 {k : Int} (h : k = 2) : usesOf k = [115,97] := by
 unfold usesOf
 rw [if_neg (by omega),if_pos h]
theorem usesOf_3 {k : Int} (h : k = 3) : usesOf k = [102,115,112] := by
 unfold usesOf
 rw [if_neg (by omega),if_neg (by omega),if_pos h]
theorem usesOf_4 {k : Int} (h : k = 4) : usesOf k = [115,114] := by
 unfold usesOf
 rw [if_neg (by omega),if_neg (by omega),if_neg (by omega),if_pos h]
theorem usesOf_5 {k : Int} (h : k = 5) : usesOf k = [102,115,120] := by
 unfold usesOf
 rw [if_neg (by omega),if_neg (by omega),if_neg (by omega),if_neg (by omega),if_pos h]
theorem usesOf_6 {k : Int} (h : k = 6) : usesOf k = [102,118] := by
 unfold usesOf
 rw [if_neg (by omega),if_neg (by omega),if_neg (by omega),if_neg (by omega),if_neg (by omega),if_pos h]
theorem usesOf_7 {k : Int} (h : k = 7) : usesOf k = [102,115,109] := by
 unfold usesOf
 rw [if_neg (by omega),if_neg (by omega),if_neg (by omega),if_neg (by omega),if_neg (by omega),if_neg (by omega),if_pos h]
theorem usesOf_8 {k : Int} (h : k = 8) : usesOf k = [111] := by
 unfold usesOf
 rw [if_neg (by omega),if_neg (by omega),if_neg (by omega),if_neg (by omega),if_neg (by omega),if_neg (by omega),if_neg (by omega),if_pos h]
theorem usesOf_9 {k : Int} (h : k = 9) : usesOf k = [102,121] := by
 unfold usesOf
 rw [if_neg (by omega),if_neg (by omega),if_neg (by omega),if_neg (by omega),if_neg (by omega),if_neg (by omega),if_neg (by omega),if_neg (by omega),if_pos h]
theorem usesOf_10 {k : Int} (h : k = 10) : usesOf k = [102,115] := by
 unfold usesOf
 rw [if_neg (by omega),if_neg (by omega),if_neg (by omega),if_neg (by omega),if_neg (by omega),if_neg (by omega),if_neg (by omega),if_neg (by omega),if_neg (by omega),if_pos h]
theorem usesOf_some {k : Int} (h : 1 ≤ k ∧ k ≤ 10) : usesOf k ≠ [] ∧ (usesOf k).length ≤ 100 := by
 rcases (by omega : k = 1 ∨ k = 2 ∨ k = 3 ∨ k = 4 ∨ k = 5 ∨ k = 6 ∨ k = 7 ∨ k = 8 ∨ k = 9 ∨ k = 10) with h|h|h|h|h|h|h|h|h|h
 ·rw [usesOf_1 h];decide
 ·rw [usesOf_2 h];decide
 ·rw [usesOf_3 h];decide
 ·rw [usesOf_4 h];decide
 ·rw [usesOf_5 h];decide
 ·rw [usesOf_6 h];decide
 ·rw [usesOf_7 h];decide
 ·rw [usesOf_8 h];decide
 ·rw [usesOf_9 h];decide
 ·rw [usesOf_10 h];decide
theorem emptyB_use (l : Ltr) (h : 1 ≤ l.kind ∧ l.kind ≤ 10) : emptyB (usesOf l.kind) l = decide (useL l = l) := by
 rcases (by omega : l.kind = 1 ∨ l.kind = 2 ∨ l.kind = 3 ∨ l.kind = 4 ∨ l.kind = 5 ∨ l.kind = 6 ∨ l.kind = 7 ∨ l.kind = 8 ∨ l.kind = 9 ∨ l.kind = 10) with h|h|h|h|h|h|h|h|h|h
 ·rw [usesOf_1 h,show decide (useL l = l) = decide (l = useL l) from dec_eq ⟨Eq.symm,Eq.symm⟩,useL_1 l h]
  obtain ⟨⟩ := l
  simp only at h
  subst h
  rw [Bool.eq_iff_iff]
  simp [emptyB,zL,zR,and_assoc]
  all_goals (intros;exact decide_eq_true_iff)
 ·rw [usesOf_2 h,show decide (useL l = l) = decide (l = useL l) from dec_eq ⟨Eq.symm,Eq.symm⟩,useL_2 l h]
  obtain ⟨⟩ := l
  simp only at h
  subst h
  rw [Bool.eq_iff_iff]
  simp [emptyB,zL,zR,and_assoc]
  all_goals (intros;exact decide_eq_true_iff)
 ·rw [usesOf_3 h,show decide (useL l = l) = decide (l = useL l) from dec_eq ⟨Eq.symm,Eq.symm⟩,useL_3 l h]
  obtain ⟨⟩ := l
  simp only at h
  subst h
  rw [Bool.eq_iff_iff]
  simp [emptyB,zL,zR,and_assoc]
  all_goals (intros;exact decide_eq_true_iff)
 ·rw [usesOf_4 h,show decide (useL l = l) = decide (l = useL l) from dec_eq ⟨Eq.symm,Eq.symm⟩,useL_4 l h]
  obtain ⟨⟩ := l
  simp only at h
  subst h
  rw [Bool.eq_iff_iff]
  simp [emptyB,zL,zR,and_assoc]
  all_goals (intros;exact decide_eq_true_iff)
 ·rw [usesOf_5 h,show decide (useL l = l) = decide (l = useL l) from dec_eq ⟨Eq.symm,Eq.symm⟩,useL_5 l h]
  obtain ⟨⟩ := l
  simp only at h
  subst h
  rw [Bool.eq_iff_iff]
  simp [emptyB,zL,zR,and_assoc]
  all_goals (intros;exact decide_eq_true_iff)
 ·rw [usesOf_6 h,show decide (useL l = l) = decide (l = useL l) from dec_eq ⟨Eq.symm,Eq.symm⟩,useL_6 l h]
  obtain ⟨⟩ := l
  simp only at h
  subst h
  rw [Bool.eq_iff_iff]
  simp [emptyB,zL,zR,and_assoc]
  all_goals (intros;exact decide_eq_true_iff)
 ·rw [usesOf_7 h,show decide (useL l = l) = decide (l = useL l) from dec_eq ⟨Eq.symm,Eq.symm⟩,useL_7 l h]
  obtain ⟨⟩ := l
  simp only at h
  subst h
  rw [Bool.eq_iff_iff]
  simp [emptyB,zL,zR,and_assoc]
  all_goals (intros;exact decide_eq_true_iff)
 ·rw [usesOf_8 h,show decide (useL l = l) = decide (l = useL l) from dec_eq ⟨Eq.symm,Eq.symm⟩,useL_8 l h]
  obtain ⟨⟩ := l
  simp only at h
  subst h
  rw [Bool.eq_iff_iff]
  simp [emptyB,zL,zR,and_assoc]
  all_goals (intros;exact decide_eq_true_iff)
 ·rw [usesOf_9 h,show decide (useL l = l) = decide (l = useL l) from dec_eq ⟨Eq.symm,Eq.symm⟩,useL_9 l h]
  obtain ⟨⟩ := l
  simp only at h
  subst h
  rw [Bool.eq_iff_iff]
  simp [emptyB,zL,zR,and_assoc]
  all_goals (intros;exact decide_eq_true_iff)
 ·rw [usesOf_10 h,show decide (useL l = l) = decide (l = useL l) from dec_eq ⟨Eq.symm,Eq.symm⟩,useL_10 l h]
  obtain ⟨⟩ := l
  simp only at h
  subst h
  rw [Bool.eq_iff_iff]
  simp [emptyB,zL,zR,and_assoc]
  all_goals (intros;exact decide_eq_true_iff)
theorem good_of {l : Ltr} (hk : 1 ≤ l.kind ∧ l.kind ≤ 10) (hu : useL l = l) (ht : TyL l) (hs : ShL l) (hx : shortX l.x = true) (h8 : l.kind = 8 → mayO l.o = true) : Good l := by
 obtain ⟨t0,t1,t2,t3,t4,t5,t6,t7,t8,t9,t10⟩ := ht
 obtain ⟨s1,s2,s3,s4,s5,s6,s7⟩ := hs
 have hV : ∀ p : List Acc,ShV p → (∀ a ∈ p,I64 a.by_ ∧ I64 a.view) → SV p := fun p h1 h2 => ⟨h1.1,fun a ha => ⟨(h2 a ha).1,(h2 a ha).2,h1.2 a ha⟩⟩
 have hso : smO l.o := by
  by_cases k8 : l.kind = 8
  ·have := may_small (h8 k8)
   exact ⟨t9.1,t9.2.1,t9.2.2.1,t9.2.2.2.1,t9.2.2.2.2.1,t9.2.2.2.2.2,by omega,by omega⟩
  ·have e : l.o = zO := by
    rcases (by omega : l.kind = 1 ∨ l.kind = 2 ∨ l.kind = 3 ∨ l.kind = 4 ∨ l.kind = 5 ∨ l.kind = 6 ∨ l.kind = 7 ∨ l.kind = 9 ∨ l.kind = 10) with e|e|e|e|e|e|e|e|e
    ·rw [useL_1 l e] at hu;exact (congrArg Ltr.o hu).symm
    ·rw [useL_2 l e] at hu;exact (congrArg Ltr.o hu).symm
    ·rw [useL_3 l e] at hu;exact (congrArg Ltr.o hu).symm
    ·rw [useL_4 l e] at hu;exact (congrArg Ltr.o hu).symm
    ·rw [useL_5 l e] at hu;exact (congrArg Ltr.o hu).symm
    ·rw [useL_6 l e] at hu;exact (congrArg Ltr.o hu).symm
    ·rw [useL_7 l e] at hu;exact (congrArg Ltr.o hu).symm
    ·rw [useL_9 l e] at hu;exact (congrArg Ltr.o hu).symm
    ·rw [useL_10 l e] at hu;exact (congrArg Ltr.o hu).symm
   rw [e];exact zSO
 have hsx : SX l.x := by
  simp only [shortX,Bool.and_eq_true,decide_eq_true_eq,Bool.not_eq_true',List.any_eq_false,longTx] at hx
  obtain ⟨⟨⟨⟨a1,a2⟩,a3⟩,a4⟩,a5⟩ := hx
  exact ⟨t10.1,t10.2.1,t10.2.2.2,⟨a4,a5⟩,a2,a3,fun s hs => by have := a1 s hs;omega⟩
 exact ⟨hk,hu,t1,t2,t3,s1,⟨s2,fun r hr => ⟨(t4 r hr).1,(t4 r hr).2.1,(t4 r hr).2.2.1,(s3 r hr).1,hV _ (s3 r hr).2 (t4 r hr).2.2.2⟩⟩,⟨t5.1,t5.2,s4⟩,hV _ s5 t6,⟨t7.1,t7.2.1,t7.2.2.1,s6.1,hV _ s6.2 t7.2.2.2⟩,t8,h8,hso,hsx⟩
theorem rmay27_spec (l : Ltr) (ht : TyL l) (hz : SzL l) : ASpec Tryz.prog 12 [.agg (letC l)] (.bool (mayL l)) := by
 have hl : l.sum.length = 32 := ht.2.2.2.2.2.2.2.2.1
 have y0 := let_0 l
 have y4 := let_4 l
 have y5 := let_5 l
 have y8 := let_8 l
 have y9 := let_9 l
 have y10 := let_10 l
 have y48 := let_48 l hl
 have y56 := let_56 l hl
 have xlen := let_len l hl
 have xfull := let_full l hl
 have hcl := hz.cert
 have no : ∀ {P : Prop},¬ P → (Good l → P) → mayL l = false := fun h1 h2 => not_may fun g => h1 (h2 g)
 have hus := uses27_spec l.kind
 by_cases hk : 1 ≤ l.kind ∧ l.kind ≤ 10
 case neg =>
  rw [usesOf_none hk] at hus
  rw [no hk fun g => g.1]
  refine ⟨⟨_,Tryz.func12,by kernel_rfl,rfl⟩,Sg Tryz.func12 rfl fun c0 hc0 => ?_⟩;simp only [go_sem,y0,xlen,Nat.reduceAdd,Nat.reduceLeDiff,Nat.reduceSub]
  refine Ops.pure .free rfl rfl (hus) (by simp only [go_sem];(repeat' first|exact .refl _|apply LeR.tup|apply Le.agg|constructor)) rfl rfl ?_
  refine Og Tryz.func12 ?_;simp only [go_sem,↓alt_t,↓alts_t,↓gone_ft]
  (repeat' first|exact .refl _|apply LeR.tup|apply Le.agg|constructor)
 obtain ⟨hne,hu1⟩ := usesOf_some hk
 have hem := rempty27_spec l (usesOf l.kind) hu1 hl (hz.proofs l.r (by simp)) hz.names
 have hee := emptyB_use l hk
 have hmk : emptyB (usesOf l.kind) l = true → shortV l.proof = true → l.cert.any longR = false → longR l.r = false → shortX l.x = true → l.value.length ≤ 6000 → l.cert.length ≤ 30 → l.vote.value.length ≤ 6000 → (l.kind = 8 → mayO l.o = true) → mayL l = true := fun a1 a2 a3 a4 a5 a6 a7 a8 a9 => (good_of hk (by rw [hee] at a1;exact of_decide_eq_true a1) ht (sh_of a6 a7 a8 a2 a3 a4 a5) a5 a9).may
 have hm8 := rmay12_spec l.o
 have hsv := rshort27_spec l.proof hz.proof
 have hrr := rreported27_spec l.r (hz.proofs l.r (by simp))
 have hxx := rreplied27_spec l.x hz.names
 have ab := arg_bel l 0
 have ab2 : belL 0 [.agg (letC l),.str (usesOf l.kind)] = true := by
  show (AV.bel 0 (.agg (letC l)) && true) = true
  rw [Bool.and_true]
  exact let_bel l 0
 have hbel := let_bel l
 generalize letC l = cs at *
 refine ⟨⟨_,Tryz.func12,by kernel_rfl,rfl⟩,Sg Tryz.func12 rfl fun c0 hc0 => ?_⟩;simp only [go_sem,y0,xlen,Nat.reduceAdd,Nat.reduceLeDiff,Nat.reduceSub]
 refine Ops.pure .free rfl rfl (hus) (by simp only [go_sem];(repeat' first|exact .refl _|apply LeR.tup|apply Le.agg|constructor)) rfl rfl ?_
 refine Og Tryz.func12 ?_;simp only [go_sem,hne,xlen,xfull,↓alts_f,↓gone_ff,Nat.reduceAdd]
 (and_intros <;> try first|rfl|omega|(unfold I64;omega))
 cases e1 : emptyB (usesOf l.kind) l with
 | false =>
  rw [e1] at hem
  rw [no (P := useL l = l) (fun h => by rw [hee,decide_eq_true h] at e1;cases e1) fun g => g.2.1]
  refine Ops.pure (Wanted.test 2 false false rfl) rfl rfl (hem) (by simp only [go_sem];(repeat' first|exact .refl _|apply LeR.tup|apply Le.agg|constructor)) ab2 rfl ?_
  refine Og Tryz.func12 ?_;simp only [go_sem,↓alt_t,↓alts_t,↓alts_f,↓gone_ft,↓gone_ff]
  (and_intros <;> try first|rfl|omega|(unfold I64;omega))
  (repeat' first|exact .refl _|apply LeR.tup|apply Le.agg|constructor)
 | true =>
 rw [e1] at hem
 refine Ops.pure (Wanted.test 2 false false rfl) rfl rfl (hem) (by simp only [go_sem];(repeat' first|exact .refl _|apply LeR.tup|apply Le.agg|constructor)) ab2 rfl ?_
 by_cases e2 : (30 : Int) < l.cert.length
 case pos =>
  rw [no (P := ¬ (30 : Int) < l.cert.length) (fun h => h e2) fun g => by have := g.sh.2.1;omega]
  refine Og Tryz.func12 ?_;simp only [go_sem,e2,rpsA,y5,xlen,↓alt_t,↓alts_t,↓alts_f,↓gone_ft,↓gone_ff,Nat.reduceAdd,Nat.reduceLeDiff]
  (and_intros <;> try first|rfl|omega|(unfold I64;omega))
  (repeat' first|exact .refl _|apply LeR.tup|apply Le.agg|constructor)
 by_cases e3 : (6000 : Int) < l.value.length
 case pos =>
  rw [no (P := ¬ (6000 : Int) < l.value.length) (fun h => h e3) fun g => by have := g.sh.1;omega]
  refine Og Tryz.func12 ?_;simp only [go_sem,e2,e3,rpsA,y4,y5,xlen,↓alt_t,↓alts_t,↓alts_f,↓gone_ft,↓gone_ff,Nat.reduceAdd,Nat.reduceLeDiff]
  (and_intros <;> try first|rfl|omega|(unfold I64;omega))
  (repeat' first|exact .refl _|apply LeR.tup|apply Le.agg|constructor)
 by_cases e4 : (6000 : Int) < l.vote.value.length
 case pos =>
  rw [no (P := ¬ (6000 : Int) < l.vote.value.length) (fun h => h e4) fun g => by have := g.sh.2.2.2.1;omega]
  refine Og Tryz.func12 ?_;simp only [go_sem,e2,e3,e4,rpsA,y4,y5,y8,xlen,↓alt_t,↓alts_t,↓alts_f,↓gone_ft,↓gone_ff,Nat.reduceAdd,Nat.reduceLeDiff]
  (and_intros <;> try first|rfl|omega|(unfold I64;omega))
  (repeat' first|exact .refl _|apply LeR.tup|apply Le.agg|constructor)
 refine Og Tryz.func12 ?_;simp only [go_sem,e2,e3,e4,rpsA,y4,y5,y8,y9,xlen,↓alts_f,↓gone_ff,Nat.reduceAdd,Nat.reduceLeDiff]
 (and_intros <;> try first|rfl|omega|(unfold I64;omega))
 cases e5 : shortV l.proof with
 | false =>
  rw [e5] at hsv
  rw [no (P := shortV l.proof = true) (by rw [e5];decide) fun g => g.short.2.1]
  refine Ops.pure (Wanted.test 27 false false rfl) rfl rfl (hsv) (by simp only [go_sem,votesA];(repeat' first|exact .refl _|apply LeR.tup|apply Le.agg|constructor)) rfl rfl ?_
  refine Og Tryz.func12 ?_;simp only [go_sem,↓alt_t,↓alts_t,↓alts_f,↓gone_ft,↓gone_ff]
  (and_intros <;> try first|rfl|omega|(unfold I64;omega))
  (repeat' first|exact .refl _|apply LeR.tup|apply Le.agg|constructor)
 | true =>
 rw [e5] at hsv
 refine Ops.pure (Wanted.test 27 false false rfl) rfl rfl (hsv) (by simp only [go_sem,votesA];(repeat' first|exact .refl _|apply LeR.tup|apply Le.agg|constructor)) rfl rfl ?_
 refine Og Tryz.func12 ?_;simp only [go_sem,y10,xlen,↓alts_f,↓gone_ff,Nat.reduceAdd,Nat.reduceLeDiff]
 (and_intros <;> try first|rfl|omega|(unfold I64;omega))
 cases e6 : longR l.r with
 | true =>
  rw [e6] at hrr
  rw [no (P := longR l.r = false) (by rw [e6];decide) fun g => g.short.2.2.2]
  refine Ops.pure (Wanted.test 33 false false rfl) rfl rfl (hrr) (by simp only [go_sem,encRp,rpC];(repeat' first|exact .refl _|apply LeR.tup|apply Le.agg|constructor)) rfl rfl ?_
  refine Og Tryz.func12 ?_;simp only [go_sem,↓alt_t,↓alts_f,↓gone_ff]
  (and_intros <;> try first|rfl|omega|(unfold I64;omega))
  (repeat' first|exact .refl _|apply LeR.tup|apply Le.agg|constructor)
 | false =>
 rw [e6] at hrr
 refine Ops.pure (Wanted.test 33 false false rfl) rfl rfl (hrr) (by simp only [go_sem,encRp,rpC];(repeat' first|exact .refl _|apply LeR.tup|apply Le.agg|constructor)) rfl rfl ?_
 refine Og Tryz.func12 ?_;simp only [go_sem,↓alt_f,↓alts_f,↓gone_ff]
 (and_intros <;> try first|rfl|omega|(unfold I64;omega))
 refine Run.loopV (α := Nat) (fun k => k ≤ l.cert.length ∧ ∀ j y,j < k → l.cert[j]? = some y → longR y = false) (fun k => [(4,.int .i64 k)]) 1 (fun _ => []) (fun k => l.cert.length - k) 0 ⟨Nat.zero_le _,fun j y h => absurd h (Nat.not_lt_zero j)⟩ ?_ ?_
 ·simp only [go_sem,writes,junks,puts,hputs,List.filterMap_cons,List.filterMap_nil]
  (refine Weak.of (by simp [hc0]) ?_ ?_ <;> (repeat' first|exact .refl _|exact .junk _|exact .nil|exact .nil _|exact .tok _ _ _|rfl|apply WkT.cons|apply WkH.cons|apply LeB.same|apply LeB.box|apply Le1L.cons|apply Le.agg|apply Le.one))
  all_goals exact hbel _
 rintro k ⟨hI,hq⟩ ih
 simp only [writes,junks,puts,hputs,List.filterMap_cons,List.filterMap_nil,Y6,Y7,Yg,Yk,Y5,Y3,Yd] at ih ⊢
 by_cases hk0 : k < l.cert.length
 ·obtain ⟨x,hx⟩ : ∃ x,l.cert[k]? = some x := ⟨_,List.getElem?_eq_getElem hk0⟩
  have hkk : (k : Int) < l.cert.length := by omega
  have hrx := rreported27_spec x (hz.proofs x (List.mem_append_left _ (List.mem_of_getElem? hx)))
  refine Rg Tryz.func12 ?_;simp only [go_sem,hx,hkk,rpsA,rpC,List.getElem?_map,y5,xlen,↓alt_t,Nat.reduceAdd,Nat.reduceLeDiff,Nat.reduceLT]
  (and_intros <;> try first|rfl|omega|(unfold I64;omega))
  cases e7 : longR x with
  | true =>
   rw [e7] at hrx
   have e8 : l.cert.any longR = true := by rw [List.any_eq_true];exact ⟨x,List.mem_of_getElem? hx,e7⟩
   rw [no (P := l.cert.any longR = false) (by rw [e8];decide) fun g => g.short.2.2.1]
   refine Ops.pure .free rfl rfl (hrx) (by simp only [go_sem,encRp,rpC];(repeat' first|exact .refl _|apply LeR.tup|apply Le.agg|constructor)) rfl rfl ?_
   refine Og Tryz.func12 ?_;simp only [go_sem,↓alt_t]
   (and_intros <;> try first|rfl|omega|(unfold I64;omega))
   (repeat' first|exact .refl _|apply LeR.tup|apply Le.agg|constructor)
  | false =>
   rw [e7] at hrx
   refine Ops.pure .free rfl rfl (hrx) (by simp only [go_sem,encRp,rpC];(repeat' first|exact .refl _|apply LeR.tup|apply Le.agg|constructor)) rfl rfl ?_
   refine Og Tryz.func12 ?_;simp only [go_sem,↓alt_f]
   (and_intros <;> try first|rfl|omega|(unfold I64;omega))
   refine ih (k + 1) _ ⟨by omega,fun j y hj hy => ?_⟩ (by omega) ?_
   ·rcases Nat.lt_or_ge j k with h|h
    ·exact hq j y h hy
    ·obtain rfl : j = k := by omega
     rw [hx] at hy;cases hy;exact e7
   ·simp only [Int.natCast_add,Int.natCast_one]
    (refine Weak.of (by simp [hc0]) ?_ ?_ <;> (repeat' first|exact .refl _|exact .junk _|exact .nil|exact .nil _|exact .tok _ _ _|rfl|apply WkT.cons|apply WkH.cons|apply LeB.same|apply LeB.box|apply Le1L.cons|apply Le.agg|apply Le.one))
    all_goals exact hbel _
 ·have hkk : ¬ (k : Int) < l.cert.length := by omega
  have e8 : l.cert.any longR = false := by
   rw [List.any_eq_false]
   intro y hy
   obtain ⟨j,hj⟩ := List.mem_iff_getElem?.1 hy
   rw [hq j y (by have := (List.getElem?_eq_some_iff.1 hj).1;omega) hj]
   decide
  by_cases k8 : l.kind = 8
  ·refine Rg Tryz.func12 ?_;simp only [go_sem,hkk,k8,rpsA,y0,y5,y48,xlen,↓alt_f,↓alts_f,↓gone_ff,Nat.reduceAdd,Nat.reduceLeDiff]
   (and_intros <;> try first|rfl|omega|(unfold I64;omega))
   cases e9 : mayO l.o with
   | false =>
    rw [e9] at hm8
    rw [no (P := mayO l.o = true) (by rw [e9];decide) fun g => g.kind8 k8]
    refine Ops.pure (Wanted.test 3 false false rfl) rfl rfl (hm8) (by simp only [go_sem,encO,ordC];(repeat' first|exact .refl _|apply LeR.tup|apply Le.agg|constructor)) rfl rfl ?_
    refine Og Tryz.func12 ?_;simp only [go_sem,↓alts_f,↓gone_tf]
    (and_intros <;> try first|rfl|omega|(unfold I64;omega))
    (repeat' first|exact .refl _|apply LeR.tup|apply Le.agg|constructor)
   | true =>
    rw [e9] at hm8
    refine Ops.pure (Wanted.test 3 false false rfl) rfl rfl (hm8) (by simp only [go_sem,encO,ordC];(repeat' first|exact .refl _|apply LeR.tup|apply Le.agg|constructor)) rfl rfl ?_
    refine Og Tryz.func12 ?_;simp only [go_sem,y56,xlen,↓alts_t,↓gone_tt,Nat.reduceAdd]
    (and_intros <;> try first|rfl|omega|(unfold I64;omega))
    rw [show mayL l = shortX l.x by
     cases e10 : shortX l.x with
     | true => exact hmk e1 e5 e8 e6 e10 (by omega) (by omega) (by omega) fun _ => e9
     | false => exact no (P := shortX l.x = true) (by rw [e10];decide) fun g => g.short.1]
    refine Ops.pure (Wanted.test 8 true true rfl) rfl rfl (hxx) (by simp only [go_sem,encR,rplC,textsA];(repeat' first|exact .refl _|apply LeR.tup|apply Le.agg|constructor)) rfl rfl ?_
    refine Og Tryz.func12 ?_;simp only [go_sem]
    (and_intros <;> try first|rfl|omega|(unfold I64;omega))
    (repeat' first|exact .refl _|apply LeR.tup|apply Le.agg|constructor)
  ·refine Rg Tryz.func12 ?_;simp only [go_sem,hkk,k8,rpsA,y0,y5,y56,xlen,↓alt_f,↓alts_t,↓gone_tt,↓gone_ft,Nat.reduceAdd,Nat.reduceLeDiff]
   (and_intros <;> try first|rfl|omega|(unfold I64;omega))
   rw [show mayL l = shortX l.x by
    cases e10 : shortX l.x with
    | true => exact hmk e1 e5 e8 e6 e10 (by omega) (by omega) (by omega) fun h => absurd h k8
    | false => exact no (P := shortX l.x = true) (by rw [e10];decide) fun g => g.short.1]
   refine Ops.pure (Wanted.test 8 true true rfl) rfl rfl (hxx) (by simp only [go_sem,encR,rplC,textsA];(repeat' first|exact .refl _|apply LeR.tup|apply Le.agg|constructor)) rfl rfl ?_
   refine Og Tryz.func12 ?_;simp only [go_sem]
   (and_intros <;> try first|rfl|omega|(unfold I64;omega))
   (repeat' first|exact .refl _|apply LeR.tup|apply Le.agg|constructor)
theorem bool_bel (x : AV) (h : x.bel 0 = true) (b : Bytes) (c : Bool) : AV.bel 0 (.tup [x,bytesA b,.bool c]) = true := by
 show (AV.bel 0 x && (true && (true && true))) = true
 rw [h];rfl
theorem rtaken_spec (b : Bytes) : ASpec Tryz.prog 21 [bytesA b] (.tup [.int .i64 (rdN b 0 0).2.2,bytesA (rdN b 0 0).1,.bool (decide ((rdN b 0 0).2.1 = 0))]) := by
 have ht := rtakeint_spec b
 cases e : takeZ b with
 | ok p =>
  rw [e] at ht
  rw [show rdN b 0 0 = (p.2,0,p.1) by simp [rdN,e]]
  refine ⟨⟨_,Tryz.func21,by kernel_rfl,rfl⟩,Sg Tryz.func21 rfl fun c0 hc0 => ?_⟩;simp only [go_sem,bytesA,Nat.reduceAdd,Nat.reduceSub]
  refine Ops.pure .free rfl rfl (ht) (by simp only [go_sem,bytesA];(repeat' first|exact .refl _|apply LeR.tup|apply Le.agg|constructor)) rfl rfl ?_
  refine Og Tryz.func21 ?_;simp only [go_sem,bytesA,takeZA]
  (and_intros <;> try first|rfl|omega|(unfold I64;omega))
  (repeat' first|exact .refl _|apply LeR.tup|apply Le.agg|constructor)
 | error z =>
  rw [e] at ht
  have hz := takeZ_err e
  rw [show rdN b 0 0 = ([],z,0) by simp [rdN,e]]
  refine ⟨⟨_,Tryz.func21,by kernel_rfl,rfl⟩,Sg Tryz.func21 rfl fun c0 hc0 => ?_⟩;simp only [go_sem,bytesA,Nat.reduceAdd,Nat.reduceSub]
  refine Ops.pure .free rfl rfl (ht) (by simp only [go_sem,bytesA];(repeat' first|exact .refl _|apply LeR.tup|apply Le.agg|constructor)) rfl rfl ?_
  refine Og Tryz.func21 ?_;simp only [go_sem,bytesA,takeZA,hz]
  (and_intros <;> try first|rfl|omega|(unfold I64;omega))
  (repeat' first|exact .refl _|apply LeR.tup|apply Le.agg|constructor)
theorem rtext27_spec (b : Bytes) (hb : b.length ≤ 1000000) : ASpec Tryz.prog 52 [bytesA b] (.tup [.str (rdT b 0 []).2.2,bytesA (rdT b 0 []).1,.bool (decide ((rdT b 0 []).2.1 = 0))]) := by
 have ht := rtaketext_spec b 6000 hb (by omega)
 cases e : takeT b 6000 with
 | ok p =>
  rw [e] at ht
  rw [show rdT b 0 [] = (p.2,0,p.1) by simp [rdT,e]]
  refine ⟨⟨_,Tryz.func52,by kernel_rfl,rfl⟩,Sg Tryz.func52 rfl fun c0 hc0 => ?_⟩;simp only [go_sem,bytesA,Nat.reduceAdd,Nat.reduceSub]
  refine Ops.pure .free rfl rfl (ht) (by simp only [go_sem,bytesA];(repeat' first|exact .refl _|apply LeR.tup|apply Le.agg|constructor)) rfl rfl ?_
  refine Og Tryz.func52 ?_;simp only [go_sem,bytesA,takeTA]
  (and_intros <;> try first|rfl|omega|(unfold I64;omega))
  (repeat' first|exact .refl _|apply LeR.tup|apply Le.agg|constructor)
 | error z =>
  rw [e] at ht
  have hz := takeT_err' e
  rw [show rdT b 0 [] = ([],z,[]) by simp [rdT,e]]
  refine ⟨⟨_,Tryz.func52,by kernel_rfl,rfl⟩,Sg Tryz.func52 rfl fun c0 hc0 => ?_⟩;simp only [go_sem,bytesA,Nat.reduceAdd,Nat.reduceSub]
  refine Ops.pure .free rfl rfl (ht) (by simp only [go_sem,bytesA];(repeat' first|exact .refl _|apply LeR.tup|apply Le.agg|constructor)) rfl rfl ?_
  refine Og Tryz.func52 ?_;simp only [go_sem,bytesA,takeTA,hz]
  (and_intros <;> try first|rfl|omega|(unfold I64;omega))
  (repeat' first|exact .refl _|apply LeR.tup|apply Le.agg|constructor)
def tkA (b : Bytes) : Acc × Bytes × Bool :=
 (⟨(rdN b 0 0).2.2,(rdN (rdN b 0 0).1 0 0).2.2,(rdT (rdN (rdN b 0 0).1 0 0).1 0 []).2.2⟩,(rdT (rdN (rdN b 0 0).1 0 0).1 0 []).1,
  decide ((rdN b 0 0).2.1 = 0) && decide ((rdN (rdN b 0 0).1 0 0).2.1 = 0) && decide ((rdT (rdN (rdN b 0 0).1 0 0).1 0 []).2.1 = 0))
theorem tkA_eq (b : Bytes) : (tkA b).2.2 = decide ((rdA b 0 zA).2.1 = 0) ∧ ((tkA b).2.2 = true → (tkA b).1 = (rdA b 0 zA).2.2 ∧ (tkA b).2.1 = (rdA b 0 zA).1) := by
 unfold tkA rdA zA
 simp only
 by_cases h1 : (rdN b 0 0).2.1 = 0
 ·rw [h1]
  by_cases h2 : (rdN (rdN b 0 0).1 0 0).2.1 = 0
  ·rw [h2]
   simp
  ·have h3 : ¬ (rdT (rdN (rdN b 0 0).1 0 0).1 (rdN (rdN b 0 0).1 0 0).2.1 []).2.1 = 0 := (rdrT []).stick (rdN (rdN b 0 0).1 0 0).1 _ h2
   rw [decide_eq_false h2,decide_eq_false h3]
   simp
 ·have h2 : ¬ (rdN (rdN b 0 0).1 (rdN b 0 0).2.1 0).2.1 = 0 := (rdrN 0).stick (rdN b 0 0).1 _ h1
  have h3 : ¬ (rdT (rdN (rdN b 0 0).1 (rdN b 0 0).2.1 0).1 (rdN (rdN b 0 0).1 (rdN b 0 0).2.1 0).2.1 []).2.1 = 0 := (rdrT []).stick (rdN (rdN b 0 0).1 (rdN b 0 0).2.1 0).1 _ h2
  rw [decide_eq_false h1,decide_eq_false h3]
  simp
theorem rtakevote_spec (b : Bytes) (hb : b.length ≤ 1000000) : ASpec Tryz.prog 81 [bytesA b] (.tup [encA (tkA b).1,bytesA (tkA b).2.1,.bool (tkA b).2.2]) := by
 have s1 := rtaken_spec b
 have s2 := rtaken_spec (rdN b 0 0).1
 have l1 := rdN_le b 0 0
 have l2 := rdN_le (rdN b 0 0).1 0 0
 have s3 := rtext27_spec (rdN (rdN b 0 0).1 0 0).1 (by omega)
 unfold tkA
 generalize rdN b 0 0 = t1 at *
 generalize rdN t1.1 0 0 = t2 at *
 generalize rdT t2.1 0 [] = t3 at *
 obtain ⟨b1,e1,n1⟩ := t1
 obtain ⟨b2,e2,n2⟩ := t2
 obtain ⟨b3,e3,n3⟩ := t3
 simp only at s1 s2 s3 ⊢
 by_cases h1 : e1 = 0
 ·by_cases h2 : e2 = 0
  ·refine ⟨⟨_,Tryz.func81,by kernel_rfl,rfl⟩,Sg Tryz.func81 rfl fun c0 hc0 => ?_⟩;simp only [go_sem,bytesA,Nat.reduceAdd,Nat.reduceSub]
   refine Ops.pure .free rfl rfl (s1) (by simp only [go_sem,bytesA];(repeat' first|exact .refl _|apply LeR.tup|apply Le.agg|constructor)) rfl rfl ?_
   refine Og Tryz.func81 ?_;simp only [go_sem,bytesA]
   refine Ops.pure .free rfl rfl (s2) (by simp only [go_sem,bytesA];(repeat' first|exact .refl _|apply LeR.tup|apply Le.agg|constructor)) rfl rfl ?_
   refine Og Tryz.func81 ?_;simp only [go_sem,bytesA]
   refine Ops.pure .free rfl rfl (s3) (by simp only [go_sem,bytesA];(repeat' first|exact .refl _|apply LeR.tup|apply Le.agg|constructor)) rfl rfl ?_
   refine Og Tryz.func81 ?_;simp only [go_sem,bytesA,h1,h2,encA,accC,↓alts_t,↓gone_tt,Nat.reduceAdd,Nat.reduceLeDiff]
   (and_intros <;> try first|rfl|omega|(unfold I64;omega))
   all_goals (repeat' first|exact .refl _|apply LeR.tup|apply Le.agg|constructor)
  ·refine ⟨⟨_,Tryz.func81,by kernel_rfl,rfl⟩,Sg Tryz.func81 rfl fun c0 hc0 => ?_⟩;simp only [go_sem,bytesA,Nat.reduceAdd,Nat.reduceSub]
   refine Ops.pure .free rfl rfl (s1) (by simp only [go_sem,bytesA];(repeat' first|exact .refl _|apply LeR.tup|apply Le.agg|constructor)) rfl rfl ?_
   refine Og Tryz.func81 ?_;simp only [go_sem,bytesA]
   refine Ops.pure .free rfl rfl (s2) (by simp only [go_sem,bytesA];(repeat' first|exact .refl _|apply LeR.tup|apply Le.agg|constructor)) rfl rfl ?_
   refine Og Tryz.func81 ?_;simp only [go_sem,bytesA]
   refine Ops.pure .free rfl rfl (s3) (by simp only [go_sem,bytesA];(repeat' first|exact .refl _|apply LeR.tup|apply Le.agg|constructor)) rfl rfl ?_
   refine Og Tryz.func81 ?_;simp only [go_sem,bytesA,h1,h2,encA,accC,↓alts_t,↓alts_f,↓gone_tt,↓gone_tf,Nat.reduceAdd,Nat.reduceLeDiff]
   (and_intros <;> try first|rfl|omega|(unfold I64;omega))
   all_goals (repeat' first|exact .refl _|apply LeR.tup|apply Le.agg|constructor)
 ·refine ⟨⟨_,Tryz.func81,by kernel_rfl,rfl⟩,Sg Tryz.func81 rfl fun c0 hc0 => ?_⟩;simp only [go_sem,bytesA,Nat.reduceAdd,Nat.reduceSub]
  refine Ops.pure .free rfl rfl (s1) (by simp only [go_sem,bytesA];(repeat' first|exact .refl _|apply LeR.tup|apply Le.agg|constructor)) rfl rfl ?_
  refine Og Tryz.func81 ?_;simp only [go_sem,bytesA]
  refine Ops.pure .free rfl rfl (s2) (by simp only [go_sem,bytesA];(repeat' first|exact .refl _|apply LeR.tup|apply Le.agg|constructor)) rfl rfl ?_
  refine Og Tryz.func81 ?_;simp only [go_sem,bytesA]
  refine Ops.pure .free rfl rfl (s3) (by simp only [go_sem,bytesA];(repeat' first|exact .refl _|apply LeR.tup|apply Le.agg|constructor)) rfl rfl ?_
  refine Og Tryz.func81 ?_;simp only [go_sem,bytesA,h1,encA,accC,↓alts_f,↓gone_tf,Nat.reduceAdd,Nat.reduceLeDiff]
  (and_intros <;> try first|rfl|omega|(unfold I64;omega))
  all_goals (repeat' first|exact .refl _|apply LeR.tup|apply Le.agg|constructor)
section
variable {α : Type}
def tks (f : Bytes → α × Bytes × Bool) : Nat → Bytes → Option (List α × Bytes)
 | 0,b => some ([],b)
 | n + 1,b => match tks f n b with
  | some p => if (f p.2).2.2 = true then some (p.1 ++ [(f p.2).1],(f p.2).2.1) else none
  | none => none
theorem tks_none {f : Bytes → α × Bytes × Bool} {b : Bytes} {k : Nat} (h : tks f k b = none) : ∀ n,k ≤ n → tks f n b = none
 | 0,hn => by
  obtain rfl : k = 0 := by omega
  exact h
 | n + 1,hn => by
  by_cases e : k = n + 1
  ·rw [← e];exact h
  ·rw [tks,tks_none h n (by omega)]
theorem tks_no {f : Bytes → α × Bytes × Bool} {b y : Bytes} {l : List α} {k : Nat} (h : tks f k b = some (l,y)) (hf : (f y).2.2 = false) (n : Nat) (hn : k < n) : tks f n b = none := by
 refine tks_none (k := k + 1) ?_ n (by omega)
 rw [tks,h]
 simp [hf]
theorem tks_yes {f : Bytes → α × Bytes × Bool} {b y : Bytes} {l : List α} {k : Nat} (h : tks f k b = some (l,y)) (hf : (f y).2.2 = true) : tks f (k + 1) b = some (l ++ [(f y).1],(f y).2.1) := by
 rw [tks,h]
 simp [hf]
def tkRow (f : Bytes → α × Bytes × Bool) (b : Bytes) : List α × Bytes × Bool :=
 if (rdN b 0 0).2.1 = 0 ∧ ¬ (rdN b 0 0).2.2 < 0 ∧ ¬ 30 < (rdN b 0 0).2.2 then
  (match tks f (rdN b 0 0).2.2.toNat (rdN b 0 0).1 with
   | some p => (p.1,p.2,true)
   | none => ([],[],false))
 else ([],[],false)
def Twin (f : Bytes → α × Bytes × Bool) (R : Bytes → Int → Bytes × Int × α) : Prop :=
 ∀ b,(f b).2.2 = decide ((R b 0).2.1 = 0) ∧ ((f b).2.2 = true → (f b).1 = (R b 0).2.2 ∧ (f b).2.1 = (R b 0).1)
theorem tks_eq {f : Bytes → α × Bytes × Bool} {R : Bytes → Int → Bytes × Int × α} (h : Twin f R) (st : ∀ b e,¬ e = 0 → ¬ (R b e).2.1 = 0) (b : Bytes) : ∀ n,
  tks f n b = if (rds R n b 0).2.1 = 0 then some ((rds R n b 0).2.2,(rds R n b 0).1) else none
 | 0 => rfl
 | n + 1 => by
  have hs : rds R (n + 1) b 0 = ((R (rds R n b 0).1 (rds R n b 0).2.1).1,(R (rds R n b 0).1 (rds R n b 0).2.1).2.1,(rds R n b 0).2.2 ++ [(R (rds R n b 0).1 (rds R n b 0).2.1).2.2]) := rfl
  rw [tks,tks_eq h st b n,hs]
  generalize rds R n b 0 = t
  obtain ⟨y,e,l⟩ := t
  simp only
  by_cases he : e = 0
  ·subst he
   obtain ⟨h1,h2⟩ := h y
   rw [if_pos rfl]
   simp only
   by_cases g : (R y 0).2.1 = 0
   ·rw [decide_eq_true g] at h1
    obtain ⟨h3,h4⟩ := h2 h1
    rw [if_pos h1,if_pos g,h3,h4]
   ·rw [decide_eq_false g] at h1
    rw [if_neg g,if_neg (by rw [h1];exact Bool.false_ne_true)]
  ·rw [if_neg he,if_neg (st _ _ he)]
theorem tkRow_twin {f : Bytes → α × Bytes × Bool} {R : Bytes → Int → Bytes × Int × α} (h : Twin f R) (st : ∀ b e,¬ e = 0 → ¬ (R b e).2.1 = 0) : Twin (tkRow f) (rdRow R) := by
 intro b
 unfold tkRow rdRow
 by_cases h1 : (rdN b 0 0).2.2 < 0 ∨ 30 < (rdN b 0 0).2.2
 ·rw [if_pos h1,if_neg (by rintro ⟨_,h2,h3⟩;omega)]
  simp
 ·rw [if_neg h1]
  by_cases h2 : (rdN b 0 0).2.1 = 0
  ·rw [if_pos h2,if_pos ⟨h2,by omega,by omega⟩,tks_eq h st]
   by_cases g : (rds R (rdN b 0 0).2.2.toNat (rdN b 0 0).1 0).2.1 = 0
   ·rw [if_pos g,g]
    simp
   ·rw [if_neg g,decide_eq_false g]
    simp
  ·rw [if_neg h2,if_neg (fun h => h2 h.1),decide_eq_false h2]
   simp
theorem tks_le {f : Bytes → α × Bytes × Bool} (h : ∀ b,(f b).2.1.length ≤ b.length) (b : Bytes) : ∀ n l y,tks f n b = some (l,y) → y.length ≤ b.length ∧ l.length = n
 | 0,l,y,e => by
  simp only [tks,Option.some.injEq,Prod.mk.injEq] at e
  obtain ⟨rfl,rfl⟩ := e
  exact ⟨Nat.le_refl _,rfl⟩
 | n + 1,l,y,e => by
  rw [tks] at e
  cases g : tks f n b with
  | none => rw [g] at e;exact absurd e (by simp)
  | some p =>
   obtain ⟨m,z⟩ := p
   obtain ⟨i1,i2⟩ := tks_le h b n m z g
   rw [g] at e
   simp only at e
   split at e
   ·simp only [Option.some.injEq,Prod.mk.injEq] at e
    obtain ⟨rfl,rfl⟩ := e
    exact ⟨Nat.le_trans (h z) i1,by simp [i2]⟩
   ·exact absurd e (by simp)
theorem tkRow_le {f : Bytes → α × Bytes × Bool} (h : ∀ b,(f b).2.1.length ≤ b.length) (b : Bytes) : (tkRow f b).2.1.length ≤ b.length := by
 unfold tkRow
 have := rdN_le b 0 0
 split
 ·split
  ·rename_i p e
   exact Nat.le_trans (tks_le h _ _ p.1 p.2 e).1 this
  ·exact Nat.zero_le _
 ·exact Nat.zero_le _
theorem tkRow_some {f : Bytes → α × Bytes × Bool} {b : Bytes} {n : Int} {r : Bytes} (e : rdN b 0 0 = (r,0,n)) (h1 : ¬ n < 0) (h2 : ¬ 30 < n) {l : List α} {y : Bytes} (h : tks f n.toNat r = some (l,y)) : tkRow f b = (l,y,true) := by
 unfold tkRow
 rw [e]
 simp only
 rw [if_pos ⟨trivial,h1,h2⟩,h]
theorem tkRow_none {f : Bytes → α × Bytes × Bool} {b : Bytes} {n : Int} {r : Bytes} (e : rdN b 0 0 = (r,0,n)) (h1 : ¬ n < 0) (h2 : ¬ 30 < n) (h : tks f n.toNat r = none) : tkRow f b = ([],[],false) := by
 unfold tkRow
 rw [e]
 simp only
 rw [if_pos ⟨trivial,h1,h2⟩,h]
theorem tkRow_no {f : Bytes → α × Bytes × Bool} {b : Bytes} {n z : Int} {r : Bytes} (e : rdN b 0 0 = (r,z,n)) (h : ¬ z = 0 ∨ n < 0 ∨ 30 < n) : tkRow f b = ([],[],false) := by
 unfold tkRow
 rw [e]
 simp only
 rw [if_neg (by rintro ⟨g1,g2,g3⟩;omega)]
end
theorem tkA_le (b : Bytes) : (tkA b).2.1.length ≤ b.length :=
 Nat.le_trans (rdT_le _ _ _) (Nat.le_trans (rdN_le _ _ _) (rdN_le b 0 0))
theorem rtakevotes_spec (b : Bytes) (hb : b.length ≤ 1000000) : ASpec Tryz.prog 82 [bytesA b] (.tup [votesA (tkRow tkA b).1,bytesA (tkRow tkA b).2.1,.bool (tkRow tkA b).2.2]) := by
 have s1 := rtaken_spec b
 have l1 := rdN_le b 0 0
 obtain ⟨⟨r,z,n⟩,e⟩ : ∃ t,rdN b 0 0 = t := ⟨_,rfl⟩
 rw [e] at s1 l1
 simp only at s1 l1
 by_cases h1 : z = 0
 ·by_cases h2 : n < 0
  ·rw [tkRow_no e (.inr (.inl h2))]
   refine ⟨⟨_,Tryz.func82,by kernel_rfl,rfl⟩,Sg Tryz.func82 rfl fun c0 hc0 => ?_⟩;simp only [go_sem,bytesA,Nat.reduceAdd,Nat.reduceSub]
   refine Ops.pure .free rfl rfl (s1) (by simp only [go_sem,bytesA];(repeat' first|exact .refl _|apply LeR.tup|apply Le.agg|constructor)) rfl rfl ?_
   refine Og Tryz.func82 ?_;simp only [go_sem,bytesA,h1,h2,↓alt_t,↓alts_t,↓alts_f,↓gone_ft,↓gone_ff]
   (and_intros <;> try first|rfl|omega|(unfold I64;omega))
   simp only [votesA,Ye]
   all_goals (repeat' first|exact .refl _|apply LeR.tup|apply Le.agg|constructor)
  ·by_cases h3 : 30 < n
   ·rw [tkRow_no e (.inr (.inr h3))]
    refine ⟨⟨_,Tryz.func82,by kernel_rfl,rfl⟩,Sg Tryz.func82 rfl fun c0 hc0 => ?_⟩;simp only [go_sem,bytesA,Nat.reduceAdd,Nat.reduceSub]
    refine Ops.pure .free rfl rfl (s1) (by simp only [go_sem,bytesA];(repeat' first|exact .refl _|apply LeR.tup|apply Le.agg|constructor)) rfl rfl ?_
    refine Og Tryz.func82 ?_;simp only [go_sem,bytesA,h1,h2,h3,↓alt_t,↓alts_f,↓gone_ff]
    (and_intros <;> try first|rfl|omega|(unfold I64;omega))
    simp only [votesA,Ye]
    all_goals (repeat' first|exact .refl _|apply LeR.tup|apply Le.agg|constructor)
   ·subst h1
    obtain ⟨m,rfl⟩ := Int.eq_ofNat_of_zero_le (show 0 ≤ n by omega)
    refine ⟨⟨_,Tryz.func82,by kernel_rfl,rfl⟩,Sg Tryz.func82 rfl fun c0 hc0 => ?_⟩;simp only [go_sem,bytesA,Nat.reduceAdd,Nat.reduceSub]
    refine Ops.pure .free rfl rfl (s1) (by simp only [go_sem,bytesA];(repeat' first|exact .refl _|apply LeR.tup|apply Le.agg|constructor)) rfl rfl ?_
    refine Og Tryz.func82 ?_;simp only [go_sem,bytesA,h2,h3,↓alt_f,↓alts_f,↓gone_ff,Nat.reduceLeDiff,Nat.reduceMul,Nat.reduceLT]
    (and_intros <;> try first|rfl|omega|(unfold I64;omega))
    refine Run.loopV (α := Nat × List Acc × Bytes) (fun x => x.1 ≤ m ∧ x.2.1.length = x.1 ∧ x.2.2.length ≤ r.length ∧ tks tkA x.1 r = some (x.2.1,x.2.2)) (fun x => [(0,bytesA x.2.2),(7,.sl 3 (x.2.1.map accC) (.own 0)),(8,.int .i64 x.1)]) 1 (fun x => [(0,.tok 3 x.2.1.length)]) (fun x => m - x.1) (0,[],r) ⟨Nat.zero_le _,rfl,Nat.le_refl _,rfl⟩ ?_ ?_
    ·simp only [go_sem,writes,junks,puts,hputs,List.filterMap_cons,List.filterMap_nil,bytesA]
     (refine Weak.of (by simp [hc0]) ?_ ?_ <;> (repeat' first|exact .refl _|exact .junk _|exact .nil|exact .nil _|exact .tok _ _ _|rfl|apply WkT.cons|apply WkH.cons|apply LeB.same|apply LeB.box|apply Le1L.cons|apply Le.agg|apply Le.one))
    ·rintro ⟨k,l,y⟩ ⟨hI,hll,hyl,hrd⟩ ih
     simp only [writes,junks,puts,hputs,List.filterMap_cons,List.filterMap_nil,Y6,Y7,Yg,Yk,Y5,Y3,Yd] at hI hll hyl hrd ih ⊢
     by_cases hk : k < m
     ·have hkk : (k : Int) < m := by omega
      have hs := rtakevote_spec y (by omega)
      have hle := tkA_le y
      have q1 := @tks_yes _ tkA r y l k hrd
      have q2 := @tks_no _ tkA r y l k hrd
      obtain ⟨⟨a,y2,is⟩,ea⟩ : ∃ t,tkA y = t := ⟨_,rfl⟩
      rw [ea] at hs hle q1 q2
      simp only at hs hle q1 q2
      cases is with
      | false =>
       rw [tkRow_none e h2 h3 (q2 rfl m hk)]
       refine Rg Tryz.func82 ?_;simp only [go_sem,hkk,bytesA,↓alt_t]
       refine Ops.pure .free rfl rfl (hs) (by simp only [go_sem,bytesA];(repeat' first|exact .refl _|apply LeR.tup|apply Le.agg|constructor)) rfl rfl ?_
       refine Og Tryz.func82 ?_;simp only [go_sem,encA,accC,bytesA,↓alt_t,Nat.reduceAdd]
       (and_intros <;> try first|rfl|omega|(unfold I64;omega))
       simp only [votesA,Ye]
       all_goals (repeat' first|exact .refl _|apply LeR.tup|apply Le.agg|constructor)
      | true =>
       have q := q1 rfl
       refine Rg Tryz.func82 ?_;simp only [go_sem,hkk,bytesA,↓alt_t]
       refine Ops.pure .free rfl rfl (hs) (by simp only [go_sem,bytesA];(repeat' first|exact .refl _|apply LeR.tup|apply Le.agg|constructor)) rfl rfl ?_
       refine Og Tryz.func82 ?_;simp only [go_sem,encA,accC,bytesA,↓alt_f,Nat.reduceAdd,Nat.reduceLeDiff,Nat.reduceMul,Nat.reduceBEq,Nat.reduceLT]
       (and_intros <;> try first|rfl|omega|(unfold I64;omega))
       refine ih (k + 1,l ++ [a],y2) _ ⟨by dsimp only;omega,by simp;omega,by dsimp only;omega,q⟩ (by dsimp only;omega) ?_
       simp only [Int.natCast_add,Int.natCast_one,Ya,Y9,Yf,Ye,Yp,bytesA,List.map_append,accC,List.length_append]
       (refine Weak.of (by simp [hc0]) ?_ ?_ <;> (repeat' first|exact .refl _|exact .junk _|exact .nil|exact .nil _|exact .tok _ _ _|rfl|apply WkT.cons|apply WkH.cons|apply LeB.same|apply LeB.box|apply Le1L.cons|apply Le.agg|apply Le.one))
     ·obtain rfl : k = m := by omega
      have hkk : ¬ (k : Int) < k := by omega
      rw [tkRow_some e h2 h3 hrd]
      refine Rg Tryz.func82 ?_;simp only [go_sem,hkk,bytesA,↓alt_f]
      simp only [votesA]
      (repeat' first|exact .refl _|apply LeR.tup|apply Le.agg|constructor)
 ·rw [tkRow_no e (.inl h1)]
  refine ⟨⟨_,Tryz.func82,by kernel_rfl,rfl⟩,Sg Tryz.func82 rfl fun c0 hc0 => ?_⟩;simp only [go_sem,bytesA,Nat.reduceAdd,Nat.reduceSub]
  refine Ops.pure .free rfl rfl (s1) (by simp only [go_sem,bytesA];(repeat' first|exact .refl _|apply LeR.tup|apply Le.agg|constructor)) rfl rfl ?_
  refine Og Tryz.func82 ?_;simp only [go_sem,bytesA,h1,↓alt_t,↓alts_t,↓gone_ft]
  (and_intros <;> try first|rfl|omega|(unfold I64;omega))
  simp only [votesA,Ye]
  all_goals (repeat' first|exact .refl _|apply LeR.tup|apply Le.agg|constructor)
def p1 (b : Bytes) : Bytes × Int × Int := rdN b 0 0
def p2 (b : Bytes) : Bytes × Int × Int := rdN (p1 b).1 0 0
def p3 (b : Bytes) : Bytes × Int × Int := rdN (p2 b).1 0 0
def p4 (b : Bytes) : Bytes × Int × Int := rdN (p3 b).1 0 0
def p5 (b : Bytes) : Bytes × Int × Bytes := rdT (p4 b).1 0 []
abbrev okR (b : Bytes) : Prop := (p1 b).2.1 = 0 ∧ (p2 b).2.1 = 0 ∧ (p3 b).2.1 = 0 ∧ (p4 b).2.1 = 0 ∧ (p5 b).2.1 = 0 ∧ ((p3 b).2.2 = 0 ∨ (p3 b).2.2 = 1)
def tkR (b : Bytes) : Rp × Bytes × Bool :=
 if okR b then (⟨(p1 b).2.2,(p2 b).2.2,decide ((p3 b).2.2 = 1),(p4 b).2.2,(p5 b).2.2,(tkRow tkA (p5 b).1).1⟩,(tkRow tkA (p5 b).1).2.1,(tkRow tkA (p5 b).1).2.2) else (zR,[],false)
theorem tkA_twin : Twin tkA (fun b e => rdA b e zA) := tkA_eq
theorem tkV_twin : Twin (tkRow tkA) rdV := by
 have h := tkRow_twin tkA_twin (rdrA zA).stick
 have e : rdV = rdRow (fun b e => rdA b e zA) := funext fun b => funext fun e => rdV_eq b e
 rw [e]
 exact h
theorem r2_of {b : Bytes} (h1 : (p1 b).2.1 = 0) : r2 b 0 = p2 b := by
 show rdN (p1 b).1 (p1 b).2.1 0 = _
 rw [h1];rfl
theorem r3_of {b : Bytes} (h1 : (p1 b).2.1 = 0) (h2 : (p2 b).2.1 = 0) : r3 b 0 = ((p3 b).1,(if (p3 b).2.2 ≠ 0 ∧ (p3 b).2.2 ≠ 1 then 3 else (p3 b).2.1),decide ((p3 b).2.2 = 1)) := by
 unfold r3
 rw [r2_of h1,h2]
 rfl
theorem okR_iff (b : Bytes) : (r5 b 0).2.1 = 0 ↔ okR b := by
 constructor
 ·intro h5
  have h4 : (r4 b 0).2.1 = 0 := ((rdrT []).only h5).1
  have h3 : (r3 b 0).2.1 = 0 := ((rdrN 0).only h4).1
  have h2 : (r2 b 0).2.1 = 0 := ((rdrF false).only h3).1
  have h1 : (r1 b 0).2.1 = 0 := ((rdrN 0).only h2).1
  have g1 : (p1 b).2.1 = 0 := h1
  rw [r2_of g1] at h2
  have e3 := r3_of g1 h2
  rw [e3] at h3
  simp only at h3
  split at h3
  ·exact absurd h3 (by decide)
  ·rename_i hf
   have e4 : r4 b 0 = p4 b := by
    unfold r4
    rw [e3,if_neg hf]
    show rdN (p3 b).1 (p3 b).2.1 0 = _
    rw [h3];rfl
   rw [e4] at h4
   have e5 : r5 b 0 = p5 b := by
    unfold r5
    rw [e4,h4];rfl
   rw [e5] at h5
   exact ⟨g1,h2,h3,h4,h5,by omega⟩
 ·rintro ⟨g1,g2,g3,g4,g5,g6⟩
  have e4 : r4 b 0 = p4 b := by
   unfold r4
   rw [r3_of g1 g2,if_neg (by omega)]
   show rdN (p3 b).1 (p3 b).2.1 0 = _
   rw [g3];rfl
  have e5 : r5 b 0 = p5 b := by
   unfold r5
   rw [e4,g4];rfl
  rw [e5];exact g5
theorem tkR_twin : Twin tkR rdR := by
 intro b
 unfold tkR
 by_cases h : okR b
 ·rw [if_pos h]
  have h5 := (okR_iff b).2 h
  obtain ⟨g1,g2,g3,g4,g5,g6⟩ := h
  have e3 := r3_of g1 g2
  rw [if_neg (by omega)] at e3
  have e4 : r4 b 0 = p4 b := by
   unfold r4
   rw [e3]
   show rdN (p3 b).1 (p3 b).2.1 0 = _
   rw [g3];rfl
  have e5 : r5 b 0 = p5 b := by
   unfold r5
   rw [e4,g4];rfl
  have e6 : r6 b 0 = rdV (p5 b).1 0 := by
   unfold r6
   rw [e5,g5]
  have e1 : r1 b 0 = p1 b := rfl
  obtain ⟨t1,t2⟩ := tkV_twin (p5 b).1
  unfold rdR
  rw [e1,r2_of g1,e3,e4,e5,e6]
  simp only
  refine ⟨t1,fun k => ?_⟩
  obtain ⟨t3,t4⟩ := t2 k
  rw [t3,t4]
  exact ⟨rfl,rfl⟩
 ·rw [if_neg h]
  have h5 : ¬ (rdR b 0).2.1 = 0 := fun k => h ((okR_iff b).1 (rdrV.only k).1)
  rw [decide_eq_false h5]
  exact ⟨rfl,fun k => absurd k Bool.false_ne_true⟩
theorem tkC_twin : Twin (tkRow tkR) rdC := by
 have h := tkRow_twin tkR_twin rdrR.stick
 have e : rdC = rdRow rdR := funext fun b => funext fun e => rdC_eq b e
 rw [e]
 exact h
theorem p5_le (b : Bytes) : (p5 b).1.length ≤ b.length :=
 Nat.le_trans (rdT_le _ _ _) (Nat.le_trans (rdN_le _ _ _) (Nat.le_trans (rdN_le _ _ _) (Nat.le_trans (rdN_le _ _ _) (rdN_le b 0 0))))
theorem tkR_le (b : Bytes) : (tkR b).2.1.length ≤ b.length := by
 unfold tkR
 split
 ·exact Nat.le_trans (tkRow_le tkA_le _) (p5_le b)
 ·exact Nat.zero_le _
theorem rtakereport_spec (b : Bytes) (hb : b.length ≤ 1000000) : ASpec Tryz.prog 83 [bytesA b] (.tup [.agg (rpC (tkR b).1),bytesA (tkR b).2.1,.bool (tkR b).2.2]) := by
 have s1 := rtaken_spec b
 have s2 := rtaken_spec (p1 b).1
 have s3 := rtaken_spec (p2 b).1
 have s4 := rtaken_spec (p3 b).1
 have l1 : (p1 b).1.length ≤ b.length := rdN_le _ _ _
 have l2 : (p2 b).1.length ≤ (p1 b).1.length := rdN_le _ _ _
 have l3 : (p3 b).1.length ≤ (p2 b).1.length := rdN_le _ _ _
 have l4 : (p4 b).1.length ≤ (p3 b).1.length := rdN_le _ _ _
 have l5 : (p5 b).1.length ≤ (p4 b).1.length := rdT_le _ _ _
 have s5 := rtext27_spec (p4 b).1 (by omega)
 have s6 := rtakevotes_spec (p5 b).1 (by omega)
 have key : (tkR b) = if okR b then (⟨(p1 b).2.2,(p2 b).2.2,decide ((p3 b).2.2 = 1),(p4 b).2.2,(p5 b).2.2,(tkRow tkA (p5 b).1).1⟩,(tkRow tkA (p5 b).1).2.1,(tkRow tkA (p5 b).1).2.2) else (zR,[],false) := rfl
 rw [key]
 unfold okR
 rw [show rdN b 0 0 = p1 b from rfl] at s1
 rw [show rdN (p1 b).1 0 0 = p2 b from rfl] at s2
 rw [show rdN (p2 b).1 0 0 = p3 b from rfl] at s3
 rw [show rdN (p3 b).1 0 0 = p4 b from rfl] at s4
 rw [show rdT (p4 b).1 0 [] = p5 b from rfl] at s5
 clear key l1 l2 l3 l4 l5
 generalize p1 b = t1 at *
 generalize p2 b = t2 at *
 generalize p3 b = t3 at *
 generalize p4 b = t4 at *
 generalize p5 b = t5 at *
 obtain ⟨b1,e1,n1⟩ := t1
 obtain ⟨b2,e2,n2⟩ := t2
 obtain ⟨b3,e3,n3⟩ := t3
 obtain ⟨b4,e4,n4⟩ := t4
 obtain ⟨b5,e5,n5⟩ := t5
 simp only at s1 s2 s3 s4 s5 s6 ⊢
 by_cases hok : e1 = 0 ∧ e2 = 0 ∧ e3 = 0 ∧ e4 = 0 ∧ e5 = 0
 ·obtain ⟨rfl,rfl,rfl,rfl,rfl⟩ := hok
  generalize tkRow tkA b5 = v at *
  obtain ⟨v1,v2,v3⟩ := v
  simp only at s6 ⊢
  by_cases f0 : n3 = 0
  ·subst f0
   rw [if_pos (by simp)]
   refine ⟨⟨_,Tryz.func83,by kernel_rfl,rfl⟩,Sg Tryz.func83 rfl fun c0 hc0 => ?_⟩;simp only [go_sem,bytesA,Int.reduceEq,Nat.reduceAdd,Nat.reduceSub]
   refine Ops.pure .free rfl rfl (s1) (by simp only [go_sem,bytesA];(repeat' first|exact .refl _|apply LeR.tup|apply Le.agg|constructor)) rfl rfl ?_
   refine Og Tryz.func83 ?_;simp only [go_sem,bytesA]
   refine Ops.pure .free rfl rfl (s2) (by simp only [go_sem,bytesA];(repeat' first|exact .refl _|apply LeR.tup|apply Le.agg|constructor)) rfl rfl ?_
   refine Og Tryz.func83 ?_;simp only [go_sem,bytesA]
   refine Ops.pure .free rfl rfl (s3) (by simp only [go_sem,bytesA];(repeat' first|exact .refl _|apply LeR.tup|apply Le.agg|constructor)) rfl rfl ?_
   refine Og Tryz.func83 ?_;simp only [go_sem,bytesA]
   refine Ops.pure .free rfl rfl (s4) (by simp only [go_sem,bytesA];(repeat' first|exact .refl _|apply LeR.tup|apply Le.agg|constructor)) rfl rfl ?_
   refine Og Tryz.func83 ?_;simp only [go_sem,bytesA]
   refine Ops.pure .free rfl rfl (s5) (by simp only [go_sem,bytesA];(repeat' first|exact .refl _|apply LeR.tup|apply Le.agg|constructor)) rfl rfl ?_
   refine Og Tryz.func83 ?_;simp only [go_sem,bytesA,↓alt_f,↓alts_f,↓gone_tf,↓gone_ff]
   (and_intros <;> try first|rfl|omega|(unfold I64;omega))
   refine Ops.pure .free rfl rfl (s6) (by simp only [go_sem,bytesA];(repeat' first|exact .refl _|apply LeR.tup|apply Le.agg|constructor)) rfl rfl ?_
   refine Og Tryz.func83 ?_;simp only [go_sem,votesA,bytesA,Int.reduceEq,Nat.reduceAdd,Nat.reduceLeDiff]
   (and_intros <;> try first|rfl|omega|(unfold I64;omega))
   simp only [rpC,votesA]
   all_goals (repeat' first|exact .refl _|apply LeR.tup|apply Le.agg|constructor)
  ·by_cases f1 : n3 = 1
   ·subst f1
    rw [if_pos (by simp)]
    refine ⟨⟨_,Tryz.func83,by kernel_rfl,rfl⟩,Sg Tryz.func83 rfl fun c0 hc0 => ?_⟩;simp only [go_sem,bytesA,Nat.reduceAdd,Nat.reduceSub]
    refine Ops.pure .free rfl rfl (s1) (by simp only [go_sem,bytesA];(repeat' first|exact .refl _|apply LeR.tup|apply Le.agg|constructor)) rfl rfl ?_
    refine Og Tryz.func83 ?_;simp only [go_sem,bytesA]
    refine Ops.pure .free rfl rfl (s2) (by simp only [go_sem,bytesA];(repeat' first|exact .refl _|apply LeR.tup|apply Le.agg|constructor)) rfl rfl ?_
    refine Og Tryz.func83 ?_;simp only [go_sem,bytesA]
    refine Ops.pure .free rfl rfl (s3) (by simp only [go_sem,bytesA];(repeat' first|exact .refl _|apply LeR.tup|apply Le.agg|constructor)) rfl rfl ?_
    refine Og Tryz.func83 ?_;simp only [go_sem,bytesA]
    refine Ops.pure .free rfl rfl (s4) (by simp only [go_sem,bytesA];(repeat' first|exact .refl _|apply LeR.tup|apply Le.agg|constructor)) rfl rfl ?_
    refine Og Tryz.func83 ?_;simp only [go_sem,bytesA]
    refine Ops.pure .free rfl rfl (s5) (by simp only [go_sem,bytesA];(repeat' first|exact .refl _|apply LeR.tup|apply Le.agg|constructor)) rfl rfl ?_
    refine Og Tryz.func83 ?_;simp only [go_sem,bytesA,↓alt_f,↓alts_t,↓alts_f,↓gone_tt,↓gone_ff,Int.reduceEq]
    (and_intros <;> try first|rfl|omega|(unfold I64;omega))
    refine Ops.pure .free rfl rfl (s6) (by simp only [go_sem,bytesA];(repeat' first|exact .refl _|apply LeR.tup|apply Le.agg|constructor)) rfl rfl ?_
    refine Og Tryz.func83 ?_;simp only [go_sem,votesA,bytesA,Nat.reduceAdd,Nat.reduceLeDiff]
    (and_intros <;> try first|rfl|omega|(unfold I64;omega))
    simp only [rpC,votesA]
    all_goals (repeat' first|exact .refl _|apply LeR.tup|apply Le.agg|constructor)
   ·rw [if_neg (by simp [f0,f1])]
    refine ⟨⟨_,Tryz.func83,by kernel_rfl,rfl⟩,Sg Tryz.func83 rfl fun c0 hc0 => ?_⟩;simp only [go_sem,bytesA,Nat.reduceAdd,Nat.reduceSub]
    refine Ops.pure .free rfl rfl (s1) (by simp only [go_sem,bytesA];(repeat' first|exact .refl _|apply LeR.tup|apply Le.agg|constructor)) rfl rfl ?_
    refine Og Tryz.func83 ?_;simp only [go_sem,bytesA]
    refine Ops.pure .free rfl rfl (s2) (by simp only [go_sem,bytesA];(repeat' first|exact .refl _|apply LeR.tup|apply Le.agg|constructor)) rfl rfl ?_
    refine Og Tryz.func83 ?_;simp only [go_sem,bytesA]
    refine Ops.pure .free rfl rfl (s3) (by simp only [go_sem,bytesA];(repeat' first|exact .refl _|apply LeR.tup|apply Le.agg|constructor)) rfl rfl ?_
    refine Og Tryz.func83 ?_;simp only [go_sem,bytesA]
    refine Ops.pure .free rfl rfl (s4) (by simp only [go_sem,bytesA];(repeat' first|exact .refl _|apply LeR.tup|apply Le.agg|constructor)) rfl rfl ?_
    refine Og Tryz.func83 ?_;simp only [go_sem,bytesA]
    refine Ops.pure .free rfl rfl (s5) (by simp only [go_sem,bytesA];(repeat' first|exact .refl _|apply LeR.tup|apply Le.agg|constructor)) rfl rfl ?_
    refine Og Tryz.func83 ?_;simp only [go_sem,bytesA,f0,f1,↓alt_t,↓alts_t,↓alts_f,↓gone_tt,↓gone_ff,Nat.reduceAdd]
    (and_intros <;> try first|rfl|omega|(unfold I64;omega))
    simp only [rpC,zR,votesA,Ye]
    all_goals (repeat' first|exact .refl _|apply LeR.tup|apply Le.agg|constructor)
 ·rw [if_neg (by rintro ⟨g1,g2,g3,g4,g5,_⟩;exact hok ⟨g1,g2,g3,g4,g5⟩)]
  have ho : decide (e1 = 0) = false ∨ (decide (e1 = 0) = true ∧ decide (e2 = 0) = false) ∨ (decide (e1 = 0) = true ∧ decide (e2 = 0) = true ∧ decide (e3 = 0) = false) ∨ (decide (e1 = 0) = true ∧ decide (e2 = 0) = true ∧ decide (e3 = 0) = true ∧ decide (e4 = 0) = false) ∨ (decide (e1 = 0) = true ∧ decide (e2 = 0) = true ∧ decide (e3 = 0) = true ∧ decide (e4 = 0) = true ∧ decide (e5 = 0) = false) := by
   simp only [decide_eq_false_iff_not,decide_eq_true_eq]
   omega
  clear hok s6
  generalize decide (e1 = 0) = d1 at *
  generalize decide (e2 = 0) = d2 at *
  generalize decide (e3 = 0) = d3 at *
  generalize decide (e4 = 0) = d4 at *
  generalize decide (e5 = 0) = d5 at *
  rcases ho with rfl|⟨rfl,rfl⟩|⟨rfl,rfl,rfl⟩|⟨rfl,rfl,rfl,rfl⟩|⟨rfl,rfl,rfl,rfl,rfl⟩
  ·refine ⟨⟨_,Tryz.func83,by kernel_rfl,rfl⟩,Sg Tryz.func83 rfl fun c0 hc0 => ?_⟩;simp only [go_sem,bytesA,Nat.reduceAdd,Nat.reduceSub]
   refine Ops.pure .free rfl rfl (s1) (by simp only [go_sem,bytesA];(repeat' first|exact .refl _|apply LeR.tup|apply Le.agg|constructor)) rfl rfl ?_
   refine Og Tryz.func83 ?_;simp only [go_sem,bytesA]
   refine Ops.pure .free rfl rfl (s2) (by simp only [go_sem,bytesA];(repeat' first|exact .refl _|apply LeR.tup|apply Le.agg|constructor)) rfl rfl ?_
   refine Og Tryz.func83 ?_;simp only [go_sem,bytesA]
   refine Ops.pure .free rfl rfl (s3) (by simp only [go_sem,bytesA];(repeat' first|exact .refl _|apply LeR.tup|apply Le.agg|constructor)) rfl rfl ?_
   refine Og Tryz.func83 ?_;simp only [go_sem,bytesA]
   refine Ops.pure .free rfl rfl (s4) (by simp only [go_sem,bytesA];(repeat' first|exact .refl _|apply LeR.tup|apply Le.agg|constructor)) rfl rfl ?_
   refine Og Tryz.func83 ?_;simp only [go_sem,bytesA]
   refine Ops.pure .free rfl rfl (s5) (by simp only [go_sem,bytesA];(repeat' first|exact .refl _|apply LeR.tup|apply Le.agg|constructor)) rfl rfl ?_
   refine Og Tryz.func83 ?_;simp only [go_sem,bytesA,↓alt_t,↓alts_t,↓gone_ft,Nat.reduceAdd]
   (and_intros <;> try first|rfl|omega|(unfold I64;omega))
   simp only [rpC,zR,votesA,Ye]
   all_goals (repeat' first|exact .refl _|apply LeR.tup|apply Le.agg|constructor)
  ·refine ⟨⟨_,Tryz.func83,by kernel_rfl,rfl⟩,Sg Tryz.func83 rfl fun c0 hc0 => ?_⟩;simp only [go_sem,bytesA,Nat.reduceAdd,Nat.reduceSub]
   refine Ops.pure .free rfl rfl (s1) (by simp only [go_sem,bytesA];(repeat' first|exact .refl _|apply LeR.tup|apply Le.agg|constructor)) rfl rfl ?_
   refine Og Tryz.func83 ?_;simp only [go_sem,bytesA]
   refine Ops.pure .free rfl rfl (s2) (by simp only [go_sem,bytesA];(repeat' first|exact .refl _|apply LeR.tup|apply Le.agg|constructor)) rfl rfl ?_
   refine Og Tryz.func83 ?_;simp only [go_sem,bytesA]
   refine Ops.pure .free rfl rfl (s3) (by simp only [go_sem,bytesA];(repeat' first|exact .refl _|apply LeR.tup|apply Le.agg|constructor)) rfl rfl ?_
   refine Og Tryz.func83 ?_;simp only [go_sem,bytesA]
   refine Ops.pure .free rfl rfl (s4) (by simp only [go_sem,bytesA];(repeat' first|exact .refl _|apply LeR.tup|apply Le.agg|constructor)) rfl rfl ?_
   refine Og Tryz.func83 ?_;simp only [go_sem,bytesA]
   refine Ops.pure .free rfl rfl (s5) (by simp only [go_sem,bytesA];(repeat' first|exact .refl _|apply LeR.tup|apply Le.agg|constructor)) rfl rfl ?_
   refine Og Tryz.func83 ?_;simp only [go_sem,bytesA,↓alt_t,↓alts_t,↓alts_f,↓gone_ft,↓gone_ff,Nat.reduceAdd]
   (and_intros <;> try first|rfl|omega|(unfold I64;omega))
   simp only [rpC,zR,votesA,Ye]
   all_goals (repeat' first|exact .refl _|apply LeR.tup|apply Le.agg|constructor)
  ·refine ⟨⟨_,Tryz.func83,by kernel_rfl,rfl⟩,Sg Tryz.func83 rfl fun c0 hc0 => ?_⟩;simp only [go_sem,bytesA,Nat.reduceAdd,Nat.reduceSub]
   refine Ops.pure .free rfl rfl (s1) (by simp only [go_sem,bytesA];(repeat' first|exact .refl _|apply LeR.tup|apply Le.agg|constructor)) rfl rfl ?_
   refine Og Tryz.func83 ?_;simp only [go_sem,bytesA]
   refine Ops.pure .free rfl rfl (s2) (by simp only [go_sem,bytesA];(repeat' first|exact .refl _|apply LeR.tup|apply Le.agg|constructor)) rfl rfl ?_
   refine Og Tryz.func83 ?_;simp only [go_sem,bytesA]
   refine Ops.pure .free rfl rfl (s3) (by simp only [go_sem,bytesA];(repeat' first|exact .refl _|apply LeR.tup|apply Le.agg|constructor)) rfl rfl ?_
   refine Og Tryz.func83 ?_;simp only [go_sem,bytesA]
   refine Ops.pure .free rfl rfl (s4) (by simp only [go_sem,bytesA];(repeat' first|exact .refl _|apply LeR.tup|apply Le.agg|constructor)) rfl rfl ?_
   refine Og Tryz.func83 ?_;simp only [go_sem,bytesA]
   refine Ops.pure .free rfl rfl (s5) (by simp only [go_sem,bytesA];(repeat' first|exact .refl _|apply LeR.tup|apply Le.agg|constructor)) rfl rfl ?_
   refine Og Tryz.func83 ?_;simp only [go_sem,bytesA,↓alt_t,↓alts_t,↓alts_f,↓gone_ft,↓gone_ff,Nat.reduceAdd]
   (and_intros <;> try first|rfl|omega|(unfold I64;omega))
   simp only [rpC,zR,votesA,Ye]
   all_goals (repeat' first|exact .refl _|apply LeR.tup|apply Le.agg|constructor)
  ·refine ⟨⟨_,Tryz.func83,by kernel_rfl,rfl⟩,Sg Tryz.func83 rfl fun c0 hc0 => ?_⟩;simp only [go_sem,bytesA,Nat.reduceAdd,Nat.reduceSub]
   refine Ops.pure .free rfl rfl (s1) (by simp only [go_sem,bytesA];(repeat' first|exact .refl _|apply LeR.tup|apply Le.agg|constructor)) rfl rfl ?_
   refine Og Tryz.func83 ?_;simp only [go_sem,bytesA]
   refine Ops.pure .free rfl rfl (s2) (by simp only [go_sem,bytesA];(repeat' first|exact .refl _|apply LeR.tup|apply Le.agg|constructor)) rfl rfl ?_
   refine Og Tryz.func83 ?_;simp only [go_sem,bytesA]
   refine Ops.pure .free rfl rfl (s3) (by simp only [go_sem,bytesA];(repeat' first|exact .refl _|apply LeR.tup|apply Le.agg|constructor)) rfl rfl ?_
   refine Og Tryz.func83 ?_;simp only [go_sem,bytesA]
   refine Ops.pure .free rfl rfl (s4) (by simp only [go_sem,bytesA];(repeat' first|exact .refl _|apply LeR.tup|apply Le.agg|constructor)) rfl rfl ?_
   refine Og Tryz.func83 ?_;simp only [go_sem,bytesA]
   refine Ops.pure .free rfl rfl (s5) (by simp only [go_sem,bytesA];(repeat' first|exact .refl _|apply LeR.tup|apply Le.agg|constructor)) rfl rfl ?_
   refine Og Tryz.func83 ?_;simp only [go_sem,bytesA,↓alt_t,↓alts_t,↓alts_f,↓gone_ft,↓gone_ff,Nat.reduceAdd]
   (and_intros <;> try first|rfl|omega|(unfold I64;omega))
   simp only [rpC,zR,votesA,Ye]
   all_goals (repeat' first|exact .refl _|apply LeR.tup|apply Le.agg|constructor)
  ·refine ⟨⟨_,Tryz.func83,by kernel_rfl,rfl⟩,Sg Tryz.func83 rfl fun c0 hc0 => ?_⟩;simp only [go_sem,bytesA,Nat.reduceAdd,Nat.reduceSub]
   refine Ops.pure .free rfl rfl (s1) (by simp only [go_sem,bytesA];(repeat' first|exact .refl _|apply LeR.tup|apply Le.agg|constructor)) rfl rfl ?_
   refine Og Tryz.func83 ?_;simp only [go_sem,bytesA]
   refine Ops.pure .free rfl rfl (s2) (by simp only [go_sem,bytesA];(repeat' first|exact .refl _|apply LeR.tup|apply Le.agg|constructor)) rfl rfl ?_
   refine Og Tryz.func83 ?_;simp only [go_sem,bytesA]
   refine Ops.pure .free rfl rfl (s3) (by simp only [go_sem,bytesA];(repeat' first|exact .refl _|apply LeR.tup|apply Le.agg|constructor)) rfl rfl ?_
   refine Og Tryz.func83 ?_;simp only [go_sem,bytesA]
   refine Ops.pure .free rfl rfl (s4) (by simp only [go_sem,bytesA];(repeat' first|exact .refl _|apply LeR.tup|apply Le.agg|constructor)) rfl rfl ?_
   refine Og Tryz.func83 ?_;simp only [go_sem,bytesA]
   refine Ops.pure .free rfl rfl (s5) (by simp only [go_sem,bytesA];(repeat' first|exact .refl _|apply LeR.tup|apply Le.agg|constructor)) rfl rfl ?_
   refine Og Tryz.func83 ?_;simp only [go_sem,bytesA,↓alt_t,↓alts_t,↓alts_f,↓gone_ft,↓gone_ff,Nat.reduceAdd]
   (and_intros <;> try first|rfl|omega|(unfold I64;omega))
   simp only [rpC,zR,votesA,Ye]
   all_goals (repeat' first|exact .refl _|apply LeR.tup|apply Le.agg|constructor)
theorem rtakecert_spec (b : Bytes) (hb : b.length ≤ 1000000) : ASpec Tryz.prog 84 [bytesA b] (.tup [rpsA (tkRow tkR b).1,bytesA (tkRow tkR b).2.1,.bool (tkRow tkR b).2.2]) := by
 have s1 := rtaken_spec b
 have l1 := rdN_le b 0 0
 obtain ⟨⟨r,z,n⟩,e⟩ : ∃ t,rdN b 0 0 = t := ⟨_,rfl⟩
 rw [e] at s1 l1
 simp only at s1 l1
 by_cases h1 : z = 0
 ·by_cases h2 : n < 0
  ·rw [tkRow_no e (.inr (.inl h2))]
   refine ⟨⟨_,Tryz.func84,by kernel_rfl,rfl⟩,Sg Tryz.func84 rfl fun c0 hc0 => ?_⟩;simp only [go_sem,bytesA,Nat.reduceAdd,Nat.reduceSub]
   refine Ops.pure .free rfl rfl (s1) (by simp only [go_sem,bytesA];(repeat' first|exact .refl _|apply LeR.tup|apply Le.agg|constructor)) rfl rfl ?_
   refine Og Tryz.func84 ?_;simp only [go_sem,bytesA,h1,h2,↓alt_t,↓alts_t,↓alts_f,↓gone_ft,↓gone_ff]
   (and_intros <;> try first|rfl|omega|(unfold I64;omega))
   simp only [rpsA,Ye]
   all_goals (repeat' first|exact .refl _|apply LeR.tup|apply Le.agg|constructor)
  ·by_cases h3 : 30 < n
   ·rw [tkRow_no e (.inr (.inr h3))]
    refine ⟨⟨_,Tryz.func84,by kernel_rfl,rfl⟩,Sg Tryz.func84 rfl fun c0 hc0 => ?_⟩;simp only [go_sem,bytesA,Nat.reduceAdd,Nat.reduceSub]
    refine Ops.pure .free rfl rfl (s1) (by simp only [go_sem,bytesA];(repeat' first|exact .refl _|apply LeR.tup|apply Le.agg|constructor)) rfl rfl ?_
    refine Og Tryz.func84 ?_;simp only [go_sem,bytesA,h1,h2,h3,↓alt_t,↓alts_f,↓gone_ff]
    (and_intros <;> try first|rfl|omega|(unfold I64;omega))
    simp only [rpsA,Ye]
    all_goals (repeat' first|exact .refl _|apply LeR.tup|apply Le.agg|constructor)
   ·subst h1
    obtain ⟨m,rfl⟩ := Int.eq_ofNat_of_zero_le (show 0 ≤ n by omega)
    refine ⟨⟨_,Tryz.func84,by kernel_rfl,rfl⟩,Sg Tryz.func84 rfl fun c0 hc0 => ?_⟩;simp only [go_sem,bytesA,Nat.reduceAdd,Nat.reduceSub]
    refine Ops.pure .free rfl rfl (s1) (by simp only [go_sem,bytesA];(repeat' first|exact .refl _|apply LeR.tup|apply Le.agg|constructor)) rfl rfl ?_
    refine Og Tryz.func84 ?_;simp only [go_sem,bytesA,h2,h3,↓alt_f,↓alts_f,↓gone_ff,Nat.reduceLeDiff,Nat.reduceMul,Nat.reduceLT]
    (and_intros <;> try first|rfl|omega|(unfold I64;omega))
    refine Run.loopV (α := Nat × List Rp × Bytes) (fun x => x.1 ≤ m ∧ x.2.1.length = x.1 ∧ x.2.2.length ≤ r.length ∧ tks tkR x.1 r = some (x.2.1,x.2.2)) (fun x => [(0,bytesA x.2.2),(7,.sl 6 (x.2.1.map rpC) (.own 0)),(8,.int .i64 x.1)]) 1 (fun x => [(0,.tok 6 x.2.1.length)]) (fun x => m - x.1) (0,[],r) ⟨Nat.zero_le _,rfl,Nat.le_refl _,rfl⟩ ?_ ?_
    ·simp only [go_sem,writes,junks,puts,hputs,List.filterMap_cons,List.filterMap_nil,bytesA]
     (refine Weak.of (by simp [hc0]) ?_ ?_ <;> (repeat' first|exact .refl _|exact .junk _|exact .nil|exact .nil _|exact .tok _ _ _|rfl|apply WkT.cons|apply WkH.cons|apply LeB.same|apply LeB.box|apply Le1L.cons|apply Le.agg|apply Le.one))
    ·rintro ⟨k,l,y⟩ ⟨hI,hll,hyl,hrd⟩ ih
     simp only [writes,junks,puts,hputs,List.filterMap_cons,List.filterMap_nil,Y6,Y7,Yg,Yk,Y5,Y3,Yd] at hI hll hyl hrd ih ⊢
     by_cases hk : k < m
     ·have hkk : (k : Int) < m := by omega
      have hs := rtakereport_spec y (by omega)
      have hle := tkR_le y
      have q1 := @tks_yes _ tkR r y l k hrd
      have q2 := @tks_no _ tkR r y l k hrd
      obtain ⟨⟨a,y2,is⟩,ea⟩ : ∃ t,tkR y = t := ⟨_,rfl⟩
      rw [ea] at hs hle q1 q2
      simp only at hs hle q1 q2
      cases is with
      | false =>
       rw [tkRow_none e h2 h3 (q2 rfl m hk)]
       refine Rg Tryz.func84 ?_;simp only [go_sem,hkk,bytesA,↓alt_t]
       refine Ops.pure .free rfl rfl (hs) (by simp only [go_sem,bytesA];(repeat' first|exact .refl _|apply LeR.tup|apply Le.agg|constructor)) rfl rfl ?_
       refine Og Tryz.func84 ?_;simp only [go_sem,rpC,votesA,bytesA,↓alt_t,Nat.reduceAdd]
       (and_intros <;> try first|rfl|omega|(unfold I64;omega))
       simp only [rpsA,Ye]
       all_goals (repeat' first|exact .refl _|apply LeR.tup|apply Le.agg|constructor)
      | true =>
       have q := q1 rfl
       refine Rg Tryz.func84 ?_;simp only [go_sem,hkk,bytesA,↓alt_t]
       refine Ops.pure .free rfl rfl (hs) (by simp only [go_sem,bytesA];(repeat' first|exact .refl _|apply LeR.tup|apply Le.agg|constructor)) rfl rfl ?_
       refine Og Tryz.func84 ?_;simp only [go_sem,rpC,votesA,bytesA,↓alt_f,Nat.reduceAdd,Nat.reduceLeDiff,Nat.reduceMul,Nat.reduceBEq,Nat.reduceLT]
       (and_intros <;> try first|rfl|omega|(unfold I64;omega))
       refine ih (k + 1,l ++ [a],y2) _ ⟨by dsimp only;omega,by simp;omega,by dsimp only;omega,q⟩ (by dsimp only;omega) ?_
       simp only [Int.natCast_add,Int.natCast_one,Ya,Y9,Yf,Ye,Yp,bytesA,List.map_append,rpC,votesA,List.length_append]
       (refine Weak.of (by simp [hc0]) ?_ ?_ <;> (repeat' first|exact .refl _|exact .junk _|exact .nil|exact .nil _|exact .tok _ _ _|rfl|apply WkT.cons|apply WkH.cons|apply LeB.same|apply LeB.box|apply Le1L.cons|apply Le.agg|apply Le.one))
     ·obtain rfl : k = m := by omega
      have hkk : ¬ (k : Int) < k := by omega
      rw [tkRow_some e h2 h3 hrd]
      refine Rg Tryz.func84 ?_;simp only [go_sem,hkk,bytesA,↓alt_f]
      simp only [rpsA]
      (repeat' first|exact .refl _|apply LeR.tup|apply Le.agg|constructor)
 ·rw [tkRow_no e (.inl h1)]
  refine ⟨⟨_,Tryz.func84,by kernel_rfl,rfl⟩,Sg Tryz.func84 rfl fun c0 hc0 => ?_⟩;simp only [go_sem,bytesA,Nat.reduceAdd,Nat.reduceSub]
  refine Ops.pure .free rfl rfl (s1) (by simp only [go_sem,bytesA];(repeat' first|exact .refl _|apply LeR.tup|apply Le.agg|constructor)) rfl rfl ?_
  refine Og Tryz.func84 ?_;simp only [go_sem,bytesA,h1,↓alt_t,↓alts_t,↓gone_ft]
  (and_intros <;> try first|rfl|omega|(unfold I64;omega))
  simp only [rpsA,Ye]
  all_goals (repeat' first|exact .refl _|apply LeR.tup|apply Le.agg|constructor)
def tkM (b : Bytes) : Bytes × Bytes × Bool := if b.length < 32 then (zM,[],false) else (b.take 32,b.drop 32,true)
theorem tkM_twin : Twin tkM (fun b e => rdM b e zM) := by
 intro b
 unfold tkM rdM
 by_cases h : b.length < 32
 ·simp [h]
 ·simp [h]
def upM (b : Bytes) (k : Nat) : Bytes := b.take k ++ List.replicate (32 - k) 0
theorem upM_len {b : Bytes} {k : Nat} (h : 32 ≤ b.length) (hk : k ≤ 32) : (sumC (upM b k)).length = 32 := by
 simp [sumC,upM];omega
theorem upM_all (b : Bytes) : upM b 32 = b.take 32 := by simp [upM]
theorem upM_set {b : Bytes} {k : Nat} {c : UInt8} (h : 32 ≤ b.length) (hk : k < 32) (hc : b[k]? = some c) : (sumC (upM b k)).set k (.int .u8 c.toNat) = sumC (upM b (k + 1)) := by
 have hlt : k < b.length := by omega
 rw [List.getElem?_eq_getElem hlt] at hc
 cases hc
 unfold sumC upM
 rw [show List.map (fun c : UInt8 => AV.int .u8 c.toNat) (b.take k ++ List.replicate (32 - k) 0) = List.map (fun c : UInt8 => AV.int .u8 c.toNat) (b.take k) ++ List.map (fun c : UInt8 => AV.int .u8 c.toNat) (List.replicate (32 - k) 0) by rw [List.map_append],List.set_append_right (h := by simp;omega)]
 rw [show 32 - k = (32 - (k + 1)) + 1 by omega,List.replicate_succ,List.map_cons]
 rw [show k - (List.map (fun c : UInt8 => AV.int .u8 c.toNat) (b.take k)).length = 0 by simp;omega,List.set_cons_zero]
 rw [List.map_append,show b.take (k + 1) = b.take k ++ [b[k]] by simp,List.map_append,List.append_assoc]
 rfl
theorem rtakesum_spec (b : Bytes) (hb : b.length ≤ 1000000) : ASpec Tryz.prog 85 [bytesA b] (.tup [.agg (sumC (tkM b).1),bytesA (tkM b).2.1,.bool (tkM b).2.2]) := by
 unfold tkM
 by_cases hn : b.length < 32
 ·have hn' : (b.length : Int) < 32 := by omega
  rw [if_pos hn]
  refine ⟨⟨_,Tryz.func85,by kernel_rfl,rfl⟩,Sg Tryz.func85 rfl fun c0 hc0 => ?_⟩;simp only [go_sem,bytesA,Nat.reduceAdd,Nat.reduceSub]
  refine Ops.buildZ tab_ok .free rfl rfl rfl rfl ?_
  refine Og Tryz.func85 ?_;simp only [go_sem,hn',↓alt_t,Nat.reduceAdd]
  (and_intros <;> try first|rfl|omega|(unfold I64;omega))
  all_goals (repeat' first|exact .refl _|apply LeR.tup|apply Le.agg|constructor)
 ·have hn' : ¬ (b.length : Int) < 32 := by omega
  have hn2 : 32 ≤ b.length := by omega
  rw [if_neg hn]
  refine ⟨⟨_,Tryz.func85,by kernel_rfl,rfl⟩,Sg Tryz.func85 rfl fun c0 hc0 => ?_⟩;simp only [go_sem,bytesA,Nat.reduceAdd,Nat.reduceSub]
  refine Ops.buildZ tab_ok .free rfl rfl rfl rfl ?_
  refine Og Tryz.func85 ?_;simp only [go_sem,hn',↓alt_f,Nat.reduceAdd]
  (and_intros <;> try first|rfl|omega|(unfold I64;omega))
  refine Run.loopV (α := Nat) (fun k => k ≤ 32) (fun k => [(6,.int .i64 k)]) 2 (fun k => [(1,.box (sumC (upM b k)))]) (fun k => 32 - k) 0 (Nat.zero_le _) ?_ ?_
  ·simp only [go_sem,writes,junks,puts,hputs,List.filterMap_cons,List.filterMap_nil]
   (refine Weak.of (by simp [hc0]) ?_ ?_ <;> (repeat' first|exact .refl _|exact .junk _|exact .nil|exact .nil _|exact .tok _ _ _|rfl|apply WkT.cons|apply WkH.cons|apply LeB.same|apply LeB.box|apply Le1L.cons|apply Le.agg|apply Le.one))
  ·intro k hI ih
   simp only [writes,junks,puts,hputs,List.filterMap_cons,List.filterMap_nil,Y6,Y7,Yg,Yk,Y5,Y3,Yd] at hI ih ⊢
   have hl := upM_len hn2 hI
   by_cases hk : k < 32
   ·have hkk : (k : Int) < 32 := by omega
    have hkb : (k : Int) < b.length := by omega
    obtain ⟨c,hc⟩ : ∃ c,b[k]? = some c := ⟨_,List.getElem?_eq_getElem (by omega)⟩
    have hs := upM_set hn2 hk hc
    have hs2 : (sumC (upM b k)).take k ++ [AV.int .u8 c.toNat] ++ (sumC (upM b k)).drop (k + 1) = sumC (upM b (k + 1)) := by
     rw [← hs,List.set_eq_take_append_cons_drop,if_pos (by omega),List.append_assoc];rfl
    refine Rg Tryz.func85 ?_;simp only [go_sem,hc,hkk,hkb,hl,List.getElem?_map,byteC,↓alt_t,Nat.reduceLeDiff,Nat.reduceLT]
    (and_intros <;> try first|rfl|omega|(unfold I64;omega))
    refine ih (k + 1) _ (by omega) (by omega) ?_
    simp only [Int.natCast_add,Int.natCast_one]
    (refine Weak.of (by simp [hc0]) ?_ ?_ <;> (repeat' first|exact .refl _|exact .junk _|exact .nil|exact .nil _|exact .tok _ _ _|rfl|apply WkT.cons|apply WkH.cons|apply LeB.same|apply LeB.box|apply Le1L.cons|apply Le.agg|apply Le.one))
    ·rw [Nat.mul_one,hs2];exact le1l_refl _
    ·exact (Pln.sum _).1 _
   ·have hkk : ¬ (k : Int) < 32 := by omega
    rw [show k = 32 by omega,upM_all] at hl
    rw [show upM b k = b.take 32 by rw [show k = 32 by omega,upM_all]]
    have hle : (32 : Int) ≤ b.length := by omega
    have hT : (sumC (b.take 32)).take 32 = sumC (b.take 32) := List.take_of_length_le (Nat.le_of_eq hl)
    refine Rg Tryz.func85 ?_;simp only [go_sem,hkk,hl,hle,hT,← List.map_drop,Int.reduceToNat,↓alt_f,Int.reduceLE,Nat.reduceAdd]
    (and_intros <;> try first|rfl|omega|(unfold I64;omega))
    all_goals (first|rfl|exact Nat.le_refl _|(repeat' first|exact .refl _|apply LeR.tup|apply Le.agg|constructor))
theorem tdiv256 (m : Nat) : (m : Int).tdiv 256 = ((m / 256 : Nat) : Int) := by rw [Int.tdiv_eq_ediv_of_nonneg (by omega)];omega
theorem tmod256 (m : Nat) : IntKind.u8.wrap ((m : Int).tmod 256) = ((UInt8.ofNat m).toNat : Int) := by
 rw [Int.tmod_eq_emod_of_nonneg (by omega)]
 unfold IntKind.wrap
 simp [IntKind.bits,IntKind.signed]
theorem rsizeN_spec (n : Nat) (h : n < 18446744073709551616) : ASpec Tryz.prog 90 [.int .u64 n] (.int .i64 (1 + nb n : Nat)) := by
 have hl := nb_le n h
 refine ⟨⟨_,Tryz.func90,by kernel_rfl,rfl⟩,Sg Tryz.func90 rfl fun c0 hc0 => ?_⟩;simp only [go_sem,Nat.reduceAdd,Nat.reduceSub]
 refine Run.loopV (α := Nat × Nat) (fun x => nb n = nb x.1 + x.2 ∧ x.1 < 18446744073709551616) (fun x => [(0,.int .u64 x.1),(3,.int .i64 (1 + x.2 : Nat))]) 0 (fun _ => []) (fun x => x.1) (n,0) ⟨rfl,h⟩ ?_ ?_
 ·simp only [writes,junks,puts,hputs,List.filterMap_cons,List.filterMap_nil,Int.natCast_one,Y6,Y7,Yk,Y5,Y3,Yd,Yq]
  (refine Weak.of (by simp [hc0]) ?_ ?_ <;> (repeat' first|exact .refl _|exact .junk _|exact .nil|exact .nil _|exact .tok _ _ _|rfl|apply WkT.cons|apply WkH.cons|apply LeB.same|apply LeB.box|apply Le1L.cons|apply Le.agg|apply Le.one))
 ·rintro ⟨m,q⟩ ⟨hI,hm⟩ ih
  simp only [writes,junks,puts,hputs,List.filterMap_cons,List.filterMap_nil,Int.natCast_add,Int.natCast_one,Y6,Y7,Yk,Y5,Y3,Yd] at hI hm ih ⊢
  by_cases h0 : 0 < m
  ·have h0' : (0 : Int) < (m : Int) := by omega
   have hst := nb_step m (by omega) hm
   have hw : IntKind.u64.wrap ((m / 256 : Nat) : Int) = ((m / 256 : Nat) : Int) := wrap_nat _ (by omega)
   refine Rg Tryz.func90 ?_;simp only [go_sem,h0',tdiv256,hw,↓alt_t,reduceCtorEq]
   (and_intros <;> try first|rfl|omega|(unfold I64;omega))
   refine ih (m / 256,q + 1) _ ⟨by dsimp only;omega,by dsimp only;omega⟩ (by dsimp only;omega) ?_
   simp only [Int.natCast_add,Int.natCast_one]
   (refine Weak.of (by simp [hc0]) ?_ ?_ <;> (repeat' first|exact .refl _|exact .junk _|exact .nil|exact .nil _|exact .tok _ _ _|rfl|apply WkT.cons|apply WkH.cons|apply LeB.same|apply LeB.box|apply Le1L.cons|apply Le.agg|apply Le.one))
  ·obtain rfl : m = 0 := by omega
   have h0' : ¬ (0 : Int) < ((0 : Nat) : Int) := by omega
   have hz : nb 0 = 0 := rfl
   refine Rg Tryz.func90 ?_;simp only [go_sem,↓alt_f,Int.reduceLT]
   rw [hI,hz,Nat.zero_add]
   (repeat' first|exact .refl _|apply LeR.tup|apply Le.agg|constructor)
theorem rput_spec (b : Bytes) (n : Nat) (hb : b.length ≤ 1000000) (h1 : n < 18446744073709551616) : OSpec Tryz.prog 75 [bytesA b,.int .u64 n] 1 ((b ++ encN n).map byteC) := by
 have hs := rsizeN_spec n h1
 have hl := nb_le n h1
 have hw : IntKind.u8.wrap (nb n : Int) = ((UInt8.ofNat (nb n)).toNat : Int) := by
  unfold IntKind.wrap
  simp [IntKind.bits,IntKind.signed]
 have he : ((1 + nb n : Nat) : Int) - 1 = (nb n : Int) := by omega
 have hci : encN n = UInt8.ofNat (nb n) :: be (nb n) n := rfl
 generalize hk : nb n = k at *
 refine ⟨⟨_,Tryz.func75,by kernel_rfl,rfl⟩,Sg Tryz.func75 rfl fun c0 hc0 => ?_⟩;simp only [go_sem,bytesA,Nat.reduceLeDiff,Nat.reduceMul,Nat.reduceLT,Nat.reduceAdd,Nat.reduceSub]
 (and_intros <;> try first|rfl|omega|(unfold I64;omega))
 refine Ops.pure .free rfl rfl (hs) (by simp only [go_sem];(repeat' first|exact .refl _|apply LeR.tup|apply Le.agg|constructor)) rfl rfl ?_
 refine Og Tryz.func75 ?_;simp only [go_sem,he,hw,Nat.reduceLeDiff,Nat.reduceMul,Nat.reduceBEq,Nat.reduceLT]
 refine ⟨by unfold I64;omega,⟨by omega,by omega⟩,by unfold I64;omega,?_⟩
 refine Run.loopV (α := Nat) (fun p => p ≤ k) (fun p => [(5,.sl 1 ((b ++ UInt8.ofNat k :: (be k n).take p).map byteC) (.own 0)),(7,.int .i64 ((k : Int) - 1 - p)),(8,.junk),(9,.junk),(19,.junk),(39,.junk)]) 1 (fun p => [(0,.tok 1 (b ++ UInt8.ofNat k :: (be k n).take p).length)]) (fun p => k - p) 0 (Nat.zero_le _) ?_ ?_
 ·simp only [go_sem,writes,junks,puts,hputs,List.filterMap_cons,List.filterMap_nil,Int.natCast_add,Int.natCast_one,List.map_append,List.length_append,Int.sub_zero,byteC]
  (refine Weak.of (by simp [hc0]) ?_ ?_ <;> (repeat' first|exact .refl _|exact .junk _|exact .nil|exact .nil _|exact .tok _ _ _|rfl|apply WkT.cons|apply WkH.cons|apply LeB.same|apply LeB.box|apply Le1L.cons|apply Le.agg|apply Le.one))
 rintro q hq ih
 simp only [writes,junks,puts,hputs,List.filterMap_cons,List.filterMap_nil,Int.natCast_add,Int.natCast_one,Y6,Y7,Yg,Yj,Y5,Y3,Yd] at hq ih ⊢
 by_cases hlt : q < k
 ·obtain ⟨r,hr⟩ : ∃ r,r = k - 1 - q := ⟨_,rfl⟩
  have hr' : (k : Int) - 1 - (q : Int) = (r : Int) := by omega
  have h0 : (0 : Int) ≤ (r : Int) := by omega
  have htk := be_take k n q hlt
  rw [← hr] at htk
  have hbl := be_length k n
  refine Rg Tryz.func75 ?_;simp only [go_sem,hr',h0,↓alt_t]
  refine Run.loopV (α := Nat) (fun j => j ≤ r) (fun j => [(8,.int .u64 (n / 256 ^ j : Nat)),(9,.int .i64 j)]) 1 (fun _ => []) (fun j => r - j) 0 (Nat.zero_le _) ?_ ?_
  ·simp only [go_sem,writes,junks,puts,hputs,List.filterMap_cons,List.filterMap_nil,Nat.pow_zero,Nat.div_one]
   (refine Weak.of (by simp [hc0]) ?_ ?_ <;> (repeat' first|exact .refl _|exact .junk _|exact .nil|exact .nil _|exact .tok _ _ _|rfl|apply WkT.cons|apply WkH.cons|apply LeB.same|apply LeB.box|apply Le1L.cons|apply Le.agg|apply Le.one))
  rintro j hj jh
  simp only [writes,junks,puts,hputs,List.filterMap_cons,List.filterMap_nil,Y6,Y7,Yg,Yk,Y5,Y3,Yd] at hj jh ⊢
  have hnp : n / 256 ^ j < 18446744073709551616 := Nat.lt_of_le_of_lt (Nat.div_le_self _ _) h1
  by_cases hjr : j < r
  ·have hjr' : (j : Int) < (r : Int) := by omega
   have hw2 : IntKind.u64.wrap ((n / 256 ^ j / 256 : Nat) : Int) = ((n / 256 ^ j / 256 : Nat) : Int) := wrap_nat _ (by omega)
   refine Rg Tryz.func75 ?_;simp only [go_sem,hjr',tdiv256,hw2,↓alt_t,reduceCtorEq]
   (and_intros <;> try first|rfl|omega|(unfold I64;omega))
   refine jh (j + 1) _ (by omega) (by omega) ?_
   rw [Nat.pow_succ,← Nat.div_div_eq_div_mul]
   simp only [Int.natCast_add,Int.natCast_one]
   (refine Weak.of (by simp [hc0]) ?_ ?_ <;> (repeat' first|exact .refl _|exact .junk _|exact .nil|exact .nil _|exact .tok _ _ _|rfl|apply WkT.cons|apply WkH.cons|apply LeB.same|apply LeB.box|apply Le1L.cons|apply Le.agg|apply Le.one))
  ·obtain rfl : j = r := by omega
   have hjr' : ¬ (j : Int) < (j : Int) := by omega
   have hm := tmod256 (n / 256 ^ j)
   refine Rg Tryz.func75 ?_;simp only [go_sem,hjr',hm,↓alt_f,Nat.reduceLeDiff,Nat.reduceMul,Nat.reduceBEq,Nat.reduceLT]
   refine ⟨by decide,⟨by simp only [List.length_append,Ya,List.length_take,hbl];omega,by simp only [List.length_append,Ya,List.length_take,hbl];omega⟩,by unfold I64;omega,?_⟩
   refine ih (q + 1) _ (by omega) (by omega) ?_
   rw [htk]
   simp only [Int.natCast_add,Int.natCast_one,Ya,Y9,Yf,Ye,Y5,Yp,List.map_append,List.length_append,List.length_take,hbl,byteC,List.append_assoc,← hr',Int.sub_sub]
   (refine Weak.of (by simp [hc0]) ?_ ?_ <;> (repeat' first|exact .refl _|exact .junk _|exact .nil|exact .nil _|exact .tok _ _ _|rfl|apply WkT.cons|apply WkH.cons|apply LeB.same|apply LeB.box|apply Le1L.cons|apply Le.agg|apply Le.one))
 ·obtain rfl : q = k := by omega
  have h0 : ¬ (0 : Int) ≤ (q : Int) - 1 - q := by omega
  rw [show (be q n).take q = be q n from List.take_of_length_le (by rw [be_length];omega)]
  refine Rg Tryz.func75 ?_;simp only [go_sem,h0,↓alt_f]
  rw [hci]
  exact ⟨0,rfl,rfl⟩
theorem rint_spec (b : Bytes) (n : Int) (hb : b.length ≤ 1000000) (h1 : I64 n) : OSpec Tryz.prog 43 [bytesA b,.int .i64 n] 1 ((b ++ encN (zig n)).map byteC) := by
 have h1' := h1
 unfold I64 at h1'
 have hp := rput_spec b (zig n) hb (zig_lt n h1'.1 h1'.2)
 by_cases h0 : n < 0
 ·have e : IntKind.u64.wrap (IntKind.u64.wrap (2 * IntKind.u64.wrap (-(n + 1))) + 1) = (zig n : Int) := by
   rw [IntKind.wrap_u64,IntKind.wrap_u64,IntKind.wrap_u64]
   unfold zig
   rw [if_pos h0]
   omega
  refine ⟨⟨_,Tryz.func43,by kernel_rfl,rfl⟩,Sg Tryz.func43 rfl fun c0 hc0 => ?_⟩;simp only [go_sem,bytesA,h0,e,↓alt_t,Nat.reduceAdd,reduceCtorEq,Nat.reduceSub]
  (and_intros <;> try first|rfl|omega|(unfold I64;omega))
  refine Ops.own .free rfl rfl (hp) (by simp only [go_sem,bytesA];(repeat' first|exact .refl _|apply LeR.tup|apply Le.agg|constructor)) rfl ?_
  refine Og Tryz.func43 ?_;simp only [go_sem]
  exact ⟨0,rfl,by simp⟩
 ·have e : IntKind.u64.wrap (2 * IntKind.u64.wrap n) = (zig n : Int) := by
   rw [IntKind.wrap_u64,IntKind.wrap_u64]
   unfold zig
   rw [if_neg h0]
   omega
  refine ⟨⟨_,Tryz.func43,by kernel_rfl,rfl⟩,Sg Tryz.func43 rfl fun c0 hc0 => ?_⟩;simp only [go_sem,bytesA,h0,e,↓alt_f,Nat.reduceAdd,reduceCtorEq,Nat.reduceSub]
  (and_intros <;> try first|rfl|omega|(unfold I64;omega))
  refine Ops.own .free rfl rfl (hp) (by simp only [go_sem,bytesA];(repeat' first|exact .refl _|apply LeR.tup|apply Le.agg|constructor)) rfl ?_
  refine Og Tryz.func43 ?_;simp only [go_sem]
  exact ⟨0,rfl,by simp⟩
theorem rtext_spec (b s : Bytes) (hb : b.length ≤ 1000000) (h1 : s.length ≤ 1000000) : OSpec Tryz.prog 44 [bytesA b,.str s] 1 ((b ++ encT s).map byteC) := by
 have hp := rput_spec b s.length hb (by omega)
 have hw : IntKind.u64.wrap (s.length : Int) = s.length := wrap_nat s.length (by omega)
 have hl := encN_le s.length (by omega)
 have he : (b ++ encT s).map byteC = (b ++ encN s.length).map byteC ++ s.map byteC := by unfold encT;simp
 have hel : (b ++ encT s).length = (b ++ encN s.length).length + s.length := by unfold encT;simp;omega
 refine ⟨⟨_,Tryz.func44,by kernel_rfl,rfl⟩,Sg Tryz.func44 rfl fun c0 hc0 => ?_⟩;simp only [go_sem,bytesA,hw,Nat.reduceAdd,Nat.reduceSub]
 refine Ops.own .free rfl rfl (hp) (by simp only [go_sem,bytesA];(repeat' first|exact .refl _|apply LeR.tup|apply Le.agg|constructor)) rfl ?_
 refine Og Tryz.func44 ?_;simp only [go_sem]
 refine ⟨⟨by simp;omega,by simp;omega⟩,0,?_,?_⟩
 ·rw [he]
 ·rw [hel];rfl
theorem rlist_spec (b : Bytes) (l : List Bytes) (hb : b.length + tot l ≤ 900000) : ASpec Tryz.prog 76 [bytesA b,textsA l] (bytesA (b ++ encL l)) := by
 have htl := tot_length l
 have hp := (rput_spec b l.length (by omega) (by omega)).spec
 have hw : IntKind.u64.wrap (l.length : Int) = l.length := wrap_nat _ (by omega)
 have hnl := encN_le l.length (by omega)
 refine ⟨⟨_,Tryz.func76,by kernel_rfl,rfl⟩,Sg Tryz.func76 rfl fun c0 hc0 => ?_⟩;simp only [go_sem,bytesA,textsA,hw,Nat.reduceAdd,Nat.reduceSub]
 refine Ops.pure .free rfl rfl (hp) (by simp only [go_sem,bytesA];(repeat' first|exact .refl _|apply LeR.tup|apply Le.agg|constructor)) rfl rfl ?_
 refine Og Tryz.func76 ?_;simp only [go_sem]
 refine Run.loopV (α := Nat) (fun k => k ≤ l.length) (fun k => [(5,bytesA (b ++ encN l.length ++ encRow (l.take k))),(6,.int .i64 k)]) 0 (fun _ => []) (fun k => l.length - k) 0 (Nat.zero_le _) ?_ ?_
 ·simp only [go_sem,writes,junks,puts,hputs,List.filterMap_cons,List.filterMap_nil,bytesA,encRow,List.flatten_nil]
  (refine Weak.of (by simp [hc0]) ?_ ?_ <;> (repeat' first|exact .refl _|exact .junk _|exact .nil|exact .nil _|exact .tok _ _ _|rfl|apply WkT.cons|apply WkH.cons|apply LeB.same|apply LeB.box|apply Le1L.cons|apply Le.agg|apply Le.one))
 ·intro k hI ih
  simp only [writes,junks,puts,hputs,List.filterMap_cons,List.filterMap_nil,Y6,Y7,Yk,Y5,Y3,Yd] at ih ⊢
  by_cases hk : k < l.length
  ·obtain ⟨x,hx⟩ : ∃ x,l[k]? = some x := ⟨_,List.getElem?_eq_getElem hk⟩
   have hkk : (k : Int) < l.length := by omega
   have h1 := encRow_le (l.take k) (by have := tot_take l k;omega)
   have h2 := tot_take l k
   have h3 := tot_mem hx
   have hsn := encRow_succ l k x hx
   have hc := (rtext_spec (b ++ encN l.length ++ encRow (l.take k)) x (by simp only [List.length_append];omega) (by omega)).spec
   refine Rg Tryz.func76 ?_;simp only [go_sem,hx,hkk,bytesA,textC,List.getElem?_map,↓alt_t,Nat.reduceAdd,Nat.reduceLT]
   (and_intros <;> try first|rfl|omega|(unfold I64;omega))
   refine Ops.pure .free rfl rfl (hc) (by simp only [go_sem,bytesA];(repeat' first|exact .refl _|apply LeR.tup|apply Le.agg|constructor)) rfl rfl ?_
   refine Og Tryz.func76 ?_;simp only [go_sem]
   (and_intros <;> try first|rfl|omega|(unfold I64;omega))
   refine ih (k + 1) _ (by omega) (by omega) ?_
   rw [hsn,← List.append_assoc]
   simp only [Int.natCast_add,Int.natCast_one,bytesA]
   (refine Weak.of (by simp [hc0]) ?_ ?_ <;> (repeat' first|exact .refl _|exact .junk _|exact .nil|exact .nil _|exact .tok _ _ _|rfl|apply WkT.cons|apply WkH.cons|apply LeB.same|apply LeB.box|apply Le1L.cons|apply Le.agg|apply Le.one))
  ·obtain rfl : k = l.length := by omega
   have hkk : ¬ (l.length : Int) < l.length := by omega
   refine Rg Tryz.func76 ?_;simp only [go_sem,hkk,bytesA,↓alt_f]
   rw [List.take_length,List.append_assoc,← encL_row]
   (repeat' first|exact .refl _|apply LeR.tup|apply Le.agg|constructor)
end Go.Proofs.YtkamcoechjdgpaaGreat
