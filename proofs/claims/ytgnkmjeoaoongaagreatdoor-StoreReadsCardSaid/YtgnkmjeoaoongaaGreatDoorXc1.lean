/-
  SSt, WTakes.
-/
import Derived.Test.YtgnkmjeoaoongaaGreatDoorXc0
import Derived.Test.YtgnkmjeoaoongaaGreatDoorXb9
namespace Go.Proofs.YtgnkmjeoaoongaaGreatDoor
open Go.RowKit Go.Mer
structure Jt where
 seq:Int
 m:Int
 c:Int
structure J7 where
 Xu:Nat
 n:Nat
 dead:Bool
 keys:List (ByteArray×List Qf)
 mm:Int
 mc:Int
 of:List Jt
 kept:List Qx
def Qp (of:List Jt) (i:Nat):Jt:=of.getD i ⟨0,0,0⟩
def Qi (l:List (ByteArray×List Qf)) (k:ByteArray):List Qf:=(Qo l k).getD []
def Jn:List (ByteArray×List Qf)->ByteArray->List Qf->List (ByteArray×List Qf)
 |[],k,c=>[(k,c)]
 |x::r,k,c=>if Ug x.1 k then x::Jn r k c else if x.1=k then (k,c)::r else (k,c)::x::r
abbrev Je (l:List (ByteArray×List Qf)):Prop:=l.Pairwise λx y=>Ug x.1 y.1
theorem Q67 {l:List (ByteArray×List Qf)} {k:ByteArray} {c:List Qf} {p:ByteArray×List Qf} (h:p∈Jn l k c):p=(k,c)\/p∈l:=by
 induction l with
 |nil=>exact .inl (List.mem_singleton.1 h)
 |cons x r ih=>
  rw [Jn] at h;split at h
  ·rcases List.mem_cons.1 h with rfl|h
   ·exact .inr (List.mem_cons_self ..)
   ·exact (ih h).imp id (List.mem_cons_of_mem _)
  ·split at h
   ·rcases List.mem_cons.1 h with rfl|h
    ·exact .inl rfl
    ·exact .inr (List.mem_cons_of_mem _ h)
   ·rcases List.mem_cons.1 h with rfl|h
    ·exact .inl rfl
    ·exact .inr h
theorem Zs {l:List (ByteArray×List Qf)} (hs:Je l) (k:ByteArray) (c:List Qf):Je (Jn l k c):=by
 induction l with
 |nil=>exact List.pairwise_singleton _ _
 |cons x r ih=>
  obtain ⟨h1,h2⟩:=List.pairwise_cons.1 hs;rw [Jn];split
  ·next hx=>
   refine List.pairwise_cons.2 ⟨λp hp=>?_,ih h2⟩;rcases Q67 hp with rfl|hp
   ·exact hx
   ·exact h1 p hp
  ·next hx=>
   split
   ·next he=>
    refine List.pairwise_cons.2 ⟨λp hp=>?_,h2⟩;have:=h1 p hp;rw [he] at this;exact this
   ·next he=>
    have hk:Ug k x.1:=by
     rcases Cd x.1 k with h|h|h
     ·exact absurd h hx
     ·exact absurd h he
     ·exact h
    refine List.pairwise_cons.2 ⟨λp hp=>?_,hs⟩;rcases List.mem_cons.1 hp with rfl|hp
    ·exact hk
    ·exact U5 hk (h1 p hp)
theorem Jz (x:ByteArray×List Qf) (r:List (ByteArray×List Qf)) (k:ByteArray):Qo (x::r) k=if x.1=k then some x.2 else Qo r k:=by
 unfold Qo;rw [List.find?_cons];by_cases h:x.1=k
 ·simp [h]
 ·simp [h]
theorem Je.gone {x:ByteArray×List Qf} {r:List (ByteArray×List Qf)} (hs:Je (x::r)) {k:ByteArray} (h:Ug k x.1\/k=x.1):Qo r k=none:=Ya (by
 intro hk;obtain ⟨p,hp,rfl⟩:=List.mem_map.1 hk;have:=(List.pairwise_cons.1 hs).1 p hp;rcases h with h|h
 ·exact J5 _ (U5 this h)
 ·rw [h] at this;exact J5 _ this)
theorem Gi {l:List (ByteArray×List Qf)} (hs:Je l) (k:ByteArray) (c:List Qf) (q:ByteArray):Qo (Jn l k c) q=if k=q then some c else Qo l q:=by
 induction l with
 |nil=>rw [Jn,Jz]
 |cons x r ih=>
  have h2:=(List.pairwise_cons.1 hs).2;rw [Jn];split
  ·next hx=>
   rw [Jz,Jz,ih h2];by_cases hq:x.1=q
   ·rw [if_pos hq,if_pos hq];rw [if_neg];intro hk;rw [hq,hk] at hx;exact J5 _ hx
   ·rw [if_neg hq,if_neg hq]
  ·next hx=>
   split
   ·next he=>
    rw [Jz,Jz];by_cases hq:k=q
    ·rw [if_pos hq,if_pos hq]
    ·rw [if_neg hq,if_neg hq,if_neg (λh=>hq (he.symm.trans h))]
   ·rw [Jz]
theorem Q2b {l:List (ByteArray×List Qf)} (hs:Je l) {k:ByteArray} {c:List Qf}:Qo l k=some c↔(k,c)∈l:=by
 refine ⟨Qw,λh=>Xj ?_ h⟩;refine List.pairwise_map.2 (hs.imp λ{a b} h e=>?_);rw [e] at h;exact J5 _ h
def F7 (mm mc:Int) (of:List Jt) (r:Qx):Bool:=
 decide (r.seq=(Qp of r.o.toNat).seq+1)&&(Z6 (Qp of r.o.toNat).m (Qp of r.o.toNat).c r.v.m r.v.c&&Z6 mm mc r.v.m r.v.c)
def Jx (of:List Jt) (r:Qx):List Jt:=of.set r.o.toNat ⟨r.seq,r.v.m,r.v.c⟩
def X5 (mm mc:Int):List Jt->List Qx->Bool
 |_,[]=>true
 |of,r::l=>F7 mm mc of r&&X5 mm mc (Jx of r) l
def Fk (st:J7) (l:List Qx):Nat:=if 64<l.length then 5 else if l.all Jv=false then 1 else if X5 st.mm st.mc st.of l=true then 0 else 12
def Gq (o:Nat) (st:J7) (r:Qx):J7:=
 {st with
  keys:=Jn st.keys r.key (Yd (Qi st.keys r.key) r.v)
  of:=Jx st.of r
  kept:=if r.o=o then st.kept++[r] else st.kept}
def Jf (o:Nat) (st:J7) (l:List Qx):J7:=l.foldl (Gq o) st
def Fi (l:List (ByteArray×List Qf)) (m c:Int):List (ByteArray×List Qf):=(l.map λp=>(p.1,Zl p.2 m c)).filter λp=>decide (p.2≠[])
def Fc (st:J7) (m c:Int):J7:={st with keys:=Fi st.keys m c,mm:=m,mc:=c}
def Fb (st:J7) (m c:Int):Nat:=(st.keys.map λp=>Jb p.2 m c).sum
structure Inv (o:Nat) (st:J7):Prop where
 own:o<5
 Qlz:st.of.length=5
 done: ∀d∈st.of,0<=d.seq/\d.seq<=1099511627776/\Jp d.m d.c=true
 mark:Jp st.mm st.mc=true
 sorted:Je st.keys
 keys: ∀p∈st.keys,1<=p.1.size/\p.1.size<=64/\p.2≠[]/\Li p.2/\ ∀v∈p.2,Zx v=true/\Z6 (Qp st.of v.o.toNat).m (Qp st.of v.o.toNat).c v.m v.c=false
 kept: ∀(i:Nat) (h:i<st.kept.length),Jv st.kept[i]=true/\st.kept[i].o=(o:Int)/\st.kept[i].seq+((st.kept.length-1-i:Nat):Int)=(Qp st.of o).seq
def X0:J7:=⟨0,0,false,[],0,0,List.replicate 5 ⟨0,0,0⟩,[]⟩
theorem Da {o:Nat} (ho:o<5):Inv o X0:=
 ⟨ho,rfl,λd hd=>by rw [(List.mem_replicate.1 hd).2];exact ⟨Int.le_refl _,by decide,by decide⟩,by decide,List.Pairwise.nil,λp hp=>absurd hp List.not_mem_nil,λi h=>absurd h (Nat.not_lt_zero _)⟩
theorem Ea {of:List Jt} {i:Nat} (hi:i<of.length) (d:Jt) (j:Nat):Qp (of.set i d) j=if i=j then d else Qp of j:=by
 unfold Qp;rw [List.getD_eq_getElem?_getD,List.getD_eq_getElem?_getD,List.getElem?_set];split
 ·try rw [if_pos hi]
  rfl
 ·rfl
theorem Gz {o:Nat} {st:J7} (h:Inv o st) (k:ByteArray):Li (Qi st.keys k)/\ ∀v∈Qi st.keys k,Zx v=true/\Z6 (Qp st.of v.o.toNat).m (Qp st.of v.o.toNat).c v.m v.c=false:=by
 unfold Qi;cases hk:Qo st.keys k with
 |none=>exact ⟨List.Pairwise.nil,λv hv=>absurd hv List.not_mem_nil⟩
 |some c=>
  have:=h.keys _ (Qw hk);exact ⟨this.2.2.2.1,this.2.2.2.2⟩
theorem Ca {o:Nat} {st:J7} (h:Inv o st) {r:Qx} (hr:Jv r=true) (hs:F7 st.mm st.mc st.of r=true):Yu (Qi st.keys r.key) r.v=false:=by
 obtain ⟨_,h2⟩:=Gz h r.key;refine Qcc λx hx hh=>?_;have h3:=(h2 x hx).2;have e:=(Yw.1 hr).2.1;unfold F7 at hs;rw [Bool.and_eq_true,Bool.and_eq_true] at hs;have h4:=hs.2.1;rw [hh.2.2,e,hh.1,hh.2.1] at h3;rw [h3] at h4;cases h4
theorem Qab {o:Nat} {st:J7} (h:Inv o st) {r:Qx} (hr:Jv r=true) (hs:F7 st.mm st.mc st.of r=true):Inv o (Gq o st r):=by
 have hhas:=Ca h hr hs;obtain ⟨hc1,hc2⟩:=Gz h r.key;obtain ⟨hv,e1,q1,q2,k1,k2⟩:=Yw.1 hr;obtain ⟨⟨m1,m2,c1,c2⟩,o1,o2,_⟩:=Zo.1 hv;have ho:r.o.toNat<st.of.length:=by rw [h.Qlz,<-e1];omega
 have hst:Jp r.v.m r.v.c=true:=Zh.2 ⟨m1,m2,c1,c2⟩;unfold F7 at hs;rw [Bool.and_eq_true,Bool.and_eq_true,decide_eq_true_iff] at hs;obtain ⟨s1,s2,_⟩:=hs;have hof: ∀j,Qp (Jx st.of r) j=if r.o.toNat=j then ⟨r.seq,r.v.m,r.v.c⟩ else Qp st.of j:=λj=>Ea ho _ j
 have hup: ∀v:Qf,Z6 (Qp st.of v.o.toNat).m (Qp st.of v.o.toNat).c v.m v.c=false->Z6 (Qp (Jx st.of r) v.o.toNat).m (Qp (Jx st.of r) v.o.toNat).c v.m v.c=false:=λv hv=>by
  rw [hof];split
  ·next he=>
   rw [<-he] at hv;show Z6 r.v.m r.v.c v.m v.c=false
   rw [Ed] at hv⊢;rw [L6] at s2;omega
  ·exact hv
 refine ⟨h.own,by show (Jx st.of r).length=5;unfold Jx;rw [List.length_set];exact h.Qlz,λd hd=>?_,h.mark,Zs h.sorted _ _,λp hp=>?_,λi hi=>?_⟩
 ·rcases List.mem_or_eq_of_mem_set hd with hd|rfl
  ·exact h.done d hd
  ·exact ⟨by show 0<=r.seq;omega,q2,hst⟩
 ·rcases Q67 hp with rfl|hp
  ·refine ⟨k1,k2,λhn=>?_,On hc1 hhas,λv hv=>?_⟩
   ·have:=Va (Qi st.keys r.key) r.v;have hn:Yd (Qi st.keys r.key) r.v=[]:=hn;rw [hn] at this;cases this
   ·rcases Q5w.1 hv with rfl|hv
    ·refine ⟨‹Zx _=true›,?_⟩;show Z6 (Qp (Jx st.of r) r.v.o.toNat).m (Qp (Jx st.of r) r.v.o.toNat).c r.v.m r.v.c=false
     rw [hof,if_pos (by rw [e1])];exact Ed.2 (show ¬(r.v.m<r.v.m\/(r.v.m=r.v.m/\r.v.c<r.v.c)) by omega)
    ·exact ⟨(hc2 v hv).1,hup v (hc2 v hv).2⟩
  ·obtain ⟨g1,g2,g3,g4,g5⟩:=h.keys p hp;exact ⟨g1,g2,g3,g4,λv hv=>⟨(g5 v hv).1,hup v (g5 v hv).2⟩⟩
 ·have hown:((Qp (Jx st.of r) o).seq=if r.o=(o:Int) then r.seq else (Qp st.of o).seq):=by
   rw [hof];by_cases he:r.o=(o:Int)
   ·rw [if_pos (by omega),if_pos he]
   ·rw [if_neg (by omega),if_neg he]
  show Jv (if r.o=(o:Int) then st.kept++[r] else st.kept)[i]=true/\_
  revert hi
  show ∀hi:i<(if r.o=(o:Int) then st.kept++[r] else st.kept).length,Jv (if r.o=(o:Int) then st.kept++[r] else st.kept)[i]=true/\(if r.o=(o:Int) then st.kept++[r] else st.kept)[i].o=(o:Int)/\(if r.o=(o:Int) then st.kept++[r] else st.kept)[i].seq+(((if r.o=(o:Int) then st.kept++[r] else st.kept).length-1-i:Nat):Int)=(Qp (Jx st.of r) o).seq
  rw [hown];by_cases he:r.o=(o:Int)
  ·simp only [if_pos he];intro hi;rw [List.length_append,List.length_singleton] at hi;rcases Nat.lt_or_ge i st.kept.length with hlt|hge
   ·obtain ⟨g1,g2,g3⟩:=h.kept i hlt;rw [List.getElem_append_left hlt,List.length_append,List.length_singleton];refine ⟨g1,g2,?_⟩;have hto:r.o.toNat=o:=by omega
    rw [hto] at s1;omega
   ·obtain rfl:i=st.kept.length:=by omega
    simp only [List.getElem_append_right (Nat.le_refl _),Nat.sub_self,List.getElem_singleton,List.length_append,List.length_singleton];exact ⟨hr,he,by omega⟩
  ·simp only [if_neg he];exact λhi=>h.kept i hi
theorem Q51 {o:Nat}: ∀(l:List Qx) {st:J7},Inv o st->(∀r∈l,Jv r=true)->X5 st.mm st.mc st.of l=true->Inv o (Jf o st l):=by
 intro l;induction l with
 |nil=>intro st h _ _;exact h
 |cons r l ih=>
  intro st h hr hm;rw [X5,Bool.and_eq_true] at hm;exact ih (Qab h (hr r (List.mem_cons_self ..)) hm.1) (λx hx=>hr x (List.mem_cons_of_mem _ hx)) hm.2
theorem Qai {st:J7} {l:List Qx} (h:Fk st l=0):l.length<=64/\(∀r∈l,Jv r=true)/\X5 st.mm st.mc st.of l=true:=by
 unfold Fk at h;split at h
 ·cases h
 ·split at h
  ·cases h
  ·next h64 ha=>
   split at h
   ·next hm=>
    refine ⟨by omega,λr hr=>?_,hm⟩;exact List.all_eq_true.1 (by simpa using ha) r hr
   ·cases h
theorem Qac {o:Nat} {st:J7} (h:Inv o st) {l:List Qx} (hm:Fk st l=0):Inv o (Jf o st l):=by
 obtain ⟨_,h2,h3⟩:=Qai hm;exact Q51 l h h2 h3
theorem Q1q {l:List (ByteArray×List Qf)} {m c:Int} {p:ByteArray×List Qf} (h:p∈Fi l m c):p.2≠[]/\ ∃q∈l,p=(q.1,Zl q.2 m c):=by
 unfold Fi at h;obtain ⟨h1,h2⟩:=List.mem_filter.1 h;obtain ⟨q,hq,rfl⟩:=List.mem_map.1 h1;exact ⟨of_decide_eq_true h2,q,hq,rfl⟩
theorem Qbz {o:Nat} {st:J7} (h:Inv o st) {m c:Int} (hm:Jp m c=true):Inv o (Fc st m c):=by
 refine ⟨h.own,h.Qlz,h.done,hm,?_,λp hp=>?_,h.kept⟩
 ·show Je (Fi st.keys m c)
  exact List.Pairwise.filter _ (List.pairwise_map.2 h.sorted)
 ·obtain ⟨h1,q,hq,rfl⟩:=Q1q hp;obtain ⟨g1,g2,_,g4,g5⟩:=h.keys q hq;exact ⟨g1,g2,h1,Q3a m c g4,λv hv=>g5 v (Qcy hv)⟩
end Go.Proofs.YtgnkmjeoaoongaaGreatDoor
