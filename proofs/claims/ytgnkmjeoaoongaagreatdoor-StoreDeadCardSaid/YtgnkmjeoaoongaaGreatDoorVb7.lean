/- store -/
import Derived.Test.YtgnkmjeoaoongaaGreatDoorVb5
import Derived.Test.YtgnkmjeoaoongaaGreatDoorVb6
set_option maxRecDepth 100000
set_option maxHeartbeats 1000000
namespace Go.Proofs.YtgnkmjeoaoongaaGreatDoor
open Go.RowKit Go.Mer
structure Z1 where
 seq:Int
 m:Int
 c:Int
structure Ja where
 Zc:Nat
 n:Nat
 dead:Bool
 keys:List (ByteArray×List Qo)
 mm:Int
 mc:Int
 of:List Z1
 kept:List Qu
def Qn (of:List Z1) (i:Nat):Z1:=of.getD i ⟨0,0,0⟩
def Qw (l:List (ByteArray×List Qo)) (k:ByteArray):List Qo:=(Qs l k).getD []
def Z3:List (ByteArray×List Qo)->ByteArray->List Qo->List (ByteArray×List Qo)
 |[],k,c=>[(k,c)]
 |x::r,k,c=>if Uf x.1 k then x::Z3 r k c else if x.1=k then (k,c)::r else (k,c)::x::r
abbrev Yy (l:List (ByteArray×List Qo)):Prop:=l.Pairwise λx y=>Uf x.1 y.1
theorem Q98 {l:List (ByteArray×List Qo)} {k:ByteArray} {c:List Qo} {p:ByteArray×List Qo} (h:p∈Z3 l k c):p=(k,c)\/p∈l:=by
 induction l with
 |nil=>exact .inl (List.mem_singleton.1 h)
 |cons x r ih=>
  rw [Z3] at h;split at h
  ·rcases List.mem_cons.1 h with rfl|h
   ·exact .inr (List.mem_cons_self ..)
   ·exact (ih h).imp id (List.mem_cons_of_mem _)
  ·split at h
   ·rcases List.mem_cons.1 h with rfl|h
    ·exact .inl rfl
    ·exact .inr (List.mem_cons_of_mem _ h)
   ·rcases List.mem_cons.1 h with rfl|h
    ·exact .inl rfl
    ·exact .inr h
theorem Yc {l:List (ByteArray×List Qo)} (hs:Yy l) (k:ByteArray) (c:List Qo):Yy (Z3 l k c):=by
 induction l with
 |nil=>exact List.pairwise_singleton _ _
 |cons x r ih=>
  obtain ⟨h1,h2⟩:=List.pairwise_cons.1 hs;rw [Z3];split
  ·next hx=>
   refine List.pairwise_cons.2 ⟨λp hp=>?_,ih h2⟩;rcases Q98 hp with rfl|hp
   ·exact hx
   ·exact h1 p hp
  ·next hx=>
   split
   ·next he=>
    refine List.pairwise_cons.2 ⟨λp hp=>?_,h2⟩;have:=h1 p hp;rw [he] at this;exact this
   ·next he=>
    have hk:Uf k x.1:=by
     rcases Ad x.1 k with h|h|h
     ·exact absurd h hx
     ·exact absurd h he
     ·exact h
    refine List.pairwise_cons.2 ⟨λp hp=>?_,hs⟩;rcases List.mem_cons.1 hp with rfl|hp
    ·exact hk
    ·exact Us hk (h1 p hp)
theorem Up (x:ByteArray×List Qo) (r:List (ByteArray×List Qo)) (k:ByteArray):Qs (x::r) k=if x.1=k then some x.2 else Qs r k:=by
 unfold Qs;rw [List.find?_cons];by_cases h:x.1=k
 ·simp [h]
 ·simp [h]
theorem Yy.gone {x:ByteArray×List Qo} {r:List (ByteArray×List Qo)} (hs:Yy (x::r)) {k:ByteArray} (h:Uf k x.1\/k=x.1):Qs r k=none:=Xu (by
 intro hk;obtain ⟨p,hp,rfl⟩:=List.mem_map.1 hk;have:=(List.pairwise_cons.1 hs).1 p hp;rcases h with h|h
 ·exact Jr _ (Us this h)
 ·rw [h] at this;exact Jr _ this)
theorem Nk {l:List (ByteArray×List Qo)} (hs:Yy l) (k:ByteArray) (c:List Qo) (q:ByteArray):Qs (Z3 l k c) q=if k=q then some c else Qs l q:=by
 induction l with
 |nil=>rw [Z3,Up]
 |cons x r ih=>
  have h2:=(List.pairwise_cons.1 hs).2;rw [Z3];split
  ·next hx=>
   rw [Up,Up,ih h2];by_cases hq:x.1=q
   ·rw [if_pos hq,if_pos hq];rw [if_neg];intro hk;rw [hq,hk] at hx;exact Jr _ hx
   ·rw [if_neg hq,if_neg hq]
  ·next hx=>
   split
   ·next he=>
    rw [Up,Up];by_cases hq:k=q
    ·rw [if_pos hq,if_pos hq]
    ·rw [if_neg hq,if_neg hq,if_neg (λh=>hq (he.symm.trans h))]
   ·rw [Up]
def Uv (mm mc:Int) (of:List Z1) (r:Qu):Bool:=
 decide (r.seq=(Qn of r.o.toNat).seq+1)&&(Zq (Qn of r.o.toNat).m (Qn of r.o.toNat).c r.v.m r.v.c&&Zq mm mc r.v.m r.v.c)
def Z2 (of:List Z1) (r:Qu):List Z1:=of.set r.o.toNat ⟨r.seq,r.v.m,r.v.c⟩
def Xx (mm mc:Int):List Z1->List Qu->Bool
 |_,[]=>true
 |of,r::l=>Uv mm mc of r&&Xx mm mc (Z2 of r) l
def V7 (st:Ja) (l:List Qu):Nat:=if 64<l.length then 5 else if l.all Z4=false then 1 else if Xx st.mm st.mc st.of l=true then 0 else 12
def E7 (o:Nat) (st:Ja) (r:Qu):Ja:=
 {st with
  keys:=Z3 st.keys r.key (E0 (Qw st.keys r.key) r.v)
  of:=Z2 st.of r
  kept:=if r.o=o then st.kept++[r] else st.kept}
def Jh (o:Nat) (st:Ja) (l:List Qu):Ja:=l.foldl (E7 o) st
def J3e (l:List (ByteArray×List Qo)) (m c:Int):List (ByteArray×List Qo):=(l.map λp=>(p.1,J3d p.2 m c)).filter λp=>decide (p.2≠[])
def Qwu (st:Ja) (m c:Int):Ja:={st with keys:=J3e st.keys m c,mm:=m,mc:=c}
def Xg (st:Ja) (u:Int):Ja:={st with kept:=st.kept.filter λr=>decide (u<r.seq)}
structure Inv (o:Nat) (st:Ja):Prop where
 own:o<5
 Qoe:st.of.length=5
 done: ∀d∈st.of,0<=d.seq/\d.seq<=1099511627776/\Za d.m d.c=true
 mark:Za st.mm st.mc=true
 sorted:Yy st.keys
 keys: ∀p∈st.keys,1<=p.1.size/\p.1.size<=64/\p.2≠[]/\Q45 p.2/\ ∀v∈p.2,X8 v=true/\Zq (Qn st.of v.o.toNat).m (Qn st.of v.o.toNat).c v.m v.c=false
 kept: ∀(i:Nat) (h:i<st.kept.length),Z4 st.kept[i]=true/\st.kept[i].o=(o:Int)/\st.kept[i].seq+((st.kept.length-1-i:Nat):Int)=(Qn st.of o).seq
def Er:Ja:=⟨0,0,false,[],0,0,List.replicate 5 ⟨0,0,0⟩,[]⟩
theorem A9 {o:Nat} (ho:o<5):Inv o Er:=
 ⟨ho,rfl,λd hd=>by rw [(List.mem_replicate.1 hd).2];exact ⟨Int.le_refl _,by decide,by decide⟩,by decide,List.Pairwise.nil,λp hp=>absurd hp List.not_mem_nil,λi h=>absurd h (Nat.not_lt_zero _)⟩
theorem Fm {of:List Z1} {i:Nat} (hi:i<of.length) (d:Z1) (j:Nat):Qn (of.set i d) j=if i=j then d else Qn of j:=by
 unfold Qn;rw [List.getD_eq_getElem?_getD,List.getD_eq_getElem?_getD,List.getElem?_set];split
 ·try rw [if_pos hi]
  rfl
 ·rfl
theorem O2 {o:Nat} {st:Ja} (h:Inv o st) (k:ByteArray):Q45 (Qw st.keys k)/\ ∀v∈Qw st.keys k,X8 v=true/\Zq (Qn st.of v.o.toNat).m (Qn st.of v.o.toNat).c v.m v.c=false:=by
 unfold Qw;cases hk:Qs st.keys k with
 |none=>exact ⟨List.Pairwise.nil,λv hv=>absurd hv List.not_mem_nil⟩
 |some c=>
  have:=h.keys _ (Jc hk);exact ⟨this.2.2.2.1,this.2.2.2.2⟩
theorem Q57 {o:Nat} {st:Ja} (h:Inv o st) {r:Qu} (hr:Z4 r=true) (hs:Uv st.mm st.mc st.of r=true):V8 (Qw st.keys r.key) r.v=false:=by
 obtain ⟨_,h2⟩:=O2 h r.key;refine Qgj λx hx hh=>?_;have h3:=(h2 x hx).2;have e:=(Y9.1 hr).2.1;unfold Uv at hs;rw [Bool.and_eq_true,Bool.and_eq_true] at hs;have h4:=hs.2.1;rw [hh.2.2,e,hh.1,hh.2.1] at h3;rw [h3] at h4;cases h4
theorem Qqg {o:Nat} {st:Ja} (h:Inv o st) {r:Qu} (hr:Z4 r=true) (hs:Uv st.mm st.mc st.of r=true):Inv o (E7 o st r):=by
 have hhas:=Q57 h hr hs;obtain ⟨hc1,hc2⟩:=O2 h r.key;obtain ⟨hv,e1,q1,q2,k1,k2⟩:=Y9.1 hr;obtain ⟨⟨m1,m2,c1,c2⟩,o1,o2,_⟩:=Zi.1 hv;have ho:r.o.toNat<st.of.length:=by rw [h.Qoe,<-e1];omega
 have hst:Za r.v.m r.v.c=true:=Zw.2 ⟨m1,m2,c1,c2⟩;unfold Uv at hs;rw [Bool.and_eq_true,Bool.and_eq_true,decide_eq_true_iff] at hs;obtain ⟨s1,s2,_⟩:=hs;have hof: ∀j,Qn (Z2 st.of r) j=if r.o.toNat=j then ⟨r.seq,r.v.m,r.v.c⟩ else Qn st.of j:=λj=>Fm ho _ j
 have hup: ∀v:Qo,Zq (Qn st.of v.o.toNat).m (Qn st.of v.o.toNat).c v.m v.c=false->Zq (Qn (Z2 st.of r) v.o.toNat).m (Qn (Z2 st.of r) v.o.toNat).c v.m v.c=false:=λv hv=>by
  rw [hof];split
  ·next he=>
   rw [<-he] at hv;show Zq r.v.m r.v.c v.m v.c=false
   rw [Hd] at hv⊢;rw [Kn] at s2;omega
  ·exact hv
 refine ⟨h.own,by show (Z2 st.of r).length=5;unfold Z2;rw [List.length_set];exact h.Qoe,λd hd=>?_,h.mark,Yc h.sorted _ _,λp hp=>?_,λi hi=>?_⟩
 ·rcases List.mem_or_eq_of_mem_set hd with hd|rfl
  ·exact h.done d hd
  ·exact ⟨by show 0<=r.seq;omega,q2,hst⟩
 ·rcases Q98 hp with rfl|hp
  ·refine ⟨k1,k2,λhn=>?_,Q8m hc1 hhas,λv hv=>?_⟩
   ·have:=Fp (Qw st.keys r.key) r.v;have hn:E0 (Qw st.keys r.key) r.v=[]:=hn;rw [hn] at this;cases this
   ·rcases Qmj.1 hv with rfl|hv
    ·refine ⟨‹X8 _=true›,?_⟩;show Zq (Qn (Z2 st.of r) r.v.o.toNat).m (Qn (Z2 st.of r) r.v.o.toNat).c r.v.m r.v.c=false
     rw [hof,if_pos (by rw [e1])];exact Hd.2 (show ¬(r.v.m<r.v.m\/(r.v.m=r.v.m/\r.v.c<r.v.c)) by omega)
    ·exact ⟨(hc2 v hv).1,hup v (hc2 v hv).2⟩
  ·obtain ⟨g1,g2,g3,g4,g5⟩:=h.keys p hp;exact ⟨g1,g2,g3,g4,λv hv=>⟨(g5 v hv).1,hup v (g5 v hv).2⟩⟩
 ·have hown:((Qn (Z2 st.of r) o).seq=if r.o=(o:Int) then r.seq else (Qn st.of o).seq):=by
   rw [hof];by_cases he:r.o=(o:Int)
   ·rw [if_pos (by omega),if_pos he]
   ·rw [if_neg (by omega),if_neg he]
  show Z4 (if r.o=(o:Int) then st.kept++[r] else st.kept)[i]=true/\_
  revert hi
  show ∀hi:i<(if r.o=(o:Int) then st.kept++[r] else st.kept).length,Z4 (if r.o=(o:Int) then st.kept++[r] else st.kept)[i]=true/\(if r.o=(o:Int) then st.kept++[r] else st.kept)[i].o=(o:Int)/\(if r.o=(o:Int) then st.kept++[r] else st.kept)[i].seq+(((if r.o=(o:Int) then st.kept++[r] else st.kept).length-1-i:Nat):Int)=(Qn (Z2 st.of r) o).seq
  rw [hown];by_cases he:r.o=(o:Int)
  ·simp only [if_pos he];intro hi;rw [List.length_append,List.length_singleton] at hi;rcases Nat.lt_or_ge i st.kept.length with hlt|hge
   ·obtain ⟨g1,g2,g3⟩:=h.kept i hlt;rw [List.getElem_append_left hlt,List.length_append,List.length_singleton];refine ⟨g1,g2,?_⟩;have hto:r.o.toNat=o:=by omega
    rw [hto] at s1;omega
   ·obtain rfl:i=st.kept.length:=by omega
    simp only [List.getElem_append_right (Nat.le_refl _),Nat.sub_self,List.getElem_singleton,List.length_append,List.length_singleton];exact ⟨hr,he,by omega⟩
  ·simp only [if_neg he];exact λhi=>h.kept i hi
theorem Q7o {o:Nat}: ∀(l:List Qu) {st:Ja},Inv o st->(∀r∈l,Z4 r=true)->Xx st.mm st.mc st.of l=true->Inv o (Jh o st l):=by
 intro l;induction l with
 |nil=>intro st h _ _;exact h
 |cons r l ih=>
  intro st h hr hm;rw [Xx,Bool.and_eq_true] at hm;exact ih (Qqg h (hr r (List.mem_cons_self ..)) hm.1) (λx hx=>hr x (List.mem_cons_of_mem _ hx)) hm.2
theorem Ik {st:Ja} {l:List Qu} (h:V7 st l=0):l.length<=64/\(∀r∈l,Z4 r=true)/\Xx st.mm st.mc st.of l=true:=by
 unfold V7 at h;split at h
 ·cases h
 ·split at h
  ·cases h
  ·next h64 ha=>
   split at h
   ·next hm=>
    refine ⟨by omega,λr hr=>?_,hm⟩;exact List.all_eq_true.1 (by simpa using ha) r hr
   ·cases h
theorem Q52 {o:Nat} {st:Ja} (h:Inv o st) {l:List Qu} (hm:V7 st l=0):Inv o (Jh o st l):=by
 obtain ⟨_,h2,h3⟩:=Ik hm;exact Q7o l h h2 h3
theorem Qgc {N:List ByteArray} {ss:List (List UInt8)} {fs:Jl} (hN:N.Pairwise Uf) (hp:N.Perm (fs.map (·.1))) (hs:ss.Perm (fs.map (·.1.data.toList))):Xy ss=N:=by
 have h1:(ss.mergeSort λx y=>decide (x<=y))=N.map (·.data.toList):=by
  refine List.Perm.eq_of_pairwise (le:=λa b:List UInt8=>a<=b) (λa b _ _ h1 h2=>List.le_antisymm h1 h2) ?_ ?_ ?_
  ·have:=List.pairwise_mergeSort (le:=λx y:List UInt8=>decide (x<=y)) (λa b c h1 h2=>decide_eq_true (List.le_trans (of_decide_eq_true h1) (of_decide_eq_true h2))) (λa b=>by
    rcases List.le_total a b with h|h<;>simp [h]) ss
   exact this.imp λh=>of_decide_eq_true h
  ·exact List.pairwise_map.2 (hN.imp λh=>List.le_of_lt h)
  ·refine (List.mergeSort_perm _ _).trans (hs.trans ?_);have h2:=hp.symm.map (·.data.toList);rwa [List.map_map] at h2
 unfold Xy;rw [h1,List.map_map]
 have h3:((λb:List UInt8=>(⟨b.toArray⟩:ByteArray))∘λx:ByteArray=>x.data.toList)=id:=by
  funext x
  rfl
 rw [h3,List.map_id]
def Xs (l:Jl):Prop:= ∀p∈l,Jq p.1=true
theorem Yv {i u X:Nat} (_hi:i<=9) (hu:u<128^i) (_hX:X<256) (h9:i=9->X<2): ∃v y z:Nat,v=X % 128/\y=v*128^i/\z=u+y/\z<128^(i+1)/\z<18446744073709551616/\bits .and .u8 (X:Int) 127=(v:Int)/\IntKind.u64.wrap (v:Int)=(v:Int)/\IntKind.u64.wrap ((v:Int)*2^(7*i))=(y:Int)/\bits .or .u64 (u:Int) (y:Int)=(z:Int):=by
 have hp:128^i=2^(7*i):=by rw [show (128:Nat)=2^7 from rfl,<-Nat.pow_mul]
 have Jgx:(128:Nat)^9=9223372036854775808:=by decide
 have hs:128^(i+1)=128*128^i:=by rw [Nat.pow_succ,Nat.mul_comm]
 have hy:X % 128*128^i<=127*128^i:=Nat.mul_le_mul_right _ (by omega)
 have hlt:u+X % 128*128^i<18446744073709551616:=by
  rcases Nat.lt_or_ge i 9 with h|h
  ·have hpm:128^(i+1)<=128^9:=Nat.pow_le_pow_right (by decide) (by omega);omega
  ·obtain rfl:i=9:=by omega
   have hx:=h9 rfl;rw [Jgx] at hu⊢;rw [Nat.mod_eq_of_lt (by omega)];omega
 have h64:(2:Nat)^64=18446744073709551616:=by decide
 refine ⟨X % 128,X % 128*128^i,u+X % 128*128^i,rfl,rfl,rfl,by omega,hlt,?_,?_,?_,?_⟩
 ·have:=Lx (k:= .u8) rfl (a:=X) (b:=127) (show X<2^8 by omega) (by decide);rw [show (127:Nat)=2^7-1 from rfl,Nat.and_two_pow_sub_one_eq_mod X 7] at this;exact this
 ·exact Mer.wrap_small (k:= .u64) rfl (show X % 128<2^64 by omega)
 ·have e:((X % 128:Nat):Int)*2^(7*i)=((X % 128*128^i:Nat):Int):=by
   rw [hp,Int.natCast_mul,Int.natCast_pow];rfl
  rw [e];exact Mer.wrap_small (k:= .u64) rfl (show X % 128*128^i<2^64 by omega)
 ·rw [Q4d (k:= .u64) rfl (show u<2^64 by omega) (show X % 128*128^i<2^64 by omega),hp,Qwl u (7*i) (X % 128) (by rw [<-hp];exact hu)]
def Mq (o:Nat) (q:Int) (l:List Qu):Prop:= ∀(i:Nat) (h:i<l.length),Z4 l[i]=true/\l[i].o=(o:Int)/\l[i].seq+((l.length-1-i:Nat):Int)=q
theorem Mq.tail {o:Nat} {q:Int} {x:Qu} {l:List Qu} (h:Mq o q (x::l)):Mq o q l:=λi hi=>by
 have h1:=h (i+1) (Nat.succ_lt_succ hi);simp only [List.getElem_cons_succ,List.length_cons] at h1;refine ⟨h1.1,h1.2.1,?_⟩;have h2:=h1.2.2;omega
theorem Mq.rises {o:Nat} {q:Int} {x:Qu} {l:List Qu} (h:Mq o q (x::l)): ∀y∈l,x.seq<y.seq:=by
 intro y hy;obtain ⟨i,hi,rfl⟩:=List.mem_iff_getElem.1 hy;have h0:=(h 0 (Nat.zero_lt_succ _)).2.2;have h1:=(h.tail i hi).2.2;simp only [List.getElem_cons_zero,List.length_cons] at h0;omega
theorem Q7t {o:Nat} {q u:Int}: ∀(l:List Qu),Mq o q l->Mq o q (l.filter λr=>decide (u<r.seq)):=by
 intro l;induction l with
 |nil=>intro h;exact h
 |cons x l ih=>
  intro h;by_cases hx:u<x.seq
  ·have e:(x::l).filter (λr=>decide (u<r.seq))=x::l:=List.filter_eq_self.2 λy hy=>by
    rcases List.mem_cons.1 hy with rfl|hy
    ·exact decide_eq_true hx
    ·exact decide_eq_true (Int.lt_trans hx (h.rises y hy))
   rw [e];exact h
  ·rw [List.filter_cons_of_neg (by simpa using hx)];exact ih h.tail
theorem Qby {o:Nat} {st:Ja} (h:Inv o st) (u:Int):Inv o (Xg st u):=
 ⟨h.own,h.Qoe,h.done,h.mark,h.sorted,h.keys,Q7t (o:=o) (q:=(Qn st.of o).seq) st.kept h.kept⟩
theorem Q19 {l:List Qo} (hs:Q45 l) {v x:Qo} {i:Nat} (hx:l[i]?=some x):Bl x v=true↔i<E8 l v:=by
 have hil:=(List.getElem?_eq_some_iff.1 hx).1;constructor
 ·intro h;refine Decidable.byContradiction λhn=>?_;have h0:l[E8 l v]?=some l[E8 l v]:=List.getElem?_eq_getElem (by omega);have h1:=Fa (p:=λx=>Bl x v) h0;have h1:Bl l[E8 l v] v=false:=h1;rcases Nat.lt_or_ge (E8 l v) i with hlt|hge
  ·have h2:=List.pairwise_iff_getElem.1 hs _ _ (by omega) hil hlt;rw [(List.getElem?_eq_some_iff.1 hx).2] at h2;rw [Cu h2 h] at h1;cases h1
  ·have e:E8 l v=i:=by omega
   simp only [e] at h1;rw [(List.getElem?_eq_some_iff.1 hx).2,h] at h1;cases h1
 ·intro h;refine Lc (l:=l) (List.mem_of_getElem? (i:=i) ?_);rw [List.getElem?_take_of_lt h];exact hx
theorem Q6q {l:List Qo} {m c:Int}:Qau l m c=none↔Xk l m c=0:=by
 have:=Q1z l m c;unfold Qau;split
 ·next h=>exact ⟨λ_=>h,λ_=>rfl⟩
 ·next h=>
  rw [List.getElem?_eq_none_iff];omega
theorem Qn5 {o:Nat} {st:Ja} (hs:Yy st.keys) (r:Qu):Yy (E7 o st r).keys:=Yc hs _ _
theorem Vz {w:World} {a:Option Addr} {R:List Qm} (h:Rd w w.heap.size a (R.flatMap Qv)) {k:Nat} (hk:k<R.length):
  ∃g off,a=some ⟨g,off,none⟩/\g<w.heap.size/\ ∀W,Kp No w W->W.rangeAt g (off+k*6) (Qv R[k]):=by
 obtain ⟨g,off,ha,hc⟩:=Zb (f:=Qv) Zm (by decide) h hk;obtain ⟨g',off',ha',hg',_⟩:=h (by rw [Xt Qv 6 Zm];omega);rw [ha] at ha';injection ha' with ha';injection ha' with e1 e2;exact ⟨g,off,ha,by rw [e1];exact hg',λW hW j u hu=>hc W hW j u hu⟩
theorem Qmd (a b:Qo):0<N5 a b↔Bl b a=true:=by
 rw [Hk];unfold N5 Q5h Z6 Ug;repeat' split
 all_goals omega
def J6c (w:World) (_:Nat) (i:Nat) (b:Bool) (e:Ending) (w':World):Prop:=e= .returned (.tuple #[.int .i64 (i:Int), .bool b])/\Kp No w w'
theorem Qak (w:World) (a:Option Addr) (cap:Nat) (R:List Qm) (hR:Rd w w.heap.size a (R.flatMap Qv)) (_hc:R.length<=cap) (hn:R.length<=1000000) (hs:Q45 (R.map Qm.v)) (x:Qm):
  Calls Tryz.prog 190 #[.slice a R.length cap,Yk x, .func (.func 191) #[] #[]] w (J6c w R.length (E8 (R.map Qm.v) x.v) (V8 (R.map Qm.v) x.v)):=by
 obtain ⟨p,hp⟩: ∃p,p=E8 (R.map Qm.v) x.v:=⟨_,rfl⟩;obtain ⟨bh,J4l⟩: ∃bh,bh=V8 (R.map Qm.v) x.v:=⟨_,rfl⟩;have hpl:p<=R.length:=by rw [hp];have:=Ag (R.map Qm.v) x.v;rwa [List.length_map] at this
 have hlt: ∀k (h:k<R.length),N5 R[k].v x.v<0↔k<p:=λk h=>by
  rw [Q14,hp];exact Q19 hs (by rw [List.getElem?_map,List.getElem?_eq_getElem h];rfl)
 have hat:bh=match (R.map Qm.v)[p]? with|some y=>!Bl x.v y|none=>false:=by rw [J4l,hp];rfl
 obtain ⟨n,hnR⟩: ∃n,n=R.length:=⟨_,rfl⟩;rw [<-hp,<-J4l,<-hnR];rw [<-hnR] at hpl _hc hn;have HR:=zz hR;have Qon:=zz hlt;have HAT:=zz hat;have HN:=zz hnR;have HP:=zz (And.intro hp J4l);have HS:=zz hs;clear hR hs hlt hat hnR hp J4l;obtain ⟨w1,hw1⟩: ∃W,W=w.alloc (.cells (Qv x).toArray 44):=⟨_,rfl⟩;have k1:Kp No w w1:=by rw [hw1];exact zK.alloc _
 have bx:w1.heap[w.heap.size]?=some (.cells (Qv x).toArray 44 (0,0)):=by rw [hw1];exact heap_alloc_new w _
 have HX:=zz (show ∀W,Kp No w1 W->W.rangeAt w.heap.size 0 (Qv x) from λW hW=>by have:=Qg (hW.get bx λx=>x) 0 6;exact this);have Yq:=zz k1;have hxl:=Q7 bx;have J45:=zz hxl;have J2o:w.alloc (.cells #[.int .i64 x.v.m, .int .i64 x.v.c, .int .i64 x.v.o,x.sl, .bool x.v.gone, .int .i64 x.v.ttl] 44)=w1:=hw1.symm
 have Jal:=zz (show ∀k (h:k<R.length),∃g off,a=some ⟨g,off,none⟩/\g<w1.heap.size/\ ∀W,Kp No w1 W->W.rangeAt g (off+k*6) (Qv R[k]) from λk h=>by
  obtain ⟨g,off,h1,h2,h3⟩:=Vz HR.out h;exact ⟨g,off,h1,Nat.lt_of_lt_of_le h2 Yq.out.size,λW hW=>h3 W (Yq.out.Q0 hW)⟩)
 have HW1:=zz J2o;clear hw1 k1 bx J2o HR hxl;unfold Yk Qv;go_enter Tryz.func190,Tryz.ntmps190
 go_wp2_with fail
 (try rw [HW1.out])
 go_loopw [9,10] (λs9 s10 wr=> ∃lo hi:Nat,s9= .int .i64 lo/\s10= .int .i64 hi/\lo<=p/\p<=hi/\hi<=n/\Hid (Kp No w1 wr)) (λs9 s10 _=>(intOf s10).toNat-(intOf s9).toNat)
 case atStart=>exact ⟨0,n,rfl,rfl,Nat.zero_le _,hpl,Nat.le_refl _,zz zK⟩
 case round=>
  obtain ⟨lo,hi,rfl,rfl,hlp,Jgy,hhn,HK⟩:=hrel;by_cases hlh:lo<hi
  ·obtain ⟨m,hm0⟩: ∃m,m=(lo+hi)/2:=⟨_,rfl⟩;have hml:lo<=m:=by omega
   have Jj5:m<hi:=by omega
   have hmn:m<n:=by omega
   have hm:((lo:Int)+(hi:Int))/2=(m:Int):=by omega
   have hmR:m<R.length:=by have:=HN.out;omega
   obtain ⟨g,off,rfl,hgl,hgr⟩:=Jal.out m hmR;have hlt:=Qon.out m hmR;obtain ⟨y,hy⟩: ∃y,y=R[m]:=⟨_,rfl⟩;rw [<-hy] at hgr hlt;obtain ⟨z,hz⟩: ∃z,z=N5 y.v x.v:=⟨_,rfl⟩;have hcm:=λW=>Q01 y x W;rw [<-hz] at hlt hcm;have Qhy:=zz hgr;have HCM:=zz hcm;have Q4s:g<wr.heap.size:=HK.out.lt hgl;have J8q:w.heap.size<wr.heap.size:=HK.out.lt J45.out;clear hm0 hmR hgr hcm hy hz hgl;have hzz:(z<0/\m<p)\/(0<=z/\p<=m):=by omega
   clear hlt;rcases hzz with ⟨hz1,hz2⟩|⟨hz1,hz2⟩
   ·have hd:decide (z<0)=true:=decide_eq_true hz1;go_upto_region 5 with fail
    refine zD No [0,0,0,0,0,0,2,0] [0,1,2,3,4,5,6,7] ?_;repeat (first|refine zA ?_|refine zB ?_|refine zC ?_)
    apply Qb rfl rfl rfl
    ·intro W hW;exact Qc 44 _ rfl g (off+m*6) rfl (Qv y) _ (Qhy.out W (HK.out.Q0 hW)) Tryz.underlying44 rfl (by kernel_rfl)
    ·(focus (go_simp;rfl))
    apply Qb rfl rfl rfl
    ·intro W hW;exact Qc 44 _ rfl w.heap.size 0 rfl (Qv x) _ (HX.out W (HK.out.Q0 hW)) Tryz.underlying44 rfl (by kernel_rfl)
    ·(focus (go_simp;rfl))
    refine Q8 rfl rfl (λq=>?_);go_wp2_with fail
    refine (HCM.out _).mono ?_;rintro e w2 ⟨rfl,hk2⟩;go_wp2_with fail
    refine ⟨hk2.Qf,?_⟩;repeat (first|refine zA ?_|refine zB ?_|refine zC ?_)
    refine Qa (λnq=>?_);have J9:=zz ((HK.out.Q0 hk2.Qf).drewN nq);clear hk2;go_wp2_with fail
    go_roundw
    case rel=>exact ⟨m+1,hi,by go_num,rfl,by omega,Jgy,hhn,J9⟩
    case measure=>simp [intOf];omega
   ·have hd:decide (z<0)=false:=decide_eq_false (by omega);go_upto_region 5 with fail
    refine zD No [0,0,0,0,0,0,2,0] [0,1,2,3,4,5,6,7] ?_;repeat (first|refine zA ?_|refine zB ?_|refine zC ?_)
    apply Qb rfl rfl rfl
    ·intro W hW;exact Qc 44 _ rfl g (off+m*6) rfl (Qv y) _ (Qhy.out W (HK.out.Q0 hW)) Tryz.underlying44 rfl (by kernel_rfl)
    ·(focus (go_simp;rfl))
    apply Qb rfl rfl rfl
    ·intro W hW;exact Qc 44 _ rfl w.heap.size 0 rfl (Qv x) _ (HX.out W (HK.out.Q0 hW)) Tryz.underlying44 rfl (by kernel_rfl)
    ·(focus (go_simp;rfl))
    refine Q8 rfl rfl (λq=>?_);go_wp2_with fail
    refine (HCM.out _).mono ?_;rintro e w2 ⟨rfl,hk2⟩;go_wp2_with fail
    refine ⟨hk2.Qf,?_⟩;repeat (first|refine zA ?_|refine zB ?_|refine zC ?_)
    refine Qa (λnq=>?_);have J9:=zz ((HK.out.Q0 hk2.Qf).drewN nq);clear hk2;go_wp2_with fail
    go_roundw
    case rel=>exact ⟨lo,m,rfl,rfl,hlp,hz2,by omega,J9⟩
    case measure=>simp [intOf];omega
  ·have hlo:lo=p:=by omega
   subst hlo;rcases Nat.lt_or_ge lo n with hln|hln
   ·have hmR:lo<R.length:=by have:=HN.out;omega
    obtain ⟨g,off,rfl,hgl,hgr⟩:=Jal.out lo hmR;have hlt:=Qon.out lo hmR;have hat:=HAT.out;rw [List.getElem?_map,List.getElem?_eq_getElem hmR] at hat;simp only [Option.map_some] at hat;obtain ⟨y,hy⟩: ∃y,y=R[lo]:=⟨_,rfl⟩;rw [<-hy] at hgr hlt hat;have hpos:=Qmd y.v x.v;obtain ⟨z,hz⟩: ∃z,z=N5 y.v x.v:=⟨_,rfl⟩;have hcm:=λW=>Q01 y x W;rw [<-hz] at hlt hcm hpos;have Qhy:=zz hgr;have HCM:=zz hcm;have Q4s:g<wr.heap.size:=HK.out.lt hgl;have J8q:w.heap.size<wr.heap.size:=HK.out.lt J45.out
    have hzz:(z=0/\bh=true)\/(0<z/\bh=false):=by
     rcases Int.lt_trichotomy z 0 with h|h|h
     ·exact absurd (hlt.1 h) (Nat.lt_irrefl _)
     ·left
      refine ⟨h,?_⟩
      have:Bl x.v y.v=false:=by
       cases hv:Bl x.v y.v with
       |false=>rfl
       |true=>have:=hpos.2 hv;omega
      rw [hat,this];rfl
     ·right
      refine ⟨h,?_⟩;rw [hat,hpos.1 h];rfl
    clear hmR hgr hcm hy hz hgl hlt hat hpos;rcases hzz with ⟨hz1,hz2⟩|⟨hz1,hz2⟩
    ·have hd:(z==0)=true:=by rw [beq_iff_eq];exact hz1
     have HB:=zz hz2;clear hz1 hz2;go_upto_region 8 with fail
     refine zD No [0,0,0,0,0,0,0,0,0,0,0,2,0,0,0,0] [0,1,2,3,4,5,6,7,8,9,10,11,12,13,14,15] ?_;repeat (first|refine zA ?_|refine zB ?_|refine zC ?_)
     apply Qb rfl rfl rfl
     ·intro W hW;exact Qc 44 _ rfl g (off+lo*6) rfl (Qv y) _ (Qhy.out W (HK.out.Q0 hW)) Tryz.underlying44 rfl (by kernel_rfl)
     ·(focus (go_simp;rfl))
     apply Qb rfl rfl rfl
     ·intro W hW;exact Qc 44 _ rfl w.heap.size 0 rfl (Qv x) _ (HX.out W (HK.out.Q0 hW)) Tryz.underlying44 rfl (by kernel_rfl)
     ·(focus (go_simp;rfl))
     refine Q8 rfl rfl (λq=>?_);go_wp2_with fail
     refine (HCM.out _).mono ?_;rintro e w2 ⟨rfl,hk2⟩;go_wp2_with fail
     refine ⟨hk2.Qf,?_⟩;repeat (first|refine zA ?_|refine zB ?_|refine zC ?_)
     refine Qa (λnq=>?_);have J9:=zz ((Yq.out.Q0 (HK.out.Q0 hk2.Qf)).drewN nq);clear hk2;go_wp2_with fail
     go_ret2
     exact ⟨by rw [HB.out];rfl,J9.out⟩
    ·have hd:(z==0)=false:=by rw [beq_eq_false_iff_ne];omega
     have HB:=zz hz2;clear hz1 hz2;go_upto_region 8 with fail
     refine zD No [0,0,0,0,0,0,0,0,0,0,0,2,0,0,0,0] [0,1,2,3,4,5,6,7,8,9,10,11,12,13,14,15] ?_;repeat (first|refine zA ?_|refine zB ?_|refine zC ?_)
     apply Qb rfl rfl rfl
     ·intro W hW;exact Qc 44 _ rfl g (off+lo*6) rfl (Qv y) _ (Qhy.out W (HK.out.Q0 hW)) Tryz.underlying44 rfl (by kernel_rfl)
     ·(focus (go_simp;rfl))
     apply Qb rfl rfl rfl
     ·intro W hW;exact Qc 44 _ rfl w.heap.size 0 rfl (Qv x) _ (HX.out W (HK.out.Q0 hW)) Tryz.underlying44 rfl (by kernel_rfl)
     ·(focus (go_simp;rfl))
     refine Q8 rfl rfl (λq=>?_);go_wp2_with fail
     refine (HCM.out _).mono ?_;rintro e w2 ⟨rfl,hk2⟩;go_wp2_with fail
     refine ⟨hk2.Qf,?_⟩;repeat (first|refine zA ?_|refine zB ?_|refine zC ?_)
     refine Qa (λnq=>?_);have J9:=zz ((Yq.out.Q0 (HK.out.Q0 hk2.Qf)).drewN nq);clear hk2;go_wp2_with fail
     go_ret2
     exact ⟨by rw [HB.out];rfl,J9.out⟩
   ·obtain rfl:n=lo:=by omega
    have hb:bh=false:=by
     have hat:=HAT.out;rw [List.getElem?_eq_none (by rw [List.length_map,<-HN.out];exact Nat.le_refl _)] at hat;exact hat
    have HB:=zz hb;clear hb hlp;go_upto_region 8 with fail
    refine zD No [0,0,0,0,0,0,0,0,0,0,0,2,0,0,0,0] [0,1,2,3,4,5,6,7,8,9,10,11,12,13,14,15] ?_;repeat (first|refine zA ?_|refine zB ?_|refine zC ?_)
    refine Zt rfl rfl (by rfl) rfl (λq=>⟨zK.drewN q,?_⟩);repeat (first|refine zA ?_|refine zB ?_|refine zC ?_)
    refine Qa (λnq=>?_);go_wp2_with fail
    go_ret2
    exact ⟨by rw [HB.out];rfl,((Yq.out.Q0 HK.out).drewN _).drewN _⟩
structure Qf5 (t:TypeId) (c c':Zs) (x:Qo) (w w':World):Prop where
 b:c'.b=c.b
 vs:c'.vs=E0 c.vs x
 ok:Xr t w' c'
 kp:Kp (λk=>k=c.b\/c.row.ownBlock=some k) w w'
 row:c'.row.ownBlock=c.row.ownBlock\/ ∃g,c'.row.ownBlock=some g/\w.heap.size<=g
 vals: ∀y∈c'.R,y∈c.R\/ ∀g,y.sl.ownBlock=some g->w.heap.size<=g
theorem Qgk (R:List Qm) (y:Qm) (i:Nat):(R.flatMap Qv).take (i*6)++(Qv y++(R.flatMap Qv).drop (i*6))=(R.take i++y::R.drop i).flatMap Qv:=by
 rw [Yg Qv 6 Zm,Un Qv 6 Zm,List.flatMap_append,List.flatMap_cons]
theorem Qjz (R:List Qm): ∀u∈R.flatMap Qv,u.oneCell'=true:=λu hu=>by
 obtain ⟨y,_,hy⟩:=List.mem_flatMap.1 hu;exact Fu y u hy
theorem Qm.X0 {x:Qm} {w w':World} (h:x.rd w) (hk:Kp No w w'):x.rd w':=⟨Rd.kp h.1 hk,h.2⟩
theorem Q6t (w:World) (c:Zs) (x:Qm) (hc:Xr 203 w c) (hs:Q45 c.vs) (hx:x.rd w) (hv:X8 x.v=true) (hh:V8 c.vs x.v=false) (hn:c.R.length<=1000000):
  Calls Tryz.prog 115 #[.pointer (some ⟨c.b,0,none⟩),Yk x] w λe w'=>e= .returned (.int .i64 0)/\ ∃c',Qf5 203 c c' x.v w w':=by
 obtain ⟨cb,ra,rc,R⟩:=c;obtain ⟨n,hnR⟩: ∃n,n=R.length:=⟨_,rfl⟩
 have hcl:R.length<=rc:=by
  obtain ⟨_,a,cap,e,h1,_⟩:=hc.own;unfold Zs.row at e;injection e with _ _ e3;have e3:rc=cap:=e3;rw [e3];exact h1
 have hrow:(⟨cb,ra,rc,R⟩:Zs).row= .slice ra n rc:=by unfold Zs.row;rw [hnR]
 obtain ⟨w1,hw1⟩: ∃W,W=w.alloc (.cells (Qv x).toArray 44):=⟨_,rfl⟩;have k1:Kp No w w1:=by rw [hw1];exact zK.alloc _
 have bx:w1.heap[w.heap.size]?=some (.cells (Qv x).toArray 44 (0,0)):=by rw [hw1];exact heap_alloc_new w _
 have hbl:=Q7 hc.cell;simp only at hbl hn hcl
 obtain ⟨p,hp⟩: ∃p,p=E8 (R.map Qm.v) x.v:=⟨_,rfl⟩;have hpn:p<=n:=by rw [hp,hnR];have:=Ag (R.map Qm.v) x.v;rwa [List.length_map] at this
 have HC:=zz hc;have HS:=zz hs;have HX:=zz hx;have HV:=zz hv;have HH:=zz (show V8 (R.map Qm.v) x.v=false from hh);have HN:=zz hnR;have HP:=zz hp;have Qa9:=zz hcl;have Mo:=zz hrow;have Yq:=zz k1;have Qnw:=zz bx;have HW1:=zz (show w.alloc (.cells #[.int .i64 x.v.m, .int .i64 x.v.c, .int .i64 x.v.o,x.sl, .bool x.v.gone, .int .i64 x.v.ttl] 44)=w1 from hw1.symm);have Oq:=zz hn;clear hc hs hx hv hh hnR hp hcl hrow k1 bx hw1 hn;unfold Yk Qv;go_enter Tryz.func115,Tryz.ntmps115
 go_upto_region 1 with fail
 (try rw [HW1.out])
 have d0:w1.cell? ⟨w.heap.size,0,none⟩=some (.int .i64 x.v.m):=Q4 Qnw.out 0;have d1:w1.cell? ⟨w.heap.size,1,none⟩=some (.int .i64 x.v.c):=Q4 Qnw.out 1;have d2:w1.cell? ⟨w.heap.size,2,none⟩=some (.int .i64 x.v.o):=Q4 Qnw.out 2;have d3:w1.cell? ⟨w.heap.size,3,none⟩=some x.sl:=Q4 Qnw.out 3;have d4:w1.cell? ⟨w.heap.size,4,none⟩=some (.bool x.v.gone):=Q4 Qnw.out 4;have d5:w1.cell? ⟨w.heap.size,5,none⟩=some (.int .i64 x.v.ttl):=Q4 Qnw.out 5;have hxl:=Yq.out.size;have J8r:=Q7 Qnw.out;go_wp2_with fail
 refine (Qp6 x w1).mono ?_;rintro e w2 ⟨rfl,k2⟩;rw [HV.out];have J9:=zz (Yq.out.Q0 k2);have Qfz:=Q7 (k2.get Qnw.out λx=>x);have J0x:=J9.out.lt hbl
 have f0: ∀W,Kp No w2 W->W.cell? ⟨cb,0,none⟩=some (.slice ra n rc):=λW hW=>by
  have:=HC.out.cells.1 W (J9.out.Q0 hW);rw [Mo.out] at this;exact this
 have Hq:=zz (show ∀W,Kp No w2 W->W.rangeAt w.heap.size 0 (Qv x) from λW hW=>by have:=Qg ((k2.Q0 hW).get Qnw.out λx=>x) 0 6;exact this);clear k2 J8r d0 d1 d2 d3 d4 d5;go_upto_region 3 with fail
 refine zD No [0,0,0,0,0,2,0,0,0,0,0] [0,1,2,3,4,5,6,7,8,9,10] ?_;repeat (first|refine zA ?_|refine zB ?_|refine zC ?_)
 apply Qb rfl rfl rfl
 ·intro W hW;exact Qc 44 _ rfl w.heap.size 0 rfl (Qv x) _ (Hq.out W hW) Tryz.underlying44 rfl (by kernel_rfl)
 ·(focus (go_simp;rfl))
 refine Q8 rfl rfl (λq=>?_);have Qqb:=Qak (w2.drewN q) ra rc R ((Rd.kp (by have:=Own.rd' (a:=ra) (cap:=rc) (m:=R.length) HC.out.own;exact this) J9.out).drewN q) Qa9.out Oq.out HS.out x;rw [<-HN.out,<-HP.out,HH.out] at Qqb;have Jap:=zz Qqb;clear Qqb;go_wp2_with fail
 refine Jap.out.mono ?_;rintro e w3 ⟨rfl,k3⟩;go_wp2_with fail
 refine ⟨k3.Qf,?_⟩;repeat (first|refine zA ?_|refine zB ?_|refine zC ?_)
 refine Qa (λnq=>?_);obtain ⟨w4,hw4⟩: ∃W,W=w3.drewN nq:=⟨_,rfl⟩;have k4:Kp No w2 w4:=by rw [hw4];exact k3.Qf.drewN nq
 have Gf:=zz (J9.out.Q0 k4)
 have Qxk:=zz (show ∀W,Kp (λk=>(Value.slice ra n rc).ownBlock=some k) w4 W->W.rangeAt w.heap.size 0 (Qv x) from λW hW=>λj u hu=>by
  have h1:=Hq.out w4 k4 j u hu;have hlt4:=k4.lt Qfz
  rw [hW.cell (p:=⟨w.heap.size,0+j,none⟩) hlt4 (λe=>by
   rw [<-Mo.out] at e;have:=HC.out.own.lt _ e;exact Nat.lt_irrefl _ this)]
  exact h1)
 have Qv7:=k4.lt J0x;have Jh9:=k4.lt Qfz
 have hne: ∀g,(Value.slice ra n rc).ownBlock=some g->g≠cb:=λg hg=>by
  rw [<-Mo.out] at hg;exact HC.out.row_ne (by decide) hg
 have f4: ∀W,Kp (λk=>(Value.slice ra n rc).ownBlock=some k) w4 W->W.cell? ⟨cb,0,none⟩=some (.slice ra n rc):=λW hW=>by
  rw [hW.cell (p:=⟨cb,0,none⟩) Qv7 (λe=>hne _ e rfl)];exact f0 w4 k4
 have g4: ∀W,Kp (λk=>(Value.slice ra n rc).ownBlock=some k) w4 W->W.frozen? ⟨cb,0,none⟩=false:=λW hW=>by
  rw [hW.frozen (p:=⟨cb,0,none⟩) Qv7 (λe=>hne _ e rfl)];exact HC.out.cells.2 w4 Gf.out
 rw [<-hw4];clear hw4 k3 k4 f0 Hq Jap Qfz J0x;go_upto_region 6 with fail
 refine Jk (Kp (λk=>(Value.slice ra n rc).ownBlock=some k) w4) [0,0,0,0,0,0,0,2,2,2,0,0,2] [0,1,2,3,4,5,6,7,8,9,10,11] 12 (by kernel_rfl) (by kernel_rfl) (λ_ n h=>h.drewN n) zK ?_;repeat (first|refine zA ?_|refine zB ?_|refine zC ?_)
 apply Qb rfl rfl rfl
 ·intro W hW;exact Qc 44 _ rfl w.heap.size 0 rfl (Qv x) _ (Qxk.out W hW) Tryz.underlying44 rfl (by kernel_rfl)
 ·(focus (go_simp;rfl))
 refine Q8 rfl rfl (λq2=>?_)
 have hlen:x.v.val.length<=140737488355328:=by
  have:=(Zi.1 HV.out).2.2.2.1;omega
 have how:=Q02 x (w4.drewN q2) (Qm.X0 HX.out (Gf.out.drewN q2)) hlen;clear hlen;have HOW:=zz how;clear how;go_wp2_with fail
 refine HOW.out.mono ?_;rintro e w5 ⟨y,hyv,rfl,hyo,Qi5,k5⟩;have HY:=zz (And.intro hyv (And.intro hyo Qi5));have Ht:Kp No w4 w5:=k5.Qf;clear hyv hyo Qi5 k5;simp only [Yk,Qv];go_wp2_with fail
 refine ⟨Kp.Qx Ht,?_⟩;refine Q8 rfl rfl (λq3=>?_);go_wp2_with fail
 obtain ⟨w6,hw6⟩: ∃W,W=(w5.drewN q3).alloc (.cells (Qv y).toArray 44):=⟨_,rfl⟩;have k6:Kp No w4 w6:=by rw [hw6];exact (Ht.drewN q3).alloc _
 have Jcm:Kp No w5 w6:=by rw [hw6];exact (zK.drewN q3).alloc _
 have b6:w6.heap[w5.heap.size]?=some (.cells (Qv y).toArray 44 (0,0)):=by rw [hw6];exact heap_alloc_new (w5.drewN q3) _
 (try rw [show (w5.drewN q3).alloc (.cells #[.int .i64 y.v.m, .int .i64 y.v.c, .int .i64 y.v.o,y.sl, .bool y.v.gone, .int .i64 y.v.ttl] 44)=w6 from hw6.symm])
 have Jix:=Ht.size;have Fw:=zz k6;have J5k:=zz Jcm;have Jd9:=zz b6;clear hw6 k6 Jcm b6 HOW;refine ⟨Kp.Qx Fw.out,?_⟩;refine Q8 rfl rfl (λq4=>?_)
 have hO:Own (w6.drewN q4) 44 6 (.slice ra n rc) n (R.flatMap Qv):=by
  have h1:=HC.out.own;rw [Mo.out] at h1;rw [HN.out] at h1⊢;exact h1.keep ((Gf.out.Q0 Fw.out).drewN q4) λ_ _ x=>x
 have hins:=Qah (w6.drewN q4) ra n rc p (R.flatMap Qv) hO hpn (by have:=Oq.out;have:=HN.out;omega) (Qjz R) w5.heap.size y 44 Jd9.out (λe=>by
  have h1:=HC.out.own.lt w5.heap.size (by rw [Mo.out];exact e);have h2:=Gf.out.size;omega)
 have Q6b:=zz hins;clear hins hO;go_wp2_with fail
 refine Q6b.out.mono ?_;rintro e w7 ⟨a',c',rfl,Qa1,k7,hb7⟩;have J8y:Kp (λk=>(Value.slice ra n rc).ownBlock=some k) w6 w7:=k7.Qf;rw [Qgk] at Qa1;have Qor:=zz (And.intro Qa1 hb7);have M7:=zz J8y;have kS:Kp (λk=>(Value.slice ra n rc).ownBlock=some k) w4 w7:=(Kp.Qx Fw.out).Q0 J8y;clear Qa1 hb7 k7 J8y Q6b;go_wp2_with fail
 (try refine ⟨kS,?_⟩)
 repeat (first|refine zA ?_|refine zB ?_|refine zC ?_)
 refine Yu (λn11=>?_);refine Q8 rfl rfl (λn12=>?_);obtain ⟨w8,hw8⟩: ∃W,W=(w7.drewN n11).drewN n12:=⟨_,rfl⟩;have k8:Kp (λk=>(Value.slice ra n rc).ownBlock=some k) w6 w8:=by rw [hw8];exact (M7.out.drewN n11).drewN n12
 have J2t:Kp (λk=>(Value.slice ra n rc).ownBlock=some k) w4 w8:=by rw [hw8];exact (kS.drewN n11).drewN n12
 have Qsz:Own w8 44 6 (.slice a' (n+1) c') (n+1) ((R.take p++y::R.drop p).flatMap Qv):=by rw [hw8];exact Qor.out.1
 rw [<-hw8];have hc8:=f4 w8 J2t;have Qoc:=g4 w8 J2t;have J4n:=J2t.lt Qv7;have Qz0:=zz Qsz;have Ks:=zz k8;have Qyg:=zz J2t;clear hw8 k8 Qsz kS f4 g4 Qxk J2t;go_wp2_with fail
 intro nr;obtain ⟨w9,Mc⟩: ∃W,W=(w8.setCell ⟨cb,0,none⟩ (.slice a' (n+1) c')).drewN nr:=⟨_,rfl⟩;have k9:Kp (Mer.One cb) w8 w9:=by rw [Mc];exact ((Kp.refl (Mer.One cb) _).setCell (p:=⟨cb,0,none⟩) (.inl (show Mer.One cb cb from rfl)) _).drewN nr
 have Qv9:w8.heap[cb]?=some (.cells #[.slice ra n rc] 203 (0,0)):=by
  have h1:=HC.out.cell;rw [Mo.out] at h1;exact Qyg.out.get (Gf.out.get h1 λx=>x) λe=>hne _ e rfl
 have J0z:w9.heap[cb]?=some (.cells #[.slice a' (n+1) c'] 203 (0,0)):=by
  have:=Ql Qv9 0 (.slice a' (n+1) c');rw [Mc];simpa using this
 rw [<-Mc];have A5:=zz k9;have Oz:=zz (And.intro Qv9 J0z);clear Mc k9 Qv9 J0z hc8 Qoc J4n;go_wp2_with fail
 go_ret
 have hvs:(R.take p++y::R.drop p).map Qm.v=E0 (R.map Qm.v) x.v:=by
  unfold E0;rw [<-HP.out,List.map_append,List.map_cons,List.map_take,List.map_drop,HY.out.1]
 have hlen:(R.take p++y::R.drop p).length=n+1:=by
  have:=HN.out;rw [List.length_append,List.length_cons,List.length_take,List.length_drop];omega
 have Qkr:Kp (λk=>k=cb\/(Value.slice ra n rc).ownBlock=some k) w4 w9:=(Qyg.out.mono λ_ _ h=> .inr h).trans A5.out λi _ e=> .inl e;have Qa3: ∀z∈R,z.ok w4:=λz hz=>(HC.out.vals z hz).keep Gf.out λ_ _ x=>x;refine ⟨rfl,⟨cb,a',c',R.take p++y::R.drop p⟩,⟨rfl,hvs,⟨?_,?_,?_⟩,?_,?_,?_⟩⟩
 ·unfold Zs.row;simp only
  rw [hlen];exact Oz.out.2
 ·unfold Zs.row;simp only
  rw [hlen];refine Qz0.out.keep A5.out λg hg e=>?_;have e:g=cb:=e;rcases Qor.out.2 with h1|⟨g',h1,h2⟩
  ·rw [h1] at hg;exact hne g hg e
  ·rw [h1] at hg;injection hg with hg;have h3:w6.heap.size<=g':=h2;have h4:=Fw.out.size;omega
 ·intro z hz
  have hS: ∀g,(g=cb\/(Value.slice ra n rc).ownBlock=some g)-> ∀cur,w4.heap[g]?≠some (.cells cur 5 (0,0)):=λg hg cur J5=>by
   rcases hg with rfl|hg
   ·have h1:=Gf.out.get HC.out.cell λx=>x;exact Qd J5 h1 (by decide) rfl
   ·rw [<-Mo.out] at hg;obtain ⟨cur',hc'⟩:=(HC.out.own.keep Gf.out λ_ _ x=>x).type g hg;exact Qd J5 hc' (by decide) rfl
  rcases List.mem_append.1 hz with hz|hz
  ·exact (Qa3 z (List.mem_of_mem_take hz)).apart Qkr hS
  ·rcases List.mem_cons.1 hz with rfl|hz
   ·have h1:z.ok w6:=HY.out.2.1.keep J5k.out λ_ _ x=>x
    have h2:z.ok w8:=h1.apart Ks.out λg hg cur J5=>by
     have h3:w6.heap[g]?=w4.heap[g]?:=Fw.out.block g (by rw [<-Mo.out] at hg;exact Gf.out.lt (HC.out.own.lt g hg)) (λx=>x);rw [h3] at J5;exact hS g (.inr hg) cur J5
    exact h2.apart A5.out λg hg cur J5=>by
     have e:g=cb:=hg;rw [e,Oz.out.1] at J5;injection J5 with J5;injection J5 with _ ht;exact absurd ht (by decide)
   ·exact (Qa3 z (List.mem_of_mem_drop hz)).apart Qkr hS
 ·rw [Mo.out];exact (Gf.out.Qx).Q0 Qkr
 ·rw [Mo.out];show (Value.slice a' (R.take p++y::R.drop p).length c').ownBlock=_\/_
  rcases Qor.out.2 with h1|⟨g',h1,h2⟩
  ·exact .inl (by rw [hlen];exact h1)
  ·refine .inr ⟨g',by show (Value.slice a' (R.take p++y::R.drop p).length c').ownBlock=_;rw [hlen];exact h1,?_⟩;have h3:w6.heap.size<=g':=h2;have h4:=Fw.out.size;have h5:=Gf.out.size;omega
 ·intro z hz;rcases List.mem_append.1 hz with hz|hz
  ·exact .inl (List.mem_of_mem_take hz)
  ·rcases List.mem_cons.1 hz with rfl|hz
   ·right
    intro g hg;have h1:=HY.out.2.2 g hg;have h2:w4.heap.size<=g:=h1;have h5:=Gf.out.size;omega
   ·exact .inl (List.mem_of_mem_drop hz)
theorem Qp7 (w:World):Calls Tryz.prog 114 #[.slice none 0 0] w λe w'=> ∃b,e= .returned (.tuple #[.pointer (some ⟨b,0,none⟩), .int .i64 0])/\Xr 203 w' ⟨b,none,0,[]⟩/\w.heap.size<=b/\Kp No w w':=by
 go_enter Tryz.func114,Tryz.ntmps114
 go_wp2_with fail
 go_loop [12] (λs=>s= .int .i64 0) (λ_=>0)
 case atStart=>rfl
 case round=>
  obtain rfl:=hrel;go_wp2_with fail
  go_ret2
  refine ⟨w.heap.size,rfl,⟨heap_alloc_new w _,show Own _ 44 6 (.slice none 0 0) 0 [] from Own.nil _ _ _,λx hx=>absurd hx (List.not_mem_nil)⟩,Nat.le_refl _,zK.alloc _⟩
end Go.Proofs.YtgnkmjeoaoongaaGreatDoor
