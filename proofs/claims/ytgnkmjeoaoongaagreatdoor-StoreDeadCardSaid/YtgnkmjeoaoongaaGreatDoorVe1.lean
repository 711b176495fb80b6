/- store -/
import Derived.Test.YtgnkmjeoaoongaaGreatDoorVd5
open List (mem_map cons_append length_append mem_append mem_singleton mem_append_left)
open Nat (le_refl le_trans)
namespace Go.Proofs.YtgnkmjeoaoongaaGreatDoor
open Go.RowKit Go.Mer
theorem Q39 (s:Qz) (ns:List ByteArray) (c:Int) (fs:Jl):(five s ns c fs).2.files=s.files\/((five s ns c fs).1=0/\(five s ns c fs).2.files=fs):=by
 by_cases h:(five s ns c fs).1=0
 ·obtain ⟨_,_,h3⟩:=I4 h;exact .inr ⟨h,by rw [h3]⟩
 ·rw [I3 h];exact .inl rfl
theorem Aa {l:Jl} {y:ByteArray}:y∈l.map (·.1)↔(Qs l y).isSome=true:=by
 cases h:Qs l y with
 |none=>simp [Z5.1 h]
 |some c=>simp only [Option.isSome_some,iff_true];exact mem_map.2 ⟨_,Jc h,rfl⟩
abbrev Bo:=Nat×List (List UInt8)
def Fk:Nat->List (List UInt8)->List UInt8
 |_,[]=>[]
 |n,p::l=>Zo n p++Fk (n+1) l
def Ej:Nat->List Bo->Prop
 |_,[]=>True
 |n,g::A=>g.1=n/\g.2≠[]/\Ej (n+g.2.length) A
def Ui (A:List Bo):List (List UInt8):=A.flatMap (·.2)
def Q3y (A:List Bo):List (Nat×Nat):=A.map λg=>(g.1,(Fk g.1 g.2).length)
theorem Bd: ∀(l:List (List UInt8)) (n:Nat) (l':List (List UInt8)),Fk n (l++l')=Fk n l++Fk (n+l.length) l'
 |[],n,l'=>rfl
 |p::l,n,l'=>by
  rw [cons_append,Fk,Fk,Bd l (n+1) l',List.append_assoc,List.length_cons];congr 3
  omega
theorem Q0r (n:Nat) (p:List UInt8):Fk n [p]=Zo n p:=by rw [Fk,Fk,List.append_nil]
theorem E4: ∀(A:List Bo) (n:Nat) (B:List Bo),Ej n (A++B)↔Ej n A/\Ej (n+(Ui A).length) B
 |[],n,B=>by simp [Ej,Ui]
 |g::A,n,B=>by
  rw [cons_append,Ej,Ej,E4 A _ B]
  have:n+(Ui (g::A)).length=n+g.2.length+(Ui A).length:=by
   unfold Ui;rw [List.flatMap_cons,length_append];omega
  rw [this];constructor
  ·rintro ⟨h1,h2,h3,h4⟩;exact ⟨⟨h1,h2,h3⟩,h4⟩
  ·rintro ⟨⟨h1,h2,h3⟩,h4⟩;exact ⟨h1,h2,h3,h4⟩
theorem Dn: ∀(A:List Bo) (n:Nat),Ej n A-> ∀g∈A,n<=g.1/\g.1+g.2.length<=n+(Ui A).length/\0<g.2.length
 |[],_,_,_,h=>(by cases h)
 |g::A,n,⟨h1,h2,h3⟩,q,hq=>by
  have e:(Ui (g::A)).length=g.2.length+(Ui A).length:=by
   unfold Ui;rw [List.flatMap_cons,length_append]
  rcases List.mem_cons.1 hq with rfl|hq
  ·have:=List.length_pos_iff.2 h2;omega
  ·have:=Dn A _ h3 q hq;omega
theorem Q04: ∀(A:List Bo) (n:Nat),Ej n A->(A.map (·.1)).Pairwise λa b=>a<b
 |[],_,_=>List.Pairwise.nil
 |g::A,n,⟨h1,h2,h3⟩=>by
  rw [List.map_cons,List.pairwise_cons];refine ⟨λm hm=>?_,Q04 A _ h3⟩;obtain ⟨q,hq,rfl⟩:=mem_map.1 hm;have:=Dn A _ h3 q hq;have:=List.length_pos_iff.2 h2;omega
def Qsd (l:List (List UInt8)):Prop:= ∀p∈l,p.length<=262134
def E6 (l:Jl) (y:ByteArray):Nat:=match Qs l y with|some c=>c.lasts|none=>0
structure Laid (P:ByteArray) (s:Qz) (st:Jf) (A:List Bo):Prop where
 Qi:st.Qi=Ui A
 Qk:st.Qk=Q3y A
 chain:Ej 1 A
 key: ∀g∈A,X7 P g.1∈s.files.map (·.1)
 data: ∀g∈A,(Oj s.files (X7 P g.1)).1=Fk g.1 g.2
 only: ∀p∈s.files,V5 P p.1=true-> ∃g∈A,p.1=X7 P g.1
 last: ∀A0 g,A=A0++[g]->(∀h∈A0,(Fk h.1 h.2).length<=E6 s.files (X7 P h.1))/\(Fk g.1 (g.2.take (st.synced-(Ui A0).length))).length<=E6 s.files (X7 P g.1)
 Qth:st.synced<=st.Qi.length
 sized:Qsd st.Qi
theorem Q1n {α:Type} {A B:List α} {x y:α} (h:A++[x]=B++[y]):A=B/\x=y:=by
 have:=List.append_inj_left' h rfl;have h2:=List.append_inj_right' h rfl;injection h2 with h2;exact ⟨this,h2⟩
theorem Vh (A:List Bo) (g:Bo):Ui (A++[g])=Ui A++g.2:=by unfold Ui;simp
theorem Ut (A:List Bo) (g:Bo):Q3y (A++[g])=Q3y A++[(g.1,(Fk g.1 g.2).length)]:=by unfold Q3y;simp
theorem G8 {α:Type} (A:List α):A=[]\/ ∃B x,A=B++[x]:=by
 rcases List.eq_nil_or_concat A with h|⟨B,x,h⟩
 ·exact .inl h
 ·exact .inr ⟨B,x,by rw [h,List.concat_eq_append]⟩
section
variable {P:ByteArray} {s s':Qz} {st st':Jf} {A:List Bo}
theorem Laid.few (h:Laid P s st A) (hn:st.Qi.length<900000): ∀g∈A,g.1<1000000:=λg hg=>by
 have:=Dn A 1 h.chain g hg;rw [h.Qi] at hn;omega
theorem Laid.Qp3 {A0:List Bo} {g:Bo} (h:Laid P s st (A0++[g])):Ej 1 A0/\g.1=1+(Ui A0).length/\g.2≠[]:=by
 have h1:=(E4 A0 1 [g]).1 h.chain;exact ⟨h1.1,h1.2.1,h1.2.2.1⟩
theorem Laid.dead (h:Laid P s st A) (b:Bool):Laid P s {st with dead:=b} A:=⟨h.Qi,h.Qk,h.chain,h.key,h.data,h.only,h.last,h.Qth,h.sized⟩
theorem Q7z {g:Bo} {k:Nat} (h:g.2.length<=k):Fk g.1 (g.2.take k)=Fk g.1 g.2:=by rw [List.take_of_length_le h]
theorem Laid.all (h:Laid P s st A) (hs:st.synced=st.Qi.length): ∀g∈A,(Fk g.1 g.2).length<=E6 s.files (X7 P g.1):=λg hg=>by
 rcases G8 A with rfl|⟨A0,q,rfl⟩
 ·cases hg
 ·obtain ⟨h1,h2⟩:=h.last A0 q rfl;rcases mem_append.1 hg with hg|hg
  ·exact h1 g hg
  ·obtain rfl:=mem_singleton.1 hg;rw [Q7z (by rw [hs,h.Qi,Vh,length_append];omega)] at h2;exact h2
theorem La (h:Laid P s st A) (_:st.Qi.length<900000):Laid P (J0 P s st).2.1 (J0 P s st).2.2 A/\((J0 P s st).1=0->(J0 P s st).2.2.synced=st.Qi.length)/\(J0 P s st).2.2.Qi=st.Qi/\(J0 P s st).2.2.Qk=st.Qk/\st.synced<=(J0 P s st).2.2.synced:=by
 unfold J0;split
 ·next hlt=>
  rcases G8 A with rfl|⟨A0,g,rfl⟩
  ·have:=h.Qi;rw [this] at hlt;exact absurd hlt (Nat.not_lt_zero _)
  ·have hlast:st.Qk.getLast?=some (g.1,(Fk g.1 g.2).length):=by rw [h.Qk,Ut];simp
   rw [hlast];simp only
   by_cases h0:(Da s (X7 P g.1)).1=0
   ·rw [if_pos h0];obtain ⟨_,_,h3⟩:=I4 h0;have hfs:(Da s (X7 P g.1)).2.files=Xj s.files (X7 P g.1):=by unfold Da;rw [h3]
    obtain ⟨c,hc⟩:=Qk5 (h.key g (by simp));have hcd:c.data=Fk g.1 g.2:=by rw [<-h.data g (by simp),Qwp hc]
    have hsf:Xj s.files (X7 P g.1)=Jb s.files (X7 P g.1) ⟨c.data,c.data.length⟩:=by unfold Xj;rw [hc]
    rw [hsf] at hfs
    have hkey: ∀y,y∈(Jb s.files (X7 P g.1) ⟨c.data,c.data.length⟩).map (·.1)↔y∈s.files.map (·.1):=λy=>by
     rw [Aa,Aa];by_cases e:y=X7 P g.1
     ·rw [Y7,if_pos e,e,hc];simp
     ·rw [Y7,if_neg e]
    have hdat: ∀y,(Oj (Jb s.files (X7 P g.1) ⟨c.data,c.data.length⟩) y).1=(Oj s.files y).1:=λy=>by
     unfold Oj;by_cases e:y=X7 P g.1
     ·rw [Y7,if_pos e,e,hc]
     ·rw [Y7,if_neg e]
    have J1m: ∀y,E6 (Jb s.files (X7 P g.1) ⟨c.data,c.data.length⟩) y=if y=X7 P g.1 then c.data.length else E6 s.files y:=λy=>by
     unfold E6;by_cases e:y=X7 P g.1
     ·rw [Y7,if_pos e,if_pos e]
     ·rw [Y7,if_neg e,if_neg e]
    refine ⟨⟨h.Qi,h.Qk,h.chain,λq hq=>?_,λq hq=>?_,λp hp hx=>?_,λB q hA=>?_,le_refl _,h.sized⟩,λ_=>rfl,rfl,rfl,by simp only;omega⟩
    ·rw [hfs,hkey];exact h.key q hq
    ·rw [hfs,hdat];exact h.data q hq
    ·rw [hfs] at hp;obtain ⟨p',hp',e⟩:=mem_map.1 ((hkey p.1).1 (mem_map.2 ⟨p,hp,rfl⟩));rw [<-e] at hx⊢;exact h.only p' hp' hx
    ·obtain ⟨rfl,rfl⟩:=Q1n hA;obtain ⟨h4,h5⟩:=h.last A0 g rfl;rw [hfs];refine ⟨λq hq=>?_,?_⟩
     ·rw [J1m];split
      ·next e=>
       have h6:=Q04 _ _ h.chain;rw [List.map_append,List.pairwise_append] at h6;have h7:=h6.2.2 q.1 (mem_map.2 ⟨q,hq,rfl⟩) g.1 (by simp);have:=Ly e;omega
      ·exact h4 q hq
     ·rw [J1m,if_pos rfl,hcd];have hsl:g.2.length<=st.Qi.length-(Ui A0).length:=by rw [h.Qi,Vh,length_append];omega
      rw [show Fk g.1 (g.2.take (st.Qi.length-(Ui A0).length))=Fk g.1 g.2 from Q7z hsl];exact le_refl _
   ·rw [if_neg h0,show (Da s (X7 P g.1)).2=s from I3 h0];exact ⟨h,λe=>absurd e h0,rfl,rfl,le_refl _⟩
 ·next hge=>exact ⟨h,λ_=>by have:=h.Qth;show st.synced=_;omega,rfl,rfl,le_refl _⟩
theorem Qlu (h:Laid P s st A) (hn:st.Qi.length<900000):Laid P (Yi P s st).2.1 (Yi P s st).2.2 A/\((Yi P s st).1=0->(Yi P s st).2.2.synced=st.Qi.length)/\(Yi P s st).2.2.Qi=st.Qi/\st.synced<=(Yi P s st).2.2.synced:=by
 unfold Yi;split
 ·exact ⟨h,λe=>(by cases e),rfl,le_refl _⟩
 ·obtain ⟨h1,h2,h3,_,h5⟩:=La h hn;exact ⟨h1.dead _,h2,h3,h5⟩
theorem Q7y (h:Laid P s st A) (hn:st.Qi.length<900000):Laid P (Ju P s st).2.1 (Ju P s st).2.2 A/\((Ju P s st).1=0->Jj st=true->st.Qk≠[]->(Ju P s st).2.2.synced=st.Qi.length)/\(Ju P s st).2.2.Qi=st.Qi/\(Ju P s st).2.2.Qk=st.Qk/\st.synced<=(Ju P s st).2.2.synced:=by
 unfold Ju;split
 ·obtain ⟨h1,h2,h3,h4,h5⟩:=La h hn;exact ⟨h1,λe _ _=>h2 e,h3,h4,h5⟩
 ·next hno=>exact ⟨h,λ_ h1 h2=>absurd ⟨h1,h2⟩ hno,rfl,rfl,le_refl _⟩
theorem Qnj (l:Jl) (x:ByteArray) (b:List UInt8) (y:ByteArray):y∈(Jg l x b).map (·.1)↔y=x\/y∈l.map (·.1):=by
 rw [Aa,Aa];unfold Jg;cases hg:Qs l x with
 |none=>
  simp only
  by_cases e:y=x
  ·rw [Y7,if_pos e];simp [e]
  ·rw [Y7,if_neg e];simp [e]
 |some c=>
  simp only
  by_cases e:y=x
  ·rw [Y7,if_pos e];simp [e]
  ·rw [Y7,if_neg e];simp [e]
theorem Q24 (l:Jl) (x:ByteArray) (b:List UInt8) (y:ByteArray):E6 (Jg l x b) y=E6 l y:=by
 unfold Jg E6;cases hg:Qs l x with
 |none=>
  simp only
  by_cases e:y=x
  ·rw [Y7,if_pos e,e,hg]
  ·rw [Y7,if_neg e]
 |some c=>
  simp only
  by_cases e:y=x
  ·rw [Y7,if_pos e,e,hg]
  ·rw [Y7,if_neg e]
theorem Qlt (h:Laid P s st A) (hn:st.Qi.length<900000) (hfs:Jj st=true->st.Qk≠[]->st.synced=st.Qi.length) {p:List UInt8} (hp:p.length<=262134) (hs:s'.files=Jg s.files (toN P st) (Zo (st.Qi.length+1) p)): ∃A',Laid P s' (Y5 st p) A':=by
 have hea:(Y5 st p).Qi=st.Qi++[p]:=rfl;have hya:(Y5 st p).synced=st.synced:=rfl
 have hsz:Qsd (Y5 st p).Qi:=λq hq=>by
  rw [hea] at hq;rcases mem_append.1 hq with hq|hq
  ·exact h.sized q hq
  ·obtain rfl:=mem_singleton.1 hq;exact hp
 have hlt: ∀g∈A,g.1<st.Qi.length+1:=λg hg=>by
  have:=Dn A 1 h.chain g hg;rw [h.Qi];omega
 have hb: ∀n,n<=st.Qi.length+1->V5 P (X7 P n)=true:=λn hn'=>Nh (by omega);by_cases hf:Jj st=true
 ·have hto:toN P st=X7 P (st.Qi.length+1):=by unfold toN;rw [if_pos hf]
  rw [hto] at hs
  have hnew:X7 P (st.Qi.length+1)∉s.files.map (·.1):=λhm=>by
   obtain ⟨q,hq,e⟩:=mem_map.1 hm;obtain ⟨g,hg,e2⟩:=h.only q hq (by rw [e];exact hb _ (le_refl _));have:=Ly (e.symm.trans e2);have:=hlt g hg;omega
  have hno:(Oj s.files (X7 P (st.Qi.length+1))).1=[]:=Qe8 (Z5.2 hnew);refine ⟨A++[(st.Qi.length+1,[p])],?_,?_,?_,?_,?_,?_,?_,?_,hsz⟩
  ·rw [hea,Vh,h.Qi]
  ·rw [Ut,<-h.Qk,Q0r];show (if Jj st=true then _ else _)=_
   rw [if_pos hf]
  ·rw [E4];exact ⟨h.chain,by simp only [<-h.Qi];omega,by simp,trivial⟩
  ·intro g hg;rw [hs,Qnj];rcases mem_append.1 hg with hg|hg
   ·exact .inr (h.key g hg)
   ·obtain rfl:=mem_singleton.1 hg;exact .inl rfl
  ·intro g hg;rw [hs,Qeq];rcases mem_append.1 hg with hg|hg
   ·rw [if_neg (λe=>by have:=Ly e;have:=hlt g hg;omega)];exact h.data g hg
   ·obtain rfl:=mem_singleton.1 hg;rw [if_pos rfl,hno,Q0r];rfl
  ·intro q hq hx;rw [hs] at hq;rcases Aj hq with e|⟨q',hq',e⟩
   ·exact ⟨_,List.mem_append_right _ (mem_singleton.2 rfl),e⟩
   ·rw [<-e] at hx⊢;obtain ⟨g,hg,e2⟩:=h.only q' hq' hx;exact ⟨g,mem_append_left _ hg,e2⟩
  ·intro B g hA;obtain ⟨rfl,rfl⟩:=Q1n hA;rw [hs];refine ⟨λq hq=>?_,?_⟩
   ·rw [Q24];refine h.all (hfs hf λh0=>?_) q hq;rw [h.Qk] at h0;have:A=[]:=List.map_eq_nil_iff.1 h0;rw [this] at hq;cases hq
   ·rw [hya,show st.synced-(Ui A).length=0 by rw [<-h.Qi];have:=h.Qth;omega,List.take_zero];exact Nat.zero_le _
  ·rw [hya,hea,length_append];have:=h.Qth;omega
 ·have hf':Jj st=false:=by simpa using hf
  rcases G8 A with rfl|⟨A0,g,rfl⟩
  ·exact absurd (Et (by rw [h.Qk];rfl)) (by rw [hf'];simp)
  obtain ⟨hc1,hc2,hc3⟩:=h.Qp3;have hsg:st.Qk=Q3y A0++[(g.1,(Fk g.1 g.2).length)]:=by rw [h.Qk,Ut]
  have hto:toN P st=X7 P g.1:=by unfold toN;rw [if_neg hf,Fj hsg]
  rw [hto] at hs
  have hnum:g.1+g.2.length=st.Qi.length+1:=by
   rw [h.Qi,Vh,length_append];omega
  have Qkw:Fk g.1 (g.2++[p])=Fk g.1 g.2++Zo (st.Qi.length+1) p:=by rw [Bd,Q0r,hnum]
  have hgl: ∀q∈A0,q.1<g.1:=λq hq=>by
   have:=Dn A0 1 hc1 q hq;omega
  refine ⟨A0++[(g.1,g.2++[p])],?_,?_,?_,?_,?_,?_,?_,?_,hsz⟩
  ·rw [hea,Vh,h.Qi,Vh,List.append_assoc]
  ·rw [Ut,Qkw,length_append];rw [A6 hf' hsg]
  ·rw [E4];exact ⟨hc1,hc2,by simp,trivial⟩
  ·intro q hq;rw [hs,Qnj];rcases mem_append.1 hq with hq|hq
   ·exact .inr (h.key q (mem_append_left _ hq))
   ·obtain rfl:=mem_singleton.1 hq;exact .inl rfl
  ·intro q hq;rw [hs,Qeq];rcases mem_append.1 hq with hq|hq
   ·rw [if_neg (λe=>by have:=Ly e;have:=hgl q hq;omega)];exact h.data q (mem_append_left _ hq)
   ·obtain rfl:=mem_singleton.1 hq;show (if X7 P g.1=X7 P g.1 then _ else _)=_
    rw [if_pos rfl,h.data g (by simp),Qkw]
  ·intro q hq hx;rw [hs] at hq
   have hall: ∀q'∈s.files,V5 P q'.1=true-> ∃g'∈A0++[(g.1,g.2++[p])],q'.1=X7 P g'.1:=λq' hq' hx'=>by
    obtain ⟨g',hg',e2⟩:=h.only q' hq' hx';rcases mem_append.1 hg' with hg'|hg'
    ·exact ⟨g',mem_append_left _ hg',e2⟩
    ·obtain rfl:=mem_singleton.1 hg';exact ⟨_,List.mem_append_right _ (mem_singleton.2 rfl),e2⟩
   rcases Aj hq with e|⟨q',hq',e⟩
   ·exact ⟨_,List.mem_append_right _ (mem_singleton.2 rfl),e⟩
   ·rw [<-e] at hx⊢;exact hall q' hq' hx
  ·intro B q hA;obtain ⟨rfl,rfl⟩:=Q1n hA;obtain ⟨h4,h5⟩:=h.last A0 g rfl;rw [hs];refine ⟨λq hq=>?_,?_⟩
   ·rw [Q24];exact h4 q hq
   ·rw [Q24,hya];simp only
    rw [List.take_append_of_le_length (by have:=h.Qth;rw [h.Qi,Vh,length_append] at this;omega)];exact h5
  ·rw [hya,hea,length_append];have:=h.Qth;omega
theorem Q7x (h:Laid P s st A) (hn:st.Qi.length<900000) (p:List UInt8): ∃A',Laid P (Jz P s st p).2.1 (Jz P s st p).2.2 A'/\((Jz P s st p).1.2=0->(Jz P s st p).2.2.Qi=st.Qi++[p])/\((Jz P s st p).1.2≠0->(Jz P s st p).2.2.Qi=st.Qi)/\st.synced<=(Jz P s st p).2.2.synced:=by
 unfold Jz;split
 ·exact ⟨A,h,λe=>(by cases e),λ_=>rfl,le_refl _⟩
 ·split
  ·exact ⟨A,h,λe=>(by cases e),λ_=>rfl,le_refl _⟩
  ·next hpl=>
   obtain ⟨h1,h2,h3,h4,h5⟩:=Q7y h hn;split
   ·next h0=>
    simp only
    split
    ·next h6=>
     have hfr:Jj (Ju P s st).2.2=Jj st:=by unfold Jj;rw [h4]
     have hto:toN P (Ju P s st).2.2=toN P st:=by unfold toN Jj Oc;rw [h3,h4]
     obtain ⟨A',hA'⟩:=Qlt h1 (by rw [h3];exact hn) (λhf hs=>by rw [h3];exact h2 h0 (hfr▸hf) (h4▸hs)) (p:=p) (by omega) (s':=(Gy (Ju P s st).2.1 (toN P st) (Zo (st.Qi.length+1) p)).2) (by rw [hto,h3];exact Qep h6);exact ⟨A',hA',λ_=>by show (Ju P s st).2.2.Qi++[p]=_;rw [h3],λe=>absurd rfl e,h5⟩
    ·next h6=>
     rw [show (Gy (Ju P s st).2.1 (toN P st) (Zo (st.Qi.length+1) p)).2=(Ju P s st).2.1 from I3 h6];exact ⟨A,h1.dead _,λe=>absurd e h6,λ_=>h3,h5⟩
   ·next h0=>exact ⟨A,h1.dead _,λe=>absurd e h0,λ_=>h3,h5⟩
end
theorem Qjb (P:ByteArray) {n:Nat} (hn:n<100000000):(X7 P n).size=P.size+8:=by
 show (Ou P.data.toList n).toArray.size=_
 rw [List.size_toArray,Qgb _ hn,Array.length_toList];rfl
theorem Quk {P:ByteArray} (hP:P.size<=50) {n:Nat} (hn:n<100000000):Jq (X7 P n)=true:=by
 unfold Jq;rw [Qjb P hn,Bool.and_eq_true,decide_eq_true_iff,decide_eq_true_iff];omega
theorem Qmz {P y:ByteArray} (h:V5 P y=true):y.size=P.size+8:=by
 unfold V5 at h;rw [Option.isSome_iff_exists] at h;obtain ⟨m,hm⟩:=h;obtain ⟨d,h1,h2,_⟩:=Qce hm;have:=congrArg List.length h1;rw [length_append,h2,Array.length_toList,Array.length_toList] at this;exact this
theorem Q83 {β:Type} (l:List (ByteArray×β)) (k:ByteArray) (v:β):(Jb l k v).length<=l.length+1:=by
 unfold Jb;split
 ·rw [List.length_map];omega
 ·rw [length_append,List.length_singleton];exact le_refl _
theorem Q59 {β:Type} {l:List (ByteArray×β)} {k:ByteArray} {c:β} (v:β) (h:Qs l k=some c):(Jb l k v).length=l.length:=by
 unfold Jb;rw [if_pos (mem_map.2 ⟨_,Jc h,rfl⟩),List.length_map]
theorem Qni {s:Qz} (h:Qi8 s) (x:ByteArray) (b:List UInt8):Qi8 (Gy s x b).2:=by
 obtain ⟨h1,h2⟩:=Qtk h.ok x b;refine ⟨?_,?_,h1⟩
 ·unfold Gy five;split
  ·exact h.Jo
  ·split
   ·split
    ·simp [h.Jo]
    ·exact h.Jo
   ·exact h.Jo
 ·rcases Q39 s [x] (Zr s x b) (Jg s.files x b) with e|⟨_,e⟩
  ·unfold Gy;rw [e];exact h.nodup
  ·unfold Gy;rw [e];unfold Jg;split
   ·exact Mx h.nodup
   ·exact Mx h.nodup
structure Roomy (s:Qz) (T N:Nat):Prop where
 free:Qi8 s
 room:s.room=1048576
 tot:Jw s.files<=T
 len:s.files.length<=N
def Ul (P:ByteArray) (s s':Qz):Prop:= ∀y,V5 P y=false->Qs s'.files y=Qs s.files y
theorem Ul.refl (P:ByteArray) (s:Qz):Ul P s s:=λ_ _=>rfl
section
variable {P:ByteArray} {s:Qz} {st:Jf} {A:List Bo} {T N:Nat}
theorem Q1t (h:Laid P s st A) (hr:Roomy s T N) (hn:st.Qi.length<900000):(J0 P s st).1=0/\Roomy (J0 P s st).2.1 T N/\(J0 P s st).2.2.dead=st.dead/\Ul P s (J0 P s st).2.1:=by
 unfold J0;split
 ·next hlt=>
  rcases G8 A with rfl|⟨A0,g,rfl⟩
  ·have:=h.Qi;rw [this] at hlt;exact absurd hlt (Nat.not_lt_zero _)
  ·have hlast:st.Qk.getLast?=some (g.1,(Fk g.1 g.2).length):=by rw [h.Qk,Ut];simp
   rw [hlast];simp only
   obtain ⟨c,hc⟩:=Qk5 (h.key g (by simp));obtain ⟨h1,h2⟩:=Qre hr.free hc;rw [h1,if_pos rfl];have ht:=Nz (y:=⟨c.data,c.data.length⟩) hr.free.nodup hc;simp only at ht
   refine ⟨rfl,⟨h2,hr.room,?_,?_⟩,rfl,λy hy=>?_⟩
   ·have:=hr.tot;simp only;omega
   ·simp only;rw [Q59 _ hc];exact hr.len
   ·show Qs (Jb s.files (X7 P g.1) _) y=_
    rw [Y6];rintro rfl;rw [Nh (by have:=h.few hn g (by simp);omega)] at hy;cases hy
 ·exact ⟨rfl,hr,rfl,Ul.refl _ _⟩
theorem Qmh (h:Laid P s st A) (hr:Roomy s T N) (hn:st.Qi.length<900000):(Ju P s st).1=0/\Roomy (Ju P s st).2.1 T N/\(Ju P s st).2.2.dead=st.dead/\Ul P s (Ju P s st).2.1:=by
 unfold Ju;split
 ·exact Q1t h hr hn
 ·exact ⟨rfl,hr,rfl,Ul.refl _ _⟩
theorem Qn4 (h:Laid P s st A) (hr:Roomy s T N) (hd:st.dead=false) (hn:st.Qi.length<900000):(Yi P s st).1=0/\Roomy (Yi P s st).2.1 T N/\(Yi P s st).2.2.dead=false/\(Yi P s st).2.2.Qk=st.Qk/\Ul P s (Yi P s st).2.1:=by
 obtain ⟨h1,h2,h3,h4⟩:=Q1t h hr hn;obtain ⟨_,_,_,k4,_⟩:=La h hn;unfold Yi;rw [if_neg (by rw [hd];simp)];exact ⟨h1,h2,by simp [h1],k4,h4⟩
theorem Qti (h:Laid P s st A) (_:P.size<=50) (hn:st.Qi.length<900000): ∃n,n<100000000/\toN P st=X7 P n:=by
 unfold toN;split
 ·exact ⟨_,by omega,rfl⟩
 ·rcases G8 A with rfl|⟨A0,g,rfl⟩
  ·next hf=>exact absurd (Et (by rw [h.Qk];rfl)) hf
  ·have hsg:st.Qk=Q3y A0++[(g.1,(Fk g.1 g.2).length)]:=by rw [h.Qk,Ut]
   rw [Fj hsg];exact ⟨g.1,by have:=h.few hn g (by simp);omega,rfl⟩
theorem Q6p (h:Laid P s st A) (hr:Roomy s T N) (hP:P.size<=50) (hd:st.dead=false) (hn:st.Qi.length<900000) {p:List UInt8} (hp:p.length<=262134) (hT:T+(p.length+16)<=1048576) (hN:N<4096):
  (Jz P s st p).1=(st.Qi.length+1,0)/\Roomy (Jz P s st p).2.1 (T+(p.length+16)) (N+1)/\(Jz P s st p).2.2.dead=false/\(Jz P s st p).2.2.Qk=(Y5 st p).Qk/\Ul P s (Jz P s st p).2.1:=by
 obtain ⟨h1,h2,h3,h4⟩:=Qmh h hr hn;obtain ⟨k1,k2,k3,k4,k5⟩:=Q7y h hn;obtain ⟨m,hm,hto⟩:=Qti h hP hn
 have hel:(Zo (st.Qi.length+1) p).length<=p.length+16:=by
  have hl:=Js 3 (st.Qi.length+1) (by omega);unfold Zo;rw [Mb,length_append];omega
 obtain ⟨s2,hs2⟩: ∃s2,s2=(Ju P s st).2.1:=⟨_,rfl⟩;obtain ⟨st2,hst2⟩: ∃st2,st2=(Ju P s st).2.2:=⟨_,rfl⟩;rw [<-hs2] at h2 h4;rw [<-hst2] at h3 k3 k4
 have hcode:Zr s2 (toN P st) (Zo (st.Qi.length+1) p)=0:=by
  unfold Zr;rw [if_neg];have a1:=h2.room;have a2:=h2.tot;have a3:=h2.len;rintro (e|⟨_,e⟩)
  ·omega
  ·omega
 have hwr:Gy s2 (toN P st) (Zo (st.Qi.length+1) p)=(0,{s2 with files:=Jg s2.files (toN P st) (Zo (st.Qi.length+1) p)}):=by
  unfold Gy;rw [hcode,Q38 h2.free.Jo (by rw [hto];exact Quk hP hm),if_pos rfl]
 have happ:Jz P s st p=((st.Qi.length+1,0),{s2 with files:=Jg s2.files (toN P st) (Zo (st.Qi.length+1) p)},Y5 st2 p):=by
  unfold Jz;rw [if_neg (by rw [hd];simp),if_neg (by omega),if_pos h1,<-hs2,<-hst2];simp only [hwr,if_true]
 rw [happ]
 have hsd:(Y5 st2 p).Qk=(Y5 st p).Qk:=by
  unfold Y5 Jj bump;rw [k3,k4]
 refine ⟨rfl,⟨?_,h2.room,?_,?_⟩,h3.trans hd,hsd,λy hy=>?_⟩
 ·have:=Qni h2.free (toN P st) (Zo (st.Qi.length+1) p);rw [hwr] at this;exact this
 ·show Jw (Jg s2.files _ _)<=_
  unfold Jg;cases hg:Qs s2.files (toN P st) with
  |none=>
   simp only
   rw [Mi hg];have:=h2.tot;simp only
   omega
  |some c=>
   simp only
   have ht:=Nz (y:=⟨c.data++Zo (st.Qi.length+1) p,c.lasts⟩) h2.free.nodup hg;have:=h2.tot;simp only [length_append] at ht;omega
 ·show (Jg s2.files _ _).length<=_
  unfold Jg;have:=h2.len;split
  ·exact le_trans (Q83 _ _ _) (by omega)
  ·exact le_trans (Q83 _ _ _) (by omega)
 ·show Qs (Jg s2.files _ _) y=_
  rw [<-h4 y hy]
  have hne:y≠toN P st:=by
   rintro rfl;rw [hto,Nh hm] at hy;cases hy
  unfold Jg;split
  ·rw [Y6 _ _ hne]
  ·rw [Y6 _ _ hne]
end
theorem Qj7 (P:ByteArray):(Qan P).size=P.size+3:=by
 show (P.data.toList++[97,103,101]).toArray.size=_
 simp
theorem Qm3 (P:ByteArray) (a:Nat):(Zj P a).size=P.size+((Lib.decDigits a).length+1):=by
 show (P.data.toList++(Lib.decDigits a++[46])).toArray.size=_
 simp
theorem Av (P:ByteArray) (a:Nat):V5 (Zj P a) (Qan P)=false:=by
 cases h:V5 (Zj P a) (Qan P) with
 |false=>rfl
 |true=>
  have h1:=Qmz h;rw [Qj7,Qm3] at h1;omega
theorem Qj6 {l l':Jl} {P:ByteArray} (h:Qs l' (Qan P)=Qs l (Qan P)):Qj5 l' P=Qj5 l P:=by unfold Qj5;rw [h]
abbrev Q5d (st:Ja) (a n:Nat) (d:Bool):Ja:={st with Zc:=a,n:=n,dead:=d}
theorem Q0s (o a n:Nat) (d:Bool): ∀(l:List Qu) (st:Ja),Jh o (Q5d st a n d) l=Q5d (Jh o st l) a n d:=by
 intro l;induction l with
 |nil=>intro st;rfl
 |cons r l ih=>intro st;exact ih (E7 o st r)
theorem Qpd (o a n:Nat) (d:Bool) (st:Ja) (f:Bool) (p:List UInt8):Kb o (Q5d st a n d) f p=(Kb o st f p).map λy=>Q5d y a n d:=by
 unfold Kb;split
 ·split
  ·next r _ _=>
   cases hr:Qea r with
   |none=>rfl
   |some l=>
    simp only
    have hm:V7 (Q5d st a n d) l=V7 st l:=rfl;rw [hm];split
    ·rw [Q0s];rfl
    ·rfl
  ·split
   ·rfl
   ·rfl
  ·cases J05 o (Mer.Yv (some p)).2<;>rfl
  ·rfl
 ·rfl
theorem Qmr {o:Nat} {p:List UInt8}: ∀(E:List (List UInt8)) (f:Bool) (st x:Ja),(E=[]->f=false)->Q8v o f st E=some x->Q8v o f st (E++[p])=Kb o x false p:=by
 intro E;induction E with
 |nil=>
  intro f st x hf h;injection h with h;subst h;rw [hf rfl,List.nil_append,Q8v];cases Kb o st false p<;>rfl
 |cons q E ih=>
  intro f st x _ h;rw [Q8v] at h;rw [cons_append,Q8v];cases hq:Kb o st f q with
  |none=>rw [hq] at h;cases h
  |some y=>
   rw [hq] at h;exact ih false y x (λ_=>rfl) h
theorem Q8w {o a:Nat} {E:List (List UInt8)} {p:List UInt8} {x y:Ja} (h:Ny o a E=some x) (hp:Kb o x false p=some y):Ny o a (E++[p])=some {y with n:=x.n+1}:=by
 unfold Ny at h;split at h
 ·cases h
 ·next hne=>
  cases hg:Q8v o (decide (0<a)) {Er with Zc:=a} E with
  |none=>rw [hg] at h;cases h
  |some z=>
   rw [hg] at h;injection h with h;have hx:x={z with n:=E.length-min 1 a}:=h.symm
   have hs:=Qmr (p:=p) E (decide (0<a)) {Er with Zc:=a} z (λhe=>by
    subst he;exact decide_eq_false (λh0=>hne ⟨h0,rfl⟩)) hg
   have hz:Kb o z false p=some {y with n:=z.n}:=by
    have:=Qpd o x.Zc z.n x.dead x false p;have e:Q5d x x.Zc z.n x.dead=z:=by rw [hx]
    rw [e,hp] at this;rw [this]
    have: ∀w:Ja,Kb o x false p=some w->w.Zc=x.Zc/\w.dead=x.dead:=by
     intro w hw;unfold Kb at hw;split at hw
     ·split at hw
      ·split at hw
       ·cases hw
       ·next l _=>
        split at hw
        ·injection hw with hw;subst hw;have:=Q0s o x.Zc x.n x.dead l x;have e2:Q5d x x.Zc x.n x.dead=x:=rfl;rw [e2] at this;rw [this];exact ⟨rfl,rfl⟩
        ·cases hw
      ·split at hw
       ·injection hw with hw;subst hw;exact ⟨rfl,rfl⟩
       ·cases hw
      ·split at hw
       ·cases hw
       ·injection hw with hw;subst hw;exact ⟨rfl,rfl⟩
      ·cases hw
     ·cases hw
    obtain ⟨e1,e2⟩:=this y hp;show some (Q5d y x.Zc z.n x.dead)=_
    rw [<-e1,<-e2]
   unfold Ny
   rw [if_neg (by
    rintro ⟨_,h2⟩;rw [length_append,List.length_singleton] at h2;omega),hs,hz]
   simp only [length_append,List.length_singleton]
   have hn:E.length+1-min 1 a=x.n+1:=by
    rw [hx];show E.length+1-min 1 a=E.length-min 1 a+1
    rcases Nat.eq_zero_or_pos a with h0|h0
    ·rw [h0];simp
    ·have h1:min 1 a=1:=by omega
     have h2:E.length≠0:=λh2=>hne ⟨h0,h2⟩;rw [h1];omega
   rw [hn]
theorem Q06 {s:Qz} {ns:List ByteArray} {c:Int} {fs:Jl} {y:ByteArray} (h:Qs fs y=Qs s.files y):Qs (five s ns c fs).2.files y=Qs s.files y:=by
 rcases Q39 s ns c fs with e|⟨_,e⟩
 ·rw [e]
 ·rw [e,h]
theorem Qn9 {s:Qz} {x y:ByteArray} (h:y≠x):Qs (Da s x).2.files y=Qs s.files y:=Q06 (by
 unfold Xj;split
 ·exact Y6 _ _ h
 ·rfl)
theorem Q9i {s:Qz} {x y:ByteArray} {p:List UInt8} (h:y≠x):Qs (Gy s x p).2.files y=Qs s.files y:=Q06 (by
 unfold Jg;split
 ·exact Y6 _ _ h
 ·exact Y6 _ _ h)
theorem Qc4 {P x y:ByteArray} (hy:V5 P y=false) (hx:V5 P x=true):y≠x:=λe=>by
 rw [e,hx] at hy;cases hy
theorem Qly {P:ByteArray} {s:Qz} {lg:Jf} {A:List Bo} (h:Laid P s lg A) (hn:lg.Qi.length<900000) {z:Nat×Nat} (hz:lg.Qk.getLast?=some z):V5 P (X7 P z.1)=true:=by
 have hm:=List.mem_of_getLast? hz;rw [h.Qk] at hm;obtain ⟨g,hg,rfl⟩:=mem_map.1 hm;exact Nh (by have:=h.few hn g hg;show g.1<_;omega)
theorem Bk {P:ByteArray} {s:Qz} {lg:Jf} {A:List Bo} (h:Laid P s lg A) (hn:lg.Qi.length<900000):Ul P s (J0 P s lg).2.1:=λy hy=>by
 unfold J0;split
 ·split
  ·rfl
  ·next z hz=>exact Qn9 (Qc4 hy (Qly h hn hz))
 ·rfl
theorem Qh2 {P:ByteArray} {s:Qz} {lg:Jf} {A:List Bo} (h:Laid P s lg A) (hn:lg.Qi.length<900000):Ul P s (Yi P s lg).2.1:=λy hy=>by
 unfold Yi;split
 ·rfl
 ·exact Bk h hn y hy
theorem Qgi {P:ByteArray} {s:Qz} {lg:Jf} {A:List Bo} (h:Laid P s lg A) (hn:lg.Qi.length<900000):Ul P s (Ju P s lg).2.1:=λy hy=>by
 unfold Ju;split
 ·exact Bk h hn y hy
 ·rfl
theorem Qfb {P:ByteArray} {s:Qz} {lg:Jf} {A:List Bo} (h:Laid P s lg A) (hP:P.size<=50) (hn:lg.Qi.length<900000) (p:List UInt8):Ul P s (Jz P s lg p).2.1:=λy hy=>by
 obtain ⟨n,hn1,hn2⟩:=Qti h hP hn;have hto:V5 P (toN P lg)=true:=by rw [hn2];exact Nh hn1
 have h1:=Qgi h hn y hy;unfold Jz;split
 ·rfl
 ·split
  ·rfl
  ·split
   ·simp only
    split
    ·exact (Q9i (Qc4 hy hto)).trans h1
    ·exact (Q9i (Qc4 hy hto)).trans h1
   ·exact h1
theorem Bm {P:ByteArray} {s:Qz} {lg:Jf} {A:List Bo} (h:Laid P s lg A) (hP:P.size<=50) (hn:lg.Qi.length+1<900000) (p:List UInt8):
  (∃A',Laid P (J7 P s lg p).2.1 (J7 P s lg p).2.2 A')/\Ul P s (J7 P s lg p).2.1/\((J7 P s lg p).2.2.Qi=lg.Qi\/(J7 P s lg p).2.2.Qi=lg.Qi++[p])/\lg.synced<=(J7 P s lg p).2.2.synced/\
   ((J7 P s lg p).1=0->(J7 P s lg p).2.2.Qi=lg.Qi++[p]/\(J7 P s lg p).2.2.synced=(J7 P s lg p).2.2.Qi.length):=by
 have hn0:lg.Qi.length<900000:=by omega
 obtain ⟨A1,a1,a2,a3,a4⟩:=Q7x h hn0 p;have ho:=Qfb h hP hn0 p;unfold J7;split
 ·next h0=>
  have e:=a2 h0;have hn1:(Jz P s lg p).2.2.Qi.length<900000:=by rw [e,length_append];exact hn
  obtain ⟨b1,b2,b3,b4⟩:=Qlu a1 hn1;refine ⟨⟨A1,b1⟩,λy hy=>(Qh2 a1 hn1 y hy).trans (ho y hy), .inr (b3.trans e),le_trans a4 b4,λhc=>⟨b3.trans e,?_⟩⟩;rw [b2 hc,b3]
 ·next h0=>exact ⟨⟨A1,a1⟩,ho, .inl (a3 h0),a4,λhc=>absurd hc h0⟩
theorem Q5u {P:ByteArray} {s:Qz} {lg:Jf} {p:List UInt8} (h:(J7 P s lg p).1=0):(J7 P s lg p).2.2.dead=false:=by
 unfold J7 at h⊢;split at h
 ·next h0=>
  rw [if_pos h0];unfold Yi at h⊢;split at h
  ·cases h
  ·next hd=>
   rw [if_neg hd];simp only at h⊢
   rw [h];rfl
 ·next h0=>exact absurd h h0
structure Bv (x st:Ja):Prop where
 Zc:x.Zc=st.Zc
 n:x.n=st.n
 keys:x.keys=st.keys
 mm:x.mm=st.mm
 mc:x.mc=st.mc
 of:x.of=st.of
 kept: ∃k,st.kept=x.kept.drop k
theorem Bv.refl (st:Ja):Bv st st:=⟨rfl,rfl,rfl,rfl,rfl,rfl,0,rfl⟩
theorem Bv.may {x st:Ja} (h:Bv x st) (l:List Qu):V7 x l=V7 st l:=by unfold V7;rw [h.mm,h.mc,h.of]
theorem Bv.lay {x st:Ja} (h:Bv x st) (o:Nat) (r:Qu):Bv (E7 o x r) (E7 o st r):=by
 obtain ⟨k,hk⟩:=h.kept;refine ⟨h.Zc,h.n,by show Z3 _ _ _=Z3 _ _ _;rw [h.keys],h.mm,h.mc,by show Z2 _ _=Z2 _ _;rw [h.of],?_⟩;show ∃k,(if r.o=(o:Int) then st.kept++[r] else st.kept)=(if r.o=(o:Int) then x.kept++[r] else x.kept).drop k
 by_cases hr:r.o=(o:Int)
 ·rw [if_pos hr,if_pos hr,hk];rcases Nat.lt_or_ge x.kept.length k with hlt|hge
  ·refine ⟨x.kept.length,?_⟩;rw [List.drop_of_length_le (Nat.le_of_lt hlt),List.drop_left' rfl];rfl
  ·exact ⟨k,(List.drop_append_of_le_length hge).symm⟩
 ·rw [if_neg hr,if_neg hr];exact ⟨k,hk⟩
theorem Bv.lays {o:Nat}: ∀(l:List Qu) {x st:Ja},Bv x st->Bv (Jh o x l) (Jh o st l):=by
 intro l;induction l with
 |nil=>intro x st h;exact h
 |cons r l ih=>intro x st h;exact ih (h.lay o r)
def Ak (o a:Nat) (E:List (List UInt8)):Prop:=0<a-> ∃y R,E=J06 y::R/\Inv o y/\(J06 y).length<=4611686018427387904
theorem Ak.more {o a:Nat} {E:List (List UInt8)} (h:Ak o a E) (p:List UInt8):Ak o a (E++[p]):=λha=>by
 obtain ⟨y,R,rfl,hy⟩:=h ha;exact ⟨y,R++[p],rfl,hy⟩
structure Qoz (P:ByteArray) (o:Nat) (s:Qz) (st:Ja) (lg:Jf):Prop where
 inv:Inv o st
 Zc:Qj5 s.files P=some st.Zc
 laid: ∃A,Laid (Zj P st.Zc) s lg A
 rep: ∃x,Ny o st.Zc lg.Qi=some x/\Bv x st
 Qth:lg.synced=lg.Qi.length
 alive:lg.dead=false
 Jf5:Ak o st.Zc lg.Qi
 full: ∀c,Qs s.files (Qan P)=some c->c.lasts=c.data.length
theorem Qmk {P:ByteArray} {o:Nat} {s:Qz} {st:Ja} {lg:Jf} (h:Qoz P o s st lg) (hP:(Zj P st.Zc).size<=50) (hn:lg.Qi.length+1<900000) {l:List Qu} (h0:(J8 P o s st lg l).1=0):
  Qoz P o (J8 P o s st lg l).2.1 (J8 P o s st lg l).2.2.1 (J8 P o s st lg l).2.2.2:=by
 obtain ⟨A,hA⟩:=h.laid;obtain ⟨x,hx,hr⟩:=h.rep;unfold J8 at h0⊢;split at h0
 ·cases h0
 ·next hd=>
  rw [if_neg hd];split at h0
  ·next hl=>rw [if_pos hl];exact h
  ·next hl=>
   rw [if_neg hl];split at h0
   ·next hm=>
    rw [if_pos hm];obtain ⟨⟨A',w1⟩,w2,_,_,w5⟩:=Bm hA hP hn (Gv l);simp only at h0⊢
    split at h0
    ·next hw=>
     obtain ⟨e1,e2⟩:=w5 hw;rw [if_pos hw]
     have ha:(Jh o st l).Zc=st.Zc:=by
      have:=Q0s o st.Zc st.n st.dead l st;have e:Q5d st st.Zc st.n st.dead=st:=rfl;rw [e] at this;rw [this]
     have J80:l≠[]:=λe=>hl (by rw [e];rfl);have hp:=Q8w hx (Qpe (o:=o) (st:=x) J80 (by rw [hr.may];exact hm));refine ⟨Ic (Q52 h.inv hm) _ _ _,?_,⟨A',by show Laid (Zj P (Jh o st l).Zc) _ _ _;rw [ha];exact w1⟩,⟨_,by show Ny o (Jh o st l).Zc _=_;rw [ha,e1];exact hp,?_⟩,e2,Q5u hw,by show Ak o (Jh o st l).Zc _;rw [ha,e1];exact h.Jf5.more _,λc hc=>h.full c ((w2 _ (Av P st.Zc)).symm.trans hc)⟩
     ·show Qj5 _ P=some (Jh o st l).Zc
      rw [ha,<-h.Zc];exact Qj6 (w2 _ (Av P st.Zc))
     ·have:=hr.lays (o:=o) l;exact ⟨this.Zc,by show x.n+1=st.n+1;rw [hr.n],this.keys,this.mm,this.mc,this.of,this.kept⟩
    ·next hw=>exact absurd h0 hw
   ·next hm=>exact absurd (Int.ofNat_eq_zero.1 h0) hm
theorem Q9j {P:ByteArray} {s:Qz} {lg:Jf} {A:List Bo} {T N:Nat} (h:Laid P s lg A) (hr:Roomy s T N) (hP:P.size<=50) (hd:lg.dead=false) (hn:lg.Qi.length+1<900000) {p:List UInt8} (hp:p.length<=262134) (hT:T+(p.length+16)<=1048576) (hN:N<4096):
  (J7 P s lg p).1=0/\Roomy (J7 P s lg p).2.1 (T+(p.length+16)) (N+1):=by
 obtain ⟨a1,a2,a3,_,_⟩:=Q6p h hr hP hd (by omega) hp hT hN;obtain ⟨A1,b1,b2,_,_⟩:=Q7x h (by omega) p;have h0:(Jz P s lg p).1.2=0:=by rw [a1]
 have hn1:(Jz P s lg p).2.2.Qi.length<900000:=by rw [b2 h0,length_append];exact hn
 obtain ⟨c1,c2,_,_,_⟩:=Qn4 b1 a2 a3 hn1;unfold J7;rw [if_pos h0];exact ⟨c1,c2⟩
theorem Q8n {l:List Qu} (h: ∀r∈l,Z4 r=true) (hl:l.length<=64):(Gv l).length<=71810:=by
 have h1:=Od h hl;have h2:=Js 0 1 (by decide);unfold Gv;rw [length_append];omega
theorem Qc7 {P:ByteArray} {o:Nat} {s:Qz} {st:Ja} {lg:Jf} {T N:Nat} (h:Qoz P o s st lg) (hd:st.dead=false) (hr:Roomy s T N) (hP:(Zj P st.Zc).size<=50) (hn:lg.Qi.length+1<900000) {l:List Qu} (hl:l.length≠0) (hm:V7 st l=0) (hT:T+((Gv l).length+16)<=1048576) (hN:N<4096):
  J8 P o s st lg l=(0,(J7 (Zj P st.Zc) s lg (Gv l)).2.1,{Jh o st l with n:=st.n+1},(J7 (Zj P st.Zc) s lg (Gv l)).2.2)/\Roomy (J8 P o s st lg l).2.1 (T+((Gv l).length+16)) (N+1):=by
 obtain ⟨A,hA⟩:=h.laid;obtain ⟨m1,m2,_⟩:=Ik hm;obtain ⟨w1,w2⟩:=Q9j hA hr hP h.alive hn (le_trans (Q8n m2 m1) (by decide)) hT hN
 have e:J8 P o s st lg l=(0,(J7 (Zj P st.Zc) s lg (Gv l)).2.1,{Jh o st l with n:=st.n+1},(J7 (Zj P st.Zc) s lg (Gv l)).2.2):=by
  unfold J8;rw [if_neg (by rw [hd];simp),if_neg hl,if_pos hm];simp only
  rw [if_pos w1]
 refine ⟨e,?_⟩;rw [e];exact w2
end Go.Proofs.YtgnkmjeoaoongaaGreatDoor
