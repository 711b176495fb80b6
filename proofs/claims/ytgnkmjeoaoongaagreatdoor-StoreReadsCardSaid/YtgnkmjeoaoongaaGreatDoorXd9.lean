/-
  WFit3, SWrites, SPutS, SOpn0, SXLayK, SXrOwn.
-/
import Derived.Test.YtgnkmjeoaoongaaGreatDoorXd4
import Derived.Test.YtgnkmjeoaoongaaGreatDoorXd7
set_option maxRecDepth 100000
set_option maxHeartbeats 4000000
namespace Go.Proofs.YtgnkmjeoaoongaaGreatDoor
open Go.RowKit Go.Mer
structure Fit (k:Nat) (P:ByteArray) (s:Qu) (st:J2):Prop where
 room:s.room<=1048576
 ok:Vh s.files
 hne:st.Qk=[]->st.Qn.length<=st.synced
 hsl:st.synced<=st.Qn.length
 no: ∀z∈st.Qk,z.1<=st.Qn.length+1
 Qn:st.Qn.length<=90000+k
 Qk:st.Qk.length<=5000+k
 big: ∀z∈st.Qk,z.2<=300000*(k+7)
theorem Fit.mono {k k':Nat} {P:ByteArray} {s:Qu} {st:J2} (h:Fit k P s st) (hk:k<=k'):Fit k' P s st:=
 ⟨h.room,h.ok,h.hne,h.hsl,h.no,by have:=h.Qn;omega,by have:=h.Qk;omega,λz hz=>by have:=h.big z hz;omega⟩
structure Whole (P:ByteArray) (s:Qu) (st:J2):Prop where
 tr:Q9n P s st
 only: ∀p∈s.files,Q2p P p.1=true-> ∃z∈st.Qk,p.1=Eh P z.1
 rise:st.Qk.Pairwise λy z=>y.1<z.1
 pos: ∀z∈st.Qk,0<z.2->z.1<=st.Qn.length
theorem Q9x {s:Qu} {x:ByteArray} {c:Int} {fs:Jo} (h:Vh s.files) (hf:Jh x=true->Vh fs):Vh (five s [x] c fs).2.files/\(five s [x] c fs).2.room=s.room:=by
 unfold five;split
 ·exact ⟨h,rfl⟩
 ·split
  ·next hx=>
   split
   ·exact ⟨hf (by simpa using hx),rfl⟩
   ·exact ⟨h,rfl⟩
  ·exact ⟨h,rfl⟩
theorem Q9w {s:Qu} {ns:List ByteArray} {c:Int} {fs:Jo} (h:(five s ns c fs).1≠0):(five s ns c fs).2=s:=by
 unfold five at h⊢;split
 ·rfl
 ·next h1=>
  rw [if_neg h1] at h;split
  ·next h2=>
   rw [if_pos h2] at h;split
   ·next h3=>rw [if_pos h3] at h;exact absurd rfl h
   ·rfl
  ·rfl
theorem Q4b {s:Qu} {ns:List ByteArray} {c:Int} {fs:Jo} (h:(five s ns c fs).1=0):c=0/\ns.all Jh=true/\(five s ns c fs).2={s with Zg:=s.Zg.map (· - 1),files:=fs}:=by
 unfold five at h⊢;split
 ·next h1=>rw [if_pos h1] at h;cases h
 ·next h1=>
  rw [if_neg h1] at h;split
  ·next h2=>
   rw [if_pos h2] at h;split
   ·next h3=>exact ⟨h3,h2,rfl⟩
   ·next h3=>rw [if_neg h3] at h;exact absurd h h3
  ·next h2=>rw [if_neg h2] at h;cases h
theorem Qxi {s:Qu} (h:Vh s.files) (x:ByteArray):Vh (L8 s x).2.files/\(L8 s x).2.room=s.room:=Q9x h λhx=>by
 unfold Fs;split
 ·exact Q30 h hx
 ·exact h
theorem Qxl {s:Qu} (h:Vh s.files) (x:ByteArray) (p:List UInt8):Vh (Lh s x p).2.files/\(Lh s x p).2.room=s.room:=Q9x h λhx=>by
 unfold Z9;split
 ·exact Q30 h hx
 ·exact Q30 h hx
def Yp (l l':Jo):Prop:=(∀y,(Dz l' y).1=(Dz l y).1)/\ ∀p∈l',∃q∈l,q.1=p.1
theorem Yp.refl (l:Jo):Yp l l:=⟨λ_=>rfl,λp hp=>⟨p,hp,rfl⟩⟩
theorem Qmr (s:Qu) (x:ByteArray):Yp s.files (L8 s x).2.files:=by
 by_cases h:(L8 s x).1=0
 ·obtain ⟨h1,h2,h3⟩:=Q4b h;have e:(L8 s x).2.files=Fs s.files x:=by unfold L8;rw [h3]
  rw [e];unfold Fs;cases hg:Qo s.files x with
  |none=>exact Yp.refl _
  |some c=>
   refine ⟨λy=>?_,λp hp=>?_⟩
   ·unfold Dz;simp only
    rw [Q2a];by_cases hy:y=x
    ·rw [if_pos hy,hy,hg]
    ·rw [if_neg hy]
   ·rcases Fj hp with e|h
    ·exact ⟨_,Qw hg,e.symm⟩
    ·exact h
 ·have e:(L8 s x).2=s:=Q9w h;rw [e];exact Yp.refl _
theorem Whole.same {P:ByteArray} {s s':Qu} {st st':J2} (h:Whole P s st) (hd:Yp s.files s'.files) (he:st'.Qn=st.Qn) (hs:st'.Qk=st.Qk):Whole P s' st':=by
 refine ⟨λS1 z hz=>?_,λp hp hx=>?_,by rw [hs];exact h.rise,by rw [hs,he];exact h.pos⟩
 ·rw [hd.1];exact h.tr S1 z (hs▸hz)
 ·obtain ⟨q,hq,e⟩:=hd.2 p hp;rw [<-e] at hx⊢;rw [hs];exact h.only q hq hx
theorem Ao (P:ByteArray) (s:Qu) (st:J2):Yp s.files (J0 P s st).2.1.files:=by
 unfold J0;split
 ·split
  ·exact Yp.refl _
  ·exact Qmr s _
 ·exact Yp.refl _
theorem Q10 {k:Nat} {P:ByteArray} {s:Qu} {st:J2} (h:Fit k P s st):Fit k P (J0 P s st).2.1 (J0 P s st).2.2:=by
 unfold J0;split
 ·split
  ·exact h
  ·next z _=>
   have h1:=Qxi h.ok (Eh P z.1);simp only
   split
   ·exact ⟨by rw [h1.2];exact h.room,h1.1,λ_=>Nat.le_refl _,Nat.le_refl _,h.no,h.Qn,h.Qk,h.big⟩
   ·exact ⟨by rw [h1.2];exact h.room,h1.1,h.hne,h.hsl,h.no,h.Qn,h.Qk,h.big⟩
 ·exact h
theorem Fit.dead {k:Nat} {P:ByteArray} {s:Qu} {st:J2} (h:Fit k P s st) (b:Bool):Fit k P s {st with dead:=b}:=⟨h.room,h.ok,h.hne,h.hsl,h.no,h.Qn,h.Qk,h.big⟩
theorem Qkq {k:Nat} {P:ByteArray} {s:Qu} {st:J2} (h:Fit k P s st):Fit k P (Uq P s st).2.1 (Uq P s st).2.2:=by
 unfold Uq;split
 ·exact h
 ·exact (Q10 h).dead _
theorem Qdf {P:ByteArray} {s:Qu} {st:J2} (h:Whole P s st):Whole P (Uq P s st).2.1 (Uq P s st).2.2:=by
 unfold Uq;split
 ·exact h
 ·obtain ⟨h1,h2,_⟩:=Kh P s st;exact h.same (Ao P s st) h1 h2
theorem Q9v {k:Nat} {P:ByteArray} {s:Qu} {st:J2} (h:Fit k P s st):Fit k P (Zr P s st).2.1 (Zr P s st).2.2:=by
 unfold Zr;split
 ·exact Q10 h
 ·exact h
theorem Q5v (P:ByteArray) (s:Qu) (st:J2):(Zr P s st).2.2.Qn=st.Qn/\(Zr P s st).2.2.Qk=st.Qk/\(Zr P s st).2.2.dead=st.dead:=by
 unfold Zr;split
 ·exact Kh P s st
 ·exact ⟨rfl,rfl,rfl⟩
theorem Qhv (P:ByteArray) (s:Qu) (st:J2):Yp s.files (Zr P s st).2.1.files:=by
 unfold Zr;split
 ·exact Ao P s st
 ·exact Yp.refl _
theorem Qhw (P:ByteArray) (s:Qu) (st:J2):(Zr P s st).1≠6:=by
 unfold Zr;split
 ·exact Ap P s st
 ·simp
theorem Ai (st:J2):st.Qk=[]\/ ∃S1 z,st.Qk=S1++[z]:=by
 rcases List.eq_nil_or_concat st.Qk with h|⟨S1,z,h⟩
 ·exact .inl h
 ·exact .inr ⟨S1,z,by rw [h,List.concat_eq_append]⟩
theorem O9 {st:J2} {p:List UInt8}:(Jr st=true/\(Vk st p).Qk=st.Qk++[(st.Qn.length+1,(Xy (st.Qn.length+1) p).length)])\/
  (Jr st=false/\ ∃S1 z,st.Qk=S1++[z]/\(Vk st p).Qk=S1++[(z.1,z.2+(Xy (st.Qn.length+1) p).length)]):=by
 cases hf:Jr st with
 |true=>exact .inl ⟨rfl,by unfold Vk;rw [if_pos hf]⟩
 |false=>
  rcases Ai st with h|⟨S1,z,h⟩
  ·rw [Nd h] at hf;cases hf
  ·refine .inr ⟨rfl,S1,z,h,?_⟩;rw [Q22 hf h]
theorem Qko {k:Nat} {P:ByteArray} {s:Qu} {st:J2} (h:Fit k P s st) (hk:k<=100000) {p:List UInt8} (hp:p.length<=262134) {s':Qu} (hs:Vh s'.files/\s'.room=s.room):Fit (k+1) P s' (Vk st p):=by
 have he:=h.Qn;have hsg:=h.Qk;have hel:=Zf (st.Qn.length+1) (by omega) p;have hea:(Vk st p).Qn=st.Qn++[p]:=rfl;have hsa:(Vk st p).synced=st.synced:=rfl;have hsl:=h.hsl;refine ⟨by rw [hs.2];exact h.room,hs.1,λh0=>?_,?_,λz hz=>?_,?_,?_,λz hz=>?_⟩
 ·rcases O9 (st:=st) (p:=p) with ⟨_,h1⟩|⟨_,S1,z,_,h1⟩<;>rw [h1] at h0<;>simp at h0
 ·rw [hea,hsa,List.length_append];omega
 ·rw [hea,List.length_append,List.length_singleton];rcases O9 (st:=st) (p:=p) with ⟨_,h1⟩|⟨_,S1,z',h2,h1⟩
  ·rw [h1] at hz;rcases List.mem_append.1 hz with hz|hz
   ·have:=h.no z hz;omega
   ·obtain rfl:=List.mem_singleton.1 hz;simp only
    omega
  ·rw [h1] at hz;rcases List.mem_append.1 hz with hz|hz
   ·have:=h.no z (by rw [h2];exact List.mem_append_left _ hz);omega
   ·obtain rfl:=List.mem_singleton.1 hz;have:=h.no z' (by rw [h2];simp);simp only
    omega
 ·rw [hea,List.length_append,List.length_singleton];omega
 ·rcases O9 (st:=st) (p:=p) with ⟨_,h1⟩|⟨_,S1,z',h2,h1⟩
  ·rw [h1,List.length_append,List.length_singleton];omega
  ·rw [h2] at hsg;rw [h1];simp only [List.length_append,List.length_singleton] at hsg⊢;omega
 ·rcases O9 (st:=st) (p:=p) with ⟨_,h1⟩|⟨_,S1,z',h2,h1⟩
  ·rw [h1] at hz;rcases List.mem_append.1 hz with hz|hz
   ·have:=h.big z hz;omega
   ·obtain rfl:=List.mem_singleton.1 hz;simp only
    omega
  ·rw [h1] at hz;rcases List.mem_append.1 hz with hz|hz
   ·have:=h.big z (by rw [h2];exact List.mem_append_left _ hz);omega
   ·obtain rfl:=List.mem_singleton.1 hz;have:=h.big z' (by rw [h2];simp);simp only
    omega
theorem Q29 {k:Nat} {P:ByteArray} {s:Qu} {st:J2} (h:Fit k P s st) (hk:k<=100000) (p:List UInt8):Fit (k+1) P (Y8 P s st p).2.1 (Y8 P s st p).2.2:=by
 have hm:=λ{s:Qu} {st:J2} (h:Fit k P s st)=>h.mono (Nat.le_succ k);unfold Y8;split
 ·exact hm h
 ·split
  ·exact hm h
  ·next hpl=>
   have h1:=Q9v h;split
   ·simp only
    have h2:=Qxl h1.ok (toN P st) (Xy (st.Qn.length+1) p);split
    ·exact Qko h1 hk (by omega) h2
    ·exact hm ((⟨by rw [h2.2];exact h1.room,h2.1,h1.hne,h1.hsl,h1.no,h1.Qn,h1.Qk,h1.big⟩:Fit k P _ _).dead _)
   ·exact hm (h1.dead _)
theorem Qn1 {s:Qu} {x:ByteArray} {b:List UInt8} (h:(Lh s x b).1=0):(Lh s x b).2.files=Z9 s.files x b:=by
 obtain ⟨_,_,h3⟩:=Q4b h;unfold Lh;rw [h3]
theorem Qow (l:Jo) (x:ByteArray) (b:List UInt8) (y:ByteArray):(Dz (Z9 l x b) y).1=if y=x then (Dz l x).1++b else (Dz l y).1:=by
 unfold Z9;cases hg:Qo l x with
 |none=>
  simp only
  unfold Dz;rw [Q2a];by_cases hy:y=x
  ·rw [if_pos hy,if_pos hy,hg];rfl
  ·rw [if_neg hy,if_neg hy]
 |some c=>
  simp only
  unfold Dz;rw [Q2a];by_cases hy:y=x
  ·rw [if_pos hy,if_pos hy,hg]
  ·rw [if_neg hy,if_neg hy]
theorem Qav {l:Jo} {x:ByteArray} {b:List UInt8} {p:ByteArray×Ek} (h:p∈Z9 l x b):p.1=x\/ ∃q∈l,q.1=p.1:=by
 unfold Z9 at h;split at h
 ·exact Fj h
 ·exact Fj h
theorem Qdd {k:Nat} {P:ByteArray} {s:Qu} {st:J2} (h:Whole P s st) (hF:Fit k P s st) (hk:k<=100000) {p b:List UInt8} (hb:b=Xy (st.Qn.length+1) p) {s':Qu} (hs:s'.files=Z9 s.files (toN P st) b):Whole P s' (Vk st p):=by
 have he:=hF.Qn;have hea:(Vk st p).Qn=st.Qn++[p]:=rfl;rcases O9 (st:=st) (p:=p) with ⟨hf,h1⟩|⟨hf,S1,z',h2,h1⟩
 ·have hto:toN P st=Eh P (st.Qn.length+1):=by unfold toN;rw [if_pos hf]
  have hlt: ∀z∈st.Qk,z.1<st.Qn.length+1:=by
   rcases Ai st with h3|⟨S1,z,h3⟩
   ·rw [h3];exact λ_ h=>(by cases h)
   ·rw [E6 h3,decide_eq_true_iff] at hf;have h4:=h.pos z (by rw [h3];simp) (by omega);have h5:=h.rise;rw [h3] at h5⊢;intro y hy;rcases List.mem_append.1 hy with hy|hy
    ·have:=(List.pairwise_append.1 h5).2.2 y hy z (List.mem_singleton.2 rfl);omega
    ·obtain rfl:=List.mem_singleton.1 hy;omega
  have hno:(Dz s.files (toN P st)).1=[]:=by
   refine Qmk ?_;rw [Zw];intro hm;obtain ⟨q,hq,e⟩:=List.mem_map.1 hm;rw [hto] at e;obtain ⟨z,hz,e2⟩:=h.only q hq (by rw [e];exact Qkc (by omega));have e3:=Qkb (e.symm.trans e2);have:=hlt z hz;omega
  refine ⟨λS2 z hz=>?_,λq hq hx=>?_,?_,λz hz hp=>?_⟩
  ·rw [h1] at hz;have e4:=List.append_inj_right' hz rfl;injection e4 with e4;rw [hs,Qow,<-e4,hto,if_pos rfl,<-hto,hno,<-hb];rfl
  ·rw [h1];rw [hs] at hq;rcases Qav hq with e|⟨q',hq',e⟩
   ·exact ⟨_,List.mem_append_right _ (List.mem_singleton.2 rfl),by rw [e,hto]⟩
   ·rw [<-e] at hx⊢;obtain ⟨z,hz,e2⟩:=h.only q' hq' hx;exact ⟨z,List.mem_append_left _ hz,e2⟩
  ·rw [h1];refine List.pairwise_append.2 ⟨h.rise,List.pairwise_singleton _ _,λy hy z hz=>?_⟩;obtain rfl:=List.mem_singleton.1 hz;exact hlt y hy
  ·rw [hea,List.length_append,List.length_singleton];rw [h1] at hz;rcases List.mem_append.1 hz with hz|hz
   ·have:=hlt z hz;omega
   ·obtain rfl:=List.mem_singleton.1 hz;exact Nat.le_refl _
 ·have hto:toN P st=Eh P z'.1:=by unfold toN;rw [if_neg (by rw [hf];simp),Oj h2]
  have hr:=h.rise;rw [h2] at hr;obtain ⟨hr1,_,hr2⟩:=List.pairwise_append.1 hr;refine ⟨λS2 z hz=>?_,λq hq hx=>?_,?_,λz hz hp=>?_⟩
  ·rw [h1] at hz;have e4:=List.append_inj_right' hz rfl;injection e4 with e4;rw [hs,Qow,<-e4,hto];rw [if_pos rfl,List.length_append,h.tr S1 z' h2,hb]
  ·rw [h1];rw [hs] at hq
   have hlast: ∀q'∈s.files,Q2p P q'.1=true-> ∃z∈S1++[(z'.1,z'.2+(Xy (st.Qn.length+1) p).length)],q'.1=Eh P z.1:=λq' hq' hx'=>by
    obtain ⟨z,hz,e2⟩:=h.only q' hq' hx';rw [h2] at hz;rcases List.mem_append.1 hz with hz|hz
    ·exact ⟨z,List.mem_append_left _ hz,e2⟩
    ·obtain rfl:=List.mem_singleton.1 hz;exact ⟨_,List.mem_append_right _ (List.mem_singleton.2 rfl),e2⟩
   rcases Qav hq with e|⟨q',hq',e⟩
   ·exact ⟨_,List.mem_append_right _ (List.mem_singleton.2 rfl),by rw [e,hto]⟩
   ·rw [<-e] at hx⊢;exact hlast q' hq' hx
  ·rw [h1];refine List.pairwise_append.2 ⟨hr1,List.pairwise_singleton _ _,λy hy z hz=>?_⟩;obtain rfl:=List.mem_singleton.1 hz;exact hr2 y hy z' (List.mem_singleton.2 rfl)
  ·rw [hea,List.length_append,List.length_singleton];rw [h1] at hz;rcases List.mem_append.1 hz with hz|hz
   ·have:=hF.no z (by rw [h2];exact List.mem_append_left _ hz);omega
   ·obtain rfl:=List.mem_singleton.1 hz;have:=hF.no z' (by rw [h2];simp);simp only
    omega
theorem Qde {k:Nat} {P:ByteArray} {s:Qu} {st:J2} (h:Whole P s st) (hF:Fit k P s st) (hk:k<=100000) (p:List UInt8) (hd0:st.dead=false) (Hd:(Y8 P s st p).2.2.dead=false):Whole P (Y8 P s st p).2.1 (Y8 P s st p).2.2:=by
 have hsame:=Q5v P s st;have h1:=h.same (Qhv P s st) hsame.1 hsame.2.1;have hF1:=Q9v hF;unfold Y8 at Hd⊢;rw [if_neg (by rw [hd0];simp)] at Hd⊢;split
 ·exact h
 ·next hpl=>
  rw [if_neg hpl] at Hd;split
  ·next h2=>
   rw [if_pos h2] at Hd;simp only at Hd⊢
   split
   ·next h3=>
    have hto:toN P (Zr P s st).2.2=toN P st:=by
     unfold toN Jr Oi;rw [hsame.1,hsame.2.1]
    refine Qdd h1 hF1 hk (b:=Xy (st.Qn.length+1) p) (by rw [hsame.1]) ?_;rw [hto];exact Qn1 h3
   ·next h3=>
    have e:(Lh (Zr P s st).2.1 (toN P st) (Xy (st.Qn.length+1) p)).2=(Zr P s st).2.1:=Q9w h3;rw [e];exact h1.same (Yp.refl _) rfl rfl
  ·next h2=>
   rw [if_neg h2] at Hd;simp only [decide_eq_false_iff_not,ne_eq,Decidable.not_not] at Hd;exact absurd Hd (Qhw P s st)
def Ir (st:J7) (q:Int):J7:=if q=0 then {st with n:=st.n+1} else {st with dead:=true}
theorem Gv (st:J7) {q:Int} (h:q=0):Ir st q={st with n:=st.n+1}:=if_pos h
theorem Us (st:J7) {q:Int} (h:q≠0):Ir st q={st with dead:=true}:=if_neg h
def Quh (w:World) (s d l:Nat) (P Q:ByteArray) (o:Nat) (st:J7) (m:Nat) (cs:Z7) (ka:Option Addr) (kc:Nat) (K:List Qa) (F G:Nat->Prop) (q:Int×Qu×J2) (w':World):Prop:=
 ∃F' G',Yt w' s d l P o (Ir st q.1) m cs ka kc K/\Lt w' d l Q q.2.1 q.2.2 F' G'/\Qv F F' w/\Qv G G' w/\Kp (λk=>k=s\/F k\/G k) w w'
theorem Q00 {Q:ByteArray} {ds:Qu} {lg:J2} {p:List UInt8} (h:(Y8 Q ds lg p).1.2≠0):Jw Q ds lg p=((Y8 Q ds lg p).1.2,(Y8 Q ds lg p).2.1,(Y8 Q ds lg p).2.2):=if_neg h
theorem Q01 {Q:ByteArray} {ds:Qu} {lg:J2} {p:List UInt8} (h:(Y8 Q ds lg p).1.2=0):Jw Q ds lg p=Uq Q (Y8 Q ds lg p).2.1 (Y8 Q ds lg p).2.2:=if_pos h
theorem Yt.Q39 {w:World} {s d l o m:Nat} {P:ByteArray} {st:J7} {cs:Z7} {ka:Option Addr} {kc:Nat} {K:List Qa} (h:Yt w s d l P o st m cs ka kc K) (n:Nat):Yt (w.setCell ⟨s,5,none⟩ (.int .i64 (n:Int))) s d l P o {st with n:=n} m cs ka kc K:=
 h.turn ((Kp.refl (Mer.One s) w).setCell (p:=⟨s,5,none⟩) (.inl (show Mer.One s s from rfl)) _) (by have:=Qh h.cell 5 (.int .i64 (n:Int));simpa [Fq] using this) rfl rfl
theorem Yt.L3 {w:World} {s d l o m:Nat} {P:ByteArray} {st:J7} {cs:Z7} {ka:Option Addr} {kc:Nat} {K:List Qa} (h:Yt w s d l P o st m cs ka kc K) (b:Bool):Yt (w.setCell ⟨s,6,none⟩ (.bool b)) s d l P o {st with dead:=b} m cs ka kc K:=
 h.turn ((Kp.refl (Mer.One s) w).setCell (p:=⟨s,6,none⟩) (.inl (show Mer.One s s from rfl)) _) (by have:=Qh h.cell 6 (.bool b);simpa [Fq] using this) rfl rfl
theorem Hq {w:World} {s d l o m:Nat} {P Q:ByteArray} {st:J7} {cs:Z7} {ka:Option Addr} {kc:Nat} {K:List Qa} {ds:Qu} {lg:J2} {F G:Nat->Prop} {k:Nat}
  (h:Yt w s d l P o st m cs ka kc K) (hW:Lt w d l Q ds lg F G) (Qe0: ∀i,X6 s m cs ka kc K i-> ¬F i) (Qlf: ∀i,X6 s m cs ka kc K i-> ¬G i) (hfit:Fit k Q ds lg) (hk:k<=3000) (Y4:Pow w) (C3: ¬F 0) (Q08: ¬G 0) (hQ:Q.size<=50) (hnb:st.n<=1000000)
  (pa:Option Addr) (pc:Nat) (p:List UInt8) (hp: ∀W,Kp (Xp F G) w W->Rd W W.heap.size pa (u8s p)) (hpl:p.length<=1000000000):
  Calls Tryz.prog 60 #[.pointer (some ⟨s,0,none⟩), .slice pa p.length pc] w λe w'=>e= .returned (.int .i64 (Jw Q ds lg p).1)/\Quh w s d l P Q o st m cs ka kc K F G (Jw Q ds lg p) w':=by
 have hap:=Q6j w d l Q ds lg F G hW hfit.hne Y4 C3 Q08 hQ (by have:=hfit.Qn;omega) (by have:=hfit.Qk;omega) (λz hz=>by have:=hfit.big z hz;omega) pa pc p hp hpl;have hfa:=Q29 hfit (by omega) p;have c1:w.cell? ⟨s,1,none⟩=some (.pointer (some ⟨l,0,none⟩)):=h.at_ zK 1;have hsl:=Q3 h.cell;have Q2d:=hW.disk.lt;have Q2e:=hW.log.lt;have H:=zz h;have Qb5:=zz (And.intro Qe0 Qlf);have M5:=zz hap;have Qdq:=zz hfa;have Qz7:=zz (And.intro Q2d Q2e);have hw5:=zz (E2 st.n hnb);obtain ⟨pn,hpn⟩: ∃pn,pn=p.length:=⟨_,rfl⟩;rw [<-hpn] at M5⊢;obtain ⟨q,hq⟩: ∃q,q=Y8 Q ds lg p:=⟨_,rfl⟩;rw [<-hq] at M5 Qdq;unfold Qsv at M5;have hS: ∀i,X6 s m cs ka kc K i-> ¬Xp F G i:=λi hi hb=>hb.elim (Qe0 i hi) (Qlf i hi);have HS:=zz hS;by_cases hc:q.1.2=0
 ·have hwr:=Q01 (hq▸hc);rw [<-hq] at hwr;rw [hc] at M5;have Ff:=zz hwr;clear h hW Qe0 Qlf hfit Y4 C3 Q08 hp hap hfa Q2d Q2e hpn hq hS hpl hnb hc hwr;go_enter Tryz.func60,Tryz.ntmps60
  go_wp2_with fail
  refine M5.out.mono ?_;rintro e w2 ⟨rfl,F2,G2,hW2,hF2,hG2,k2⟩;have h2:=H.out.keep k2 HS.out;have c2:w2.cell? ⟨s,1,none⟩=some (.pointer (some ⟨l,0,none⟩)):=h2.at_ zK 1;have hsl2:=Q3 h2.cell;have hsy:=Qdc w2 d l Q q.2.1 q.2.2 F2 G2 hW2 Qdq.out.hne;unfold Quf at hsy;rw [<-Ff.out] at hsy
  have Qgz: ∀i,X6 s m cs ka kc K i-> ¬F2 i:=λi hi hf=>by
   rcases hF2 i hf with h1|h1
   ·exact Qb5.out.1 i hi h1
   ·have:=H.out.lt i hi;omega
  have Qh0: ∀i,X6 s m cs ka kc K i-> ¬G2 i:=λi hi hf=>by
   rcases hG2 i hf with h1|h1
   ·exact Qb5.out.2 i hi h1
   ·have:=H.out.lt i hi;omega
  obtain ⟨r,hr⟩: ∃r,r=Jw Q ds lg p:=⟨_,rfl⟩;rw [<-hr] at hsy;have Q3w:=zz hsy;have H2:=zz h2;have HF2:=zz (And.intro hF2 (And.intro hG2 k2));have HS2:=zz (show ∀i,X6 s m cs ka kc K i-> ¬Xp F2 G2 i from λi hi hb=>hb.elim (Qgz i hi) (Qh0 i hi));have HR:=zz hr;clear hW2 hF2 hG2 k2 h2 hsy Qgz Qh0 hr c1;go_wp2_with fail
  refine Q3w.out.mono ?_;rintro e w3 ⟨rfl,F3,G3,hW3,hF3,hG3,k3⟩;have h3:=H2.out.keep k3 HS2.out;have Qr9:=Q3 h3.cell;have f5:=Qc h3.cell 5;have f6:=Qc h3.cell 6;have c5:w3.cell? ⟨s,5,none⟩=some (.int .i64 (st.n:Int)):=h3.at_ zK 5;have c6:w3.cell? ⟨s,6,none⟩=some (.bool st.dead):=h3.at_ zK 6;have hF:Qv F F3 w:=HF2.out.1.trans hF3 HF2.out.2.2.size;have hG:Qv G G3 w:=HF2.out.2.1.trans hG3 HF2.out.2.2.size
  have Qge:Kp (λi=>i=s\/F i\/G i) w w3:=(HF2.out.2.2.mono λi _ hb=> .inr hb).trans k3 λi hi hb=>by
   rcases hb with hb|hb
   ·rcases HF2.out.1 i hb with h1|h1
    ·exact .inr (.inl h1)
    ·omega
   ·rcases HF2.out.2.1 i hb with h1|h1
    ·exact .inr (.inr h1)
    ·omega
  have Bm: ∀i,F3 i\/G3 i->i≠s:=λi hi e=>by
   rcases hi with hi|hi
   ·rcases hF i hi with h1|h1
    ·exact Qb5.out.1 s (.inl rfl) (e▸h1)
    ·omega
   ·rcases hG i hi with h1|h1
    ·exact Qb5.out.2 s (.inl rfl) (e▸h1)
    ·omega
  have H3:=zz h3;have HX:=zz (And.intro hW3 (And.intro hF (And.intro hG (And.intro Qge Bm))));clear hW3 hF3 hG3 k3 h3 hF hG Qge Bm Q3w;by_cases hrc:r.1=0
  ·have e1:(r.1==0)=true:=by rw [beq_iff_eq];exact hrc
   have J8u:=hw5.out;have Qb3:=zz hrc;clear hrc;rw [Qb3.out];go_wp2_with fail
   go_ret
   refine ⟨by rw [<-HR.out,Qb3.out];rfl,F3,G3,?_,?_,HX.out.2.1,HX.out.2.2.1,?_⟩
   ·rw [<-HR.out,Gv st Qb3.out];exact H3.out.Q39 (st.n+1)
   ·rw [<-HR.out];exact ⟨HX.out.1.disk.keep ((Kp.refl (Mer.One s) w3).setCell (p:=⟨s,5,none⟩) (.inl (show Mer.One s s from rfl)) _) λi hi e=>HX.out.2.2.2.2 i (.inl hi) e,HX.out.1.log.keep ((Kp.refl (Mer.One s) w3).setCell (p:=⟨s,5,none⟩) (.inl (show Mer.One s s from rfl)) _) λi hi e=>HX.out.2.2.2.2 i (.inr hi) e,HX.out.1.sep⟩
   ·exact HX.out.2.2.2.1.setCell (p:=⟨s,5,none⟩) (.inl (.inl rfl)) _
  ·have e1:(r.1==0)=false:=by rw [beq_eq_false_iff_ne];exact hrc
   have e2:(r.1 !=0)=true:=by rw [bne,e1];rfl
   have Qb3:=zz hrc;clear hrc;go_wp2_with fail
   go_ret
   refine ⟨by rw [<-HR.out];rfl,F3,G3,?_,?_,HX.out.2.1,HX.out.2.2.1,?_⟩
   ·rw [<-HR.out,Us st Qb3.out];exact H3.out.L3 true
   ·rw [<-HR.out];exact ⟨HX.out.1.disk.keep ((Kp.refl (Mer.One s) w3).setCell (p:=⟨s,6,none⟩) (.inl (show Mer.One s s from rfl)) _) λi hi e=>HX.out.2.2.2.2 i (.inl hi) e,HX.out.1.log.keep ((Kp.refl (Mer.One s) w3).setCell (p:=⟨s,6,none⟩) (.inl (show Mer.One s s from rfl)) _) λi hi e=>HX.out.2.2.2.2 i (.inr hi) e,HX.out.1.sep⟩
   ·exact HX.out.2.2.2.1.setCell (p:=⟨s,6,none⟩) (.inl (.inl rfl)) _
 ·have hwr:=Q00 (hq▸hc);rw [<-hq] at hwr;have Ff:=zz hwr;obtain ⟨z,hz⟩: ∃z,z=q.1.2:=⟨_,rfl⟩;rw [<-hz] at hc M5;have HZ:=zz (And.intro hz hc);have e1:(z==0)=false:=by rw [beq_eq_false_iff_ne];exact hc
  have e2:(z !=0)=true:=by rw [bne,e1];rfl
  clear h hW Qe0 Qlf hfit Y4 C3 Q08 hp hap hfa Q2d Q2e hpn hq hS hpl hnb hc hwr hz;go_enter Tryz.func60,Tryz.ntmps60
  go_wp2_with fail
  refine M5.out.mono ?_;rintro e w3 ⟨rfl,F3,G3,hW3,hF3,hG3,k3⟩;have h3:=H.out.keep k3 HS.out;have Qr9:=Q3 h3.cell;have f6:=Qc h3.cell 6;have c6:w3.cell? ⟨s,6,none⟩=some (.bool st.dead):=h3.at_ zK 6
  have Bm: ∀i,F3 i\/G3 i->i≠s:=λi hi e=>by
   rcases hi with hi|hi
   ·rcases hF3 i hi with h1|h1
    ·exact Qb5.out.1 s (.inl rfl) (e▸h1)
    ·omega
   ·rcases hG3 i hi with h1|h1
    ·exact Qb5.out.2 s (.inl rfl) (e▸h1)
    ·omega
  have H3:=zz h3;have HX:=zz (And.intro hW3 (And.intro hF3 (And.intro hG3 (And.intro k3 Bm))));clear hW3 hF3 hG3 k3 h3 Bm c1 M5;go_wp2_with fail
  go_ret
  refine ⟨by rw [Ff.out,<-HZ.out.1];rfl,F3,G3,?_,?_,HX.out.2.1,HX.out.2.2.1,?_⟩
  ·rw [Ff.out,<-HZ.out.1,Us st HZ.out.2];exact H3.out.L3 true
  ·rw [Ff.out];exact ⟨HX.out.1.disk.keep ((Kp.refl (Mer.One s) w3).setCell (p:=⟨s,6,none⟩) (.inl (show Mer.One s s from rfl)) _) λi hi e=>HX.out.2.2.2.2 i (.inl hi) e,HX.out.1.log.keep ((Kp.refl (Mer.One s) w3).setCell (p:=⟨s,6,none⟩) (.inl (show Mer.One s s from rfl)) _) λi hi e=>HX.out.2.2.2.2 i (.inr hi) e,HX.out.1.sep⟩
  ·exact (HX.out.2.2.2.1.mono λi _ hb=> .inr hb).setCell (p:=⟨s,6,none⟩) (.inl (.inl rfl)) _
theorem Lt.Gm {w w':World} {d l:Nat} {P:ByteArray} {s:Qu} {st:J2} {F G S:Nat->Prop} (h:Lt w d l P s st F G) (hk:Kp S w w') (hF: ∀k,F k-> ¬S k) (hG: ∀k,G k-> ¬S k):Lt w' d l P s st F G:=⟨h.disk.keep hk hF,h.log.keep hk hG,h.sep⟩
theorem Q5l {st:J7} {L:List Qx} (h:Fk st L=0):L.length<=64/\(∀r∈L,Jv r=true)/\X5 st.mm st.mc st.of L=true:=by
 unfold Fk at h;split at h
 ·cases h
 ·next h1=>
  split at h
  ·cases h
  ·next h2=>
   split at h
   ·next h3=>
    refine ⟨by omega,λr hr=>?_,h3⟩;cases ha:L.all Jv with
    |true=>exact List.all_eq_true.1 ha r hr
    |false=>exact absurd ha h2
   ·cases h
theorem Q2u (o n:Nat): ∀(L:List Qx) (st:J7),Jf o {st with n:=n} L={Jf o st L with n:=n}
 |[],_=>rfl
 |r::L,st=>Q2u o n L (Gq o st r)
theorem Inv.Q39 {o:Nat} {st:J7} (h:Inv o st) (n:Nat):Inv o {st with n:=n}:=⟨h.own,h.Qlz,h.done,h.mark,h.sorted,h.keys,h.kept⟩
structure Q0u (w:World) (s d l:Nat) (P Q:ByteArray) (o:Nat) (st:J7) (m:Nat) (cs:Z7) (ka:Option Addr) (kc:Nat) (K:List Qa) (ds:Qu) (lg:J2) (F G:Nat->Prop):Prop where
 st:Yt w s d l P o st m cs ka kc K
 at_:Lt w d l Q ds lg F G
 sF: ∀i,X6 s m cs ka kc K i-> ¬F i
 sG: ∀i,X6 s m cs ka kc K i-> ¬G i
def Dw (w:World) (s d l:Nat) (P Q:ByteArray) (o m:Nat) (cs:Z7) (ka:Option Addr) (kc:Nat) (K:List Qa) (F G:Nat->Prop) (B:Nat) (st':J7) (ds':Qu) (X4:J2) (w':World):Prop:=
 ∃cs' I8 M3 K' F' G',Q0u w' s d l P Q o st' m cs' I8 M3 K' ds' X4 F' G'/\Qv (X6 s m cs ka kc K) (X6 s m cs' I8 M3 K') w/\Qv F F' w/\Qv G G' w/\Kp (λi=>X6 s m cs ka kc K i\/F i\/G i) w w'/\(∀p∈cs',p.2.R.length<=B)/\K'.length<=B
section
variable {w w':World} {s d l o m:Nat} {P Q:ByteArray} {st:J7} {cs:Z7} {ka:Option Addr} {kc:Nat} {K:List Qa} {ds:Qu} {lg:J2} {F G:Nat->Prop}
theorem Q0u.Q5 (h:Q0u w s d l P Q o st m cs ka kc K ds lg F G) (hk:Kp No w w'):Q0u w' s d l P Q o st m cs ka kc K ds lg F G:=⟨h.st.Q5 hk,h.at_.no hk,h.sF,h.sG⟩
theorem Q0u.same (h:Q0u w s d l P Q o st m cs ka kc K ds lg F G) (hk:Kp No w w') {B:Nat} (hc: ∀p∈cs,p.2.R.length<=B) (hK:K.length<=B):Dw w s d l P Q o m cs ka kc K F G B st ds lg w':=
 ⟨cs,ka,kc,K,F,G,h.Q5 hk,λ_ h=> .inl h,λ_ h=> .inl h,λ_ h=> .inl h,Kp.of_no hk,hc,hK⟩
theorem Q0u.wrote {w8 w9:World} (h:Q0u w s d l P Q o st m cs ka kc K ds lg F G) (hk:Kp No w w8) {q:Int×Qu×J2} (hW:Quh w8 s d l P Q o st m cs ka kc K F G q w9):
  ∃F' G',Q0u w9 s d l P Q o (Ir st q.1) m cs ka kc K q.2.1 q.2.2 F' G'/\Qv F F' w/\Qv G G' w/\Kp (λi=>X6 s m cs ka kc K i\/F i\/G i) w w9:=by
 obtain ⟨F',G',h1,h2,hF,hG,hk9⟩:=hW;have h8:=hk.size;have hlt:=h.st.lt;refine ⟨F',G',⟨h1,h2,λi hi hf=>?_,λi hi hf=>?_⟩,λi hi=>?_,λi hi=>?_,(Kp.of_no hk).trans hk9 λi _ hi=>?_⟩
 ·rcases hF i hf with h3|h3
  ·exact h.sF i hi h3
  ·have:=hlt i hi;omega
 ·rcases hG i hf with h3|h3
  ·exact h.sG i hi h3
  ·have:=hlt i hi;omega
 ·exact (hF i hi).imp id λh3=>by omega
 ·exact (hG i hi).imp id λh3=>by omega
 ·rcases hi with hi|hi
  ·exact .inl (.inl hi)
  ·exact .inr hi
theorem Q0u.laid {w9 w':World} {F' G':Nat->Prop} {Q8v:J7} {ds':Qu} {X4:J2} (h:Q0u w9 s d l P Q o Q8v m cs ka kc K ds' X4 F' G') (hF:Qv F F' w) (hG:Qv G G' w) (hk:Kp (λi=>X6 s m cs ka kc K i\/F i\/G i) w w9) {L:List Qx} {B n:Nat} (hn:n<=64) (hJ:Qet w9 s d l P o Q8v m cs ka kc K L B n w'):
  Dw w s d l P Q o m cs ka kc K F G (B+64) (Jf o Q8v (L.take n)) ds' X4 w':=by
 obtain ⟨cs',I8,M3,K',h1,h2,h3,h4,h5⟩:=hJ;have Kb:=h.at_.disk.lt;have Ub:=h.at_.log.lt;have hsz:=hk.size;refine ⟨cs',I8,M3,K',F',G',⟨h1,h.at_.Gm h3 (λk hf hs=>h.sF k hs hf) (λk hf hs=>h.sG k hs hf),λi hi hf=>?_,λi hi hf=>?_⟩,λi hi=>(h2 i hi).imp id λh6=>by omega,hF,hG,hk.trans h3 λi hi hs=> .inl hs,λp hp=>by have:=h4 p hp;omega,by omega⟩
 ·rcases h2 i hi with h6|h6
  ·exact h.sF i h6 hf
  ·have:=Kb i hf;omega
 ·rcases h2 i hi with h6|h6
  ·exact h.sG i h6 hf
  ·have:=Ub i hf;omega
theorem Qi6 {k:Nat} (h:Q0u w s d l P Q o st m cs ka kc K ds lg F G) (hinv:Inv o st) (Be:Q=Zp P st.Xu) (hfit:Fit k Q ds lg) (hk:k<=3000) (Y4:Pow w) (C3: ¬F 0) (Q08: ¬G 0) (hQ:Q.size<=50) (hnb:st.n<=1000000)
  (a:Option Addr) (cap:Nat) (L:List Qa) (hL: ∀W,Kp (λi=>X6 s m cs ka kc K i\/F i\/G i) w W->V2 W a L) (hc:L.length<=cap) (hcm:L.length<=1000000) (B:Nat) (hB:B<=900000) (hcB: ∀p∈cs,p.2.R.length<=B) (hkB:K.length<=B):
  Calls Tryz.prog 18 #[.pointer (some ⟨s,0,none⟩), .slice a L.length cap] w λe w'=>e= .returned (.int .i64 (Jd P o ds st lg (L.map Qa.r)).1)/\
   Dw w s d l P Q o m cs ka kc K F G (B+64) (Jd P o ds st lg (L.map Qa.r)).2.2.1 (Jd P o ds st lg (L.map Qa.r)).2.1 (Jd P o ds st lg (L.map Qa.r)).2.2.2 w':=by
 obtain ⟨n,U2⟩: ∃n,n=L.length:=⟨_,rfl⟩;obtain ⟨q,hq⟩: ∃q,q=Jd P o ds st lg (L.map Qa.r):=⟨_,rfl⟩;have hsame: ∀W,Kp No w W->Dw w s d l P Q o m cs ka kc K F G (B+64) st ds lg W:=λW hW=>h.same hW (λp hp=>by have:=hcB p hp;omega) (by omega);have hal:=Q0v h.st;have hL0:=hL w zK;rw [<-hq];unfold Jd at hq;rw [<-U2];by_cases hd:st.dead=true
 ·rw [if_pos hd] at hq hal;have Ht:=zz hal;have HS:=zz hsame;subst hq;clear h hinv hfit Y4 hL hal hsame hcB hkB hd U2 hL0 Be;go_enter Tryz.func18,Tryz.ntmps18
  go_wp2_with fail
  refine Ht.out.mono ?_;rintro e w1 ⟨rfl,rfl⟩;go_wp2_with fail
  go_ret
  exact ⟨rfl,HS.out _ zK⟩
 rw [if_neg hd] at hq hal;rw [List.length_map,<-U2] at hq;by_cases hn0:n=0
 ·rw [if_pos hn0] at hq;have Ht:=zz hal;have HS:=zz hsame;subst hq;subst hn0;clear h hinv hfit Y4 hL hal hsame hcB hkB hd U2 hL0 Be;go_enter Tryz.func18,Tryz.ntmps18
  go_wp2_with fail
  refine Ht.out.mono ?_;rintro e w1 ⟨rfl,rfl⟩;go_wp2_with fail
  go_ret
  exact ⟨rfl,HS.out _ zK⟩
 rw [if_neg hn0] at hq;have hn1:((n:Int)==0)=false:=by rw [beq_eq_false_iff_ne];omega
 have hn1':(n==0)=false:=by rw [beq_eq_false_iff_ne];exact hn0
 have hmay:=Qi5 h.st hinv.J64 a cap L hL0 hc hcm;rw [<-U2] at hmay;obtain ⟨my,Qdx⟩: ∃my,my=Fk st (L.map Qa.r):=⟨_,rfl⟩;rw [<-Qdx] at hmay hq;by_cases hm0:my=0
 ·rw [if_pos hm0] at hq;rw [hm0] at hmay Qdx;have hm1:((my:Int)==0)=true:=by rw [hm0];rfl
  obtain ⟨h64,hall,hg⟩:=Q5l Qdx.symm;have E7: ∀x∈L,Jv x.r=true:=λx hx=>hall _ (List.mem_map.2 ⟨x,hx,rfl⟩);have hlen:=Mr hall (by rw [List.length_map];rwa [List.length_map] at h64);rw [List.length_map] at h64
  have Qqv: ∀W,Kp No w W->Calls Tryz.prog 57 #[.slice a n cap] W (Q73 W (Eu (L.map Qa.r))):=λW hW=>by
   rw [U2];exact Q8n W a cap L (hL0.kp hW) E7 h64
  obtain ⟨ll,hll⟩: ∃ll,ll=Eu (L.map Qa.r):=⟨_,rfl⟩;rw [<-hll] at Qqv hlen;obtain ⟨X,hX⟩: ∃X,X=Ql 1++ll:=⟨_,rfl⟩;obtain ⟨wq,hwq⟩: ∃wq,wq=Jw Q ds lg X:=⟨_,rfl⟩
  have hq':q=if wq.1=0 then (0,wq.2.1,{Jf o st (L.map Qa.r) with n:=st.n+1},wq.2.2) else (wq.1,wq.2.1,{st with dead:=true},wq.2.2):=by
   rw [hq,<-Be,hwq,hX,hll];rfl
  obtain ⟨gP,J8m⟩: ∃g:Nat,g=0:=⟨_,rfl⟩;have Ht:=zz hal;have HM:=zz hmay;have Qp3:=zz Qqv;have HP:=zz (And.intro Y4 (And.intro C3 Q08));have HH:=zz h;have HI:=zz hinv;have Qj8:=zz hL;have Qj5:=zz hfit;have Vj:=zz (And.intro hcB hkB);have Qph:=zz hwq;have HQ:=zz hq';have HG:=zz (And.intro hall (And.intro E7 hg));have HN:=zz U2;have HX:=zz hX;clear hX h hinv hfit Y4 C3 Q08 hL hal hsame hcB hkB hd hL0 Be hmay Qdx hq Qqv hll hwq hq' J8m hall E7 hg U2;go_enter Tryz.func18,Tryz.ntmps18
  go_wp2_with fail
  refine Ht.out.mono ?_;rintro e w1 ⟨rfl,rfl⟩;go_wp2_with fail
  refine HM.out.mono ?_;rintro e w2 ⟨rfl,k2⟩;have Qz:=zz k2;have HL2:=zz (Qp3.out w2 k2);clear k2 Qp3;go_wp2_with fail
  refine HL2.out.mono ?_;rintro e w3 ⟨a3,c3,rfl,hown3,hfr3,k3⟩;have Qtl:=zz hown3;have Zj:=zz (Qz.out.trans_same k3);have Qa3:=Ny.start (Kp.refl No w3);obtain ⟨w4,hw4⟩: ∃W,W=w3.alloc (.cells #[.slice none 0 0] 121):=⟨_,rfl⟩;rw [<-hw4] at Qa3;obtain ⟨w5,hw5⟩: ∃W,W=w4.alloc (.cells #[.int .i64 1] 3):=⟨_,rfl⟩;have Qlo:Kp No w4 w5:=by rw [hw5];exact (Kp.refl No w4).alloc _
  have hnu:=Uh w3 w5 w3.heap.size _ _ (Qa3.keep Qlo) w4.heap.size 1 [1] 3 (by simp) (by rw [hw5];exact heap_alloc_new w4 _) (by decide) (by decide) (by simp) (by simp);have Dt:=zz hnu;have Qk4:=zz hw4;have Q0d:=zz hw5;clear hown3 hfr3 k3 Qa3 hw4 Qlo hw5 hnu HL2 HM Ht;go_upto_region 11 with fail
  rw [<-Qk4.out];go_wp2_with fail
  rw [<-Q0d.out];refine Dt.out.mono ?_;rintro e w6 ⟨rfl,v6,Q4j,_⟩;rw [List.nil_append,List.flatMap_cons,List.flatMap_nil,List.append_nil] at Q4j
  have Qla:(Ql 1).length<=10:=by
   have:=Qm (n:=1) (by decide);omega
  have hra:=Qey w3 w6 w3.heap.size v6 (Ql 1) Q4j a3 c3 ll (Rd.kp (Own.rd' Qtl.out) Q4j.kp) (by omega);rw [<-HX.out] at hra;have Q7c:=zz hra;have Qxs:=zz (And.intro Qla hlen);clear Q4j hra Dt Qk4 Q0d Qla hlen;go_wp2_with fail
  refine Q7c.out.mono ?_;rintro e w7 ⟨rfl,v7,Quz,_⟩;obtain ⟨_,a7,c7,rfl,_⟩:=id Quz.own
  have Qss:X.length<=1000000000:=by
   have:=Qxs.out;rw [HX.out,List.length_append];omega
  have hou:=Oy w7 w3.heap.size a7 c7 X Quz.cell (Own.rd' Quz.own) (by omega);have Q3j:=zz (Zj.out.trans_same Quz.kp);have Q3u:=zz hou;clear Quz hou Q7c Qtl Zj;go_wp2_with fail
  refine Q3u.out.mono ?_;rintro e w8 ⟨a8,c8,rfl,Hh,Q4o,k8⟩;have Qc1:=Q3j.out.trans_same k8;have h8:=HH.out.Q5 Qc1;obtain ⟨hpo,C3,Q08⟩:=HP.out;have Kb:=HH.out.at_.disk.lt;have Ub:=HH.out.at_.log.lt
  have hwr:=Hq h8.st h8.at_ h8.sF h8.sG Qj5.out hk (hpo.keep Qc1) C3 Q08 hQ hnb a8 c8 X (λW hW=>Own.rd' (Hh.keep hW λg hg hb=>by
   have h1:=Q4o g hg;have h2:=Q3j.out.size;rcases hb with hb|hb
   ·have:=Kb g hb;omega
   ·have:=Ub g hb;omega)) Qss
  rw [<-Qph.out] at hwr;have Ff:=zz hwr;have Kx:=zz Qc1;clear hwr h8 Qc1 k8 Hh Q4o hpo C3 Q08 Kb Ub Q3u Q3j Qss;obtain ⟨Iq,Xc⟩: ∃z,z=wq.1:=⟨_,rfl⟩;rw [<-Xc] at Ff;by_cases hw0:Iq=0
  ·have b1:(Iq==0)=true:=by rw [beq_iff_eq];exact hw0
   have b2:(Iq !=0)=false:=by rw [bne,b1];rfl
   have Bj:q=(0,wq.2.1,{Jf o st (L.map Qa.r) with n:=st.n+1},wq.2.2):=by rw [HQ.out,if_pos (by rw [<-Xc];exact hw0)]
   have Q7b:=zz Bj;have HW0:=zz (show wq.1=0 by rw [<-Xc];exact hw0);clear Bj Xc hw0 hm0;go_wp2_with fail
   refine Ff.out.mono ?_;rintro e w9 ⟨rfl,Kz⟩;obtain ⟨F',G',h9,I4,Bc,hk9⟩:=HH.out.wrote Kx.out Kz;rw [Gv st HW0.out] at h9;have hla:=Qcn h9.st (HI.out.Q39 _) a cap L (λW hW=>Qj8.out W (hk9.trans hW λi _ hs=> .inl hs)) hc HG.out.1 HG.out.2.2 h64 B hB Vj.out.1 Vj.out.2;have H9:=zz h9;have Q78:=zz (And.intro I4 (And.intro Bc hk9));rw [<-HN.out] at hla;have Qte:=zz hla;clear h9 I4 Bc hk9 hla Kz Ff;go_wp2_with fail
   refine Qte.out.mono ?_;rintro e wa ⟨rfl,hJ⟩;have hT:=H9.out.laid Q78.out.1 Q78.out.2.1 Q78.out.2.2 (by rw [HN.out];exact h64) hJ;have htk:(L.map Qa.r).take n=L.map Qa.r:=List.take_of_length_le (by rw [List.length_map,HN.out];exact Nat.le_refl _);rw [htk,Q2u] at hT;have HT:=zz hT;clear hT htk hJ Qte;go_wp2_with fail
   go_ret
   rw [Q7b.out];exact ⟨rfl,HT.out⟩
  ·have b1:(Iq==0)=false:=by rw [beq_eq_false_iff_ne];exact hw0
   have b2:(Iq !=0)=true:=by rw [bne,b1];rfl
   have Bj:q=(Iq,wq.2.1,{st with dead:=true},wq.2.2):=by rw [HQ.out,if_neg (by rw [<-Xc];exact hw0),Xc]
   have Q7b:=zz Bj;have HW0:=zz (show wq.1≠0 by rw [<-Xc];exact hw0);clear Bj Xc hm0;go_wp2_with fail
   refine Ff.out.mono ?_;rintro e w9 ⟨rfl,Kz⟩;obtain ⟨F',G',h9,I4,Bc,hk9⟩:=HH.out.wrote Kx.out Kz;rw [Us st HW0.out] at h9;have HT:=zz (show Dw w s d l P Q o m cs ka kc K F G (B+64) {st with dead:=true} wq.2.1 wq.2.2 w9 from ⟨cs,ka,kc,K,F',G',h9,λ_ h=> .inl h,I4,Bc,hk9,λp hp=>by have:=Vj.out.1 p hp;omega,by have:=Vj.out.2;omega⟩);clear h9 I4 Bc hk9 Kz Ff;go_wp2_with fail
   go_ret
   rw [Q7b.out];exact ⟨rfl,HT.out⟩
 ·rw [if_neg hm0] at hq;have Ht:=zz hal;have HS:=zz hsame;have HM:=zz hmay;have hm1:((my:Int)==0)=false:=by rw [beq_eq_false_iff_ne];omega
  have hm2:((my:Int) !=0)=true:=by rw [bne,hm1];rfl
  have Qqy:(my==0)=false:=by rw [beq_eq_false_iff_ne];exact hm0
  have hm4:(my !=0)=true:=by rw [bne,Qqy];rfl
  have Qqz: ¬((my:Int)=0):=by omega
  subst hq;clear h hinv hfit Y4 hL hal hsame hcB hkB hd U2 hL0 Be hmay Qdx;go_enter Tryz.func18,Tryz.ntmps18
  go_wp2_with fail
  refine Ht.out.mono ?_;rintro e w1 ⟨rfl,rfl⟩;go_wp2_with fail
  refine HM.out.mono ?_;rintro e w2 ⟨rfl,k2⟩;have Qz:=zz k2;clear k2;go_wp2_with fail
  go_ret
  exact ⟨rfl,HS.out _ Qz.out⟩
end
theorem Q9s (a:Nat) (h:a<=1000000):(Lib.decDigits a).length<=7:=by
 have:=D6 6 a (by omega);omega
theorem Q5e (P:ByteArray) (hP:P.size<=1000) (n:Nat) (hn:n<=1000000) (w:World) (ht:Pow w):
  Calls Tryz.prog 97 #[.string P, .int .i64 (n:Int)] w λe w'=>e= .returned (.string (Zp P n))/\Kp No w w':=by
 have hd:=Q0t n hn w ht;obtain ⟨D,hD⟩: ∃D:ByteArray,D=⟨(Lib.decDigits n).toArray⟩:=⟨_,rfl⟩;rw [<-hD] at hd
 have hDs:D.size<=7:=by
  have:=Q9s n hn;rw [hD];show (Lib.decDigits n).toArray.size<=7
  simpa using this
 have HL:=zz (show (P++D)++(⟨#[46]⟩:ByteArray)=Zp P n from by
  rw [hD];apply ByteArray.ext
  unfold Zp;simp [ByteArray.data_append])
 have HC:=zz hd;clear hd hD;go_enter Tryz.func97,Tryz.ntmps97
 go_wp2_with fail
 refine HC.out.mono ?_;rintro e w1 ⟨rfl,k1⟩;have HK:=zz k1;clear k1;go_wp2_with fail
 go_ret
 exact ⟨congrArg (λs=>Ending.returned (.string s)) HL.out,HK.out⟩
theorem Q36 {w:World} {d:Nat} {s:Qu} {F:Nat->Prop} (hD:Zd w d s F) (name:ByteArray) (hn:Qo s.files name=none):
  Calls Tryz.prog 94 #[.pointer (some ⟨d,0,none⟩), .string name] w λe w'=>e= .returned (.int .i64 0)/\Kp No w w':=by
 have hr:=Qez w d s F hD name;have h2:Dz s.files name=([],7):=by unfold Dz;rw [hn]
 unfold Q41 at hr;rw [h2] at hr;have HR:=zz hr;clear hr h2 hD hn;go_enter Tryz.func94,Tryz.ntmps94
 go_wp2_with fail
 refine HR.out.mono ?_;rintro e w1 ⟨v,rfl,hown,k1,hf,hd⟩;have HK:=zz k1;clear k1 hown hf hd;go_wp2_with fail
 go_ret
 exact ⟨rfl,HK.out⟩
theorem Q65 (p q:Addr) (w:World):CallsD Tryz.prog 92 #[.pointer (some p), .pointer (some q)] .returning w λe u' w'=>e= .returned (.tuple #[])/\u'= .returning/\w'=w:=by
 refine callsD_of_wpS Tryz.func92 rfl λc₀ cs hu=>?_;apply wpS_seq
 apply wpS_region
 simp [wpOpsS,go_sem,recoverD,hu,Tryz.ntmps92,Exit.thenS]
 refine wpS_of_wp ?_;have ha:(#[Value.pointer (some p),Value.pointer (some q)]++(Array.replicate 11 undef).setIfInBounds 3 Value.nilIface)= #[Value.pointer (some p),Value.pointer (some q),undef,undef,undef,Value.nilIface,undef,undef,undef,undef,undef,undef,undef]:=rfl;rw [ha];go_wp2_with fail
 cases c₀
 simp_all [bodyPostS,results,Tryz.results92]
theorem Q8s {wx:World} {s b0 b1:Nat} (hp:wx.cell? ⟨b0,0,none⟩=some (.pointer (some ⟨s,0,none⟩))) (he:wx.cell? ⟨b1,0,none⟩=some (.int .i64 0)) (tmps:Array Value) (h6:tmps.getD 6 undef= .pointer (some ⟨b0,0,none⟩)) (h7:tmps.getD 7 undef= .pointer (some ⟨b1,0,none⟩)) (R:Ending->World->Prop)
  (hR:R (.returned (.tuple #[.pointer (some ⟨s,0,none⟩), .int .i64 0])) wx):
  Leaves Tryz.prog Tryz.f44 tmps R [{target:= .fn (.func 92) #[.pointer (some ⟨b0,0,none⟩), .pointer (some ⟨b1,0,none⟩)],args:= #[]}] .returning wx:=by
 refine leaves_cons (f:=92) (args:= #[.pointer (some ⟨b0,0,none⟩), .pointer (some ⟨b1,0,none⟩)]) (by simp) (by simp [go_sem]) ?_;refine (Q65 ⟨b0,0,none⟩ ⟨b1,0,none⟩ wx).mono ?_;rintro e u' w'' ⟨rfl,rfl,rfl⟩;refine ⟨.tuple #[.pointer (some ⟨s,0,none⟩), .int .i64 0],?_,hR⟩;have h6':tmps[6]?.getD undef= .pointer (some ⟨b0,0,none⟩):=by rw [<-h6,Array.getD_eq_getD_getElem?]
 have J81:tmps[7]?.getD undef= .pointer (some ⟨b1,0,none⟩):=by rw [<-h7,Array.getD_eq_getD_getElem?]
 simp [results,Tryz.results44,go_sem,h6',J81,hp,he]
structure KS (wq W:World) (key:ByteArray) (Q:Z7) (i:Nat) (e0:Option Nat) (a7:Option (Option Addr×Nat)) (b g:Option Nat):Prop where
 kp:Kp No wq W
 f0: ∀e,e0=some e->Qq 158 2 Yb wq W (.slice (some ⟨e,0,none⟩) 0 0) 0 []
 f7: ∀a,a7=some a->Qq 158 2 Yb wq W (.slice a.1 i a.2) i Q
 f11: ∀x,b=some x->wq.heap.size<=x/\W.heap[x]?=some (.cells #[.slice none 0 0] 148 (0,0))
 f13: ∀x,g=some x->wq.heap.size<=x/\ ∃y,b=some y/\W.heap[x]?=some (.cells #[.string key,Xg y] 158 (0,0))
 ne: ∀x e,g=some x->e0=some e->x≠e
section
variable {wq W V:World} {key:ByteArray} {Q:Z7} {i:Nat} {e0 b g:Option Nat} {a7:Option (Option Addr×Nat)}
theorem KS.start (w:World) (key:ByteArray) (Q:Z7) (i:Nat):KS w w key Q i none none none none:=
 ⟨Kp.refl _ _,λ_ h=>(by cases h),λ_ h=>(by cases h),λ_ h=>(by cases h),λ_ h=>(by cases h),λ_ _ h=>(by cases h)⟩
theorem KS.no (h:KS wq W key Q i e0 a7 b g) (hk:Kp No W V):KS wq V key Q i e0 a7 b g:=
 ⟨h.kp.trans_same hk,λe he=>(h.f0 e he).keep hk,λa ha=>(h.f7 a ha).keep hk,λx hx=>⟨(h.f11 x hx).1,hk.get (h.f11 x hx).2 λx=>x⟩,λx hx=>by
  obtain ⟨h1,y,h2,h3⟩:=h.f13 x hx;exact ⟨h1,y,h2,hk.get h3 λx=>x⟩,h.ne⟩
theorem KS.drawn (h:KS wq W key Q i e0 a7 b g) {n:Nat}:KS wq (W.drewN n) key Q i e0 a7 b g:=h.no ⟨rfl,rfl,rfl,Nat.le_refl _,λ_ _ _=>rfl⟩
theorem KS.s0 (h:KS wq W key Q i none a7 b g) {e:Nat} (hV:V=W.alloc (.cells #[] 158)) (he:e=W.heap.size):KS wq V key Q i (some e) a7 b g:=by
 have hk:Kp No W V:=by rw [hV];exact zK.alloc _
 have h1:=h.no hk;refine ⟨h1.kp,λe' he'=>?_,h1.f7,h1.f11,h1.f13,λx e' hx he'=>?_⟩
 ·injection he' with he';subst he';rw [he,hV];exact Qq.made h.kp
 ·injection he' with he';subst he';obtain ⟨_,y,_,h3⟩:=h.f13 x hx;have:=Q3 h3;omega
theorem KS.s11 (h:KS wq W key Q i e0 a7 none none) {x:Nat} (hV:V=W.alloc (.cells #[.slice none 0 0] 148)) (hx:x=W.heap.size):KS wq V key Q i e0 a7 (some x) none:=by
 have hk:Kp No W V:=by rw [hV];exact zK.alloc _
 have h1:=h.no hk;refine ⟨h1.kp,h1.f0,h1.f7,λx' hx'=>?_,λx hx=>(by cases hx),λx e hx=>(by cases hx)⟩;injection hx' with hx';subst hx';exact ⟨by have:=h.kp.size;omega,by rw [hx,hV];exact heap_alloc_new W _⟩
theorem KS.s13 {y:Nat} (h:KS wq W key Q i e0 a7 (some y) none) {x:Nat} (hV:V=W.alloc (.cells #[.string key,Xg y] 158)) (hx:x=W.heap.size):KS wq V key Q i e0 a7 (some y) (some x):=by
 have hk:Kp No W V:=by rw [hV];exact zK.alloc _
 have h1:=h.no hk;refine ⟨h1.kp,h1.f0,h1.f7,h1.f11,λx' hx'=>?_,λx' e hx' he=>?_⟩
 ·injection hx' with hx';subst hx';exact ⟨by have:=h.kp.size;omega,y,rfl,by rw [hx,hV];exact heap_alloc_new W _⟩
 ·injection hx' with hx';subst hx';have h2:=(h.f0 e he).2.1.lt e rfl;omega
theorem KS.s7 {e:Nat} (h:KS wq W key Q i (some e) none b g) {a:Option Addr} {c:Nat} (hQ:Rd wq wq.heap.size a (Q.flatMap Yb)) (hi:Q.length=i) (hi2:i<=1000000):
  ∃a1 c1 V,(Builtin.append_ #[59,59] 59 #[.slice (some ⟨e,0,none⟩) 0 0, .slice a i c]).run Tryz.prog W= .ok (.slice a1 i c1) V/\KS wq V key Q i none (some (a1,c1)) b g:=by
 have h0:=h.f0 e rfl;obtain ⟨a1,c1,V,hrun,hrel,hk⟩:=Qq.app (P:=Tryz.prog) (T:=59) Tryz.underlying59 Kd E8 h0 Q (Yf (f:=Yb) (c:=c) Xd (Rd.kp hQ h.kp)) rfl (by rw [hi];unfold maxLen;omega) (by rw [hi];omega);rw [Nat.zero_add,List.nil_append,hi] at hrel;rw [Nat.zero_add,hi] at hrun;obtain ⟨cur,hcur⟩:=h0.2.1.type e rfl
 have hE: ∀k,(Value.slice (some ⟨e,0,none⟩) 0 0).ownBlock=some k->k=e:=λk hk=>by
  have hk:some e=some k:=hk;injection hk with hk;exact hk.symm
 refine ⟨a1,c1,V,hrun,⟨hrel.2.2.2,λe' he'=>(by cases he'),λa' ha'=>?_,λx hx=>?_,λx hx=>?_,λx e' hx he'=>(by cases he')⟩⟩
 ·injection ha' with ha';subst ha';exact hrel
 ·obtain ⟨h1,h2⟩:=h.f11 x hx;exact ⟨h1,hk.get h2 λhh=>Q7 h2 hcur (by decide) (hE x hh)⟩
 ·obtain ⟨h1,y,h2,h3⟩:=h.f13 x hx;exact ⟨h1,y,h2,hk.get h3 λhh=>h.ne x e hx rfl (hE x hh)⟩
theorem KS.s14 {y g0:Nat} {a:Option Addr×Nat} (h:KS wq W key Q i e0 (some a) (some y) (some g0)) (hi:Q.length=i) (hi2:i<=1000000):
  ∃a1 c1 V,(Builtin.append_ #[59,59] 59 #[.slice a.1 i a.2, .slice (some ⟨g0,0,none⟩) 1 1]).run Tryz.prog W= .ok (.slice a1 (i+1) c1) V/\Qq 158 2 Yb wq V (.slice a1 (i+1) c1) (i+1) (Q++[(key,⟨y,none,0,[]⟩)])/\
   wq.heap.size<=y/\V.heap[y]?=some (.cells #[.slice none 0 0] 148 (0,0)):=by
 have h7:=h.f7 a rfl;obtain ⟨hy,J5s⟩:=h.f11 y rfl;obtain ⟨_,y',hy',hgc⟩:=h.f13 g0 rfl;injection hy' with hy';subst hy';obtain ⟨a1,c1,V,hrun,hrel,hk⟩:=Qq.app (P:=Tryz.prog) (T:=59) Tryz.underlying59 Kd E8 h7 [((key,⟨y,none,0,[]⟩):ByteArray×Ja)] (Ew (f:=Yb) Xd (x:=((key,⟨y,none,0,[]⟩):ByteArray×Ja)) hgc rfl) rfl (by unfold maxLen;omega) (by omega);refine ⟨a1,c1,V,hrun,hrel,hy,hk.get J5s λhh=>?_⟩;obtain ⟨cur,hcur⟩:=h7.2.1.type y hh;exact Q7 J5s hcur (by decide) rfl
end
theorem Qdm (x:Qa) (w:World) (hx:x.rd w) (hl:x.r.v.val.length<=140737488355328):
  Calls Tryz.prog 124 #[Ig x] w λe w'=> ∃y:Qa,y.r=x.r/\e= .returned (Ig y)/\y.ok w'/\(∀g,y.sl.ownBlock=some g->w.heap.size<=g)/\Kp No w w':=by
 obtain ⟨r,a,cap⟩:=x;obtain ⟨hR,hc,_⟩:=hx;simp only at hR hc hl⊢
 unfold Ig recC Qa.sl;simp only
 obtain ⟨W2,hW2⟩: ∃W,W=(w.alloc (.cells #[.int .i64 r.o, .int .i64 r.seq, .string r.key, .int .i64 r.v.m, .int .i64 r.v.c, .int .i64 r.v.o, .slice a r.v.val.length cap, .bool r.v.gone, .int .i64 r.v.ttl] 46)).alloc (.cells #[.int .i64 0, .int .i64 0, .string ⟨#[]⟩, .int .i64 0, .int .i64 0, .int .i64 0, .slice none 0 0, .bool false, .int .i64 0] 46):=⟨_,rfl⟩;have k2:Kp No w W2:=by rw [hW2];exact (zK.alloc _).alloc _
 have b1:W2.heap[w.heap.size]?=some (.cells #[.int .i64 r.o, .int .i64 r.seq, .string r.key, .int .i64 r.v.m, .int .i64 r.v.c, .int .i64 r.v.o, .slice a r.v.val.length cap, .bool r.v.gone, .int .i64 r.v.ttl] 46 (0,0)):=by rw [hW2];exact J6 (heap_alloc_new w _) _
 have b2:W2.heap[w.heap.size+1]?=some (.cells #[.int .i64 0, .int .i64 0, .string ⟨#[]⟩, .int .i64 0, .int .i64 0, .int .i64 0, .slice none 0 0, .bool false, .int .i64 0] 46 (0,0)):=by rw [hW2];exact (congrArg (λk=>((w.alloc _).alloc _).heap[k]?) (by simp)).trans (heap_alloc_new (w.alloc _) _)
 have hal:Kp No W2 (W2.alloc (.cells #[] 5)):=zK.alloc _;have hown0:Own (W2.alloc (.cells #[] 5)) 5 1 (.slice (some ⟨W2.heap.size,0,none⟩) 0 0) 0 []:=Own.made W2 5 1 #[] 0 0 (Nat.le_refl _) (by simp [maxLen]) (by simp) rfl
 have hsrc:Mer.Src (W2.alloc (.cells #[] 5)) 1 (.slice a r.v.val.length cap) r.v.val.length (u8s r.v.val):=⟨by simp [Zz],a,cap,rfl,λhx=>by
  obtain ⟨g,off,h1,h2,h3,h4⟩:=Rd.kp hR k2 hx;exact ⟨g,off,h1,by simp;omega,Nat.le_refl _,λj u hu=>(hal.cell (p:=⟨g,off+j,none⟩) (by show g<_;omega) (λx=>x)).trans (h4 j u hu)⟩⟩
 obtain ⟨i0,hi,hz0,hz1,hz2⟩:=info_parts infoByte
 obtain ⟨u,w3,hrun,hown,hkp,hblk⟩:=Jk (P:=Tryz.prog) (w:=W2.alloc (.cells #[] 5)) 42 42 42 5 i0 (.int .u8 0) 1 1 Tryz.underlying42 ⟨_,Tryz.underlying42⟩ hi hz0 hz1 hz2 rfl
  (.slice (some ⟨W2.heap.size,0,none⟩) 0 0) 0 [] hown0 (.slice a r.v.val.length cap) r.v.val.length (u8s r.v.val) hsrc (Kk r.v.val) (by simp only [maxLen];omega) (by omega)
 rw [Nat.zero_add,List.nil_append] at hown;have hk:Kp No W2 w3:=hal.trans hkp (λk hk h=>by simp [Value.ownBlock] at h;omega)
 have hf: ∀g,u.ownBlock=some g->W2.heap.size<=g:=λg hg=>by
  rcases hblk with h|⟨g',h,h'⟩
  ·rw [h] at hg;simp [Value.ownBlock] at hg
   omega
  ·rw [h] at hg;injection hg with hg;simp at h'
   omega
 clear hal hown0 hsrc hi hz0 hz1 hz2 hkp hblk;obtain ⟨n,hn⟩: ∃n,n=r.v.val.length:=⟨_,rfl⟩;rw [<-hn] at hrun hown b1 hW2⊢;have c3:=Q0 b1 6;have hl1:=Q3 b1;simp at c3
 have HB:=zz (And.intro b1 b2);have Qz:=zz k2;obtain ⟨_,a1,c1,rfl,_⟩:=id hown;have Qpd:=zz hrun;have HN:=zz hn;have HW2:=zz hW2;have ho:=hown;clear b1 b2 k2 hrun hown hn hR hc hl;have b1:=hk.get HB.out.1 λx=>x;have b2:=hk.get HB.out.2 λx=>x;have f1:=Qc b1 6;have d3:=Q0 b1 6;have hl1:=Q3 b1;simp at d3
 have HB1:=zz b1;have HB2:=zz b2;have HO:=zz (And.intro ho (And.intro (λg hg=>Nat.le_trans Qz.out.size (hf g hg)) (Qz.out.trans_same hk)));clear ho hf hk b1 b2 HB Qz hW2;go_enter Tryz.func124,Tryz.ntmps124
 go_upto_region 1 with fail
 (try rw [<-HW2.out])
 go_upto_region 2 with (at_builtin;refine wpList_append_run rfl rfl rfl rfl Qpd.out ?_)
 obtain ⟨W4,Ng⟩: ∃W,W=w3.setCell ⟨w.heap.size,6,none⟩ (.slice a1 n c1):=⟨_,rfl⟩;have k4:Kp (Mer.One w.heap.size) w3 W4:=by rw [Ng];exact (Kp.refl (Mer.One w.heap.size) _).setCell (p:=⟨w.heap.size,6,none⟩) (.inl (show Mer.One w.heap.size w.heap.size from rfl)) _
 have b4:=Qh HB1.out 6 (.slice a1 n c1);rw [<-Ng] at b4;have HR1:=zz (show W4.rangeAt w.heap.size 0 [.int .i64 r.o, .int .i64 r.seq, .string r.key, .int .i64 r.v.m, .int .i64 r.v.c, .int .i64 r.v.o, .slice a1 n c1, .bool r.v.gone, .int .i64 r.v.ttl] from Qb b4 0 9);have HB4:=zz (k4.get HB2.out λe=>by have e:w.heap.size+1=w.heap.size:=e;omega);have Ox:=zz k4;rw [<-Ng];clear Ng k4 b4 f1 d3 hl1
 go_wp2_with (first
  |(refine Qe rfl 46 _ rfl w.heap.size 0 rfl _ _ HR1 Tryz.underlying46 rfl (by kernel_rfl) ?_)
  |(refine Zi rfl 46 _ _ rfl (w.heap.size+1) _ rfl rfl 46 _ HB4 (by kernel_rfl) (by rfl) (by rfl) ?_))
 obtain ⟨W5,Dk⟩: ∃W,W=W4.setRow (w.heap.size+1) #[.int .i64 r.o, .int .i64 r.seq, .string r.key, .int .i64 r.v.m, .int .i64 r.v.c, .int .i64 r.v.o, .slice a1 n c1, .bool r.v.gone, .int .i64 r.v.ttl]:=⟨_,rfl⟩;have k5:Kp (Mer.One (w.heap.size+1)) W4 W5:=by rw [Dk];exact (Kp.refl (Mer.One (w.heap.size+1)) _).setRow (.inl (show Mer.One (w.heap.size+1) (w.heap.size+1) from rfl)) _
 have b5:=U7 (cs:= #[.int .i64 r.o, .int .i64 r.seq, .string r.key, .int .i64 r.v.m, .int .i64 r.v.c, .int .i64 r.v.o, .slice a1 n c1, .bool r.v.gone, .int .i64 r.v.ttl]) HB4.out;rw [<-Dk] at b5;have d0:=Q0 b5 0;have d1:=Q0 b5 1;have d2:=Q0 b5 2;have d3:=Q0 b5 3;have d4:=Q0 b5 4;have d5:=Q0 b5 5;have d6:=Q0 b5 6;have d7:=Q0 b5 7;have d8:=Q0 b5 8;simp at d0 d1 d2 d3 d4 d5 d6 d7 d8
 (try rw [<-Dk])
 have Qo6:Kp (λk=>k=w.heap.size\/k=w.heap.size+1) w3 W5:=(Ox.out.mono λ_ _ h=> .inl h).trans k5 λ_ _ h=> .inr h;refine bodyPost_ret (v:= .agg #[.int .i64 r.o, .int .i64 r.seq, .string r.key, .int .i64 r.v.m, .int .i64 r.v.c, .int .i64 r.v.o, .slice a1 n c1, .bool r.v.gone, .int .i64 r.v.ttl]) (by simp [results,Tryz.results124,go_sem,d0,d1,d2,d3,d4,d5,d6,d7,d8]) rfl ⟨⟨r,a1,c1⟩,rfl,?_,?_,?_,?_⟩
 ·rw [show n=_ from HN.out]
 ·have h:Own w3 5 1 (.slice a1 r.v.val.length c1) r.v.val.length (u8s r.v.val):=by rw [<-show n=_ from HN.out];exact HO.out.1
  exact h.keep Qo6 λg hg hS=>by
   obtain ⟨cur,Uu⟩:=h.type g hg;rcases hS with rfl|rfl
   ·exact Q7 Uu HB1.out (by decide) rfl
   ·exact Q7 Uu HB2.out (by decide) rfl
 ·intro g hg;rw [<-show n=_ from HN.out] at hg;exact HO.out.2.1 g hg
 ·exact HO.out.2.2.trans Qo6 λi hi hS=>by rcases hS with rfl|rfl<;>omega
end Go.Proofs.YtgnkmjeoaoongaaGreatDoor
